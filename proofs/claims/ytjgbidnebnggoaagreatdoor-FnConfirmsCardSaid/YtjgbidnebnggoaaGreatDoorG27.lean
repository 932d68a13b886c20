/- Parts of the proof of the card of the law FnConfirms. -/
import Derived.Test.YtjgbidnebnggoaaGreatDoorG09
import Derived.Test.YtjgbidnebnggoaaGreatDoorG10
import Derived.Test.YtjgbidnebnggoaaGreatDoorG12
import Derived.Test.YtjgbidnebnggoaaGreatDoorChecked
import Derived.Shelf.Sort.So_math_bits_LenIn
set_option linter.unusedVariables false
set_option linter.unusedSimpArgs false
set_option maxRecDepth 100000
set_option maxHeartbeats 2000000
namespace Go.Proofs.YtjgbidnebnggoaaGreatDoor
open Go.RowKit
theorem z4t (b g:Nat)(n:Int)(A:Option Addr)(k cap:Nat)(W:Value)(bad:Bool)(T:ByteArray)(w:World)(hC:Con w g n (.slice A k cap) W bad)(hbx:w.cell? ⟨b,0,none⟩=some (.pointer (some ⟨g,0,none⟩)))
  (hF:Calls Tryz.prog 53 #[.agg #[.int .i64 n,.slice A k cap]] w fun e w'=>e = .returned (.string T)/\Below w.heap.size w w') :
  Calls Tryz.prog 52 #[.pointer (some ⟨b,0,none⟩)] w fun e w'=>e = .returned (.string T)/\Con w' g n (.slice A k cap) W bad/\Frm (zad g) w w':=by
 have HF:=Zh hF
 have HC:=Zh hC
 obtain ⟨c0,c1,c2,c3,c4,c5,c6,c7,c8⟩:=hC
 clear hF
 go_enter Tryz.func52,Tryz.ntmps52
 go_wp2_with fail
 refine HF.o.mono ?_
 rintro e w1 ⟨rfl,hb⟩
 go_wp2_with fail
 go_ret
 exact ⟨rfl,HC.o.below hb,Frm.pure hb _⟩
theorem z4u (b g:Nat)(n:Int)(A:Option Addr)(k cap:Nat)(W:Value)(bad:Bool)(T:ByteArray)(w:World)(hC:Con w g n (.slice A k cap) W bad)(hbx:w.cell? ⟨b,0,none⟩=some (.pointer (some ⟨g,0,none⟩)))
  (hF:Calls Tryz.prog 55 #[.agg #[.int .i64 n,.slice A k cap]] w fun e w'=>e = .returned (.string T)/\Below w.heap.size w w') :
  Calls Tryz.prog 54 #[.pointer (some ⟨b,0,none⟩)] w fun e w'=>e = .returned (.string T)/\Con w' g n (.slice A k cap) W bad/\Frm (zad g) w w':=by
 have HF:=Zh hF
 have HC:=Zh hC
 obtain ⟨c0,c1,c2,c3,c4,c5,c6,c7,c8⟩:=hC
 clear hF
 go_enter Tryz.func54,Tryz.ntmps54
 go_wp2_with fail
 refine HF.o.mono ?_
 rintro e w1 ⟨rfl,hb⟩
 go_wp2_with fail
 go_ret
 exact ⟨rfl,HC.o.below hb,Frm.pure hb _⟩
theorem z4v (b g:Nat)(n:Int)(A:Option Addr)(k cap:Nat)(W:Value)(bad:Bool)(T:ByteArray)(w:World)(hC:Con w g n (.slice A k cap) W bad)(hbx:w.cell? ⟨b,0,none⟩=some (.pointer (some ⟨g,0,none⟩)))
  (hF:Calls Tryz.prog 57 #[.agg #[.int .i64 n,.slice A k cap]] w fun e w'=>e = .returned (.string T)/\Below w.heap.size w w') :
  Calls Tryz.prog 56 #[.pointer (some ⟨b,0,none⟩)] w fun e w'=>e = .returned (.string T)/\Con w' g n (.slice A k cap) W bad/\Frm (zad g) w w':=by
 have HF:=Zh hF
 have HC:=Zh hC
 obtain ⟨c0,c1,c2,c3,c4,c5,c6,c7,c8⟩:=hC
 clear hF
 go_enter Tryz.func56,Tryz.ntmps56
 go_wp2_with fail
 refine HF.o.mono ?_
 rintro e w1 ⟨rfl,hb⟩
 go_wp2_with fail
 go_ret
 exact ⟨rfl,HC.o.below hb,Frm.pure hb _⟩
theorem z4w (b g:Nat)(n:Int)(A:Option Addr)(k cap:Nat)(W:Value)(bad:Bool)(T:ByteArray)(w:World)(hC:Con w g n (.slice A k cap) W bad)(hbx:w.cell? ⟨b,0,none⟩=some (.pointer (some ⟨g,0,none⟩)))
  (hF:Calls Tryz.prog 59 #[.agg #[.int .i64 n,.slice A k cap]] w fun e w'=>e = .returned (.string T)/\Below w.heap.size w w') :
  Calls Tryz.prog 58 #[.pointer (some ⟨b,0,none⟩)] w fun e w'=>e = .returned (.string T)/\Con w' g n (.slice A k cap) W bad/\Frm (zad g) w w':=by
 have HF:=Zh hF
 have HC:=Zh hC
 obtain ⟨c0,c1,c2,c3,c4,c5,c6,c7,c8⟩:=hC
 clear hF
 go_enter Tryz.func58,Tryz.ntmps58
 go_wp2_with fail
 refine HF.o.mono ?_
 rintro e w1 ⟨rfl,hb⟩
 go_wp2_with fail
 go_ret
 exact ⟨rfl,HC.o.below hb,Frm.pure hb _⟩
theorem z4x (b g:Nat)(n:Int)(A:Option Addr)(k cap:Nat)(W:Value)(bad:Bool)(T:ByteArray)(w:World)(hC:Con w g n (.slice A k cap) W bad)(hbx:w.cell? ⟨b,0,none⟩=some (.pointer (some ⟨g,0,none⟩)))
  (hF:Calls Tryz.prog 61 #[.agg #[.int .i64 n,.slice A k cap]] w fun e w'=>e = .returned (.string T)/\Below w.heap.size w w') :
  Calls Tryz.prog 60 #[.pointer (some ⟨b,0,none⟩)] w fun e w'=>e = .returned (.string T)/\Con w' g n (.slice A k cap) W bad/\Frm (zad g) w w':=by
 have HF:=Zh hF
 have HC:=Zh hC
 obtain ⟨c0,c1,c2,c3,c4,c5,c6,c7,c8⟩:=hC
 clear hF
 go_enter Tryz.func60,Tryz.ntmps60
 go_wp2_with fail
 refine HF.o.mono ?_
 rintro e w1 ⟨rfl,hb⟩
 go_wp2_with fail
 go_ret
 exact ⟨rfl,HC.o.below hb,Frm.pure hb _⟩
theorem z4y (b g:Nat)(n:Int)(A:Option Addr)(k cap:Nat)(W:Value)(bad:Bool)(T:ByteArray)(w:World)(hC:Con w g n (.slice A k cap) W bad)(hbx:w.cell? ⟨b,0,none⟩=some (.pointer (some ⟨g,0,none⟩)))
  (hF:Calls Tryz.prog 63 #[.agg #[.int .i64 n,.slice A k cap]] w fun e w'=>e = .returned (.string T)/\Below w.heap.size w w') :
  Calls Tryz.prog 62 #[.pointer (some ⟨b,0,none⟩)] w fun e w'=>e = .returned (.string T)/\Con w' g n (.slice A k cap) W bad/\Frm (zad g) w w':=by
 have HF:=Zh hF
 have HC:=Zh hC
 obtain ⟨c0,c1,c2,c3,c4,c5,c6,c7,c8⟩:=hC
 clear hF
 go_enter Tryz.func62,Tryz.ntmps62
 go_wp2_with fail
 refine HF.o.mono ?_
 rintro e w1 ⟨rfl,hb⟩
 go_wp2_with fail
 go_ret
 exact ⟨rfl,HC.o.below hb,Frm.pure hb _⟩
theorem z4z (b g:Nat)(n:Int)(A:Option Addr)(k cap:Nat)(W:Value)(bad:Bool)(T:ByteArray)(w:World)(hC:Con w g n (.slice A k cap) W bad)(hbx:w.cell? ⟨b,0,none⟩=some (.pointer (some ⟨g,0,none⟩)))
  (hF:Calls Tryz.prog 69 #[.agg #[.int .i64 n,.slice A k cap]] w fun e w'=>e = .returned (.string T)/\Below w.heap.size w w') :
  Calls Tryz.prog 68 #[.pointer (some ⟨b,0,none⟩)] w fun e w'=>e = .returned (.string T)/\Con w' g n (.slice A k cap) W bad/\Frm (zad g) w w':=by
 have HF:=Zh hF
 have HC:=Zh hC
 obtain ⟨c0,c1,c2,c3,c4,c5,c6,c7,c8⟩:=hC
 clear hF
 go_enter Tryz.func68,Tryz.ntmps68
 go_wp2_with fail
 refine HF.o.mono ?_
 rintro e w1 ⟨rfl,hb⟩
 go_wp2_with fail
 go_ret
 exact ⟨rfl,HC.o.below hb,Frm.pure hb _⟩
end Go.Proofs.YtjgbidnebnggoaaGreatDoor
namespace Go.Proofs.YtjgbidnebnggoaaGreatDoor
open Go.RowKit
theorem z40 (b g gw off cap:Nat)(n:Int)(R:Value)(bad:Bool)(us:List ByteArray)(T:ByteArray)(w:World)(hC:Con w g n R (.slice (some ⟨gw,off,none⟩) us.length cap) bad)(hW:Wds w gw off us)(hi:0<us.length)
  (hs : ∀ u∈us,u.size<=1048576)(hl:us.length<=1048577)(hE:Errs w)(hP:Pow w)(hbx:w.cell? ⟨b,0,none⟩=some (.pointer (some ⟨g,0,none⟩)))
  (hF : ∀ (V:World)(A:Option Addr)(c:Nat),Frm (zad g) w V->OwnI V w.heap.size (.slice A ((zal (us.getD 0 ⟨#[]⟩)).getD []).length c) ((zal (us.getD 0 ⟨#[]⟩)).getD [])->(∀ x∈(zal (us.getD 0 ⟨#[]⟩)).getD [],Fits x) ->
   Calls Tryz.prog 71 #[.slice A ((zal (us.getD 0 ⟨#[]⟩)).getD []).length c] V fun e w'=>e = .returned (.string T)/\Below V.heap.size V w') :
  Calls Tryz.prog 70 #[.pointer (some ⟨b,0,none⟩)] w fun e w'=>e = .returned (.string T)/\Con w' g n R (.slice (some ⟨gw,off,none⟩) us.length cap) (bad || !(zal (us.getD 0 ⟨#[]⟩)).isSome)/\Frm (zad g) w w':=by
 have HF:=Zh hF
 have HN:=Zh (zgl g gw off 0 cap n R bad us w hC hW hi hs hl hE hP)
 generalize zal (us.getD 0 ⟨#[]⟩)=o at *
 clear hF hC hW hs hE hP
 go_enter Tryz.func70,Tryz.ntmps70
 go_wp2_with fail
 refine HN.o.mono ?_
 rintro e w1 ⟨⟨A1,k1,rfl,hown,hft⟩,hc1,hf1⟩
 have HC1:=Zh hc1
 have HX:=Zh hf1
 have HC2:=Zh (HF.o w1 A1 k1 hf1 hown hft)
 clear hc1 hf1 hown hft
 go_wp2_with fail
 refine HC2.o.mono ?_
 rintro e w2 ⟨rfl,hb⟩
 go_wp2_with fail
 go_ret
 exact ⟨rfl,HC1.o.below hb,HX.o.trans (Frm.pure hb _)⟩
theorem z41 (b g gw off cap:Nat)(n:Int)(R:Value)(bad:Bool)(us:List ByteArray)(T:ByteArray)(w:World)(hC:Con w g n R (.slice (some ⟨gw,off,none⟩) us.length cap) bad)(hW:Wds w gw off us)(hi:0<us.length)
  (hs : ∀ u∈us,u.size<=1048576)(hl:us.length<=1048577)(hE:Errs w)(hP:Pow w)(hbx:w.cell? ⟨b,0,none⟩=some (.pointer (some ⟨g,0,none⟩)))
  (hF : ∀ (V:World)(A:Option Addr)(c:Nat),Frm (zad g) w V->OwnI V w.heap.size (.slice A ((zal (us.getD 0 ⟨#[]⟩)).getD []).length c) ((zal (us.getD 0 ⟨#[]⟩)).getD [])->(∀ x∈(zal (us.getD 0 ⟨#[]⟩)).getD [],Fits x) ->
   Calls Tryz.prog 74 #[.slice A ((zal (us.getD 0 ⟨#[]⟩)).getD []).length c] V fun e w'=>e = .returned (.string T)/\Below V.heap.size V w') :
  Calls Tryz.prog 73 #[.pointer (some ⟨b,0,none⟩)] w fun e w'=>e = .returned (.string T)/\Con w' g n R (.slice (some ⟨gw,off,none⟩) us.length cap) (bad || !(zal (us.getD 0 ⟨#[]⟩)).isSome)/\Frm (zad g) w w':=by
 have HF:=Zh hF
 have HN:=Zh (zgl g gw off 0 cap n R bad us w hC hW hi hs hl hE hP)
 generalize zal (us.getD 0 ⟨#[]⟩)=o at *
 clear hF hC hW hs hE hP
 go_enter Tryz.func73,Tryz.ntmps73
 go_wp2_with fail
 refine HN.o.mono ?_
 rintro e w1 ⟨⟨A1,k1,rfl,hown,hft⟩,hc1,hf1⟩
 have HC1:=Zh hc1
 have HX:=Zh hf1
 have HC2:=Zh (HF.o w1 A1 k1 hf1 hown hft)
 clear hc1 hf1 hown hft
 go_wp2_with fail
 refine HC2.o.mono ?_
 rintro e w2 ⟨rfl,hb⟩
 go_wp2_with fail
 go_ret
 exact ⟨rfl,HC1.o.below hb,HX.o.trans (Frm.pure hb _)⟩
theorem z42 (b g gw off cap:Nat)(n:Int)(R:Value)(bad:Bool)(us:List ByteArray)(z:Int)(T:ByteArray)(w:World)(hC:Con w g n R (.slice (some ⟨gw,off,none⟩) us.length cap) bad)(hW:Wds w gw off us)(hi:0<us.length)
  (hs : ∀ u∈us,u.size<=1048576)(hl:us.length<=1048577)(hE:Errs w)(hP:Pow w)(hbx:w.cell? ⟨b,0,none⟩=some (.pointer (some ⟨g,0,none⟩)))
  (hF : ∀ (V:World)(A:Option Addr)(c:Nat),Frm (zad g) w V->OwnI V w.heap.size (.slice A ((zal (us.getD 0 ⟨#[]⟩)).getD []).length c) ((zal (us.getD 0 ⟨#[]⟩)).getD [])->(∀ x∈(zal (us.getD 0 ⟨#[]⟩)).getD [],Fits x) ->
   Calls Tryz.prog 76 #[.slice A ((zal (us.getD 0 ⟨#[]⟩)).getD []).length c] V fun e w'=>e = .returned (.int .i64 z)/\Below V.heap.size V w')
  (hG : ∀ V,Frm (zad g) w V->Calls Tryz.prog 6 #[.int .i64 z] V fun e w'=>e = .returned (.string T)/\Below V.heap.size V w') :
  Calls Tryz.prog 75 #[.pointer (some ⟨b,0,none⟩)] w fun e w'=>e = .returned (.string T)/\Con w' g n R (.slice (some ⟨gw,off,none⟩) us.length cap) (bad || !(zal (us.getD 0 ⟨#[]⟩)).isSome)/\Frm (zad g) w w':=by
 have HF:=Zh hF
 have HG:=Zh hG
 have HN:=Zh (zgl g gw off 0 cap n R bad us w hC hW hi hs hl hE hP)
 generalize zal (us.getD 0 ⟨#[]⟩)=o at *
 clear hF hG hC hW hs hE hP
 go_enter Tryz.func75,Tryz.ntmps75
 go_wp2_with fail
 refine HN.o.mono ?_
 rintro e w1 ⟨⟨A1,k1,rfl,hown,hft⟩,hc1,hf1⟩
 have HC1:=Zh hc1
 have HX:=Zh hf1
 have HC2:=Zh (HF.o w1 A1 k1 hf1 hown hft)
 clear hc1 hf1 hown hft
 go_wp2_with fail
 refine HC2.o.mono ?_
 rintro e w2 ⟨rfl,hb⟩
 have HB:=Zh hb
 have HX2:=Zh (HX.o.trans (Frm.pure hb _))
 clear hb
 go_wp2_with fail
 refine (HG.o _ HX2.o).mono ?_
 rintro e w3 ⟨rfl,hb⟩
 go_wp2_with fail
 go_ret
 exact ⟨rfl,(HC1.o.below HB.o).below hb,HX2.o.trans (Frm.pure hb _)⟩
end Go.Proofs.YtjgbidnebnggoaaGreatDoor
namespace Go.Proofs.YtjgbidnebnggoaaGreatDoor
open Go.RowKit
theorem z43 (b g gw off cap:Nat)(n:Int)(R:Value)(bad:Bool)(us:List ByteArray)(o:Option (Nat × List Int))(w:World)(hC:Con w g n R (.slice (some ⟨gw,off,none⟩) us.length cap) bad)(hW:Wds w gw off us)(hi:0<us.length)
  (hbl:b<w.heap.size)(hbg:b≠g)(hbx:w.cell? ⟨b,0,none⟩=some (.pointer (some ⟨g,0,none⟩)))(hok : ∀ N bs,o=some (N,bs)->RhOk N bs)
  (hF:Calls Tryz.prog 18 #[.string (us.getD 0 ⟨#[]⟩)] w.drew (RetRhO w.drew o)) :
  Calls Tryz.prog 26 #[.pointer (some ⟨b,0,none⟩)] w fun e w'=>e = .returned (.string (becT o))/\Bec w' g n R (.slice (some ⟨gw,off,none⟩) us.length cap) bad o/\Frm (zad g) w w':=by
 have hcw:=hW.2 0 hi
 rw [Nat.add_zero] at hcw
 have hu0:(0:Int)<(us.length:Int):=by omega
 have HF:=Zh hF
 have HC:=Zh hC
 have HOK:=Zh hok
 obtain ⟨c0,c1,c2,c3,c4,c5,c6,c7,c8⟩:=hC
 clear hF hok hW
 generalize us.getD 0 ⟨#[]⟩=u at *
 generalize us.length=L at *
 go_enter Tryz.func26,Tryz.ntmps26
 go_wp2_with fail
 (refine wp_region_held_drew (S:=(fun w'=>w'.cell? ⟨b,0,none⟩=some (.pointer (some ⟨g,0,none⟩)))) (by kernel_rfl) ?_ (fun hHeld=>?_);(focus ((try dsimp only);exact hbx)))
 ((refine Zk 0 ?_;(try simp only [Act.put,Zz]));(refine Zk 1 ?_;(try simp only [Act.put,Zz]));(refine Zk 2 ?_;(try simp only [Act.put,Zz]));(refine Zk 3 ?_;(try simp only [Act.put,Zz])))
 (refine wpAnyH_ready (rs:=[4]) (by kernel_rfl) (by simp) ?_;refine AllReadyH.cons rfl (fun K hK=>?_) AllReadyH.nil;go_simp)
 (refine hK.out _ _ ?_ fun hHeld2=>?_;(focus ((try dsimp only);exact hbx));(clear hK K);(try simp only [Act.put,Zz]))
 (refine wpAnyH_ready (rs:=[5]) (by kernel_rfl) (by simp) ?_;refine AllReadyH.cons rfl (fun K hK=>?_) AllReadyH.nil;go_simp)
 (refine hK.out _ _ ?_ fun hHeld2=>?_;(focus ((try dsimp only);exact hbx));(clear hK K);(try simp only [Act.put,Zz]))
 (refine wpAnyH_ready (rs:=[6]) (by kernel_rfl) (by simp) ?_;refine AllReadyH.cons rfl (fun K hK=>?_) AllReadyH.nil;go_simp)
 (refine hK.out _ _ ?_ fun hHeld2=>?_;(focus ((try dsimp only);exact hbx));(clear hK K);(try simp only [Act.put,Zz]))
 (refine wpAnyH_ready (rs:=[7]) (by kernel_rfl) (by simp) ?_;refine AllReadyH.cons rfl (fun K hK=>?_) AllReadyH.nil;go_simp)
 go_at_call 18
 refine HF.o.mono ?_
 rintro e w1 ⟨A1,k1,rfl,hr1,hb0⟩
 have hb1:Below w.heap.size w w1:=⟨hb0.os,hb0.tape,hb0.output,hb0.size,hb0.block⟩
 clear hb0
 have HC1:=Zh (HC.o.below hb1)
 have HR1:=Zh hr1
 have HB1:=Zh hb1
 have hgl:g<w.heap.size:=HC.o.1
 have HBC:=Zh (zc2 g n R (.slice (some ⟨gw,off,none⟩) L cap) bad o A1 k1 w.heap.size w1 (HC.o.below hb1) hr1 hgl HOK.o)
 have hbx1:w1.cell? ⟨b,0,none⟩=some (.pointer (some ⟨g,0,none⟩)):=(hb1.cell (p:=⟨b,0,none⟩) hbl).trans hbx
 have hbl1:b<w1.heap.size:=Nat.lt_of_lt_of_le hbl hb1.size
 clear hb1 hr1 hcw c0 c1 c2 c3 c4 c5 c6 c7 c8
 go_wp2_with fail
 (refine hK.out _ _ ?_ fun hHeld2=>?_;(focus ((try dsimp only);exact hbx1));(clear hK K);(try simp only [Act.put,Zz]))
 ((refine Zk 8 ?_;(try simp only [Act.put,Zz]));(refine Zk 9 ?_;(try simp only [Act.put,Zz])))
 (refine wpAnyH_ready (rs:=[10]) (by kernel_rfl) (by simp) ?_;refine AllReadyH.cons rfl (fun K hK=>?_) AllReadyH.nil;go_simp)
 go_at_call 27
 refine HBC.o.mono ?_
 rintro e w2 ⟨rfl,hbec,hf2⟩
 have HBE:=Zh hbec
 have HF2:=Zh ((Frm.pure HB1.o (zad g)).trans hf2)
 have hbx2:w2.cell? ⟨b,0,none⟩=some (.pointer (some ⟨g,0,none⟩)):=(hf2.cell hbl1 (fun e=>hbg e)).trans hbx1
 clear hbec hf2
 go_wp2_with fail
 (refine hK.out _ _ ?_ fun hHeld2=>?_;(focus ((try dsimp only);exact hbx2));(clear hK K);(try simp only [Act.put,Zz]))
 (refine Zk 11 ?_;(try simp only [Act.put,Zz]))
 refine wpAnyH_done (by kernel_rfl) ?_ _
 go_wp2_with fail
 go_ret
 exact ⟨rfl,HBE.o,⟨HF2.o.os,HF2.o.tape,HF2.o.output,HF2.o.size,HF2.o.block⟩⟩
end Go.Proofs.YtjgbidnebnggoaaGreatDoor
namespace Go.Proofs.YtjgbidnebnggoaaGreatDoor
open Go.RowKit
theorem z44 (b g gw off cap k ca:Nat)(n:Int)(A:Option Addr)(bad:Bool)(us:List ByteArray)(z:Int)(T:ByteArray)(w:World)(hC:Con w g n (.slice A k ca) (.slice (some ⟨gw,off,none⟩) us.length cap) bad)(hW:Wds w gw off us)(hi:0<us.length)
  (hs : ∀ u∈us,u.size<=1048576)(hl:us.length<=1048577)(hE:Errs w)(hP:Pow w)(hbl:b<w.heap.size)(hbg:b≠g)(hbx:w.cell? ⟨b,0,none⟩=some (.pointer (some ⟨g,0,none⟩)))
  (hF : ∀ V,Frm (zad g) w V->Calls Tryz.prog 65 #[.agg #[.int .i64 n,.slice A k ca],.int .i64 ((zae (us.getD 0 ⟨#[]⟩)).getD 0)] V fun e w'=>e = .returned (.int .i64 z)/\Below V.heap.size V w')
  (hG : ∀ V,Frm (zad g) w V->Calls Tryz.prog 6 #[.int .i64 z] V fun e w'=>e = .returned (.string T)/\Below V.heap.size V w') :
  Calls Tryz.prog 64 #[.pointer (some ⟨b,0,none⟩)] w fun e w'=>e = .returned (.string T)/\Con w' g n (.slice A k ca) (.slice (some ⟨gw,off,none⟩) us.length cap) (bad || !(zae (us.getD 0 ⟨#[]⟩)).isSome)/\Frm (zad g) w w':=by
 have HN:=Zh (zb9 g gw off 0 cap n (.slice A k ca) bad us w.drew hC hW hi hs hl hE hP)
 have HF:=Zh hF
 have HG:=Zh hG
 obtain ⟨c0,c1,c2,c3,c4,c5,c6,c7,c8⟩:=hC
 generalize zae (us.getD 0 ⟨#[]⟩)=o at *
 generalize us.length=L at *
 clear hF hG hW hs hE hP c3 c4 c5 c6 c7 c8
 go_enter Tryz.func64,Tryz.ntmps64
 go_wp2_with fail
 (refine wp_region_held_drew (S:=(fun w'=>w'.cell? ⟨b,0,none⟩=some (.pointer (some ⟨g,0,none⟩))/\w'.cell? ⟨g,0,none⟩=some (.int .i64 n)/\w'.cell? ⟨g,1,none⟩=some (.slice A k ca))) (by kernel_rfl) ?_ (fun hHeld=>?_);(focus ((try dsimp only);exact ⟨hbx,c1,c2⟩)))
 ((refine Zk 0 ?_;(try simp only [Act.put,Zz]));(refine Zk 1 ?_;(try simp only [Act.put,Zz]));(refine Zk 2 ?_;(try simp only [Act.put,Zz]));(refine Zk 3 ?_;(try simp only [Act.put,Zz]));(refine Zk 4 ?_;(try simp only [Act.put,Zz])))
 (refine wpAnyH_ready (rs:=[5]) (by kernel_rfl) (by simp) ?_;refine AllReadyH.cons rfl (fun K hK=>?_) AllReadyH.nil;go_simp)
 go_at_call 30
 refine HN.o.mono ?_
 rintro e w1 ⟨rfl,hc1,hf0⟩
 have HC1:=Zh hc1
 have hf1:Frm (zad g) w w1:=⟨hf0.os,hf0.tape,hf0.output,hf0.size,hf0.block⟩
 have HX1:=Zh hf1
 have hbx1:w1.cell? ⟨b,0,none⟩=some (.pointer (some ⟨g,0,none⟩)):=(hf1.cell hbl (fun e=>hbg e)).trans hbx
 have hbl1:b<w1.heap.size:=Nat.lt_of_lt_of_le hbl hf1.size
 have d1:=hc1.2.1
 have d2:=hc1.2.2.1
 have hgl:=hc1.1
 clear hc1 hf1 hf0 c0 c1 c2
 go_wp2_with fail
 (refine hK.out _ _ ?_ fun hHeld2=>?_;(focus ((try dsimp only);exact ⟨hbx1,d1,d2⟩));(clear hK K);(try simp only [Act.put,Zz]))
 (refine wpAnyH_ready (rs:=[6]) (by kernel_rfl) (by simp) ?_;refine AllReadyH.cons rfl (fun K hK=>?_) AllReadyH.nil;go_simp)
 go_at_call 65
 refine (HF.o _ HX1.o).mono ?_
 rintro e w2 ⟨rfl,hb2⟩
 have HB2:=Zh hb2
 have HX2:=Zh (HX1.o.trans (Frm.pure hb2 _))
 have hbx2:=(hb2.cell (p:=⟨b,0,none⟩) hbl1).trans hbx1
 have e1:=(hb2.cell (p:=⟨g,0,none⟩) hgl).trans d1
 have e2:=(hb2.cell (p:=⟨g,1,none⟩) hgl).trans d2
 clear hb2
 go_wp2_with fail
 (refine hK.out _ _ ?_ fun hHeld2=>?_;(focus ((try dsimp only);exact ⟨hbx2,e1,e2⟩));(clear hK K);(try simp only [Act.put,Zz]))
 (refine wpAnyH_ready (rs:=[7]) (by kernel_rfl) (by simp) ?_;refine AllReadyH.cons rfl (fun K hK=>?_) AllReadyH.nil;go_simp)
 go_at_call 6
 refine (HG.o _ HX2.o).mono ?_
 rintro e w3 ⟨rfl,hb3⟩
 have HB3:=Zh (HB2.o.trans (hb3.mono HB2.o.size))
 have hbl2:b<w2.heap.size:=Nat.lt_of_lt_of_le hbl1 HB2.o.size
 have hgl2:g<w2.heap.size:=Nat.lt_of_lt_of_le hgl HB2.o.size
 have hbx3:=(hb3.cell (p:=⟨b,0,none⟩) hbl2).trans hbx2
 have f1:=(hb3.cell (p:=⟨g,0,none⟩) hgl2).trans e1
 have f2:=(hb3.cell (p:=⟨g,1,none⟩) hgl2).trans e2
 clear hb3
 go_wp2_with fail
 (refine hK.out _ _ ?_ fun hHeld2=>?_;(focus ((try dsimp only);exact ⟨hbx3,f1,f2⟩));(clear hK K);(try simp only [Act.put,Zz]))
 (refine Zk 8 ?_;(try simp only [Act.put,Zz]))
 refine wpAnyH_done (by kernel_rfl) ?_ _
 go_wp2_with fail
 go_ret
 exact ⟨rfl,HC1.o.below HB3.o,HX1.o.trans (Frm.pure HB3.o _)⟩
theorem z45 (b g gw off cap k ca:Nat)(n:Int)(A:Option Addr)(bad:Bool)(us:List ByteArray)(z:Int)(T:ByteArray)(w:World)(hC:Con w g n (.slice A k ca) (.slice (some ⟨gw,off,none⟩) us.length cap) bad)(hW:Wds w gw off us)(hi:0<us.length)
  (hs : ∀ u∈us,u.size<=1048576)(hl:us.length<=1048577)(hE:Errs w)(hP:Pow w)(hbl:b<w.heap.size)(hbg:b≠g)(hbx:w.cell? ⟨b,0,none⟩=some (.pointer (some ⟨g,0,none⟩)))
  (hF : ∀ V,Frm (zad g) w V->Calls Tryz.prog 67 #[.agg #[.int .i64 n,.slice A k ca],.int .i64 ((zae (us.getD 0 ⟨#[]⟩)).getD 0)] V fun e w'=>e = .returned (.int .i64 z)/\Below V.heap.size V w')
  (hG : ∀ V,Frm (zad g) w V->Calls Tryz.prog 6 #[.int .i64 z] V fun e w'=>e = .returned (.string T)/\Below V.heap.size V w') :
  Calls Tryz.prog 66 #[.pointer (some ⟨b,0,none⟩)] w fun e w'=>e = .returned (.string T)/\Con w' g n (.slice A k ca) (.slice (some ⟨gw,off,none⟩) us.length cap) (bad || !(zae (us.getD 0 ⟨#[]⟩)).isSome)/\Frm (zad g) w w':=by
 have HN:=Zh (zb9 g gw off 0 cap n (.slice A k ca) bad us w.drew hC hW hi hs hl hE hP)
 have HF:=Zh hF
 have HG:=Zh hG
 obtain ⟨c0,c1,c2,c3,c4,c5,c6,c7,c8⟩:=hC
 generalize zae (us.getD 0 ⟨#[]⟩)=o at *
 generalize us.length=L at *
 clear hF hG hW hs hE hP c3 c4 c5 c6 c7 c8
 go_enter Tryz.func66,Tryz.ntmps66
 go_wp2_with fail
 (refine wp_region_held_drew (S:=(fun w'=>w'.cell? ⟨b,0,none⟩=some (.pointer (some ⟨g,0,none⟩))/\w'.cell? ⟨g,0,none⟩=some (.int .i64 n)/\w'.cell? ⟨g,1,none⟩=some (.slice A k ca))) (by kernel_rfl) ?_ (fun hHeld=>?_);(focus ((try dsimp only);exact ⟨hbx,c1,c2⟩)))
 ((refine Zk 0 ?_;(try simp only [Act.put,Zz]));(refine Zk 1 ?_;(try simp only [Act.put,Zz]));(refine Zk 2 ?_;(try simp only [Act.put,Zz]));(refine Zk 3 ?_;(try simp only [Act.put,Zz]));(refine Zk 4 ?_;(try simp only [Act.put,Zz])))
 (refine wpAnyH_ready (rs:=[5]) (by kernel_rfl) (by simp) ?_;refine AllReadyH.cons rfl (fun K hK=>?_) AllReadyH.nil;go_simp)
 go_at_call 30
 refine HN.o.mono ?_
 rintro e w1 ⟨rfl,hc1,hf0⟩
 have HC1:=Zh hc1
 have hf1:Frm (zad g) w w1:=⟨hf0.os,hf0.tape,hf0.output,hf0.size,hf0.block⟩
 have HX1:=Zh hf1
 have hbx1:w1.cell? ⟨b,0,none⟩=some (.pointer (some ⟨g,0,none⟩)):=(hf1.cell hbl (fun e=>hbg e)).trans hbx
 have hbl1:b<w1.heap.size:=Nat.lt_of_lt_of_le hbl hf1.size
 have d1:=hc1.2.1
 have d2:=hc1.2.2.1
 have hgl:=hc1.1
 clear hc1 hf1 hf0 c0 c1 c2
 go_wp2_with fail
 (refine hK.out _ _ ?_ fun hHeld2=>?_;(focus ((try dsimp only);exact ⟨hbx1,d1,d2⟩));(clear hK K);(try simp only [Act.put,Zz]))
 (refine wpAnyH_ready (rs:=[6]) (by kernel_rfl) (by simp) ?_;refine AllReadyH.cons rfl (fun K hK=>?_) AllReadyH.nil;go_simp)
 go_at_call 67
 refine (HF.o _ HX1.o).mono ?_
 rintro e w2 ⟨rfl,hb2⟩
 have HB2:=Zh hb2
 have HX2:=Zh (HX1.o.trans (Frm.pure hb2 _))
 have hbx2:=(hb2.cell (p:=⟨b,0,none⟩) hbl1).trans hbx1
 have e1:=(hb2.cell (p:=⟨g,0,none⟩) hgl).trans d1
 have e2:=(hb2.cell (p:=⟨g,1,none⟩) hgl).trans d2
 clear hb2
 go_wp2_with fail
 (refine hK.out _ _ ?_ fun hHeld2=>?_;(focus ((try dsimp only);exact ⟨hbx2,e1,e2⟩));(clear hK K);(try simp only [Act.put,Zz]))
 (refine wpAnyH_ready (rs:=[7]) (by kernel_rfl) (by simp) ?_;refine AllReadyH.cons rfl (fun K hK=>?_) AllReadyH.nil;go_simp)
 go_at_call 6
 refine (HG.o _ HX2.o).mono ?_
 rintro e w3 ⟨rfl,hb3⟩
 have HB3:=Zh (HB2.o.trans (hb3.mono HB2.o.size))
 have hbl2:b<w2.heap.size:=Nat.lt_of_lt_of_le hbl1 HB2.o.size
 have hgl2:g<w2.heap.size:=Nat.lt_of_lt_of_le hgl HB2.o.size
 have hbx3:=(hb3.cell (p:=⟨b,0,none⟩) hbl2).trans hbx2
 have f1:=(hb3.cell (p:=⟨g,0,none⟩) hgl2).trans e1
 have f2:=(hb3.cell (p:=⟨g,1,none⟩) hgl2).trans e2
 clear hb3
 go_wp2_with fail
 (refine hK.out _ _ ?_ fun hHeld2=>?_;(focus ((try dsimp only);exact ⟨hbx3,f1,f2⟩));(clear hK K);(try simp only [Act.put,Zz]))
 (refine Zk 8 ?_;(try simp only [Act.put,Zz]))
 refine wpAnyH_done (by kernel_rfl) ?_ _
 go_wp2_with fail
 go_ret
 exact ⟨rfl,HC1.o.below HB3.o,HX1.o.trans (Frm.pure HB3.o _)⟩
end Go.Proofs.YtjgbidnebnggoaaGreatDoor
namespace Go.Proofs.YtjgbidnebnggoaaGreatDoor
open Go.RowKit
theorem z47 (b g gw off cap:Nat)(n:Int)(R:Value)(bad:Bool)(us:List ByteArray)(o:Option (Nat × List Int))(w:World)(hC:Con w g n R (.slice (some ⟨gw,off,none⟩) us.length cap) bad)(hW:Wds w gw off us)(hi:1<us.length)
  (hs : ∀ u∈us,u.size<=1048576)(hl:us.length<=1048577)(hE : ∀ V,Frm (zad g) w V->Errs V)(hP : ∀ V,Frm (zad g) w V->Pow V)(hgw:gw≠g)(hbl:b<w.heap.size)(hbg:b≠g)(hbx:w.cell? ⟨b,0,none⟩=some (.pointer (some ⟨g,0,none⟩)))(hok : ∀ N bs,o=some (N,bs)->RhOk N bs)
  (hF : ∀ V,Frm (zad g) w V->Calls Tryz.prog 29 #[.int .i64 ((zae (us.getD 0 ⟨#[]⟩)).getD 0),.int .i64 ((zae (us.getD 1 ⟨#[]⟩)).getD 0)] V (RetRhO V o)) :
  Calls Tryz.prog 28 #[.pointer (some ⟨b,0,none⟩)] w fun e w'=>e = .returned (.string (becT o))/\Bec w' g n R (.slice (some ⟨gw,off,none⟩) us.length cap) ((bad || !(zae (us.getD 0 ⟨#[]⟩)).isSome) || !(zae (us.getD 1 ⟨#[]⟩)).isSome) o/\Frm (zad g) w w':=by
 have hfd:Frm (zad g) w w.drew:=⟨rfl,rfl,rfl,Nat.le_refl _,fun _ _ _=>rfl⟩
 have HN:=Zh (zb9 g gw off 0 cap n R bad us w.drew hC hW (by omega) hs hl (hE _ hfd) (hP _ hfd))
 have HM:=Zh (fun V bd (hf:Frm (zad g) w V) (hc:Con V g n R (.slice (some ⟨gw,off,none⟩) us.length cap) bd)=>zb9 g gw off 1 cap n R bd us V hc (hW.frm hf (fun e=>hgw e)) hi hs hl (hE _ hf) (hP _ hf))
 have HF:=Zh hF
 have HOK:=Zh hok
 have hgl0:=hC.1
 generalize zae (us.getD 0 ⟨#[]⟩)=o0 at *
 generalize zae (us.getD 1 ⟨#[]⟩)=o1 at *
 generalize us.length=L at *
 clear hF hok hW hs hE hP hC
 go_enter Tryz.func28,Tryz.ntmps28
 go_wp2_with fail
 (refine wp_region_held_drew (S:=(fun w'=>w'.cell? ⟨b,0,none⟩=some (.pointer (some ⟨g,0,none⟩)))) (by kernel_rfl) ?_ (fun hHeld=>?_);(focus ((try dsimp only);exact hbx)))
 ((refine Zk 0 ?_;(try simp only [Act.put,Zz]));(refine Zk 1 ?_;(try simp only [Act.put,Zz]));(refine Zk 3 ?_;(try simp only [Act.put,Zz])))
 (refine wpAnyH_ready (rs:=[2]) (by kernel_rfl) (by simp) ?_;refine AllReadyH.cons rfl (fun K hK=>?_) AllReadyH.nil;go_simp)
 go_at_call 30
 refine HN.o.mono ?_
 rintro e w1 ⟨rfl,hc1,hf0⟩
 have hf1:Frm (zad g) w w1:=hfd.trans hf0
 have HX1:=Zh hf1
 have HM1:=Zh (HM.o w1 _ hf1 hc1)
 have hbx1:w1.cell? ⟨b,0,none⟩=some (.pointer (some ⟨g,0,none⟩)):=(hf1.cell hbl (fun e=>hbg e)).trans hbx
 clear hc1 hf1 hf0
 go_wp2_with fail
 (refine hK.out _ _ ?_ fun hHeld2=>?_;(focus ((try dsimp only);exact hbx1));(clear hK K);(try simp only [Act.put,Zz]))
 (refine wpAnyH_ready (rs:=[4]) (by kernel_rfl) (by simp) ?_;refine AllReadyH.cons rfl (fun K hK=>?_) AllReadyH.nil;go_simp)
 go_at_call 30
 refine HM1.o.mono ?_
 rintro e w2 ⟨rfl,hc2,hf0⟩
 have hf2:Frm (zad g) w w2:=HX1.o.trans hf0
 have HC2:=Zh hc2
 have HX2:=Zh hf2
 have hbx2:w2.cell? ⟨b,0,none⟩=some (.pointer (some ⟨g,0,none⟩)):=(hf2.cell hbl (fun e=>hbg e)).trans hbx
 clear hc2 hf2 hf0
 go_wp2_with fail
 (refine hK.out _ _ ?_ fun hHeld2=>?_;(focus ((try dsimp only);exact hbx2));(clear hK K);(try simp only [Act.put,Zz]))
 (refine wpAnyH_ready (rs:=[5]) (by kernel_rfl) (by simp) ?_;refine AllReadyH.cons rfl (fun K hK=>?_) AllReadyH.nil;go_simp)
 go_at_call 29
 refine (HF.o _ HX2.o).mono ?_
 rintro e w3 ⟨A3,k3,rfl,hr3,hb3⟩
 have HX3:=Zh (HX2.o.trans (Frm.pure hb3 (zad g)))
 have HBC:=Zh (zc2 g n R (.slice (some ⟨gw,off,none⟩) L cap) _ o A3 k3 w2.heap.size w3 (HC2.o.below hb3) hr3 HC2.o.1 HOK.o)
 have hbx3:w3.cell? ⟨b,0,none⟩=some (.pointer (some ⟨g,0,none⟩)):=(HX3.o.cell hbl (fun e=>hbg e)).trans hbx
 clear hb3 hr3
 go_wp2_with fail
 (refine hK.out _ _ ?_ fun hHeld2=>?_;(focus ((try dsimp only);exact hbx3));(clear hK K);(try simp only [Act.put,Zz]))
 ((refine Zk 6 ?_;(try simp only [Act.put,Zz]));(refine Zk 7 ?_;(try simp only [Act.put,Zz])))
 (refine wpAnyH_ready (rs:=[8]) (by kernel_rfl) (by simp) ?_;refine AllReadyH.cons rfl (fun K hK=>?_) AllReadyH.nil;go_simp)
 go_at_call 27
 refine HBC.o.mono ?_
 rintro e w4 ⟨rfl,hbec,hf4⟩
 have HBE:=Zh hbec
 have HF4:=Zh (HX3.o.trans hf4)
 have hbx4:w4.cell? ⟨b,0,none⟩=some (.pointer (some ⟨g,0,none⟩)):=(HF4.o.cell hbl (fun e=>hbg e)).trans hbx
 clear hbec hf4
 go_wp2_with fail
 (refine hK.out _ _ ?_ fun hHeld2=>?_;(focus ((try dsimp only);exact hbx4));(clear hK K);(try simp only [Act.put,Zz]))
 (refine Zk 9 ?_;(try simp only [Act.put,Zz]))
 refine wpAnyH_done (by kernel_rfl) ?_ _
 go_wp2_with fail
 go_ret
 exact ⟨rfl,HBE.o,HF4.o⟩
theorem z48 (b g gw off cap:Nat)(n:Int)(R:Value)(bad:Bool)(us:List ByteArray)(o:Option (Nat × List Int))(w:World)(hC:Con w g n R (.slice (some ⟨gw,off,none⟩) us.length cap) bad)(hW:Wds w gw off us)(hi:1<us.length)
  (hs : ∀ u∈us,u.size<=1048576)(hl:us.length<=1048577)(hE : ∀ V,Frm (zad g) w V->Errs V)(hP : ∀ V,Frm (zad g) w V->Pow V)(hgw:gw≠g)(hbl:b<w.heap.size)(hbg:b≠g)(hbx:w.cell? ⟨b,0,none⟩=some (.pointer (some ⟨g,0,none⟩)))(hok : ∀ N bs,o=some (N,bs)->RhOk N bs)
  (hF : ∀ V,Frm (zad g) w V->Calls Tryz.prog 50 #[.int .i64 ((zae (us.getD 0 ⟨#[]⟩)).getD 0),.int .i64 ((zae (us.getD 1 ⟨#[]⟩)).getD 0)] V (RetRhO V o)) :
  Calls Tryz.prog 49 #[.pointer (some ⟨b,0,none⟩)] w fun e w'=>e = .returned (.string (becT o))/\Bec w' g n R (.slice (some ⟨gw,off,none⟩) us.length cap) ((bad || !(zae (us.getD 0 ⟨#[]⟩)).isSome) || !(zae (us.getD 1 ⟨#[]⟩)).isSome) o/\Frm (zad g) w w':=by
 have hfd:Frm (zad g) w w.drew:=⟨rfl,rfl,rfl,Nat.le_refl _,fun _ _ _=>rfl⟩
 have HN:=Zh (zb9 g gw off 0 cap n R bad us w.drew hC hW (by omega) hs hl (hE _ hfd) (hP _ hfd))
 have HM:=Zh (fun V bd (hf:Frm (zad g) w V) (hc:Con V g n R (.slice (some ⟨gw,off,none⟩) us.length cap) bd)=>zb9 g gw off 1 cap n R bd us V hc (hW.frm hf (fun e=>hgw e)) hi hs hl (hE _ hf) (hP _ hf))
 have HF:=Zh hF
 have HOK:=Zh hok
 have hgl0:=hC.1
 generalize zae (us.getD 0 ⟨#[]⟩)=o0 at *
 generalize zae (us.getD 1 ⟨#[]⟩)=o1 at *
 generalize us.length=L at *
 clear hF hok hW hs hE hP hC
 go_enter Tryz.func49,Tryz.ntmps49
 go_wp2_with fail
 (refine wp_region_held_drew (S:=(fun w'=>w'.cell? ⟨b,0,none⟩=some (.pointer (some ⟨g,0,none⟩)))) (by kernel_rfl) ?_ (fun hHeld=>?_);(focus ((try dsimp only);exact hbx)))
 ((refine Zk 0 ?_;(try simp only [Act.put,Zz]));(refine Zk 1 ?_;(try simp only [Act.put,Zz]));(refine Zk 3 ?_;(try simp only [Act.put,Zz])))
 (refine wpAnyH_ready (rs:=[2]) (by kernel_rfl) (by simp) ?_;refine AllReadyH.cons rfl (fun K hK=>?_) AllReadyH.nil;go_simp)
 go_at_call 30
 refine HN.o.mono ?_
 rintro e w1 ⟨rfl,hc1,hf0⟩
 have hf1:Frm (zad g) w w1:=hfd.trans hf0
 have HX1:=Zh hf1
 have HM1:=Zh (HM.o w1 _ hf1 hc1)
 have hbx1:w1.cell? ⟨b,0,none⟩=some (.pointer (some ⟨g,0,none⟩)):=(hf1.cell hbl (fun e=>hbg e)).trans hbx
 clear hc1 hf1 hf0
 go_wp2_with fail
 (refine hK.out _ _ ?_ fun hHeld2=>?_;(focus ((try dsimp only);exact hbx1));(clear hK K);(try simp only [Act.put,Zz]))
 (refine wpAnyH_ready (rs:=[4]) (by kernel_rfl) (by simp) ?_;refine AllReadyH.cons rfl (fun K hK=>?_) AllReadyH.nil;go_simp)
 go_at_call 30
 refine HM1.o.mono ?_
 rintro e w2 ⟨rfl,hc2,hf0⟩
 have hf2:Frm (zad g) w w2:=HX1.o.trans hf0
 have HC2:=Zh hc2
 have HX2:=Zh hf2
 have hbx2:w2.cell? ⟨b,0,none⟩=some (.pointer (some ⟨g,0,none⟩)):=(hf2.cell hbl (fun e=>hbg e)).trans hbx
 clear hc2 hf2 hf0
 go_wp2_with fail
 (refine hK.out _ _ ?_ fun hHeld2=>?_;(focus ((try dsimp only);exact hbx2));(clear hK K);(try simp only [Act.put,Zz]))
 (refine wpAnyH_ready (rs:=[5]) (by kernel_rfl) (by simp) ?_;refine AllReadyH.cons rfl (fun K hK=>?_) AllReadyH.nil;go_simp)
 go_at_call 50
 refine (HF.o _ HX2.o).mono ?_
 rintro e w3 ⟨A3,k3,rfl,hr3,hb3⟩
 have HX3:=Zh (HX2.o.trans (Frm.pure hb3 (zad g)))
 have HBC:=Zh (zc2 g n R (.slice (some ⟨gw,off,none⟩) L cap) _ o A3 k3 w2.heap.size w3 (HC2.o.below hb3) hr3 HC2.o.1 HOK.o)
 have hbx3:w3.cell? ⟨b,0,none⟩=some (.pointer (some ⟨g,0,none⟩)):=(HX3.o.cell hbl (fun e=>hbg e)).trans hbx
 clear hb3 hr3
 go_wp2_with fail
 (refine hK.out _ _ ?_ fun hHeld2=>?_;(focus ((try dsimp only);exact hbx3));(clear hK K);(try simp only [Act.put,Zz]))
 ((refine Zk 6 ?_;(try simp only [Act.put,Zz]));(refine Zk 7 ?_;(try simp only [Act.put,Zz])))
 (refine wpAnyH_ready (rs:=[8]) (by kernel_rfl) (by simp) ?_;refine AllReadyH.cons rfl (fun K hK=>?_) AllReadyH.nil;go_simp)
 go_at_call 27
 refine HBC.o.mono ?_
 rintro e w4 ⟨rfl,hbec,hf4⟩
 have HBE:=Zh hbec
 have HF4:=Zh (HX3.o.trans hf4)
 have hbx4:w4.cell? ⟨b,0,none⟩=some (.pointer (some ⟨g,0,none⟩)):=(HF4.o.cell hbl (fun e=>hbg e)).trans hbx
 clear hbec hf4
 go_wp2_with fail
 (refine hK.out _ _ ?_ fun hHeld2=>?_;(focus ((try dsimp only);exact hbx4));(clear hK K);(try simp only [Act.put,Zz]))
 (refine Zk 9 ?_;(try simp only [Act.put,Zz]))
 refine wpAnyH_done (by kernel_rfl) ?_ _
 go_wp2_with fail
 go_ret
 exact ⟨rfl,HBE.o,HF4.o⟩
end Go.Proofs.YtjgbidnebnggoaaGreatDoor
namespace Go.Proofs.YtjgbidnebnggoaaGreatDoor
open Go.RowKit
theorem z49 (b g gw off cap:Nat)(n:Int)(R:Value)(bad:Bool)(us:List ByteArray)(o:Option (Nat × List Int))(w:World)(hC:Con w g n R (.slice (some ⟨gw,off,none⟩) us.length cap) bad)(hW:Wds w gw off us)(hi:2<us.length)
  (hs : ∀ u∈us,u.size<=1048576)(hl:us.length<=1048577)(hE : ∀ V,Frm (zad g) w V->Errs V)(hP : ∀ V,Frm (zad g) w V->Pow V)(hgw:gw≠g)(hbl:b<w.heap.size)(hbg:b≠g)(hbx:w.cell? ⟨b,0,none⟩=some (.pointer (some ⟨g,0,none⟩)))(hok : ∀ N bs,o=some (N,bs)->RhOk N bs)
  (hF : ∀ V,Frm (zad g) w V->Calls Tryz.prog 32 #[.int .i64 ((zae (us.getD 0 ⟨#[]⟩)).getD 0),.int .i64 ((zae (us.getD 1 ⟨#[]⟩)).getD 0),.int .i64 ((zae (us.getD 2 ⟨#[]⟩)).getD 0)] V (RetRhO V o)) :
  Calls Tryz.prog 31 #[.pointer (some ⟨b,0,none⟩)] w fun e w'=>e = .returned (.string (becT o))/\Bec w' g n R (.slice (some ⟨gw,off,none⟩) us.length cap) (((bad || !(zae (us.getD 0 ⟨#[]⟩)).isSome) || !(zae (us.getD 1 ⟨#[]⟩)).isSome) || !(zae (us.getD 2 ⟨#[]⟩)).isSome) o/\Frm (zad g) w w':=by
 have hfd:Frm (zad g) w w.drew:=⟨rfl,rfl,rfl,Nat.le_refl _,fun _ _ _=>rfl⟩
 have HN:=Zh (zb9 g gw off 0 cap n R bad us w.drew hC hW (by omega) hs hl (hE _ hfd) (hP _ hfd))
 have HM:=Zh (fun V bd (hf:Frm (zad g) w V) (hc:Con V g n R (.slice (some ⟨gw,off,none⟩) us.length cap) bd)=>zb9 g gw off 1 cap n R bd us V hc (hW.frm hf (fun e=>hgw e)) (by omega) hs hl (hE _ hf) (hP _ hf))
 have HM2:=Zh (fun V bd (hf:Frm (zad g) w V) (hc:Con V g n R (.slice (some ⟨gw,off,none⟩) us.length cap) bd)=>zb9 g gw off 2 cap n R bd us V hc (hW.frm hf (fun e=>hgw e)) hi hs hl (hE _ hf) (hP _ hf))
 have HF:=Zh hF
 have HOK:=Zh hok
 have hgl0:=hC.1
 generalize zae (us.getD 0 ⟨#[]⟩)=o0 at *
 generalize zae (us.getD 1 ⟨#[]⟩)=o1 at *
 generalize zae (us.getD 2 ⟨#[]⟩)=o2 at *
 generalize us.length=L at *
 clear hF hok hW hs hE hP hC
 go_enter Tryz.func31,Tryz.ntmps31
 go_wp2_with fail
 (refine wp_region_held_drew (S:=(fun w'=>w'.cell? ⟨b,0,none⟩=some (.pointer (some ⟨g,0,none⟩)))) (by kernel_rfl) ?_ (fun hHeld=>?_);(focus ((try dsimp only);exact hbx)))
 ((refine Zk 0 ?_;(try simp only [Act.put,Zz]));(refine Zk 1 ?_;(try simp only [Act.put,Zz]));(refine Zk 3 ?_;(try simp only [Act.put,Zz]));(refine Zk 5 ?_;(try simp only [Act.put,Zz])))
 (refine wpAnyH_ready (rs:=[2]) (by kernel_rfl) (by simp) ?_;refine AllReadyH.cons rfl (fun K hK=>?_) AllReadyH.nil;go_simp)
 go_at_call 30
 refine HN.o.mono ?_
 rintro e w1 ⟨rfl,hc1,hf0⟩
 have hf1:Frm (zad g) w w1:=hfd.trans hf0
 have HX1:=Zh hf1
 have HM1:=Zh (HM.o w1 _ hf1 hc1)
 have hbx1:w1.cell? ⟨b,0,none⟩=some (.pointer (some ⟨g,0,none⟩)):=(hf1.cell hbl (fun e=>hbg e)).trans hbx
 clear hc1 hf1 hf0
 go_wp2_with fail
 (refine hK.out _ _ ?_ fun hHeld2=>?_;(focus ((try dsimp only);exact hbx1));(clear hK K);(try simp only [Act.put,Zz]))
 (refine wpAnyH_ready (rs:=[4]) (by kernel_rfl) (by simp) ?_;refine AllReadyH.cons rfl (fun K hK=>?_) AllReadyH.nil;go_simp)
 go_at_call 30
 refine HM1.o.mono ?_
 rintro e w2 ⟨rfl,hc2,hf0⟩
 have hf2:Frm (zad g) w w2:=HX1.o.trans hf0
 have HX2:=Zh hf2
 have HM3:=Zh (HM2.o w2 _ hf2 hc2)
 have hbx2:w2.cell? ⟨b,0,none⟩=some (.pointer (some ⟨g,0,none⟩)):=(hf2.cell hbl (fun e=>hbg e)).trans hbx
 clear hc2 hf2 hf0
 go_wp2_with fail
 (refine hK.out _ _ ?_ fun hHeld2=>?_;(focus ((try dsimp only);exact hbx2));(clear hK K);(try simp only [Act.put,Zz]))
 (refine wpAnyH_ready (rs:=[6]) (by kernel_rfl) (by simp) ?_;refine AllReadyH.cons rfl (fun K hK=>?_) AllReadyH.nil;go_simp)
 go_at_call 30
 refine HM3.o.mono ?_
 rintro e w5 ⟨rfl,hc5,hf0⟩
 have hf5:Frm (zad g) w w5:=HX2.o.trans hf0
 have HC2:=Zh hc5
 have HX5:=Zh hf5
 have hbx5:w5.cell? ⟨b,0,none⟩=some (.pointer (some ⟨g,0,none⟩)):=(hf5.cell hbl (fun e=>hbg e)).trans hbx
 clear hc5 hf5 hf0
 go_wp2_with fail
 (refine hK.out _ _ ?_ fun hHeld2=>?_;(focus ((try dsimp only);exact hbx5));(clear hK K);(try simp only [Act.put,Zz]))
 (refine wpAnyH_ready (rs:=[7]) (by kernel_rfl) (by simp) ?_;refine AllReadyH.cons rfl (fun K hK=>?_) AllReadyH.nil;go_simp)
 go_at_call 32
 refine (HF.o _ HX5.o).mono ?_
 rintro e w3 ⟨A3,k3,rfl,hr3,hb3⟩
 have HX3:=Zh (HX5.o.trans (Frm.pure hb3 (zad g)))
 have HBC:=Zh (zc2 g n R (.slice (some ⟨gw,off,none⟩) L cap) _ o A3 k3 w5.heap.size w3 (HC2.o.below hb3) hr3 HC2.o.1 HOK.o)
 have hbx3:w3.cell? ⟨b,0,none⟩=some (.pointer (some ⟨g,0,none⟩)):=(HX3.o.cell hbl (fun e=>hbg e)).trans hbx
 clear hb3 hr3
 go_wp2_with fail
 (refine hK.out _ _ ?_ fun hHeld2=>?_;(focus ((try dsimp only);exact hbx3));(clear hK K);(try simp only [Act.put,Zz]))
 ((refine Zk 8 ?_;(try simp only [Act.put,Zz]));(refine Zk 9 ?_;(try simp only [Act.put,Zz])))
 (refine wpAnyH_ready (rs:=[10]) (by kernel_rfl) (by simp) ?_;refine AllReadyH.cons rfl (fun K hK=>?_) AllReadyH.nil;go_simp)
 go_at_call 27
 refine HBC.o.mono ?_
 rintro e w4 ⟨rfl,hbec,hf4⟩
 have HBE:=Zh hbec
 have HF4:=Zh (HX3.o.trans hf4)
 have hbx4:w4.cell? ⟨b,0,none⟩=some (.pointer (some ⟨g,0,none⟩)):=(HF4.o.cell hbl (fun e=>hbg e)).trans hbx
 clear hbec hf4
 go_wp2_with fail
 (refine hK.out _ _ ?_ fun hHeld2=>?_;(focus ((try dsimp only);exact hbx4));(clear hK K);(try simp only [Act.put,Zz]))
 (refine Zk 11 ?_;(try simp only [Act.put,Zz]))
 refine wpAnyH_done (by kernel_rfl) ?_ _
 go_wp2_with fail
 go_ret
 exact ⟨rfl,HBE.o,HF4.o⟩
end Go.Proofs.YtjgbidnebnggoaaGreatDoor
namespace Go.Proofs.YtjgbidnebnggoaaGreatDoor
open Go.RowKit
theorem z5a (b g gw off cap k ca:Nat)(n:Int)(A:Option Addr)(bad:Bool)(us:List ByteArray)(o:Option (Nat × List Int))(w:World)(hC:Con w g n (.slice A k ca) (.slice (some ⟨gw,off,none⟩) us.length cap) bad)(hW:Wds w gw off us)(hi:0<us.length)
  (hs : ∀ u∈us,u.size<=1048576)(hl:us.length<=1048577)(hE:Errs w)(hP:Pow w)(hbl:b<w.heap.size)(hbg:b≠g)(hbx:w.cell? ⟨b,0,none⟩=some (.pointer (some ⟨g,0,none⟩)))(hok : ∀ N bs,o=some (N,bs)->RhOk N bs)
  (hF : ∀ V,Frm (zad g) w V->Calls Tryz.prog 34 #[.agg #[.int .i64 n,.slice A k ca],.int .i64 ((zae (us.getD 0 ⟨#[]⟩)).getD 0)] V (RetRhO V o)) :
  Calls Tryz.prog 33 #[.pointer (some ⟨b,0,none⟩)] w fun e w'=>e = .returned (.string (becT o))/\Bec w' g n (.slice A k ca) (.slice (some ⟨gw,off,none⟩) us.length cap) (bad || !(zae (us.getD 0 ⟨#[]⟩)).isSome) o/\Frm (zad g) w w':=by
 have hfd:Frm (zad g) w w.drew:=⟨rfl,rfl,rfl,Nat.le_refl _,fun _ _ _=>rfl⟩
 have HN:=Zh (zb9 g gw off 0 cap n (.slice A k ca) bad us w.drew hC hW hi hs hl hE hP)
 have HF:=Zh hF
 have HOK:=Zh hok
 have hgl:=hC.1
 obtain ⟨c0,c1,c2,c3,c4,c5,c6,c7,c8⟩:=hC
 generalize zae (us.getD 0 ⟨#[]⟩)=o0 at *
 generalize us.length=L at *
 clear hF hok hW hs hE hP c3 c4 c5 c6 c7 c8
 go_enter Tryz.func33,Tryz.ntmps33
 go_wp2_with fail
 (refine wp_region_held_drew (S:=(fun w'=>w'.cell? ⟨b,0,none⟩=some (.pointer (some ⟨g,0,none⟩)))) (by kernel_rfl) ?_ (fun hHeld=>?_);(focus ((try dsimp only);exact hbx)))
 ((refine Zk 0 ?_;(try simp only [Act.put,Zz]));(refine Zk 1 ?_;(try simp only [Act.put,Zz]));(refine Zk 2 ?_;(try simp only [Act.put,Zz]));(refine Zk 3 ?_;(try simp only [Act.put,Zz]));(refine Zk 5 ?_;(try simp only [Act.put,Zz])))
 refine wpAnyH_ready (rs:=[4,6]) (by kernel_rfl) (by simp) ?_
 refine AllReadyH.cons rfl (fun K hK=>?_) (AllReadyH.cons rfl (fun K hK=>?_) AllReadyH.nil)
 ·go_simp
  (refine hK.out _ _ ?_ fun hHeld2=>?_;(focus ((try dsimp only);exact hbx));(clear hK K);(try simp only [Act.put,Zz]))
  (refine wpAnyH_ready (rs:=[6]) (by kernel_rfl) (by simp) ?_;refine AllReadyH.cons rfl (fun K hK=>?_) AllReadyH.nil;go_simp)
  go_at_call 30
  refine HN.o.mono ?_
  rintro e w1 ⟨rfl,hc1,hf0⟩
  have hf1:Frm (zad g) w w1:=hfd.trans hf0
  have HX1:=Zh hf1
  have HC1:=Zh hc1
  have d1:=hc1.2.1
  have d2:=hc1.2.2.1
  have hbx1:w1.cell? ⟨b,0,none⟩=some (.pointer (some ⟨g,0,none⟩)):=(hf1.cell hbl (fun e=>hbg e)).trans hbx
  clear hc1 hf1 hf0
  go_wp2_with fail
  (refine hK.out _ _ ?_ fun hHeld2=>?_;(focus ((try dsimp only);exact hbx1));(clear hK K);(try simp only [Act.put,Zz]))
  (refine wpAnyH_ready (rs:=[7]) (by kernel_rfl) (by simp) ?_;refine AllReadyH.cons rfl (fun K hK=>?_) AllReadyH.nil;go_simp)
  go_at_call 34
  refine (HF.o _ HX1.o).mono ?_
  rintro e w3 ⟨A3,k3,rfl,hr3,hb3⟩
  have HX3:=Zh (HX1.o.trans (Frm.pure hb3 (zad g)))
  have HBC:=Zh (zc2 g n (.slice A k ca) (.slice (some ⟨gw,off,none⟩) L cap) _ o A3 k3 w1.heap.size w3 (HC1.o.below hb3) hr3 HC1.o.1 HOK.o)
  have hbx3:w3.cell? ⟨b,0,none⟩=some (.pointer (some ⟨g,0,none⟩)):=(HX3.o.cell hbl (fun e=>hbg e)).trans hbx
  clear hb3 hr3 d1 d2
  go_wp2_with fail
  (refine hK.out _ _ ?_ fun hHeld2=>?_;(focus ((try dsimp only);exact hbx3));(clear hK K);(try simp only [Act.put,Zz]))
  ((refine Zk 8 ?_;(try simp only [Act.put,Zz]));(refine Zk 9 ?_;(try simp only [Act.put,Zz])))
  (refine wpAnyH_ready (rs:=[10]) (by kernel_rfl) (by simp) ?_;refine AllReadyH.cons rfl (fun K hK=>?_) AllReadyH.nil;go_simp)
  go_at_call 27
  refine HBC.o.mono ?_
  rintro e w4 ⟨rfl,hbec,hf4⟩
  have HBE:=Zh hbec
  have HF4:=Zh (HX3.o.trans hf4)
  have hbx4:w4.cell? ⟨b,0,none⟩=some (.pointer (some ⟨g,0,none⟩)):=(HF4.o.cell hbl (fun e=>hbg e)).trans hbx
  clear hbec hf4
  go_wp2_with fail
  (refine hK.out _ _ ?_ fun hHeld2=>?_;(focus ((try dsimp only);exact hbx4));(clear hK K);(try simp only [Act.put,Zz]))
  (refine Zk 11 ?_;(try simp only [Act.put,Zz]))
  refine wpAnyH_done (by kernel_rfl) ?_ _
  go_wp2_with fail
  go_ret
  exact ⟨rfl,HBE.o,HF4.o⟩
 ·go_simp
  go_at_call 30
  refine HN.o.mono ?_
  rintro e w1 ⟨rfl,hc1,hf0⟩
  have hf1:Frm (zad g) w w1:=hfd.trans hf0
  have HX1:=Zh hf1
  have HC1:=Zh hc1
  have d1:=hc1.2.1
  have d2:=hc1.2.2.1
  have hbx1:w1.cell? ⟨b,0,none⟩=some (.pointer (some ⟨g,0,none⟩)):=(hf1.cell hbl (fun e=>hbg e)).trans hbx
  clear hc1 hf1 hf0
  go_wp2_with fail
  (refine hK.out _ _ ?_ fun hHeld2=>?_;(focus ((try dsimp only);exact hbx1));(clear hK K);(try simp only [Act.put,Zz]))
  (refine wpAnyH_ready (rs:=[4]) (by kernel_rfl) (by simp) ?_;refine AllReadyH.cons rfl (fun K hK=>?_) AllReadyH.nil;go_simp)
  (refine hK.out _ _ ?_ fun hHeld2=>?_;(focus ((try dsimp only);exact hbx1));(clear hK K);(try simp only [Act.put,Zz]))
  (refine wpAnyH_ready (rs:=[7]) (by kernel_rfl) (by simp) ?_;refine AllReadyH.cons rfl (fun K hK=>?_) AllReadyH.nil;go_simp)
  go_at_call 34
  refine (HF.o _ HX1.o).mono ?_
  rintro e w3 ⟨A3,k3,rfl,hr3,hb3⟩
  have HX3:=Zh (HX1.o.trans (Frm.pure hb3 (zad g)))
  have HBC:=Zh (zc2 g n (.slice A k ca) (.slice (some ⟨gw,off,none⟩) L cap) _ o A3 k3 w1.heap.size w3 (HC1.o.below hb3) hr3 HC1.o.1 HOK.o)
  have hbx3:w3.cell? ⟨b,0,none⟩=some (.pointer (some ⟨g,0,none⟩)):=(HX3.o.cell hbl (fun e=>hbg e)).trans hbx
  clear hb3 hr3 d1 d2
  go_wp2_with fail
  (refine hK.out _ _ ?_ fun hHeld2=>?_;(focus ((try dsimp only);exact hbx3));(clear hK K);(try simp only [Act.put,Zz]))
  ((refine Zk 8 ?_;(try simp only [Act.put,Zz]));(refine Zk 9 ?_;(try simp only [Act.put,Zz])))
  (refine wpAnyH_ready (rs:=[10]) (by kernel_rfl) (by simp) ?_;refine AllReadyH.cons rfl (fun K hK=>?_) AllReadyH.nil;go_simp)
  go_at_call 27
  refine HBC.o.mono ?_
  rintro e w4 ⟨rfl,hbec,hf4⟩
  have HBE:=Zh hbec
  have HF4:=Zh (HX3.o.trans hf4)
  have hbx4:w4.cell? ⟨b,0,none⟩=some (.pointer (some ⟨g,0,none⟩)):=(HF4.o.cell hbl (fun e=>hbg e)).trans hbx
  clear hbec hf4
  go_wp2_with fail
  (refine hK.out _ _ ?_ fun hHeld2=>?_;(focus ((try dsimp only);exact hbx4));(clear hK K);(try simp only [Act.put,Zz]))
  (refine Zk 11 ?_;(try simp only [Act.put,Zz]))
  refine wpAnyH_done (by kernel_rfl) ?_ _
  go_wp2_with fail
  go_ret
  exact ⟨rfl,HBE.o,HF4.o⟩
end Go.Proofs.YtjgbidnebnggoaaGreatDoor
namespace Go.Proofs.YtjgbidnebnggoaaGreatDoor
open Go.Shelf
def Tryz.lays125_ren:Go.Shelf.Ren:=⟨fun | 125=>242 | 128=>285 | 129=>213 | n=>n,fun | 46=>52 | 3=>3 | 51=>171 | 53=>121 | 4=>4 | 5=>5 | 9=>9 | n=>n,fun | n=>n⟩
theorem Tryz.lays125:Go.Proofs.Lays.n125 Tryz.prog Tryz.lays125_ren:={
 mixed:=by kernel_rfl
 f125:=Tryz.func242.trans (congrArg some (by kernel_rfl))
 f128:=Tryz.func285.trans (congrArg some (by kernel_rfl))
 f129:=Tryz.func213.trans (congrArg some (by kernel_rfl))
 t3:=Tryz.underlying3
 a3:=Tryz.isAgg3
 z3:=Tryz.sizeOf3
 v3:=Tryz.zeroValue3
 t4:=Tryz.underlying4
 a4:=Tryz.isAgg4
 z4:=Tryz.sizeOf4
 v4:=Tryz.zeroValue4
 t5:=Tryz.underlying5
 a5:=Tryz.isAgg5
 z5:=Tryz.sizeOf5
 v5:=Tryz.zeroValue5
 t9:=Tryz.underlying9
 a9:=Tryz.isAgg9
 z9:=Tryz.sizeOf9
 v9:=Tryz.zeroValue9
 t46:=Tryz.underlying52
 a46:=Tryz.isAgg52
 z46:=Tryz.sizeOf52
 v46:=Tryz.zeroValue52
 t51:=Tryz.underlying171
 a51:=Tryz.isAgg171
 z51:=Tryz.sizeOf171
 v51:=Tryz.zeroValue171
 t53:=Tryz.underlying121
 a53:=Tryz.isAgg121
 z53:=Tryz.sizeOf121
 v53:=Tryz.zeroValue121 }
end Go.Proofs.YtjgbidnebnggoaaGreatDoor
