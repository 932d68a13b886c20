/- Parts of the proof of the card of the law FnConfirms. -/
import Derived.Test.YtjgbidnebnggoaaGreatDoorG31
set_option linter.unusedVariables false
set_option linter.unusedSimpArgs false
set_option maxRecDepth 100000
set_option maxHeartbeats 4000000
namespace Go.Proofs.YtjgbidnebnggoaaGreatDoor
open Go.RowKit
theorem z6s {w:World}(A:Option Addr)(cap:Nat)(xs:List Int)(hA:Byt w w.heap.size A xs)(hE:Errs w)(hP:Pow w)(hD:DeB w)(hM:MaxL w) :
  Calls Tryz.prog 3 #[.slice A xs.length cap] w fun e w'=>e = .returned (.bool true)/\Below w.heap.size w w':=by
 have HA:=Zh hA
 have HEV:=Zh (show Env w.heap.size w from fun V hb=>⟨hE.below hb,hP.below hb,hM.below hb,hD.below hb⟩)
 have hml:=hA.1
 unfold maxLen at hml
 clear hA hE hP hM hD
 by_cases hbig:1048576<xs.length
 ·go_enter Tryz.func3,Tryz.ntmps3
  go_wp2_with fail
  go_ret
  exact ⟨rfl,Below.refl _ _⟩
 go_enter Tryz.func3,Tryz.ntmps3
 go_wp2_with fail
 refine (zu7 A cap xs 1 w HA.o (by decide)).mono ?_
 rintro e w1 ⟨⟨x,rfl,hx0,hx1⟩,hb⟩
 have HB1:=Zh hb
 clear hb
 obtain ⟨x1,rfl⟩:=Int.eq_ofNat_of_zero_le hx0
 obtain ⟨a,hxa⟩ : ∃ a:Nat,(x1:Int) % 5=a:=⟨x1 % 5,by omega⟩
 have htm:(x1:Int).tmod 5=(a:Int):=(Int.tmod_eq_emod_of_nonneg (by omega)).trans hxa
 have ha5:a<5:=by omega
 obtain ⟨g,hx,l5,hfg,hag,hal,han,hxl,hses⟩:=z6o a ha5
 have HFG:=Zh hfg
 have HAL:=Zh hal
 have HSS:=Zh hses
 have HSP:=Zh (fun V h=>zks (mkS (zcc hx)) V (z6n hxl) h)
 rw [han] at HSP
 obtain ⟨hga,hgb⟩:=List.getElem?_eq_some_iff.1 hag
 have HGV:=Zh hgb
 clear hgb
 have hgv:=HGV.o
 have ha50:(0:Int)<=(a:Int):=Int.natCast_nonneg _
 have ha55:(a:Int)<5:=by omega
 clear hfg hal hag hses han hxl
 clear hml hbig hx0 hx1
 go_upto_region 4 with (fail)
 obtain ⟨PRE,hPRE⟩ : ∃ P:ByteArray,(⟨#[115,104,111,119,10,108,105,110,101,10,101,118,101,110,10,109,101,116,101,114,10,99,108,97,115,115,10,104,97,110,100,115,32]⟩:ByteArray)=P:=⟨_,rfl⟩
 obtain ⟨POS,hPOS⟩ : ∃ P:ByteArray,(⟨(([10,116,117,114,110,32,50,10,109,105,114,114,111,114,10,111,116,104,101,114,10,119,105,110,100,111,119,115,32,50,10,101,118,101,110,32,53,32,49,50,10,103,101,110,32,49,50,32,53].append [32,55,10,98,101,97,116,115,32,120,120,46,46,10,116,105,108,101,10,112,97,114,116,110,101,114,10,112,111,108,121,32,51,32,52,10,98,97,114,32,50,43,50,43,51,10,115,116,105]).append ([99,107,10,112,97,116,116,101,114,110,32,48,44,50,10,112,97,116,116,101,114,110,32,48,44,49,44,51,10,99,111,118,101,114,32,48,44,49,44,51,10,116,119,111,32,48,44,49,44].append [52,10,99,111,117,110,116,32,56,32,51,10,112,108,97,121,32,97,91,98,99,93,50,100,10,113,117,97,110,116,105,122,101,32,49,48,32,51,44,49,53,44,50,54,10,119,104,97,116])).toArray⟩:ByteArray)=P:=⟨_,rfl⟩
 rw [hPRE]
 rw [hPOS]
 have HPRE:=Zh (show PRE.data.toList=preT by rw [<- hPRE];rfl)
 have HPOS:=Zh (show POS.data.toList=postT by rw [<- hPOS];rfl)
 have hps1:PRE.size=33:=by rw [<- hPRE];rfl
 have hps2:POS.size=196:=by rw [<- hPOS];rfl
 clear hPRE hPOS
 have HB2:=Zh (HB1.o.trans (((Below.refl w1.heap.size w1).alloc (Nat.le_refl _) (.cells #[.int .i64 2,.int .i64 3,.int .i64 4,.int .i64 6,.int .i64 9] 3)).mono HB1.o.size))
 go_wp2_with fail
 (try simp only [HGV.o])
 generalize w1.alloc (.cells #[.int .i64 2,.int .i64 3,.int .i64 4,.int .i64 6,.int .i64 9] 3)=w2 at *
 have HPW2:=(HEV.o w2 HB2.o).2.1
 refine (zbt g HFG.o w2 HPW2).mono ?_
 rintro e w3 ⟨rfl,hb⟩
 have HB3:=Zh (HB2.o.trans (hb.mono HB2.o.size))
 clear hb HPW2
 obtain ⟨F,hF⟩ : ∃ F,mkS (itoL g)=F:=⟨_,rfl⟩
 rw [hF]
 have HF:=Zh (show F.data.toList=itoL g by rw [<- hF];rfl)
 have hfs:F.size<=20:=by rw [<- hF,zbl];exact zce _ HFG.o
 have hs1 : ¬ 9223372036854775807<PRE.size+F.size:=by omega
 have hs2 : ¬ 9223372036854775807<PRE.size+F.size+POS.size:=by omega
 have hs3 : ¬ 9223372036854775807<33+F.size:=by omega
 have hs4 : ¬ 9223372036854775807<33+F.size+196:=by omega
 have HT:=Zh (show (PRE++F++POS:ByteArray).data.toList=preT++itoL g++postT by simp [HPRE.o,HF.o,HPOS.o])
 clear hF
 have HPS:=Zh (And.intro hps1 hps2)
 clear hps1 hps2
 go_wp2_with fail
 refine (HSS.o _ w3 HT.o (fun V hV=>HEV.o V (HB3.o.trans (hV.mono HB3.o.size)))).mono ?_
 rintro e w4 ⟨rfl,hb⟩
 have HB4:=Zh (HB3.o.trans (hb.mono HB3.o.size))
 clear hb
 obtain ⟨Z,hZ⟩ : ∃ Z,mkS (zcc hx)=Z:=⟨_,rfl⟩
 rw [hZ] at HSP ⊢
 clear hZ
 go_wp2_with fail
 refine (HSP.o w4 (HEV.o w4 HB4.o).2.2.1).mono ?_
 rintro e w5 ⟨q,rfl,htx,hb⟩
 have HB5:=Zh (HB4.o.trans (hb.mono HB4.o.size))
 have HC:=Zh (tx26 htx)
 rw [show (ansL l5).length=26 from rfl]
 have hq5:q<w5.heap.size:=htx.2.1
 have HQ0:=Zh hq5
 clear hb htx hs1 hs2 hs3 hs4 hfs HSS HSP HPRE HPOS HPS HT HF HB1 HB2 HB3 HB4 HEV HA hgv HGV
 go_upto_region 5 with (fail)
 simp only [List.append_eq,List.cons_append,List.nil_append]
 obtain ⟨K0,hK0⟩ : ∃ K:ByteArray,(⟨#[120,46,46,120,46,46,120,46]⟩:ByteArray)=K:=⟨_,rfl⟩
 obtain ⟨K1,hK1⟩ : ∃ K:ByteArray,(⟨#[120,46,46,120,46,46,120,46,32,115,116,101,112,115,32,51,43,51,43,50,32,112,101,114,105,111,100,32,56,32,118,101,99,116,111,114,32,48,44,49,44,50,44,48]⟩:ByteArray)=K:=⟨_,rfl⟩
 obtain ⟨K2,hK2⟩ : ∃ K:ByteArray,(⟨#[101,118,101,110,32,110,101,97,114,101,115,116,32,120,46,46,120,46,46,120,46,32,109,111,118,101,115,32,48]⟩:ByteArray)=K:=⟨_,rfl⟩
 obtain ⟨K3,hK3⟩ : ∃ K:ByteArray,(⟨#[50,42,52,32,49]⟩:ByteArray)=K:=⟨_,rfl⟩
 obtain ⟨K4,hK4⟩ : ∃ K:ByteArray,(⟨#[120,46,120,46,46,120,46,46,32,111,114,98,105,116,32,56,32,99,108,97,115,115,32,120,120,120,46,46,46,46,46]⟩:ByteArray)=K:=⟨_,rfl⟩
 obtain ⟨K6,hK6⟩ : ∃ K:ByteArray,(⟨#[120,46,120,46,46,120,46,46]⟩:ByteArray)=K:=⟨_,rfl⟩
 obtain ⟨K8,hK8⟩ : ∃ K:ByteArray,(⟨#[46,120,120,46,120,120,46,120]⟩:ByteArray)=K:=⟨_,rfl⟩
 obtain ⟨K10,hK10⟩ : ∃ K:ByteArray,(⟨#[120,46,120,46,120,46,46,120,46,120,46,46]⟩:ByteArray)=K:=⟨_,rfl⟩
 obtain ⟨K12,hK12⟩ : ∃ K:ByteArray,(⟨#[120,120,46,46]⟩:ByteArray)=K:=⟨_,rfl⟩
 obtain ⟨K13,hK13⟩ : ∃ K:ByteArray,(⟨#[111,114,100,101,114,115,32,50,32,112,97,114,116,110,101,114,32,120,46,120,46]⟩:ByteArray)=K:=⟨_,rfl⟩
 obtain ⟨K14,hK14⟩ : ∃ K:ByteArray,(⟨#[120,46,120,46]⟩:ByteArray)=K:=⟨_,rfl⟩
 obtain ⟨K15,hK15⟩ : ∃ K:ByteArray,(⟨#[120,46,46,120,120,46,120,46,120,120,46,46]⟩:ByteArray)=K:=⟨_,rfl⟩
 obtain ⟨K16,hK16⟩ : ∃ K:ByteArray,(⟨#[120,46,120,46,120,46,46]⟩:ByteArray)=K:=⟨_,rfl⟩
 obtain ⟨K17,hK17⟩ : ∃ K:ByteArray,(⟨#[82,46,82,46,82,46,46]⟩:ByteArray)=K:=⟨_,rfl⟩
 obtain ⟨K18,hK18⟩ : ∃ K:ByteArray,(⟨#[112,101,114,105,111,100,32,52,32,101,110,116,114,105,101,115,32,48,44,49]⟩:ByteArray)=K:=⟨_,rfl⟩
 obtain ⟨K19,hK19⟩ : ∃ K:ByteArray,(⟨#[102,97,105,108,115,32,50]⟩:ByteArray)=K:=⟨_,rfl⟩
 obtain ⟨K20,hK20⟩ : ∃ K:ByteArray,(⟨#[54,32,97,97,98,97,98,98]⟩:ByteArray)=K:=⟨_,rfl⟩
 obtain ⟨K21,hK21⟩ : ∃ K:ByteArray,(⟨#[49,53]⟩:ByteArray)=K:=⟨_,rfl⟩
 obtain ⟨K22,hK22⟩ : ∃ K:ByteArray,(⟨#[55]⟩:ByteArray)=K:=⟨_,rfl⟩
 obtain ⟨K23,hK23⟩ : ∃ K:ByteArray,(⟨#[97,98,99,98,99,100]⟩:ByteArray)=K:=⟨_,rfl⟩
 obtain ⟨K24,hK24⟩ : ∃ K:ByteArray,(⟨#[48,44,49,48,44,51,48]⟩:ByteArray)=K:=⟨_,rfl⟩
 obtain ⟨K25,hK25⟩ : ∃ K:ByteArray,(⟨#[117,110,107,110,111,119,110,32,99,111,109,109,97,110,100]⟩:ByteArray)=K:=⟨_,rfl⟩
 simp only [hK0,hK1,hK2,hK3,hK4,hK6,hK8,hK10,hK12,hK13,hK14,hK15,hK16,hK17,hK18,hK19,hK20,hK21,hK22,hK23,hK24,hK25] at HC ⊢
 clear hK0 hK1 hK2 hK3 hK4 hK6 hK8 hK10 hK12 hK13 hK14 hK15 hK16 hK17 hK18 hK19 hK20 hK21 hK22 hK23 hK24 hK25
 have hC5:=HC.o
 refine wp_region_held_drew (S:=fun w'=>w'.cell? ⟨q,0,none⟩=some (.string K0)/\w'.cell? ⟨q,1,none⟩=some (.string K1)/\w'.cell? ⟨q,2,none⟩=some (.string K2)/\w'.cell? ⟨q,3,none⟩=some (.string K3)/\w'.cell? ⟨q,4,none⟩=some (.string K4)/\w'.cell? ⟨q,5,none⟩=some (.string l5)/\w'.cell? ⟨q,6,none⟩=some (.string K6)/\w'.cell? ⟨q,7,none⟩=some (.string K0)/\w'.cell? ⟨q,8,none⟩=some (.string K8)/\w'.cell? ⟨q,9,none⟩=some (.string (⟨#[51]⟩:ByteArray))/\w'.cell? ⟨q,10,none⟩=some (.string K10)/\w'.cell? ⟨q,11,none⟩=some (.string K10)/\w'.cell? ⟨q,12,none⟩=some (.string K12)/\w'.cell? ⟨q,13,none⟩=some (.string K13)/\w'.cell? ⟨q,14,none⟩=some (.string K14)/\w'.cell? ⟨q,15,none⟩=some (.string K15)/\w'.cell? ⟨q,16,none⟩=some (.string K16)/\w'.cell? ⟨q,17,none⟩=some (.string K17)/\w'.cell? ⟨q,18,none⟩=some (.string K18)/\w'.cell? ⟨q,19,none⟩=some (.string K19)/\w'.cell? ⟨q,20,none⟩=some (.string K20)/\w'.cell? ⟨q,21,none⟩=some (.string K21)/\w'.cell? ⟨q,22,none⟩=some (.string K22)/\w'.cell? ⟨q,23,none⟩=some (.string K23)/\w'.cell? ⟨q,24,none⟩=some (.string K24)/\w'.cell? ⟨q,25,none⟩=some (.string K25)) (by kernel_rfl) ?_ (fun hHeld=>?_)
 ·exact HC.o
 have HC5:=Zh hHeld
 clear hHeld HC hC5
 refine z6r (n:=164) (by kernel_rfl) (by kernel_rfl) (fun HN HCH=>?_)
 refine zab xC HCH HN (zas (i:=0) (by decide)) (d:=some 26) (v:=.slice (some ⟨q,0,none⟩) 26 26) rfl (by kernel_rfl) (Or.inl ⟨by kernel_rfl,fun wS hSw=>by kernel_rfl⟩) HC5.o ?_
 refine zab xC HCH HN (zas (i:=1) (by decide)) (d:=some 27) (v:=.int .i64 26) rfl (by kernel_rfl) (Or.inl ⟨by kernel_rfl,fun wS hSw=>by kernel_rfl⟩) HC5.o ?_
 refine zab xC HCH HN (zas (i:=2) (by decide)) (d:=some 28) (v:=.bool true) rfl (by kernel_rfl) (Or.inl ⟨by kernel_rfl,fun wS hSw=>by kernel_rfl⟩) HC5.o ?_
 refine zab xC HCH HN (zas (i:=3) (by decide)) (d:=some 29) (v:=.bool true) rfl (by kernel_rfl) (Or.inl ⟨by kernel_rfl,fun wS hSw=>by kernel_rfl⟩) HC5.o ?_
 refine zab xC HCH HN (zas (i:=4) (by decide)) (d:=some 30) (v:=.slice (some ⟨q,0,none⟩) 26 26) rfl (by kernel_rfl) (Or.inl ⟨by kernel_rfl,fun wS hSw=>by kernel_rfl⟩) HC5.o ?_
 refine zab xC HCH HN (zas (i:=5) (by decide)) (d:=some 31) (v:=.pointer (some ⟨q,0,none⟩)) rfl (by kernel_rfl) (Or.inl ⟨by kernel_rfl,fun wS hSw=>by kernel_rfl⟩) HC5.o ?_
 refine zab xC HCH HN (zas (i:=6) (by decide)) (d:=some 32) (v:=.string K0) rfl (by kernel_rfl) (Or.inl ⟨by kernel_rfl,fun wS hSw=>za8 (p:=⟨q,0,none⟩) (by kernel_rfl) (hSw.1)⟩) HC5.o ?_
 refine zab xC HCH HN (zas (i:=7) (by decide)) (d:=some 33) (v:=.bool true) rfl (by kernel_rfl) (Or.inl ⟨by kernel_rfl,fun wS hSw=>za9 (s:=K0) (by kernel_rfl) (by kernel_rfl)⟩) HC5.o ?_
 refine zab xC HCH HN (zas (i:=8) (by decide)) (d:=some 34) (v:=.bool true) rfl (by kernel_rfl) (Or.inl ⟨by kernel_rfl,fun wS hSw=>by kernel_rfl⟩) HC5.o ?_
 refine zab xC HCH HN (zas (i:=9) (by decide)) (d:=some 35) (v:=.bool true) rfl (by kernel_rfl) (Or.inl ⟨by kernel_rfl,fun wS hSw=>by kernel_rfl⟩) HC5.o ?_
 refine zab xC HCH HN (zas (i:=10) (by decide)) (d:=some 36) (v:=.slice (some ⟨q,0,none⟩) 26 26) rfl (by kernel_rfl) (Or.inl ⟨by kernel_rfl,fun wS hSw=>by kernel_rfl⟩) HC5.o ?_
 refine zab xC HCH HN (zas (i:=11) (by decide)) (d:=some 37) (v:=.pointer (some ⟨q,1,none⟩)) rfl (by kernel_rfl) (Or.inl ⟨by kernel_rfl,fun wS hSw=>by kernel_rfl⟩) HC5.o ?_
 refine zab xC HCH HN (zas (i:=12) (by decide)) (d:=some 38) (v:=.string K1) rfl (by kernel_rfl) (Or.inl ⟨by kernel_rfl,fun wS hSw=>za8 (p:=⟨q,1,none⟩) (by kernel_rfl) (hSw.2.1)⟩) HC5.o ?_
 refine zab xC HCH HN (zas (i:=13) (by decide)) (d:=some 39) (v:=.bool true) rfl (by kernel_rfl) (Or.inl ⟨by kernel_rfl,fun wS hSw=>za9 (s:=K1) (by kernel_rfl) (by kernel_rfl)⟩) HC5.o ?_
 refine zab xC HCH HN (zas (i:=14) (by decide)) (d:=some 40) (v:=.bool true) rfl (by kernel_rfl) (Or.inl ⟨by kernel_rfl,fun wS hSw=>by kernel_rfl⟩) HC5.o ?_
 refine zab xC HCH HN (zas (i:=15) (by decide)) (d:=some 41) (v:=.bool true) rfl (by kernel_rfl) (Or.inl ⟨by kernel_rfl,fun wS hSw=>by kernel_rfl⟩) HC5.o ?_
 refine zab xC HCH HN (zas (i:=16) (by decide)) (d:=some 42) (v:=.slice (some ⟨q,0,none⟩) 26 26) rfl (by kernel_rfl) (Or.inl ⟨by kernel_rfl,fun wS hSw=>by kernel_rfl⟩) HC5.o ?_
 refine zab xC HCH HN (zas (i:=17) (by decide)) (d:=some 43) (v:=.pointer (some ⟨q,2,none⟩)) rfl (by kernel_rfl) (Or.inl ⟨by kernel_rfl,fun wS hSw=>by kernel_rfl⟩) HC5.o ?_
 refine zab xC HCH HN (zas (i:=18) (by decide)) (d:=some 44) (v:=.string K2) rfl (by kernel_rfl) (Or.inl ⟨by kernel_rfl,fun wS hSw=>za8 (p:=⟨q,2,none⟩) (by kernel_rfl) (hSw.2.2.1)⟩) HC5.o ?_
 refine zab xC HCH HN (zas (i:=19) (by decide)) (d:=some 45) (v:=.bool true) rfl (by kernel_rfl) (Or.inl ⟨by kernel_rfl,fun wS hSw=>za9 (s:=K2) (by kernel_rfl) (by kernel_rfl)⟩) HC5.o ?_
 refine zab xC HCH HN (zas (i:=20) (by decide)) (d:=some 46) (v:=.bool true) rfl (by kernel_rfl) (Or.inl ⟨by kernel_rfl,fun wS hSw=>by kernel_rfl⟩) HC5.o ?_
 refine zab xC HCH HN (zas (i:=21) (by decide)) (d:=some 47) (v:=.bool true) rfl (by kernel_rfl) (Or.inl ⟨by kernel_rfl,fun wS hSw=>by kernel_rfl⟩) HC5.o ?_
 refine zab xC HCH HN (zas (i:=22) (by decide)) (d:=some 48) (v:=.slice (some ⟨q,0,none⟩) 26 26) rfl (by kernel_rfl) (Or.inl ⟨by kernel_rfl,fun wS hSw=>by kernel_rfl⟩) HC5.o ?_
 refine zab xC HCH HN (zas (i:=23) (by decide)) (d:=some 49) (v:=.pointer (some ⟨q,3,none⟩)) rfl (by kernel_rfl) (Or.inl ⟨by kernel_rfl,fun wS hSw=>by kernel_rfl⟩) HC5.o ?_
 refine zab xC HCH HN (zas (i:=24) (by decide)) (d:=some 50) (v:=.string K3) rfl (by kernel_rfl) (Or.inl ⟨by kernel_rfl,fun wS hSw=>za8 (p:=⟨q,3,none⟩) (by kernel_rfl) (hSw.2.2.2.1)⟩) HC5.o ?_
 refine zab xC HCH HN (zas (i:=25) (by decide)) (d:=some 51) (v:=.bool true) rfl (by kernel_rfl) (Or.inl ⟨by kernel_rfl,fun wS hSw=>za9 (s:=K3) (by kernel_rfl) (by kernel_rfl)⟩) HC5.o ?_
 refine zab xC HCH HN (zas (i:=26) (by decide)) (d:=some 52) (v:=.bool true) rfl (by kernel_rfl) (Or.inl ⟨by kernel_rfl,fun wS hSw=>by kernel_rfl⟩) HC5.o ?_
 refine zab xC HCH HN (zas (i:=27) (by decide)) (d:=some 53) (v:=.bool true) rfl (by kernel_rfl) (Or.inl ⟨by kernel_rfl,fun wS hSw=>by kernel_rfl⟩) HC5.o ?_
 refine zab xC HCH HN (zas (i:=28) (by decide)) (d:=some 54) (v:=.slice (some ⟨q,0,none⟩) 26 26) rfl (by kernel_rfl) (Or.inl ⟨by kernel_rfl,fun wS hSw=>by kernel_rfl⟩) HC5.o ?_
 refine zab xC HCH HN (zas (i:=29) (by decide)) (d:=some 55) (v:=.pointer (some ⟨q,4,none⟩)) rfl (by kernel_rfl) (Or.inl ⟨by kernel_rfl,fun wS hSw=>by kernel_rfl⟩) HC5.o ?_
 refine zab xC HCH HN (zas (i:=30) (by decide)) (d:=some 56) (v:=.string K4) rfl (by kernel_rfl) (Or.inl ⟨by kernel_rfl,fun wS hSw=>za8 (p:=⟨q,4,none⟩) (by kernel_rfl) (hSw.2.2.2.2.1)⟩) HC5.o ?_
 refine zab xC HCH HN (zas (i:=31) (by decide)) (d:=some 57) (v:=.bool true) rfl (by kernel_rfl) (Or.inl ⟨by kernel_rfl,fun wS hSw=>za9 (s:=K4) (by kernel_rfl) (by kernel_rfl)⟩) HC5.o ?_
 refine zab xC HCH HN (zas (i:=32) (by decide)) (d:=some 58) (v:=.bool true) rfl (by kernel_rfl) (Or.inl ⟨by kernel_rfl,fun wS hSw=>by kernel_rfl⟩) HC5.o ?_
 refine zab xC HCH HN (zas (i:=33) (by decide)) (d:=some 59) (v:=.bool true) rfl (by kernel_rfl) (Or.inl ⟨by kernel_rfl,fun wS hSw=>by kernel_rfl⟩) HC5.o ?_
 refine zhc (i:=34) (d:=some 60) (v:=.slice (some ⟨q,0,none⟩) 26 26) rfl (by kernel_rfl) (by kernel_rfl) (by kernel_rfl) (by kernel_rfl) (fun _ _ _ h=>h) (Or.inl ⟨by kernel_rfl,fun wS hSw=>by kernel_rfl⟩) HC5.o ?_
 refine zhc (i:=35) (d:=some 61) (v:=.pointer (some ⟨q,5,none⟩)) rfl (by kernel_rfl) (by kernel_rfl) (by kernel_rfl) (by kernel_rfl) (fun _ _ _ h=>h) (Or.inl ⟨by kernel_rfl,fun wS hSw=>by kernel_rfl⟩) HC5.o ?_
 refine zhc (i:=36) (d:=some 62) (v:=.string l5) rfl (by kernel_rfl) (by kernel_rfl) (by kernel_rfl) (by kernel_rfl) (fun _ _ _ h=>h) (Or.inl ⟨by kernel_rfl,fun wS hSw=>za8 (p:=⟨q,5,none⟩) (by kernel_rfl) (hSw.2.2.2.2.2.1)⟩) HC5.o ?_
 refine zhc (i:=38) (d:=some 64) (v:=.int .i64 a) rfl (by kernel_rfl) (by kernel_rfl) (by kernel_rfl) (by kernel_rfl) (fun _ _ _ h=>h) (Or.inl ⟨by kernel_rfl,fun wS hSw=>by kernel_rfl⟩) HC5.o ?_
 (try simp only [Act.put,Zz])
 refine wpAnyH_ready (rs:=[37]) (by kernel_rfl) (by simp) ?_
 refine AllReadyH.cons rfl (fun K hK=>?_) AllReadyH.nil
 go_simp
 have HBA:=Zh ((Below.refl w5.drew.heap.size w5.drew).alloc (Nat.le_refl _) (.cells #[.string ⟨#[49]⟩,.string ⟨#[50]⟩,.string ⟨#[50]⟩,.string ⟨#[51]⟩,.string ⟨#[52]⟩] 9))
 have HC6:=Zh (show _ from (⟨(HBA.o.cell (p:=⟨q,0,none⟩) HQ0.o).trans (HC5.o.1),(HBA.o.cell (p:=⟨q,1,none⟩) HQ0.o).trans (HC5.o.2.1),(HBA.o.cell (p:=⟨q,2,none⟩) HQ0.o).trans (HC5.o.2.2.1),(HBA.o.cell (p:=⟨q,3,none⟩) HQ0.o).trans (HC5.o.2.2.2.1),(HBA.o.cell (p:=⟨q,4,none⟩) HQ0.o).trans (HC5.o.2.2.2.2.1),(HBA.o.cell (p:=⟨q,5,none⟩) HQ0.o).trans (HC5.o.2.2.2.2.2.1),(HBA.o.cell (p:=⟨q,6,none⟩) HQ0.o).trans (HC5.o.2.2.2.2.2.2.1),(HBA.o.cell (p:=⟨q,7,none⟩) HQ0.o).trans (HC5.o.2.2.2.2.2.2.2.1),(HBA.o.cell (p:=⟨q,8,none⟩) HQ0.o).trans (HC5.o.2.2.2.2.2.2.2.2.1),(HBA.o.cell (p:=⟨q,9,none⟩) HQ0.o).trans (HC5.o.2.2.2.2.2.2.2.2.2.1),(HBA.o.cell (p:=⟨q,10,none⟩) HQ0.o).trans (HC5.o.2.2.2.2.2.2.2.2.2.2.1),(HBA.o.cell (p:=⟨q,11,none⟩) HQ0.o).trans (HC5.o.2.2.2.2.2.2.2.2.2.2.2.1),(HBA.o.cell (p:=⟨q,12,none⟩) HQ0.o).trans (HC5.o.2.2.2.2.2.2.2.2.2.2.2.2.1),(HBA.o.cell (p:=⟨q,13,none⟩) HQ0.o).trans (HC5.o.2.2.2.2.2.2.2.2.2.2.2.2.2.1),(HBA.o.cell (p:=⟨q,14,none⟩) HQ0.o).trans (HC5.o.2.2.2.2.2.2.2.2.2.2.2.2.2.2.1),(HBA.o.cell (p:=⟨q,15,none⟩) HQ0.o).trans (HC5.o.2.2.2.2.2.2.2.2.2.2.2.2.2.2.2.1),(HBA.o.cell (p:=⟨q,16,none⟩) HQ0.o).trans (HC5.o.2.2.2.2.2.2.2.2.2.2.2.2.2.2.2.2.1),(HBA.o.cell (p:=⟨q,17,none⟩) HQ0.o).trans (HC5.o.2.2.2.2.2.2.2.2.2.2.2.2.2.2.2.2.2.1),(HBA.o.cell (p:=⟨q,18,none⟩) HQ0.o).trans (HC5.o.2.2.2.2.2.2.2.2.2.2.2.2.2.2.2.2.2.2.1),(HBA.o.cell (p:=⟨q,19,none⟩) HQ0.o).trans (HC5.o.2.2.2.2.2.2.2.2.2.2.2.2.2.2.2.2.2.2.2.1),(HBA.o.cell (p:=⟨q,20,none⟩) HQ0.o).trans (HC5.o.2.2.2.2.2.2.2.2.2.2.2.2.2.2.2.2.2.2.2.2.1),(HBA.o.cell (p:=⟨q,21,none⟩) HQ0.o).trans (HC5.o.2.2.2.2.2.2.2.2.2.2.2.2.2.2.2.2.2.2.2.2.2.1),(HBA.o.cell (p:=⟨q,22,none⟩) HQ0.o).trans (HC5.o.2.2.2.2.2.2.2.2.2.2.2.2.2.2.2.2.2.2.2.2.2.2.1),(HBA.o.cell (p:=⟨q,23,none⟩) HQ0.o).trans (HC5.o.2.2.2.2.2.2.2.2.2.2.2.2.2.2.2.2.2.2.2.2.2.2.2.1),(HBA.o.cell (p:=⟨q,24,none⟩) HQ0.o).trans (HC5.o.2.2.2.2.2.2.2.2.2.2.2.2.2.2.2.2.2.2.2.2.2.2.2.2.1),(HBA.o.cell (p:=⟨q,25,none⟩) HQ0.o).trans (HC5.o.2.2.2.2.2.2.2.2.2.2.2.2.2.2.2.2.2.2.2.2.2.2.2.2.2)⟩:(w5.drew.alloc (.cells #[.string ⟨#[49]⟩,.string ⟨#[50]⟩,.string ⟨#[50]⟩,.string ⟨#[51]⟩,.string ⟨#[52]⟩] 9)).cell? ⟨q,0,none⟩=some (.string K0)/\(w5.drew.alloc (.cells #[.string ⟨#[49]⟩,.string ⟨#[50]⟩,.string ⟨#[50]⟩,.string ⟨#[51]⟩,.string ⟨#[52]⟩] 9)).cell? ⟨q,1,none⟩=some (.string K1)/\(w5.drew.alloc (.cells #[.string ⟨#[49]⟩,.string ⟨#[50]⟩,.string ⟨#[50]⟩,.string ⟨#[51]⟩,.string ⟨#[52]⟩] 9)).cell? ⟨q,2,none⟩=some (.string K2)/\(w5.drew.alloc (.cells #[.string ⟨#[49]⟩,.string ⟨#[50]⟩,.string ⟨#[50]⟩,.string ⟨#[51]⟩,.string ⟨#[52]⟩] 9)).cell? ⟨q,3,none⟩=some (.string K3)/\(w5.drew.alloc (.cells #[.string ⟨#[49]⟩,.string ⟨#[50]⟩,.string ⟨#[50]⟩,.string ⟨#[51]⟩,.string ⟨#[52]⟩] 9)).cell? ⟨q,4,none⟩=some (.string K4)/\(w5.drew.alloc (.cells #[.string ⟨#[49]⟩,.string ⟨#[50]⟩,.string ⟨#[50]⟩,.string ⟨#[51]⟩,.string ⟨#[52]⟩] 9)).cell? ⟨q,5,none⟩=some (.string l5)/\(w5.drew.alloc (.cells #[.string ⟨#[49]⟩,.string ⟨#[50]⟩,.string ⟨#[50]⟩,.string ⟨#[51]⟩,.string ⟨#[52]⟩] 9)).cell? ⟨q,6,none⟩=some (.string K6)/\(w5.drew.alloc (.cells #[.string ⟨#[49]⟩,.string ⟨#[50]⟩,.string ⟨#[50]⟩,.string ⟨#[51]⟩,.string ⟨#[52]⟩] 9)).cell? ⟨q,7,none⟩=some (.string K0)/\(w5.drew.alloc (.cells #[.string ⟨#[49]⟩,.string ⟨#[50]⟩,.string ⟨#[50]⟩,.string ⟨#[51]⟩,.string ⟨#[52]⟩] 9)).cell? ⟨q,8,none⟩=some (.string K8)/\(w5.drew.alloc (.cells #[.string ⟨#[49]⟩,.string ⟨#[50]⟩,.string ⟨#[50]⟩,.string ⟨#[51]⟩,.string ⟨#[52]⟩] 9)).cell? ⟨q,9,none⟩=some (.string (⟨#[51]⟩:ByteArray))/\(w5.drew.alloc (.cells #[.string ⟨#[49]⟩,.string ⟨#[50]⟩,.string ⟨#[50]⟩,.string ⟨#[51]⟩,.string ⟨#[52]⟩] 9)).cell? ⟨q,10,none⟩=some (.string K10)/\(w5.drew.alloc (.cells #[.string ⟨#[49]⟩,.string ⟨#[50]⟩,.string ⟨#[50]⟩,.string ⟨#[51]⟩,.string ⟨#[52]⟩] 9)).cell? ⟨q,11,none⟩=some (.string K10)/\(w5.drew.alloc (.cells #[.string ⟨#[49]⟩,.string ⟨#[50]⟩,.string ⟨#[50]⟩,.string ⟨#[51]⟩,.string ⟨#[52]⟩] 9)).cell? ⟨q,12,none⟩=some (.string K12)/\(w5.drew.alloc (.cells #[.string ⟨#[49]⟩,.string ⟨#[50]⟩,.string ⟨#[50]⟩,.string ⟨#[51]⟩,.string ⟨#[52]⟩] 9)).cell? ⟨q,13,none⟩=some (.string K13)/\(w5.drew.alloc (.cells #[.string ⟨#[49]⟩,.string ⟨#[50]⟩,.string ⟨#[50]⟩,.string ⟨#[51]⟩,.string ⟨#[52]⟩] 9)).cell? ⟨q,14,none⟩=some (.string K14)/\(w5.drew.alloc (.cells #[.string ⟨#[49]⟩,.string ⟨#[50]⟩,.string ⟨#[50]⟩,.string ⟨#[51]⟩,.string ⟨#[52]⟩] 9)).cell? ⟨q,15,none⟩=some (.string K15)/\(w5.drew.alloc (.cells #[.string ⟨#[49]⟩,.string ⟨#[50]⟩,.string ⟨#[50]⟩,.string ⟨#[51]⟩,.string ⟨#[52]⟩] 9)).cell? ⟨q,16,none⟩=some (.string K16)/\(w5.drew.alloc (.cells #[.string ⟨#[49]⟩,.string ⟨#[50]⟩,.string ⟨#[50]⟩,.string ⟨#[51]⟩,.string ⟨#[52]⟩] 9)).cell? ⟨q,17,none⟩=some (.string K17)/\(w5.drew.alloc (.cells #[.string ⟨#[49]⟩,.string ⟨#[50]⟩,.string ⟨#[50]⟩,.string ⟨#[51]⟩,.string ⟨#[52]⟩] 9)).cell? ⟨q,18,none⟩=some (.string K18)/\(w5.drew.alloc (.cells #[.string ⟨#[49]⟩,.string ⟨#[50]⟩,.string ⟨#[50]⟩,.string ⟨#[51]⟩,.string ⟨#[52]⟩] 9)).cell? ⟨q,19,none⟩=some (.string K19)/\(w5.drew.alloc (.cells #[.string ⟨#[49]⟩,.string ⟨#[50]⟩,.string ⟨#[50]⟩,.string ⟨#[51]⟩,.string ⟨#[52]⟩] 9)).cell? ⟨q,20,none⟩=some (.string K20)/\(w5.drew.alloc (.cells #[.string ⟨#[49]⟩,.string ⟨#[50]⟩,.string ⟨#[50]⟩,.string ⟨#[51]⟩,.string ⟨#[52]⟩] 9)).cell? ⟨q,21,none⟩=some (.string K21)/\(w5.drew.alloc (.cells #[.string ⟨#[49]⟩,.string ⟨#[50]⟩,.string ⟨#[50]⟩,.string ⟨#[51]⟩,.string ⟨#[52]⟩] 9)).cell? ⟨q,22,none⟩=some (.string K22)/\(w5.drew.alloc (.cells #[.string ⟨#[49]⟩,.string ⟨#[50]⟩,.string ⟨#[50]⟩,.string ⟨#[51]⟩,.string ⟨#[52]⟩] 9)).cell? ⟨q,23,none⟩=some (.string K23)/\(w5.drew.alloc (.cells #[.string ⟨#[49]⟩,.string ⟨#[50]⟩,.string ⟨#[50]⟩,.string ⟨#[51]⟩,.string ⟨#[52]⟩] 9)).cell? ⟨q,24,none⟩=some (.string K24)/\(w5.drew.alloc (.cells #[.string ⟨#[49]⟩,.string ⟨#[50]⟩,.string ⟨#[50]⟩,.string ⟨#[51]⟩,.string ⟨#[52]⟩] 9)).cell? ⟨q,25,none⟩=some (.string K25)))
 refine hK.out _ _ ?_ fun hHeld2=>?_
 ·exact HC6.o
 clear hK K hHeld2
 (try simp only [Act.put,Zz])
 refine wpAnyH_ready (rs:=[39]) (by kernel_rfl) (by simp) ?_
 refine AllReadyH.cons rfl (fun K hK=>?_) AllReadyH.nil
 go_simp
 refine hK.out _ _ ?_ fun hHeld2=>?_
 ·exact HC6.o
 clear hK K hHeld2
 (try simp only [Act.put,Zz])
 obtain ⟨hla,hlb⟩:=List.getElem?_eq_some_iff.1 HAL.o
 refine wpAnyH_ready (rs:=[40]) (by kernel_rfl) (by simp) ?_
 refine AllReadyH.cons rfl (fun K hK=>?_) AllReadyH.nil
 go_simp
 (try simp only [hlb])
 clear hlb
 refine hK.out _ _ ?_ fun hHeld2=>?_
 ·exact HC6.o
 clear hK K hHeld2
 (try simp only [Act.put,Zz])
 refine z6q (n:=164) (i:=41) (by kernel_rfl) ?_
 refine zab xC HCH HN (zac (i:=41) (by decide)) (d:=some 67) (v:=.bool true) rfl (by kernel_rfl) (Or.inl ⟨by kernel_rfl,fun wS hSw=>za9 (s:=l5) (by kernel_rfl) (by kernel_rfl)⟩) HC6.o ?_
 refine zab xC HCH HN (zac (i:=42) (by decide)) (d:=some 68) (v:=.bool true) rfl (by kernel_rfl) (Or.inl ⟨by kernel_rfl,fun wS hSw=>by kernel_rfl⟩) HC6.o ?_
 refine zab xC HCH HN (zac (i:=43) (by decide)) (d:=some 69) (v:=.bool true) rfl (by kernel_rfl) (Or.inl ⟨by kernel_rfl,fun wS hSw=>by kernel_rfl⟩) HC6.o ?_
 refine zab xC HCH HN (zac (i:=44) (by decide)) (d:=some 70) (v:=.slice (some ⟨q,0,none⟩) 26 26) rfl (by kernel_rfl) (Or.inl ⟨by kernel_rfl,fun wS hSw=>by kernel_rfl⟩) HC6.o ?_
 refine zab xC HCH HN (zac (i:=45) (by decide)) (d:=some 71) (v:=.pointer (some ⟨q,6,none⟩)) rfl (by kernel_rfl) (Or.inl ⟨by kernel_rfl,fun wS hSw=>by kernel_rfl⟩) HC6.o ?_
 refine zab xC HCH HN (zac (i:=46) (by decide)) (d:=some 72) (v:=.string K6) rfl (by kernel_rfl) (Or.inl ⟨by kernel_rfl,fun wS hSw=>za8 (p:=⟨q,6,none⟩) (by kernel_rfl) (hSw.2.2.2.2.2.2.1)⟩) HC6.o ?_
 refine zab xC HCH HN (zac (i:=47) (by decide)) (d:=some 73) (v:=.bool true) rfl (by kernel_rfl) (Or.inl ⟨by kernel_rfl,fun wS hSw=>za9 (s:=K6) (by kernel_rfl) (by kernel_rfl)⟩) HC6.o ?_
 refine zab xC HCH HN (zac (i:=48) (by decide)) (d:=some 74) (v:=.bool true) rfl (by kernel_rfl) (Or.inl ⟨by kernel_rfl,fun wS hSw=>by kernel_rfl⟩) HC6.o ?_
 refine zab xC HCH HN (zac (i:=49) (by decide)) (d:=some 75) (v:=.bool true) rfl (by kernel_rfl) (Or.inl ⟨by kernel_rfl,fun wS hSw=>by kernel_rfl⟩) HC6.o ?_
 refine zab xC HCH HN (zac (i:=50) (by decide)) (d:=some 76) (v:=.slice (some ⟨q,0,none⟩) 26 26) rfl (by kernel_rfl) (Or.inl ⟨by kernel_rfl,fun wS hSw=>by kernel_rfl⟩) HC6.o ?_
 refine zab xC HCH HN (zac (i:=51) (by decide)) (d:=some 77) (v:=.pointer (some ⟨q,7,none⟩)) rfl (by kernel_rfl) (Or.inl ⟨by kernel_rfl,fun wS hSw=>by kernel_rfl⟩) HC6.o ?_
 refine zab xC HCH HN (zac (i:=52) (by decide)) (d:=some 78) (v:=.string K0) rfl (by kernel_rfl) (Or.inl ⟨by kernel_rfl,fun wS hSw=>za8 (p:=⟨q,7,none⟩) (by kernel_rfl) (hSw.2.2.2.2.2.2.2.1)⟩) HC6.o ?_
 refine zab xC HCH HN (zac (i:=53) (by decide)) (d:=some 79) (v:=.bool true) rfl (by kernel_rfl) (Or.inl ⟨by kernel_rfl,fun wS hSw=>za9 (s:=K0) (by kernel_rfl) (by kernel_rfl)⟩) HC6.o ?_
 refine zab xC HCH HN (zac (i:=54) (by decide)) (d:=some 80) (v:=.bool true) rfl (by kernel_rfl) (Or.inl ⟨by kernel_rfl,fun wS hSw=>by kernel_rfl⟩) HC6.o ?_
 refine zab xC HCH HN (zac (i:=55) (by decide)) (d:=some 81) (v:=.bool true) rfl (by kernel_rfl) (Or.inl ⟨by kernel_rfl,fun wS hSw=>by kernel_rfl⟩) HC6.o ?_
 refine zab xC HCH HN (zac (i:=56) (by decide)) (d:=some 82) (v:=.slice (some ⟨q,0,none⟩) 26 26) rfl (by kernel_rfl) (Or.inl ⟨by kernel_rfl,fun wS hSw=>by kernel_rfl⟩) HC6.o ?_
 refine zab xC HCH HN (zac (i:=57) (by decide)) (d:=some 83) (v:=.pointer (some ⟨q,8,none⟩)) rfl (by kernel_rfl) (Or.inl ⟨by kernel_rfl,fun wS hSw=>by kernel_rfl⟩) HC6.o ?_
 refine zab xC HCH HN (zac (i:=58) (by decide)) (d:=some 84) (v:=.string K8) rfl (by kernel_rfl) (Or.inl ⟨by kernel_rfl,fun wS hSw=>za8 (p:=⟨q,8,none⟩) (by kernel_rfl) (hSw.2.2.2.2.2.2.2.2.1)⟩) HC6.o ?_
 refine zab xC HCH HN (zac (i:=59) (by decide)) (d:=some 85) (v:=.bool true) rfl (by kernel_rfl) (Or.inl ⟨by kernel_rfl,fun wS hSw=>za9 (s:=K8) (by kernel_rfl) (by kernel_rfl)⟩) HC6.o ?_
 refine zab xC HCH HN (zac (i:=60) (by decide)) (d:=some 86) (v:=.bool true) rfl (by kernel_rfl) (Or.inl ⟨by kernel_rfl,fun wS hSw=>by kernel_rfl⟩) HC6.o ?_
 refine zab xC HCH HN (zac (i:=61) (by decide)) (d:=some 87) (v:=.bool true) rfl (by kernel_rfl) (Or.inl ⟨by kernel_rfl,fun wS hSw=>by kernel_rfl⟩) HC6.o ?_
 refine zab xC HCH HN (zac (i:=62) (by decide)) (d:=some 88) (v:=.slice (some ⟨q,0,none⟩) 26 26) rfl (by kernel_rfl) (Or.inl ⟨by kernel_rfl,fun wS hSw=>by kernel_rfl⟩) HC6.o ?_
 refine zab xC HCH HN (zac (i:=63) (by decide)) (d:=some 89) (v:=.pointer (some ⟨q,9,none⟩)) rfl (by kernel_rfl) (Or.inl ⟨by kernel_rfl,fun wS hSw=>by kernel_rfl⟩) HC6.o ?_
 refine zab xC HCH HN (zac (i:=64) (by decide)) (d:=some 90) (v:=.string (⟨#[51]⟩:ByteArray)) rfl (by kernel_rfl) (Or.inl ⟨by kernel_rfl,fun wS hSw=>za8 (p:=⟨q,9,none⟩) (by kernel_rfl) (hSw.2.2.2.2.2.2.2.2.2.1)⟩) HC6.o ?_
 refine zab xC HCH HN (zac (i:=65) (by decide)) (d:=some 91) (v:=.bool true) rfl (by kernel_rfl) (Or.inl ⟨by kernel_rfl,fun wS hSw=>za9 (s:=(⟨#[51]⟩:ByteArray)) (by kernel_rfl) (by kernel_rfl)⟩) HC6.o ?_
 refine zab xC HCH HN (zac (i:=66) (by decide)) (d:=some 92) (v:=.bool true) rfl (by kernel_rfl) (Or.inl ⟨by kernel_rfl,fun wS hSw=>by kernel_rfl⟩) HC6.o ?_
 refine zab xC HCH HN (zac (i:=67) (by decide)) (d:=some 93) (v:=.bool true) rfl (by kernel_rfl) (Or.inl ⟨by kernel_rfl,fun wS hSw=>by kernel_rfl⟩) HC6.o ?_
 refine zab xC HCH HN (zac (i:=68) (by decide)) (d:=some 94) (v:=.slice (some ⟨q,0,none⟩) 26 26) rfl (by kernel_rfl) (Or.inl ⟨by kernel_rfl,fun wS hSw=>by kernel_rfl⟩) HC6.o ?_
 refine zab xC HCH HN (zac (i:=69) (by decide)) (d:=some 95) (v:=.pointer (some ⟨q,10,none⟩)) rfl (by kernel_rfl) (Or.inl ⟨by kernel_rfl,fun wS hSw=>by kernel_rfl⟩) HC6.o ?_
 refine zab xC HCH HN (zac (i:=70) (by decide)) (d:=some 96) (v:=.string K10) rfl (by kernel_rfl) (Or.inl ⟨by kernel_rfl,fun wS hSw=>za8 (p:=⟨q,10,none⟩) (by kernel_rfl) (hSw.2.2.2.2.2.2.2.2.2.2.1)⟩) HC6.o ?_
 refine zab xC HCH HN (zac (i:=71) (by decide)) (d:=some 97) (v:=.bool true) rfl (by kernel_rfl) (Or.inl ⟨by kernel_rfl,fun wS hSw=>za9 (s:=K10) (by kernel_rfl) (by kernel_rfl)⟩) HC6.o ?_
 refine zab xC HCH HN (zac (i:=72) (by decide)) (d:=some 98) (v:=.bool true) rfl (by kernel_rfl) (Or.inl ⟨by kernel_rfl,fun wS hSw=>by kernel_rfl⟩) HC6.o ?_
 refine zab xC HCH HN (zac (i:=73) (by decide)) (d:=some 99) (v:=.bool true) rfl (by kernel_rfl) (Or.inl ⟨by kernel_rfl,fun wS hSw=>by kernel_rfl⟩) HC6.o ?_
 refine zab xC HCH HN (zac (i:=74) (by decide)) (d:=some 100) (v:=.slice (some ⟨q,0,none⟩) 26 26) rfl (by kernel_rfl) (Or.inl ⟨by kernel_rfl,fun wS hSw=>by kernel_rfl⟩) HC6.o ?_
 refine zab xC HCH HN (zac (i:=75) (by decide)) (d:=some 101) (v:=.pointer (some ⟨q,11,none⟩)) rfl (by kernel_rfl) (Or.inl ⟨by kernel_rfl,fun wS hSw=>by kernel_rfl⟩) HC6.o ?_
 refine zab xC HCH HN (zac (i:=76) (by decide)) (d:=some 102) (v:=.string K10) rfl (by kernel_rfl) (Or.inl ⟨by kernel_rfl,fun wS hSw=>za8 (p:=⟨q,11,none⟩) (by kernel_rfl) (hSw.2.2.2.2.2.2.2.2.2.2.2.1)⟩) HC6.o ?_
 refine zab xC HCH HN (zac (i:=77) (by decide)) (d:=some 103) (v:=.bool true) rfl (by kernel_rfl) (Or.inl ⟨by kernel_rfl,fun wS hSw=>za9 (s:=K10) (by kernel_rfl) (by kernel_rfl)⟩) HC6.o ?_
 refine zab xC HCH HN (zac (i:=78) (by decide)) (d:=some 104) (v:=.bool true) rfl (by kernel_rfl) (Or.inl ⟨by kernel_rfl,fun wS hSw=>by kernel_rfl⟩) HC6.o ?_
 refine zab xC HCH HN (zac (i:=79) (by decide)) (d:=some 105) (v:=.bool true) rfl (by kernel_rfl) (Or.inl ⟨by kernel_rfl,fun wS hSw=>by kernel_rfl⟩) HC6.o ?_
 refine zab xC HCH HN (zac (i:=80) (by decide)) (d:=some 106) (v:=.slice (some ⟨q,0,none⟩) 26 26) rfl (by kernel_rfl) (Or.inl ⟨by kernel_rfl,fun wS hSw=>by kernel_rfl⟩) HC6.o ?_
 refine zab xC HCH HN (zac (i:=81) (by decide)) (d:=some 107) (v:=.pointer (some ⟨q,12,none⟩)) rfl (by kernel_rfl) (Or.inl ⟨by kernel_rfl,fun wS hSw=>by kernel_rfl⟩) HC6.o ?_
 refine zab xC HCH HN (zac (i:=82) (by decide)) (d:=some 108) (v:=.string K12) rfl (by kernel_rfl) (Or.inl ⟨by kernel_rfl,fun wS hSw=>za8 (p:=⟨q,12,none⟩) (by kernel_rfl) (hSw.2.2.2.2.2.2.2.2.2.2.2.2.1)⟩) HC6.o ?_
 refine zab xC HCH HN (zac (i:=83) (by decide)) (d:=some 109) (v:=.bool true) rfl (by kernel_rfl) (Or.inl ⟨by kernel_rfl,fun wS hSw=>za9 (s:=K12) (by kernel_rfl) (by kernel_rfl)⟩) HC6.o ?_
 refine zab xC HCH HN (zac (i:=84) (by decide)) (d:=some 110) (v:=.bool true) rfl (by kernel_rfl) (Or.inl ⟨by kernel_rfl,fun wS hSw=>by kernel_rfl⟩) HC6.o ?_
 refine zab xC HCH HN (zac (i:=85) (by decide)) (d:=some 111) (v:=.bool true) rfl (by kernel_rfl) (Or.inl ⟨by kernel_rfl,fun wS hSw=>by kernel_rfl⟩) HC6.o ?_
 refine zab xC HCH HN (zac (i:=86) (by decide)) (d:=some 112) (v:=.slice (some ⟨q,0,none⟩) 26 26) rfl (by kernel_rfl) (Or.inl ⟨by kernel_rfl,fun wS hSw=>by kernel_rfl⟩) HC6.o ?_
 refine zab xC HCH HN (zac (i:=87) (by decide)) (d:=some 113) (v:=.pointer (some ⟨q,13,none⟩)) rfl (by kernel_rfl) (Or.inl ⟨by kernel_rfl,fun wS hSw=>by kernel_rfl⟩) HC6.o ?_
 refine zab xC HCH HN (zac (i:=88) (by decide)) (d:=some 114) (v:=.string K13) rfl (by kernel_rfl) (Or.inl ⟨by kernel_rfl,fun wS hSw=>za8 (p:=⟨q,13,none⟩) (by kernel_rfl) (hSw.2.2.2.2.2.2.2.2.2.2.2.2.2.1)⟩) HC6.o ?_
 refine zab xC HCH HN (zac (i:=89) (by decide)) (d:=some 115) (v:=.bool true) rfl (by kernel_rfl) (Or.inl ⟨by kernel_rfl,fun wS hSw=>za9 (s:=K13) (by kernel_rfl) (by kernel_rfl)⟩) HC6.o ?_
 refine zab xC HCH HN (zac (i:=90) (by decide)) (d:=some 116) (v:=.bool true) rfl (by kernel_rfl) (Or.inl ⟨by kernel_rfl,fun wS hSw=>by kernel_rfl⟩) HC6.o ?_
 refine zab xC HCH HN (zac (i:=91) (by decide)) (d:=some 117) (v:=.bool true) rfl (by kernel_rfl) (Or.inl ⟨by kernel_rfl,fun wS hSw=>by kernel_rfl⟩) HC6.o ?_
 refine zab xC HCH HN (zac (i:=92) (by decide)) (d:=some 118) (v:=.slice (some ⟨q,0,none⟩) 26 26) rfl (by kernel_rfl) (Or.inl ⟨by kernel_rfl,fun wS hSw=>by kernel_rfl⟩) HC6.o ?_
 refine zab xC HCH HN (zac (i:=93) (by decide)) (d:=some 119) (v:=.pointer (some ⟨q,14,none⟩)) rfl (by kernel_rfl) (Or.inl ⟨by kernel_rfl,fun wS hSw=>by kernel_rfl⟩) HC6.o ?_
 refine zab xC HCH HN (zac (i:=94) (by decide)) (d:=some 120) (v:=.string K14) rfl (by kernel_rfl) (Or.inl ⟨by kernel_rfl,fun wS hSw=>za8 (p:=⟨q,14,none⟩) (by kernel_rfl) (hSw.2.2.2.2.2.2.2.2.2.2.2.2.2.2.1)⟩) HC6.o ?_
 refine zab xC HCH HN (zac (i:=95) (by decide)) (d:=some 121) (v:=.bool true) rfl (by kernel_rfl) (Or.inl ⟨by kernel_rfl,fun wS hSw=>za9 (s:=K14) (by kernel_rfl) (by kernel_rfl)⟩) HC6.o ?_
 refine zab xC HCH HN (zac (i:=96) (by decide)) (d:=some 122) (v:=.bool true) rfl (by kernel_rfl) (Or.inl ⟨by kernel_rfl,fun wS hSw=>by kernel_rfl⟩) HC6.o ?_
 refine zab xC HCH HN (zac (i:=97) (by decide)) (d:=some 123) (v:=.bool true) rfl (by kernel_rfl) (Or.inl ⟨by kernel_rfl,fun wS hSw=>by kernel_rfl⟩) HC6.o ?_
 refine zab xC HCH HN (zac (i:=98) (by decide)) (d:=some 124) (v:=.slice (some ⟨q,0,none⟩) 26 26) rfl (by kernel_rfl) (Or.inl ⟨by kernel_rfl,fun wS hSw=>by kernel_rfl⟩) HC6.o ?_
 refine zab xC HCH HN (zac (i:=99) (by decide)) (d:=some 125) (v:=.pointer (some ⟨q,15,none⟩)) rfl (by kernel_rfl) (Or.inl ⟨by kernel_rfl,fun wS hSw=>by kernel_rfl⟩) HC6.o ?_
 refine zab xC HCH HN (zac (i:=100) (by decide)) (d:=some 126) (v:=.string K15) rfl (by kernel_rfl) (Or.inl ⟨by kernel_rfl,fun wS hSw=>za8 (p:=⟨q,15,none⟩) (by kernel_rfl) (hSw.2.2.2.2.2.2.2.2.2.2.2.2.2.2.2.1)⟩) HC6.o ?_
 refine zab xC HCH HN (zac (i:=101) (by decide)) (d:=some 127) (v:=.bool true) rfl (by kernel_rfl) (Or.inl ⟨by kernel_rfl,fun wS hSw=>za9 (s:=K15) (by kernel_rfl) (by kernel_rfl)⟩) HC6.o ?_
 refine zab xC HCH HN (zac (i:=102) (by decide)) (d:=some 128) (v:=.bool true) rfl (by kernel_rfl) (Or.inl ⟨by kernel_rfl,fun wS hSw=>by kernel_rfl⟩) HC6.o ?_
 refine zab xC HCH HN (zac (i:=103) (by decide)) (d:=some 129) (v:=.bool true) rfl (by kernel_rfl) (Or.inl ⟨by kernel_rfl,fun wS hSw=>by kernel_rfl⟩) HC6.o ?_
 refine zab xC HCH HN (zac (i:=104) (by decide)) (d:=some 130) (v:=.slice (some ⟨q,0,none⟩) 26 26) rfl (by kernel_rfl) (Or.inl ⟨by kernel_rfl,fun wS hSw=>by kernel_rfl⟩) HC6.o ?_
 refine zab xC HCH HN (zac (i:=105) (by decide)) (d:=some 131) (v:=.pointer (some ⟨q,16,none⟩)) rfl (by kernel_rfl) (Or.inl ⟨by kernel_rfl,fun wS hSw=>by kernel_rfl⟩) HC6.o ?_
 refine zab xC HCH HN (zac (i:=106) (by decide)) (d:=some 132) (v:=.string K16) rfl (by kernel_rfl) (Or.inl ⟨by kernel_rfl,fun wS hSw=>za8 (p:=⟨q,16,none⟩) (by kernel_rfl) (hSw.2.2.2.2.2.2.2.2.2.2.2.2.2.2.2.2.1)⟩) HC6.o ?_
 refine zab xC HCH HN (zac (i:=107) (by decide)) (d:=some 133) (v:=.bool true) rfl (by kernel_rfl) (Or.inl ⟨by kernel_rfl,fun wS hSw=>za9 (s:=K16) (by kernel_rfl) (by kernel_rfl)⟩) HC6.o ?_
 refine zab xC HCH HN (zac (i:=108) (by decide)) (d:=some 134) (v:=.bool true) rfl (by kernel_rfl) (Or.inl ⟨by kernel_rfl,fun wS hSw=>by kernel_rfl⟩) HC6.o ?_
 refine zab xC HCH HN (zac (i:=109) (by decide)) (d:=some 135) (v:=.bool true) rfl (by kernel_rfl) (Or.inl ⟨by kernel_rfl,fun wS hSw=>by kernel_rfl⟩) HC6.o ?_
 refine zab xC HCH HN (zac (i:=110) (by decide)) (d:=some 136) (v:=.slice (some ⟨q,0,none⟩) 26 26) rfl (by kernel_rfl) (Or.inl ⟨by kernel_rfl,fun wS hSw=>by kernel_rfl⟩) HC6.o ?_
 refine zab xC HCH HN (zac (i:=111) (by decide)) (d:=some 137) (v:=.pointer (some ⟨q,17,none⟩)) rfl (by kernel_rfl) (Or.inl ⟨by kernel_rfl,fun wS hSw=>by kernel_rfl⟩) HC6.o ?_
 refine zab xC HCH HN (zac (i:=112) (by decide)) (d:=some 138) (v:=.string K17) rfl (by kernel_rfl) (Or.inl ⟨by kernel_rfl,fun wS hSw=>za8 (p:=⟨q,17,none⟩) (by kernel_rfl) (hSw.2.2.2.2.2.2.2.2.2.2.2.2.2.2.2.2.2.1)⟩) HC6.o ?_
 refine zab xC HCH HN (zac (i:=113) (by decide)) (d:=some 139) (v:=.bool true) rfl (by kernel_rfl) (Or.inl ⟨by kernel_rfl,fun wS hSw=>za9 (s:=K17) (by kernel_rfl) (by kernel_rfl)⟩) HC6.o ?_
 refine zab xC HCH HN (zac (i:=114) (by decide)) (d:=some 140) (v:=.bool true) rfl (by kernel_rfl) (Or.inl ⟨by kernel_rfl,fun wS hSw=>by kernel_rfl⟩) HC6.o ?_
 refine zab xC HCH HN (zac (i:=115) (by decide)) (d:=some 141) (v:=.bool true) rfl (by kernel_rfl) (Or.inl ⟨by kernel_rfl,fun wS hSw=>by kernel_rfl⟩) HC6.o ?_
 refine zab xC HCH HN (zac (i:=116) (by decide)) (d:=some 142) (v:=.slice (some ⟨q,0,none⟩) 26 26) rfl (by kernel_rfl) (Or.inl ⟨by kernel_rfl,fun wS hSw=>by kernel_rfl⟩) HC6.o ?_
 refine zab xC HCH HN (zac (i:=117) (by decide)) (d:=some 143) (v:=.pointer (some ⟨q,18,none⟩)) rfl (by kernel_rfl) (Or.inl ⟨by kernel_rfl,fun wS hSw=>by kernel_rfl⟩) HC6.o ?_
 refine zab xC HCH HN (zac (i:=118) (by decide)) (d:=some 144) (v:=.string K18) rfl (by kernel_rfl) (Or.inl ⟨by kernel_rfl,fun wS hSw=>za8 (p:=⟨q,18,none⟩) (by kernel_rfl) (hSw.2.2.2.2.2.2.2.2.2.2.2.2.2.2.2.2.2.2.1)⟩) HC6.o ?_
 refine zab xC HCH HN (zac (i:=119) (by decide)) (d:=some 145) (v:=.bool true) rfl (by kernel_rfl) (Or.inl ⟨by kernel_rfl,fun wS hSw=>za9 (s:=K18) (by kernel_rfl) (by kernel_rfl)⟩) HC6.o ?_
 refine zab xC HCH HN (zac (i:=120) (by decide)) (d:=some 146) (v:=.bool true) rfl (by kernel_rfl) (Or.inl ⟨by kernel_rfl,fun wS hSw=>by kernel_rfl⟩) HC6.o ?_
 refine zab xC HCH HN (zac (i:=121) (by decide)) (d:=some 147) (v:=.bool true) rfl (by kernel_rfl) (Or.inl ⟨by kernel_rfl,fun wS hSw=>by kernel_rfl⟩) HC6.o ?_
 refine zab xC HCH HN (zac (i:=122) (by decide)) (d:=some 148) (v:=.slice (some ⟨q,0,none⟩) 26 26) rfl (by kernel_rfl) (Or.inl ⟨by kernel_rfl,fun wS hSw=>by kernel_rfl⟩) HC6.o ?_
 refine zab xC HCH HN (zac (i:=123) (by decide)) (d:=some 149) (v:=.pointer (some ⟨q,19,none⟩)) rfl (by kernel_rfl) (Or.inl ⟨by kernel_rfl,fun wS hSw=>by kernel_rfl⟩) HC6.o ?_
 refine zab xC HCH HN (zac (i:=124) (by decide)) (d:=some 150) (v:=.string K19) rfl (by kernel_rfl) (Or.inl ⟨by kernel_rfl,fun wS hSw=>za8 (p:=⟨q,19,none⟩) (by kernel_rfl) (hSw.2.2.2.2.2.2.2.2.2.2.2.2.2.2.2.2.2.2.2.1)⟩) HC6.o ?_
 refine zab xC HCH HN (zac (i:=125) (by decide)) (d:=some 151) (v:=.bool true) rfl (by kernel_rfl) (Or.inl ⟨by kernel_rfl,fun wS hSw=>za9 (s:=K19) (by kernel_rfl) (by kernel_rfl)⟩) HC6.o ?_
 refine zab xC HCH HN (zac (i:=126) (by decide)) (d:=some 152) (v:=.bool true) rfl (by kernel_rfl) (Or.inl ⟨by kernel_rfl,fun wS hSw=>by kernel_rfl⟩) HC6.o ?_
 refine zab xC HCH HN (zac (i:=127) (by decide)) (d:=some 153) (v:=.bool true) rfl (by kernel_rfl) (Or.inl ⟨by kernel_rfl,fun wS hSw=>by kernel_rfl⟩) HC6.o ?_
 refine zab xC HCH HN (zac (i:=128) (by decide)) (d:=some 154) (v:=.slice (some ⟨q,0,none⟩) 26 26) rfl (by kernel_rfl) (Or.inl ⟨by kernel_rfl,fun wS hSw=>by kernel_rfl⟩) HC6.o ?_
 refine zab xC HCH HN (zac (i:=129) (by decide)) (d:=some 155) (v:=.pointer (some ⟨q,20,none⟩)) rfl (by kernel_rfl) (Or.inl ⟨by kernel_rfl,fun wS hSw=>by kernel_rfl⟩) HC6.o ?_
 refine zab xC HCH HN (zac (i:=130) (by decide)) (d:=some 156) (v:=.string K20) rfl (by kernel_rfl) (Or.inl ⟨by kernel_rfl,fun wS hSw=>za8 (p:=⟨q,20,none⟩) (by kernel_rfl) (hSw.2.2.2.2.2.2.2.2.2.2.2.2.2.2.2.2.2.2.2.2.1)⟩) HC6.o ?_
 refine zab xC HCH HN (zac (i:=131) (by decide)) (d:=some 157) (v:=.bool true) rfl (by kernel_rfl) (Or.inl ⟨by kernel_rfl,fun wS hSw=>za9 (s:=K20) (by kernel_rfl) (by kernel_rfl)⟩) HC6.o ?_
 refine zab xC HCH HN (zac (i:=132) (by decide)) (d:=some 158) (v:=.bool true) rfl (by kernel_rfl) (Or.inl ⟨by kernel_rfl,fun wS hSw=>by kernel_rfl⟩) HC6.o ?_
 refine zab xC HCH HN (zac (i:=133) (by decide)) (d:=some 159) (v:=.bool true) rfl (by kernel_rfl) (Or.inl ⟨by kernel_rfl,fun wS hSw=>by kernel_rfl⟩) HC6.o ?_
 refine zab xC HCH HN (zac (i:=134) (by decide)) (d:=some 160) (v:=.slice (some ⟨q,0,none⟩) 26 26) rfl (by kernel_rfl) (Or.inl ⟨by kernel_rfl,fun wS hSw=>by kernel_rfl⟩) HC6.o ?_
 refine zab xC HCH HN (zac (i:=135) (by decide)) (d:=some 161) (v:=.pointer (some ⟨q,21,none⟩)) rfl (by kernel_rfl) (Or.inl ⟨by kernel_rfl,fun wS hSw=>by kernel_rfl⟩) HC6.o ?_
 refine zab xC HCH HN (zac (i:=136) (by decide)) (d:=some 162) (v:=.string K21) rfl (by kernel_rfl) (Or.inl ⟨by kernel_rfl,fun wS hSw=>za8 (p:=⟨q,21,none⟩) (by kernel_rfl) (hSw.2.2.2.2.2.2.2.2.2.2.2.2.2.2.2.2.2.2.2.2.2.1)⟩) HC6.o ?_
 refine zab xC HCH HN (zac (i:=137) (by decide)) (d:=some 163) (v:=.bool true) rfl (by kernel_rfl) (Or.inl ⟨by kernel_rfl,fun wS hSw=>za9 (s:=K21) (by kernel_rfl) (by kernel_rfl)⟩) HC6.o ?_
 refine zab xC HCH HN (zac (i:=138) (by decide)) (d:=some 164) (v:=.bool true) rfl (by kernel_rfl) (Or.inl ⟨by kernel_rfl,fun wS hSw=>by kernel_rfl⟩) HC6.o ?_
 refine zab xC HCH HN (zac (i:=139) (by decide)) (d:=some 165) (v:=.bool true) rfl (by kernel_rfl) (Or.inl ⟨by kernel_rfl,fun wS hSw=>by kernel_rfl⟩) HC6.o ?_
 refine zab xC HCH HN (zac (i:=140) (by decide)) (d:=some 166) (v:=.slice (some ⟨q,0,none⟩) 26 26) rfl (by kernel_rfl) (Or.inl ⟨by kernel_rfl,fun wS hSw=>by kernel_rfl⟩) HC6.o ?_
 refine zab xC HCH HN (zac (i:=141) (by decide)) (d:=some 167) (v:=.pointer (some ⟨q,22,none⟩)) rfl (by kernel_rfl) (Or.inl ⟨by kernel_rfl,fun wS hSw=>by kernel_rfl⟩) HC6.o ?_
 refine zab xC HCH HN (zac (i:=142) (by decide)) (d:=some 168) (v:=.string K22) rfl (by kernel_rfl) (Or.inl ⟨by kernel_rfl,fun wS hSw=>za8 (p:=⟨q,22,none⟩) (by kernel_rfl) (hSw.2.2.2.2.2.2.2.2.2.2.2.2.2.2.2.2.2.2.2.2.2.2.1)⟩) HC6.o ?_
 refine zab xC HCH HN (zac (i:=143) (by decide)) (d:=some 169) (v:=.bool true) rfl (by kernel_rfl) (Or.inl ⟨by kernel_rfl,fun wS hSw=>za9 (s:=K22) (by kernel_rfl) (by kernel_rfl)⟩) HC6.o ?_
 refine zab xC HCH HN (zac (i:=144) (by decide)) (d:=some 170) (v:=.bool true) rfl (by kernel_rfl) (Or.inl ⟨by kernel_rfl,fun wS hSw=>by kernel_rfl⟩) HC6.o ?_
 refine zab xC HCH HN (zac (i:=145) (by decide)) (d:=some 171) (v:=.bool true) rfl (by kernel_rfl) (Or.inl ⟨by kernel_rfl,fun wS hSw=>by kernel_rfl⟩) HC6.o ?_
 refine zab xC HCH HN (zac (i:=146) (by decide)) (d:=some 172) (v:=.slice (some ⟨q,0,none⟩) 26 26) rfl (by kernel_rfl) (Or.inl ⟨by kernel_rfl,fun wS hSw=>by kernel_rfl⟩) HC6.o ?_
 refine zab xC HCH HN (zac (i:=147) (by decide)) (d:=some 173) (v:=.pointer (some ⟨q,23,none⟩)) rfl (by kernel_rfl) (Or.inl ⟨by kernel_rfl,fun wS hSw=>by kernel_rfl⟩) HC6.o ?_
 refine zab xC HCH HN (zac (i:=148) (by decide)) (d:=some 174) (v:=.string K23) rfl (by kernel_rfl) (Or.inl ⟨by kernel_rfl,fun wS hSw=>za8 (p:=⟨q,23,none⟩) (by kernel_rfl) (hSw.2.2.2.2.2.2.2.2.2.2.2.2.2.2.2.2.2.2.2.2.2.2.2.1)⟩) HC6.o ?_
 refine zab xC HCH HN (zac (i:=149) (by decide)) (d:=some 175) (v:=.bool true) rfl (by kernel_rfl) (Or.inl ⟨by kernel_rfl,fun wS hSw=>za9 (s:=K23) (by kernel_rfl) (by kernel_rfl)⟩) HC6.o ?_
 refine zab xC HCH HN (zac (i:=150) (by decide)) (d:=some 176) (v:=.bool true) rfl (by kernel_rfl) (Or.inl ⟨by kernel_rfl,fun wS hSw=>by kernel_rfl⟩) HC6.o ?_
 refine zab xC HCH HN (zac (i:=151) (by decide)) (d:=some 177) (v:=.bool true) rfl (by kernel_rfl) (Or.inl ⟨by kernel_rfl,fun wS hSw=>by kernel_rfl⟩) HC6.o ?_
 refine zab xC HCH HN (zac (i:=152) (by decide)) (d:=some 178) (v:=.slice (some ⟨q,0,none⟩) 26 26) rfl (by kernel_rfl) (Or.inl ⟨by kernel_rfl,fun wS hSw=>by kernel_rfl⟩) HC6.o ?_
 refine zab xC HCH HN (zac (i:=153) (by decide)) (d:=some 179) (v:=.pointer (some ⟨q,24,none⟩)) rfl (by kernel_rfl) (Or.inl ⟨by kernel_rfl,fun wS hSw=>by kernel_rfl⟩) HC6.o ?_
 refine zab xC HCH HN (zac (i:=154) (by decide)) (d:=some 180) (v:=.string K24) rfl (by kernel_rfl) (Or.inl ⟨by kernel_rfl,fun wS hSw=>za8 (p:=⟨q,24,none⟩) (by kernel_rfl) (hSw.2.2.2.2.2.2.2.2.2.2.2.2.2.2.2.2.2.2.2.2.2.2.2.2.1)⟩) HC6.o ?_
 refine zab xC HCH HN (zac (i:=155) (by decide)) (d:=some 181) (v:=.bool true) rfl (by kernel_rfl) (Or.inl ⟨by kernel_rfl,fun wS hSw=>za9 (s:=K24) (by kernel_rfl) (by kernel_rfl)⟩) HC6.o ?_
 refine zab xC HCH HN (zac (i:=156) (by decide)) (d:=some 182) (v:=.bool true) rfl (by kernel_rfl) (Or.inl ⟨by kernel_rfl,fun wS hSw=>by kernel_rfl⟩) HC6.o ?_
 refine zab xC HCH HN (zac (i:=157) (by decide)) (d:=some 183) (v:=.bool true) rfl (by kernel_rfl) (Or.inl ⟨by kernel_rfl,fun wS hSw=>by kernel_rfl⟩) HC6.o ?_
 refine zab xC HCH HN (zac (i:=158) (by decide)) (d:=some 184) (v:=.slice (some ⟨q,0,none⟩) 26 26) rfl (by kernel_rfl) (Or.inl ⟨by kernel_rfl,fun wS hSw=>by kernel_rfl⟩) HC6.o ?_
 refine zab xC HCH HN (zac (i:=159) (by decide)) (d:=some 185) (v:=.pointer (some ⟨q,25,none⟩)) rfl (by kernel_rfl) (Or.inl ⟨by kernel_rfl,fun wS hSw=>by kernel_rfl⟩) HC6.o ?_
 refine zab xC HCH HN (zac (i:=160) (by decide)) (d:=some 186) (v:=.string K25) rfl (by kernel_rfl) (Or.inl ⟨by kernel_rfl,fun wS hSw=>za8 (p:=⟨q,25,none⟩) (by kernel_rfl) (hSw.2.2.2.2.2.2.2.2.2.2.2.2.2.2.2.2.2.2.2.2.2.2.2.2.2)⟩) HC6.o ?_
 refine zab xC HCH HN (zac (i:=161) (by decide)) (d:=some 187) (v:=.bool true) rfl (by kernel_rfl) (Or.inl ⟨by kernel_rfl,fun wS hSw=>za9 (s:=K25) (by kernel_rfl) (by kernel_rfl)⟩) HC6.o ?_
 refine zab xC HCH HN (zac (i:=162) (by decide)) (d:=some 188) (v:=.bool true) rfl (by kernel_rfl) (Or.inl ⟨by kernel_rfl,fun wS hSw=>by kernel_rfl⟩) HC6.o ?_
 refine zab xC HCH HN (zac (i:=163) (by decide)) (d:=some 2) (v:=.bool true) rfl (by kernel_rfl) (Or.inl ⟨by kernel_rfl,fun wS hSw=>by kernel_rfl⟩) HC6.o ?_
 refine wpAnyH_done (by kernel_rfl) ?_ _
 (try simp only [Act.put,Zz])
 have HBZ:=Zh (HB5.o.trans ((show Below w5.heap.size w5 w5.drew from ⟨rfl,rfl,rfl,Nat.le_refl _,fun _ _=>rfl⟩).trans (HBA.o.mono (Nat.le_refl _)) |>.mono HB5.o.size))
 go_wp2_with fail
 go_ret
 exact ⟨rfl,HBZ.o⟩
end Go.Proofs.YtjgbidnebnggoaaGreatDoor
