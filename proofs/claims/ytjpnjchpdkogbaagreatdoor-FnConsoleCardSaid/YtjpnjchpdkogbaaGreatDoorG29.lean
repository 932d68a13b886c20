/- Parts of the proof of the card of the law FnConsole. -/
import Derived.Test.YtjpnjchpdkogbaaGreatDoorG25
import Derived.Test.YtjpnjchpdkogbaaGreatDoorG05
import Derived.Test.YtjpnjchpdkogbaaGreatDoorG26
import Derived.Test.YtjpnjchpdkogbaaGreatDoorG06
import Derived.Test.YtjpnjchpdkogbaaGreatDoorG07
import Derived.Test.YtjpnjchpdkogbaaGreatDoorG12
import Derived.Test.YtjpnjchpdkogbaaGreatDoorG10
import Derived.Test.YtjpnjchpdkogbaaGreatDoorG28
set_option linter.unusedVariables false
set_option linter.unusedSimpArgs false
set_option maxRecDepth 100000
set_option maxHeartbeats 4000000
namespace Go.Proofs.YtjpnjchpdkogbaaGreatDoor
open Go.RowKit
theorem z4b (N:Nat)(A:Option Addr)(ca:Nat)(xs:List Int)(k:Int)(w:World)(hA:Ints w w.heap.size A xs)(hx:RhOk N xs)(hk1 : -1000<=k/\k<=1000) :
  Calls Tryz.prog 104 #[.agg #[.int .i64 N,.slice A xs.length ca],.int .i64 k] w (zbr w N (joiL N xs (rotL N xs k))):=by
 have hn1:1<=N:=by have:=hx.1;omega
 have hn2:N<=24:=by have:=hx.2.1;omega
 have hlx:xs.length<=N:=ze1 hx
 have hy:=(zah hx k).1
 have hly:(rotL N xs k).length<=N:=ze1 hy
 have HRT:=Zh (fun V h=>zej N A ca xs k V h hx hk1)
 have HFY:=Zh (fun (V:World) base B (h:RW V base B (rotL N xs k))=>h.fitsP hy)
 generalize rotL N xs k=ys at *
 have HCC:=Zh (fun g B cb V h0 h1 hg h2 h3=>zpz g A B ca cb xs ys V h0 h1 hg h2 h3 (by omega) (by omega))
 have hlxy:(xs++ys).length<=48:=by rw [List.length_append];omega
 have HFX:=Zh (fun (h : ∀ y∈ys,Fits y)=>show ∀ x∈xs++ys,Fits x from fun x hm=>by
  rcases List.mem_append.1 hm with h1 | h1
  ·exact hA.2.1 x h1
  ·exact h x h1)
 have HRO:=Zh (fun (A2:Option Addr) (c2:Nat) V (hV:Ints V V.heap.size A2 (xs++ys))=>zjr hn1 (xs++ys) ▸ zdv N A2 c2 (xs++ys) V hV (by omega) (by omega) (by omega))
 rw [show ofL (modL N (xs++ys) (xs++ys).length) N=joiL N xs ys from rfl] at HRO
 generalize joiL N xs ys=J at *
 have HJ:=Zh hlxy
 generalize xs++ys=XY at *
 have hfd : ∀ (V:World) A' c',(Instr.field 27 (.agg #[.int .i64 N,.slice A' ys.length c']) 1).run Tryz.prog V = .ok (.slice A' ys.length c') V:=fun _ _ _=>by kernel_rfl
 have hal0:=(Below.refl w.heap.size w).alloc (Nat.le_refl _) (.cells #[.int .i64 N,.slice A xs.length ca] 27)
 have hal2:=hal0.alloc hal0.size (.cells #[.int .i64 0,.slice none 0 0] 27)
 have HCA:=Zh ((Cells2.new w (.int .i64 N) (.slice A xs.length ca) 27).alloc (.cells #[.int .i64 0,.slice none 0 0] 27))
 have HZ:=Zh (Cells2.new_at (w.alloc (.cells #[.int .i64 N,.slice A xs.length ca] 27)) (.int .i64 0) (.slice none 0 0) 27 (w.heap.size+1) (by simp))
 have HB0:=Zh hal2
 have HIA:=Zh (hA.lift hal2)
 obtain ⟨c0,c1,_,_,_⟩:=HCA.o
 clear hA hal0 hal2 hx hy
 go_enter Tryz.func104,Tryz.ntmps104
 go_wp2_with fail
 generalize (w.alloc (.cells #[.int .i64 N,.slice A xs.length ca] 27)).alloc (.cells #[.int .i64 0,.slice none 0 0] 27)=w1 at *
 (refine wp_region_held_drew (S:=(fun w'=>w'.cell? ⟨w.heap.size,0,none⟩=some (.int .i64 N)/\w'.cell? ⟨w.heap.size,1,none⟩=some (.slice A xs.length ca))) (by kernel_rfl) ?_ (fun hHeld=>?_);(focus ((try dsimp only);exact ⟨c0,c1⟩)))
 ((refine Zk 0 ?_;(try simp only [Act.put,Zz]));(refine Zk 1 ?_;(try simp only [Act.put,Zz]));(refine Zk 2 ?_;(try simp only [Act.put,Zz]));(refine Zk 3 ?_;(try simp only [Act.put,Zz]));(refine Zk 4 ?_;(try simp only [Act.put,Zz]));(refine Zk 5 ?_;(try simp only [Act.put,Zz])))
 have HW1:=Zh (show Below w1.heap.size w1 w1.drew from ⟨rfl,rfl,rfl,Nat.le_refl _,fun _ _=>rfl⟩)
 have HBd:=Zh (Below.drew5_ HB0.o)
 have HCAd:=Zh (show Cells2 w1.drew w.heap.size (.int .i64 N) (.slice A xs.length ca) from HCA.o)
 have HZd:=Zh (show Cells2 w1.drew (w.heap.size+1) (.int .i64 0) (.slice none 0 0) from HZ.o)
 have HIAd:=Zh (HIA.o.lift HW1.o)
 generalize w1.drew=wd at *
 (refine wpAnyH_ready (rs:=[6]) (by kernel_rfl) (by simp) ?_;refine AllReadyH.cons rfl (fun K hK=>?_) AllReadyH.nil;go_simp)
 go_at_call 99
 refine (HRT.o _ HIAd.o).mono ?_
 rintro e w2 ⟨A2,c2,rfl,hr,hb⟩
 have HB2:=Zh (HBd.o.trans (hb.mono HBd.o.size))
 have HCA2:=Zh (HCAd.o.below hb HCAd.o.2.2.2.2)
 have HZ2:=Zh (HZd.o.below hb HZd.o.2.2.2.2)
 have HIA2:=Zh (HIAd.o.lift hb)
 have HIY2:=Zh (HFY.o _ _ _ hr)
 clear hb hr
 go_wp2_with fail
 (refine hK.out _ _ ?_ fun hHeld2=>?_;(focus ((try dsimp only);exact ⟨HCA2.o.1,HCA2.o.2.1⟩));(clear hK K);(try simp only [Act.put,Zz]))
 (refine Zk 7 ?_;(try simp only [Act.put,Zz]))
 (refine wpAnyH_ready (rs:=[8]) (by kernel_rfl) (by simp) ?_;refine AllReadyH.cons rfl (fun K hK=>?_) AllReadyH.nil;go_simp)
 have hb3:Below w2.heap.size w2 (w2.alloc (.cells #[.slice A xs.length ca,.slice A2 ys.length c2] 25)):=(Below.refl w2.heap.size w2).alloc (Nat.le_refl _) _
 have HX3:=Zh (Cells2.new w2 (.slice A xs.length ca) (.slice A2 ys.length c2) 25)
 have HB3:=Zh (HB2.o.trans (hb3.mono HB2.o.size))
 have HCA3:=Zh (HCA2.o.below hb3 HCA2.o.2.2.2.2)
 have HZ3:=Zh (HZ2.o.below hb3 HZ2.o.2.2.2.2)
 have HIA3:=Zh (HIA2.o.lift hb3)
 have HIY3:=Zh (HIY2.o.lift hb3)
 have HFXY:=Zh (HFX.o HIY2.o.2.1)
 clear hb3
 generalize w2.alloc (.cells #[.slice A xs.length ca,.slice A2 ys.length c2] 25)=w3 at *
 (refine hK.out _ _ ?_ fun hHeld2=>?_;(focus ((try dsimp only);exact ⟨HCA3.o.1,HCA3.o.2.1⟩));(clear hK K);(try simp only [Act.put,Zz]))
 (refine wpAnyH_ready (rs:=[9]) (by kernel_rfl) (by simp) ?_;refine AllReadyH.cons rfl (fun K hK=>?_) AllReadyH.nil;go_simp)
 go_at_call 162
 refine (HCC.o _ _ _ _ HX3.o.1 HX3.o.2.1 HX3.o.2.2.2.2 HIA3.o HIY3.o).mono ?_
 rintro e w4 ⟨v4,rfl,hown,hb⟩
 obtain ⟨A4,c4,rfl⟩:=hown.form
 have HB4:=Zh (HB3.o.trans (hb.mono HB3.o.size))
 have HCA4:=Zh (HCA3.o.below hb HCA3.o.2.2.2.2)
 have HZ4:=Zh (HZ3.o.below hb HZ3.o.2.2.2.2)
 have HI4:=Zh (hown.ints HFXY.o)
 clear hb hown
 go_wp2_with fail
 (refine hK.out _ _ ?_ fun hHeld2=>?_;(focus ((try dsimp only);exact ⟨HCA4.o.1,HCA4.o.2.1⟩));(clear hK K);(try simp only [Act.put,Zz]))
 (refine wpAnyH_ready (rs:=[10]) (by kernel_rfl) (by simp) ?_;refine AllReadyH.cons rfl (fun K hK=>?_) AllReadyH.nil;go_simp)
 go_at_call 97
 refine (HRO.o A4 c4 _ HI4.o).mono ?_
 rintro e w5 ⟨A5,c5,rfl,hr5,hb⟩
 have HB5:=Zh (HB4.o.trans (hb.mono HB4.o.size))
 have HCA5:=Zh (HCA4.o.below hb HCA4.o.2.2.2.2)
 have HZ5:=Zh (HZ4.o.below hb HZ4.o.2.2.2.2)
 have hlt:w.heap.size+1<w4.heap.size:=HZ4.o.2.2.2.2
 have HR5:=Zh hr5
 clear hb hr5
 go_wp2_with fail
 (refine hK.out _ _ ?_ fun hHeld2=>?_;(focus ((try dsimp only);exact ⟨HCA5.o.1,HCA5.o.2.1⟩));(clear hK K);(try simp only [Act.put,Zz]))
 obtain ⟨z0,z1,y0,y1,_⟩:=HZ5.o
 have HF5:=Zh ((HB5.o.setCell (p:=⟨w.heap.size+1,0,none⟩) (by show w.heap.size<=w.heap.size+1;omega) (.int .i64 N)).setCell (p:=⟨w.heap.size+1,1,none⟩) (by show w.heap.size<=w.heap.size+1;omega) (.slice A5 J.length c5))
 have HZ6:=Zh ((HZ5.o.set0 (.int .i64 N)).set1 (.slice A5 J.length c5))
 have HCA6:=Zh ((HCA5.o.far (p:=⟨w.heap.size+1,0,none⟩) (by show w.heap.size≠w.heap.size+1;omega) (.int .i64 N)).far (p:=⟨w.heap.size+1,1,none⟩) (by show w.heap.size≠w.heap.size+1;omega) (.slice A5 J.length c5))
 (refine wpAnyH_ready (rs:=[11]) (by kernel_rfl) (by simp) ?_;refine AllReadyH.cons rfl (fun K hK=>?_) AllReadyH.nil;go_simp)
 (refine hK.out _ _ ?_ fun hHeld2=>?_;(focus ((try dsimp only);exact ⟨HCA6.o.1,HCA6.o.2.1⟩));(clear hK K);(try simp only [Act.put,Zz]))
 refine wpAnyH_done (by kernel_rfl) ?_ _
 obtain ⟨x0,x1,_,_,_⟩:=HZ6.o
 go_wp2_with fail
 refine bodyPost_ret (v:=.agg #[.int .i64 N,.slice A5 J.length c5]) (by simp [results,Tryz.results104,go_sem,x0,x1]) rfl ?_
 exact ⟨A5,c5,rfl,((HR5.o.far (p:=⟨w.heap.size+1,0,none⟩) hlt _).far (p:=⟨w.heap.size+1,1,none⟩) hlt _).mono (by omega),HF5.o⟩
theorem z4c (N:Nat)(A:Option Addr)(cap:Nat)(bs:List Int)(k:Int)(w:World)(hA:Ints w w.heap.size A bs)(hok:RhOk N bs) :
  Calls Tryz.prog 43 #[.agg #[.int .i64 N,.slice A bs.length cap],.int .i64 k] w (RetRhO w (phaV N bs k)):=by
 have hfN:Fits (N:Int):=by have:=hok.1;have:=hok.2.1;unfold Fits;omega
 have hRO:=fun V h=>zav N A cap bs V hfN h
 rw [zao.2 hok] at hRO
 have HRO:=Zh hRO
 have hal0:=(Below.refl w.heap.size w).alloc (Nat.le_refl _) (.cells #[.int .i64 N,.slice A bs.length cap] 27)
 have hal2:=hal0.alloc hal0.size (.cells #[.int .i64 0,.slice none 0 0] 27)
 have HC0:=Zh ((Cells2.new w (.int .i64 N) (.slice A bs.length cap) 27).alloc (.cells #[.int .i64 0,.slice none 0 0] 27))
 have HZ0:=Zh (Cells2.new_at (w.alloc (.cells #[.int .i64 N,.slice A bs.length cap] 27)) (.int .i64 0) (.slice none 0 0) 27 (w.heap.size+1) (by simp))
 have HB0:=Zh hal2
 have HI0:=Zh (hA.lift hal2)
 have HOK:=Zh hok
 clear hA hal0 hal2 hRO hok
 obtain ⟨c0,c1,_,_,_⟩:=HC0.o
 obtain ⟨z0,z1,_,_,_⟩:=HZ0.o
 cases hin:inB k (-1000) 1000
 ·rw [show phaV N bs k=none by unfold phaV;rw [hin];rfl]
  go_enter Tryz.func43,Tryz.ntmps43
  go_wp2_with fail
  refine (HRO.o _ HI0.o).mono ?_
  rintro e w1 ⟨rfl,hb⟩
  have HB1:=Zh (HB0.o.trans (hb.mono HB0.o.size))
  have HZ1:=Zh (HZ0.o.below hb HZ0.o.2.2.2.2)
  clear hb c0 c1 z0 z1
  obtain ⟨z0,z1,_,_,_⟩:=HZ1.o
  go_wp2_with (go_at_call 22;refine (zac _ _ _ _).mono ?_;rintro e w' ⟨rfl,rfl⟩)
  refine bodyPost_ret (v:=.tuple #[.agg #[.int .i64 0,.slice none 0 0],.bool false]) (by simp [results,Tryz.results43,go_sem,z0,z1]) rfl ?_
  exact RetRhO.none_ ((HB1.o.setCell (p:=⟨w.heap.size+1,0,none⟩) (by show w.heap.size<=w.heap.size+1;omega) _).setCell (p:=⟨w.heap.size+1,1,none⟩) (by show w.heap.size<=w.heap.size+1;omega) _)
 ·have hk1:=zan.1 hin
  rw [show phaV N bs k=some (N,joiL N bs (rotL N bs k)) by unfold phaV;rw [hin];rfl]
  have HM:=Zh (fun V h=>z4b N A cap bs k V h HOK.o hk1)
  clear hk1
  show Calls _ _ _ _ (RetRh2 w N (joiL N bs (rotL N bs k)) true)
  generalize joiL N bs (rotL N bs k)=R at HM ⊢
  go_enter Tryz.func43,Tryz.ntmps43
  go_wp2_with fail
  refine (HRO.o _ HI0.o).mono ?_
  rintro e w1 ⟨rfl,hb⟩
  have HB1:=Zh (HB0.o.trans (hb.mono HB0.o.size))
  have HC1:=Zh (HC0.o.below hb HC0.o.2.2.2.2)
  have HZ1:=Zh (HZ0.o.below hb HZ0.o.2.2.2.2)
  have HI1:=Zh (HI0.o.lift hb)
  clear hb c0 c1 z0 z1
  obtain ⟨c0,c1,_,_,_⟩:=HC1.o
  go_wp2_with (go_at_call 22;refine (zac _ _ _ _).mono ?_;rintro e w' ⟨rfl,rfl⟩)
  refine (HM.o _ HI1.o).mono ?_
  rintro e w3 ⟨A2,c2,rfl,hr,hb⟩
  have HB3:=Zh (HB1.o.trans (hb.mono HB1.o.size))
  have HZ3:=Zh (HZ1.o.below hb HZ1.o.2.2.2.2)
  have HR3:=Zh hr
  have hlt:w.heap.size+1<w1.heap.size:=HZ1.o.2.2.2.2
  clear hb hr c0 c1
  obtain ⟨z0,z1,y0,y1,_⟩:=HZ3.o
  have HZ4:=Zh ((HZ3.o.set0 (.int .i64 N)).set1 (.slice A2 R.length c2))
  obtain ⟨x0,x1,_,_,_⟩:=HZ4.o
  have HF3:=Zh ((HB3.o.setCell (p:=⟨w.heap.size+1,0,none⟩) (by show w.heap.size<=w.heap.size+1;omega) (.int .i64 N)).setCell (p:=⟨w.heap.size+1,1,none⟩) (by show w.heap.size<=w.heap.size+1;omega) (.slice A2 R.length c2))
  go_wp2_with fail
  refine bodyPost_ret (v:=.tuple #[.agg #[.int .i64 N,.slice A2 R.length c2],.bool true]) (by simp [results,Tryz.results43,go_sem,x0,x1]) rfl ?_
  exact ⟨_,_,rfl,((HR3.o.far (p:=⟨w.heap.size+1,0,none⟩) hlt _).far (p:=⟨w.heap.size+1,1,none⟩) hlt _).mono (by omega),HF3.o⟩
def wdB (s:ByteArray):Bool:=s.data.toList.all (fun c=>c==84 || c==77 || c==83)
theorem zqh (s:ByteArray):wdB s=true ↔ Lib.trimS s.data.toList [84,77,83]=[]:=by
 rw [zm5]
 unfold wdB
 refine iff_of_eq (congrArg (fun b=>b=true) ?_)
 refine congrArg (fun p=>s.data.toList.all p) (funext fun c=>?_)
 simp [List.contains_cons,Bool.or_assoc]
 rfl
theorem zqi (N:Nat) (c:UInt8) : ∀ (l:List UInt8) (bs:List Int),wrdL N (l++[c]) bs=wrdL N [c] (wrdL N l bs)
 | [],bs=>rfl
 | d::r,bs=>by
  show wrdL N (r++[c]) _=_
  rw [zqi N c r]
  rfl
theorem zqj {M:Nat} : ∀ (l:List UInt8) (xs:List Int),RhOk M xs->RhOk M (wrdL M l xs)
 | [],xs,h=>h
 | c::r,xs,h=>by
  unfold wrdL
  refine zqj r _ ?_
  split
  ·exact (zah h 1).1
  ·split
   ·exact zbl (by have:=h.1;omega) (by have:=h.2.1;omega)
   ·exact zfo h
theorem z4d (N:Nat)(A:Option Addr)(cap:Nat)(bs:List Int)(s:ByteArray)(w:World)(hA:Ints w w.heap.size A bs)(hok:RhOk N bs)(hs:s.size<=1048576) :
  Calls Tryz.prog 47 #[.agg #[.int .i64 N,.slice A bs.length cap],.string s] w (RetRhO w (wrdV N bs s)):=by
 have hn1:1<=N:=by have:=hok.1;omega
 have hn2:N<=24:=by have:=hok.2.1;omega
 have hRO:=fun V h=>zav N A cap bs V (by unfold Fits;omega) h
 rw [zao.2 hok] at hRO
 have HRO:=Zh hRO
 have hal0:=(Below.refl w.heap.size w).alloc (Nat.le_refl _) (.cells #[.int .i64 N,.slice A bs.length cap] 27)
 have hal2:=hal0.alloc hal0.size (.cells #[.int .i64 0,.slice none 0 0] 27)
 have HC0:=Zh ((Cells2.new w (.int .i64 N) (.slice A bs.length cap) 27).alloc (.cells #[.int .i64 0,.slice none 0 0] 27))
 have HZ0:=Zh (Cells2.new_at (w.alloc (.cells #[.int .i64 N,.slice A bs.length cap] 27)) (.int .i64 0) (.slice none 0 0) 27 (w.heap.size+1) (by simp))
 have HB0:=Zh hal2
 have HI0:=Zh (hA.lift hal2)
 have HOK:=Zh hok
 clear hA hal0 hal2 hRO hok
 obtain ⟨c0,c1,_,_,_⟩:=HC0.o
 obtain ⟨z0,z1,_,_,_⟩:=HZ0.o
 have HV:=Zh (show wrdV N bs s=if decide (s.size<=40) && wdB s then some (N,wrdL N s.data.toList (rotL N bs 0)) else none from rfl)
 generalize wrdV N bs s=V at *
 by_cases h40:s.size<=40
 ·have hgt : ¬ (40:Int)<(s.size:Int):=by omega
  have htr:=fun V:World=>Any.strings_Trim_laid Tryz.lays160 Tryz.info116 s ⟨#[84,77,83]⟩ V (by omega) (by decide) (ascii_of_all (by decide))
  rw [show (⟨#[84,77,83]⟩:ByteArray).data.toList=[84,77,83] from rfl] at htr
  rw [decide_eq_true h40,Bool.true_and] at HV
  cases hwd:wdB s
  ·have hne:Lib.trimS s.data.toList [84,77,83]≠[]:=fun e=>by have:=(zqh s).2 e;rw [hwd] at this;cases this
   rw [hwd] at HV
   have HV:=Zh (show V=none from HV.o)
   rw [HV.o]
   generalize Lib.trimS s.data.toList [84,77,83]=T at htr hne
   have heq:(((⟨T.toArray⟩:ByteArray).toList==[]):Bool)=false:=by
    rw [beq_eq_false_iff_ne,Lib.toList_data]
    simpa using hne
   have hem:(⟨T.toArray⟩:ByteArray).toList.isEmpty=false:=by
    rw [Lib.toList_data]
    cases T with
    | nil=>exact absurd rfl hne
    | cons x r=>rfl
   have HTR:=Zh htr
   clear htr hwd hne
   generalize (⟨T.toArray⟩:ByteArray)=X at *
   go_enter Tryz.func47,Tryz.ntmps47
   go_wp2_with fail
   refine (HRO.o _ HI0.o).mono ?_
   rintro e w1 ⟨rfl,hb⟩
   have HB1:=Zh (HB0.o.trans (hb.mono HB0.o.size))
   have HZ1:=Zh (HZ0.o.below hb HZ0.o.2.2.2.2)
   clear hb c0 c1 z0 z1
   go_wp2_with fail
   refine (HTR.o _).mono ?_
   rintro e w2 ⟨rfl,hb⟩
   have HB2:=Zh (HB1.o.trans (hb.mono HB1.o.size))
   have HZ2:=Zh (HZ1.o.below hb HZ1.o.2.2.2.2)
   clear hb
   obtain ⟨z0,z1,_,_,_⟩:=HZ2.o
   go_wp2_with fail
   refine bodyPost_ret (v:=.tuple #[.agg #[.int .i64 0,.slice none 0 0],.bool false]) (by simp [results,Tryz.results47,go_sem,z0,z1]) rfl ?_
   exact RetRhO.none_ ((HB2.o.setCell (p:=⟨w.heap.size+1,0,none⟩) (by show w.heap.size<=w.heap.size+1;omega) _).setCell (p:=⟨w.heap.size+1,1,none⟩) (by show w.heap.size<=w.heap.size+1;omega) _)
  ·rw [(zqh s).1 hwd] at htr
   rw [hwd] at HV
   have HV:=Zh (show V=some (N,wrdL N s.data.toList (rotL N bs 0)) from HV.o)
   rw [HV.o]
   have HTR:=Zh htr
   have HWD:=Zh (fun i (hi:i<s.size)=>show s[i]=84\/s[i]=77\/s[i]=83 by
    have h1:=List.all_eq_true.1 hwd (s.data.toList[i]'(by simpa using hi)) (List.getElem_mem _)
    have h2:s[i]=s.data.toList[i]'(by simpa using hi):=by simp [ByteArray.getElem_eq_getElem_data]
    rw [<- h2] at h1
    simpa [or_assoc] using h1)
   have HR0:=Zh (fun V h=>zej N A cap bs 0 V h HOK.o (by omega))
   have HF0:=Zh (fun (V:World) base B (h:RW V base B (rotL N bs 0))=>h.fitsP (zah HOK.o 0).1)
   have hok0:=(zah HOK.o 0).1
   clear htr hwd
   generalize rotL N bs 0=R0 at *
   have HSN:=Zh (fun i (hi:i<s.size)=>show wrdL N (s.data.toList.take (i+1)) R0=wrdL N [s[i]] (wrdL N (s.data.toList.take i) R0) by
    rw [List.take_succ_eq_append_getElem (by simpa using hi),zqi]
    congr 2)
   have HWO:=Zh (fun i=>zqj (s.data.toList.take i) R0 hok0)
   have HTL:=Zh (show s.data.toList.take s.size=s.data.toList from List.take_of_length_le (by simp))
   have HW0:=Zh (show wrdL N (s.data.toList.take 0) R0=R0 from rfl)
   obtain ⟨G,hG⟩ : ∃ G:Nat->List Int,(fun i=>wrdL N (s.data.toList.take i) R0)=G:=⟨_,rfl⟩
   have hGi : ∀ i,wrdL N (s.data.toList.take i) R0=G i:=fun i=>congrFun hG i
   have HEND:=Zh (show wrdL N s.data.toList R0=G s.size by rw [<- hGi,HTL.o])
   have HG0:=Zh (show G 0=R0 by rw [<- hGi,HW0.o])
   have HGO:=Zh (show ∀ i,RhOk N (G i) from fun i=>by rw [<- hGi];exact HWO.o i)
   have HGS:=Zh (show ∀ i (hi:i<s.size),G (i+1)=wrdL N [s[i]] (G i) from fun i hi=>by rw [<- hGi,<- hGi];exact HSN.o i hi)
   rw [HEND.o]
   clear hG hGi HWO HSN HTL HW0 HEND hok0 HV
   show Calls _ _ _ _ (RetRh2 w N (G s.size) true)
   have hszl:(s.size:Int)<=40:=by omega
   go_enter Tryz.func47,Tryz.ntmps47
   go_wp2_with fail
   refine (HRO.o _ HI0.o).mono ?_
   rintro e w1 ⟨rfl,hb⟩
   have HB1:=Zh (HB0.o.trans (hb.mono HB0.o.size))
   have HC1:=Zh (HC0.o.below hb HC0.o.2.2.2.2)
   have HZ1:=Zh (HZ0.o.below hb HZ0.o.2.2.2.2)
   have HI1:=Zh (HI0.o.lift hb)
   clear hb c0 c1 z0 z1
   go_wp2_with fail
   refine (HTR.o _).mono ?_
   rintro e w2 ⟨rfl,hb⟩
   have HB2:=Zh (HB1.o.trans (hb.mono HB1.o.size))
   have HC2:=Zh (HC1.o.below hb HC1.o.2.2.2.2)
   have HZ2:=Zh (HZ1.o.below hb HZ1.o.2.2.2.2)
   have HI2:=Zh (HI1.o.lift hb)
   clear hb
   obtain ⟨c0,c1,_,_,_⟩:=HC2.o
   go_wp2_with fail
   refine (HR0.o _ HI2.o).mono ?_
   rintro e w3 ⟨A3,k3,rfl,hr,hb⟩
   have HB3:=Zh (HB2.o.trans (hb.mono HB2.o.size))
   have HZ3:=Zh (HZ2.o.below hb HZ2.o.2.2.2.2)
   have HI3:=Zh (HF0.o _ _ _ hr)
   have hlt3:w.heap.size+1<w2.heap.size:=HZ2.o.2.2.2.2
   have HR3:=Zh hr
   have hz3:w2.heap.size<=w3.heap.size:=hb.size
   clear hb hr c0 c1
   obtain ⟨q,hq⟩ : ∃ q,w3.heap.size=q:=⟨_,rfl⟩
   have hal:=(Below.refl w3.heap.size w3).alloc (Nat.le_refl _) (.cells #[.int .i64 N,.slice A3 R0.length k3] 27)
   have HX3:=Zh (Cells2.new w3 (.int .i64 N) (.slice A3 R0.length k3) 27)
   have HB3:=Zh (HB3.o.trans (hal.mono HB3.o.size))
   have HZ3:=Zh (HZ3.o.below hal HZ3.o.2.2.2.2)
   have HI3:=Zh (HI3.o.lift hal)
   have HR3:=Zh (HR3.o.below hal)
   have hqw:w.heap.size+1<q:=by omega
   clear hal
   go_wp2_with fail
   rw [hq] at HX3
   generalize w3.alloc (.cells #[.int .i64 N,.slice A3 R0.length k3] 27)=w4 at *
   clear hq
   go_loopw [26] (fun si wr=>∃ (i:Nat) (B:Option Addr) (k:Nat),i<=s.size/\si = .int .i64 i/\Cells2 wr q (.int .i64 N) (.slice B (G i).length k)/\RW wr (w.heap.size+2) B (G i)/\Cells2 wr (w.heap.size+1) (.int .i64 0) (.slice none 0 0)/\Below w.heap.size w wr) (fun si _=>s.size-(intOf si).toNat)
   case atStart =>
    refine ⟨0,A3,k3,Nat.zero_le _,rfl,?_,?_,HZ3.o,HB3.o⟩
    ·rw [HG0.o];exact HX3.o
    ·rw [HG0.o];exact HR3.o.mono (by omega)
   case round =>
    obtain ⟨i,B,k,hi,rfl,hx,hr,hz,hb⟩:=hrel
    obtain ⟨wo,rfl⟩ : ∃ wo:World,wo=wr:=⟨_,rfl⟩
    have HX:=Zh hx
    have HR:=Zh hr
    have HZ:=Zh hz
    have HB:=Zh hb
    have HIR:=Zh (hr.fitsP (HGO.o i))
    clear hx hr hz hb HX3 HR3 HZ3 HB3 HI3 HB0 HC0 HZ0 HI0 HB1 HC1 HZ1 HI1 HB2 HC2 HZ2 HI2
    obtain ⟨f0,f1,ff0,ff1,hqo⟩:=HX.o
    by_cases hlt:i<s.size
    ·have hlti:(i:Int)<(s.size:Int):=by omega
     have hGS:=HGS.o i hlt
     rcases HWD.o i hlt with h | h | h
     ·have hxc:((s[i]'hlt).toNat:Int)=84:=by rw [h];rfl
      have hm:=fun V hV=>zej N B k (G i) 1 V hV (HGO.o i) (by omega)
      rw [show rotL N (G i) 1=G (i+1) by rw [hGS,h];rfl] at hm
      have HM:=Zh hm
      clear h hm hGS
      go_wp2_with fail
      refine (HM.o _ HIR.o).mono ?_
      rintro e w5 ⟨A5,k5,rfl,hr,hb⟩
      have HX5:=Zh (((HX.o.below hb hqo).set0 (.int .i64 N)).set1 (.slice A5 (G (i+1)).length k5))
      have HZ5:=Zh (((HZ.o.below hb HZ.o.2.2.2.2).far (p:=⟨q,0,none⟩) (by show w.heap.size+1≠q;omega) (.int .i64 N)).far (p:=⟨q,1,none⟩) (by show w.heap.size+1≠q;omega) (.slice A5 (G (i+1)).length k5))
      have HR5:=Zh (((hr.far (p:=⟨q,0,none⟩) hqo (.int .i64 N)).far (p:=⟨q,1,none⟩) hqo (.slice A5 (G (i+1)).length k5)).mono (base':=w.heap.size+2) (by omega))
      have HB5:=Zh (((HB.o.trans (hb.mono HB.o.size)).setCell (p:=⟨q,0,none⟩) (by show w.heap.size<=q;omega) (.int .i64 N)).setCell (p:=⟨q,1,none⟩) (by show w.heap.size<=q;omega) (.slice A5 (G (i+1)).length k5))
      clear f0 f1 ff0 ff1
      obtain ⟨f0,f1,ff0,ff1,_⟩:=HX.o.below hb hqo
      clear hb hr
      go_wp2_with fail
      go_roundw
      case rel=>exact ⟨i+1,A5,k5,by omega,by go_num,HX5.o,HR5.o,HZ5.o,HB5.o⟩
      case measure=>simp [intOf];omega
     ·have hxc:((s[i]'hlt).toNat:Int)=77:=by rw [h];rfl
      have hm:=fun V hV=>zfi N B k (G i) V hV (HGO.o i)
      rw [show mirV N (G i)=G (i+1) by rw [hGS,h];rfl] at hm
      have HM:=Zh hm
      clear h hm hGS
      go_wp2_with fail
      refine (HM.o _ HIR.o).mono ?_
      rintro e w5 ⟨A5,k5,rfl,hr,hb⟩
      have HX5:=Zh (((HX.o.below hb hqo).set0 (.int .i64 N)).set1 (.slice A5 (G (i+1)).length k5))
      have HZ5:=Zh (((HZ.o.below hb HZ.o.2.2.2.2).far (p:=⟨q,0,none⟩) (by show w.heap.size+1≠q;omega) (.int .i64 N)).far (p:=⟨q,1,none⟩) (by show w.heap.size+1≠q;omega) (.slice A5 (G (i+1)).length k5))
      have HR5:=Zh (((hr.far (p:=⟨q,0,none⟩) hqo (.int .i64 N)).far (p:=⟨q,1,none⟩) hqo (.slice A5 (G (i+1)).length k5)).mono (base':=w.heap.size+2) (by omega))
      have HB5:=Zh (((HB.o.trans (hb.mono HB.o.size)).setCell (p:=⟨q,0,none⟩) (by show w.heap.size<=q;omega) (.int .i64 N)).setCell (p:=⟨q,1,none⟩) (by show w.heap.size<=q;omega) (.slice A5 (G (i+1)).length k5))
      clear f0 f1 ff0 ff1
      obtain ⟨f0,f1,ff0,ff1,_⟩:=HX.o.below hb hqo
      clear hb hr
      go_wp2_with fail
      go_roundw
      case rel=>exact ⟨i+1,A5,k5,by omega,by go_num,HX5.o,HR5.o,HZ5.o,HB5.o⟩
      case measure=>simp [intOf];omega
     ·have hxc:((s[i]'hlt).toNat:Int)=83:=by rw [h];rfl
      have hm:=fun V hV=>zlw N B k (G i) V hV hn1 hn2
      rw [show othL N (G i) N=G (i+1) by rw [hGS,h];rfl] at hm
      have HM:=Zh hm
      clear h hm hGS
      go_wp2_with fail
      refine (HM.o _ HIR.o).mono ?_
      rintro e w5 ⟨A5,k5,rfl,hr,hb⟩
      have HX5:=Zh (((HX.o.below hb hqo).set0 (.int .i64 N)).set1 (.slice A5 (G (i+1)).length k5))
      have HZ5:=Zh (((HZ.o.below hb HZ.o.2.2.2.2).far (p:=⟨q,0,none⟩) (by show w.heap.size+1≠q;omega) (.int .i64 N)).far (p:=⟨q,1,none⟩) (by show w.heap.size+1≠q;omega) (.slice A5 (G (i+1)).length k5))
      have HR5:=Zh (((hr.far (p:=⟨q,0,none⟩) hqo (.int .i64 N)).far (p:=⟨q,1,none⟩) hqo (.slice A5 (G (i+1)).length k5)).mono (base':=w.heap.size+2) (by omega))
      have HB5:=Zh (((HB.o.trans (hb.mono HB.o.size)).setCell (p:=⟨q,0,none⟩) (by show w.heap.size<=q;omega) (.int .i64 N)).setCell (p:=⟨q,1,none⟩) (by show w.heap.size<=q;omega) (.slice A5 (G (i+1)).length k5))
      clear f0 f1 ff0 ff1
      obtain ⟨f0,f1,ff0,ff1,_⟩:=HX.o.below hb hqo
      clear hb hr
      go_wp2_with fail
      go_roundw
      case rel=>exact ⟨i+1,A5,k5,by omega,by go_num,HX5.o,HR5.o,HZ5.o,HB5.o⟩
      case measure=>simp [intOf];omega
    ·have hie:i=s.size:=by omega
     subst hie
     obtain ⟨z0,z1,y0,y1,_⟩:=HZ.o
     have HZ5:=Zh ((HZ.o.set0 (.int .i64 N)).set1 (.slice B (G s.size).length k))
     obtain ⟨x0,x1,_,_,_⟩:=HZ5.o
     have HF5:=Zh ((HB.o.setCell (p:=⟨w.heap.size+1,0,none⟩) (by show w.heap.size<=w.heap.size+1;omega) (.int .i64 N)).setCell (p:=⟨w.heap.size+1,1,none⟩) (by show w.heap.size<=w.heap.size+1;omega) (.slice B (G s.size).length k))
     go_wp2_with fail
     refine bodyPost_ret (v:=.tuple #[.agg #[.int .i64 N,.slice B (G s.size).length k],.bool true]) (by simp [results,Tryz.results47,go_sem,x0,x1]) rfl ?_
     exact ⟨_,_,rfl,((HR.o.far (p:=⟨w.heap.size+1,0,none⟩) (by show w.heap.size+1<w.heap.size+2;omega) _).far (p:=⟨w.heap.size+1,1,none⟩) (by show w.heap.size+1<w.heap.size+2;omega) _).mono (by omega),HF5.o⟩
 ·have hgt:(40:Int)<(s.size:Int):=by omega
  rw [decide_eq_false h40,Bool.false_and] at HV
  have HV:=Zh (show V=none from HV.o)
  rw [HV.o]
  go_enter Tryz.func47,Tryz.ntmps47
  go_wp2_with fail
  refine (HRO.o _ HI0.o).mono ?_
  rintro e w1 ⟨rfl,hb⟩
  have HB1:=Zh (HB0.o.trans (hb.mono HB0.o.size))
  have HZ1:=Zh (HZ0.o.below hb HZ0.o.2.2.2.2)
  clear hb c0 c1 z0 z1
  obtain ⟨z0,z1,_,_,_⟩:=HZ1.o
  go_wp2_with fail
  refine bodyPost_ret (v:=.tuple #[.agg #[.int .i64 0,.slice none 0 0],.bool false]) (by simp [results,Tryz.results47,go_sem,z0,z1]) rfl ?_
  exact RetRhO.none_ ((HB1.o.setCell (p:=⟨w.heap.size+1,0,none⟩) (by show w.heap.size<=w.heap.size+1;omega) _).setCell (p:=⟨w.heap.size+1,1,none⟩) (by show w.heap.size<=w.heap.size+1;omega) _)
theorem z4e (b g gw off cap k ca:Nat)(n:Int)(A:Option Addr)(bad:Bool)(us:List ByteArray)(o:Option (Nat × List Int))(w:World)(hC:Con w g n (.slice A k ca) (.slice (some ⟨gw,off,none⟩) us.length cap) bad)(hW:Wds w gw off us)(hi:0<us.length)
  (hbl:b<w.heap.size)(hbg:b≠g)(hbx:w.cell? ⟨b,0,none⟩=some (.pointer (some ⟨g,0,none⟩)))(hok : ∀ N bs,o=some (N,bs)->RhOk N bs)
  (hF:Calls Tryz.prog 47 #[.agg #[.int .i64 n,.slice A k ca],.string (us.getD 0 ⟨#[]⟩)] w.drew (RetRhO w.drew o)) :
  Calls Tryz.prog 46 #[.pointer (some ⟨b,0,none⟩)] w fun e w'=>e = .returned (.string (becT o))/\Bec w' g n (.slice A k ca) (.slice (some ⟨gw,off,none⟩) us.length cap) bad o/\Frm (zaa g) w w':=by
 have hcw:=hW.2 0 hi
 rw [Nat.add_zero] at hcw
 have hu0:(0:Int)<(us.length:Int):=by omega
 have HF:=Zh hF
 have HC:=Zh hC
 have HOK:=Zh hok
 obtain ⟨c0,c1,c2,c3,c4,c5,c6,c7,c8⟩:=hC
 clear hF hok hW
 generalize us.getD 0 ⟨#[]⟩=u at *
 generalize us.length=L at *
 go_enter Tryz.func46,Tryz.ntmps46
 go_wp2_with fail
 (refine wp_region_held_drew (S:=(fun w'=>w'.cell? ⟨b,0,none⟩=some (.pointer (some ⟨g,0,none⟩)))) (by kernel_rfl) ?_ (fun hHeld=>?_);(focus ((try dsimp only);exact hbx)))
 ((refine Zk 0 ?_;(try simp only [Act.put,Zz]));(refine Zk 1 ?_;(try simp only [Act.put,Zz]));(refine Zk 2 ?_;(try simp only [Act.put,Zz]));(refine Zk 3 ?_;(try simp only [Act.put,Zz]));(refine Zk 5 ?_;(try simp only [Act.put,Zz]));(refine Zk 6 ?_;(try simp only [Act.put,Zz]));(refine Zk 7 ?_;(try simp only [Act.put,Zz])))
 refine wpAnyH_ready (rs:=[4,8]) (by kernel_rfl) (by simp) ?_
 refine AllReadyH.cons rfl (fun K hK=>?_) (AllReadyH.cons rfl (fun K hK=>?_) AllReadyH.nil)
 ·
  go_simp
  (refine hK.out _ _ ?_ fun hHeld2=>?_;(focus ((try dsimp only);exact hbx));(clear hK K);(try simp only [Act.put,Zz]))
  (refine wpAnyH_ready (rs:=[8]) (by kernel_rfl) (by simp) ?_;refine AllReadyH.cons rfl (fun K hK=>?_) AllReadyH.nil;go_simp)
  (refine hK.out _ _ ?_ fun hHeld2=>?_;(focus ((try dsimp only);exact hbx));(clear hK K);(try simp only [Act.put,Zz]))
  (refine wpAnyH_ready (rs:=[9]) (by kernel_rfl) (by simp) ?_;refine AllReadyH.cons rfl (fun K hK=>?_) AllReadyH.nil;go_simp)
  (refine hK.out _ _ ?_ fun hHeld2=>?_;(focus ((try dsimp only);exact hbx));(clear hK K);(try simp only [Act.put,Zz]))
  (refine wpAnyH_ready (rs:=[10]) (by kernel_rfl) (by simp) ?_;refine AllReadyH.cons rfl (fun K hK=>?_) AllReadyH.nil;go_simp)
  (refine hK.out _ _ ?_ fun hHeld2=>?_;(focus ((try dsimp only);exact hbx));(clear hK K);(try simp only [Act.put,Zz]))
  (refine wpAnyH_ready (rs:=[11]) (by kernel_rfl) (by simp) ?_;refine AllReadyH.cons rfl (fun K hK=>?_) AllReadyH.nil;go_simp)
  go_at_call 47
  refine HF.o.mono ?_
  rintro e w1 ⟨A1,k1,rfl,hr1,hb0⟩
  have hb1:Below w.heap.size w w1:=⟨hb0.os,hb0.tape,hb0.output,hb0.size,hb0.block⟩
  clear hb0
  have HC1:=Zh (HC.o.below hb1)
  have HR1:=Zh hr1
  have HB1:=Zh hb1
  have hgl:g<w.heap.size:=HC.o.1
  have HBC:=Zh (zbc g n (.slice A k ca) (.slice (some ⟨gw,off,none⟩) L cap) bad o A1 k1 w.heap.size w1 (HC.o.below hb1) hr1 hgl HOK.o)
  have hbx1:w1.cell? ⟨b,0,none⟩=some (.pointer (some ⟨g,0,none⟩)):=(hb1.cell (p:=⟨b,0,none⟩) hbl).trans hbx
  have hbl1:b<w1.heap.size:=Nat.lt_of_lt_of_le hbl hb1.size
  clear hb1 hr1 hcw c0 c1 c2 c3 c4 c5 c6 c7 c8
  go_wp2_with fail
  (refine hK.out _ _ ?_ fun hHeld2=>?_;(focus ((try dsimp only);exact hbx1));(clear hK K);(try simp only [Act.put,Zz]))
  ((refine Zk 12 ?_;(try simp only [Act.put,Zz]));(refine Zk 13 ?_;(try simp only [Act.put,Zz])))
  (refine wpAnyH_ready (rs:=[14]) (by kernel_rfl) (by simp) ?_;refine AllReadyH.cons rfl (fun K hK=>?_) AllReadyH.nil;go_simp)
  go_at_call 26
  refine HBC.o.mono ?_
  rintro e w2 ⟨rfl,hbec,hf2⟩
  have HBE:=Zh hbec
  have HF2:=Zh ((Frm.pure HB1.o (zaa g)).trans hf2)
  have hbx2:w2.cell? ⟨b,0,none⟩=some (.pointer (some ⟨g,0,none⟩)):=(hf2.cell hbl1 (fun e=>hbg e)).trans hbx1
  clear hbec hf2
  go_wp2_with fail
  (refine hK.out _ _ ?_ fun hHeld2=>?_;(focus ((try dsimp only);exact hbx2));(clear hK K);(try simp only [Act.put,Zz]))
  (refine Zk 15 ?_;(try simp only [Act.put,Zz]))
  refine wpAnyH_done (by kernel_rfl) ?_ _
  go_wp2_with fail
  go_ret
  exact ⟨rfl,HBE.o,⟨HF2.o.os,HF2.o.tape,HF2.o.output,HF2.o.size,HF2.o.block⟩⟩
 ·
  go_simp
  (refine hK.out _ _ ?_ fun hHeld2=>?_;(focus ((try dsimp only);exact hbx));(clear hK K);(try simp only [Act.put,Zz]))
  refine wpAnyH_ready (rs:=[4,9]) (by kernel_rfl) (by simp) ?_
  refine AllReadyH.cons rfl (fun K hK=>?_) (AllReadyH.cons rfl (fun K hK=>?_) AllReadyH.nil)
  ·
   go_simp
   (refine hK.out _ _ ?_ fun hHeld2=>?_;(focus ((try dsimp only);exact hbx));(clear hK K);(try simp only [Act.put,Zz]))
   (refine wpAnyH_ready (rs:=[9]) (by kernel_rfl) (by simp) ?_;refine AllReadyH.cons rfl (fun K hK=>?_) AllReadyH.nil;go_simp)
   (refine hK.out _ _ ?_ fun hHeld2=>?_;(focus ((try dsimp only);exact hbx));(clear hK K);(try simp only [Act.put,Zz]))
   (refine wpAnyH_ready (rs:=[10]) (by kernel_rfl) (by simp) ?_;refine AllReadyH.cons rfl (fun K hK=>?_) AllReadyH.nil;go_simp)
   (refine hK.out _ _ ?_ fun hHeld2=>?_;(focus ((try dsimp only);exact hbx));(clear hK K);(try simp only [Act.put,Zz]))
   (refine wpAnyH_ready (rs:=[11]) (by kernel_rfl) (by simp) ?_;refine AllReadyH.cons rfl (fun K hK=>?_) AllReadyH.nil;go_simp)
   go_at_call 47
   refine HF.o.mono ?_
   rintro e w1 ⟨A1,k1,rfl,hr1,hb0⟩
   have hb1:Below w.heap.size w w1:=⟨hb0.os,hb0.tape,hb0.output,hb0.size,hb0.block⟩
   clear hb0
   have HC1:=Zh (HC.o.below hb1)
   have HR1:=Zh hr1
   have HB1:=Zh hb1
   have hgl:g<w.heap.size:=HC.o.1
   have HBC:=Zh (zbc g n (.slice A k ca) (.slice (some ⟨gw,off,none⟩) L cap) bad o A1 k1 w.heap.size w1 (HC.o.below hb1) hr1 hgl HOK.o)
   have hbx1:w1.cell? ⟨b,0,none⟩=some (.pointer (some ⟨g,0,none⟩)):=(hb1.cell (p:=⟨b,0,none⟩) hbl).trans hbx
   have hbl1:b<w1.heap.size:=Nat.lt_of_lt_of_le hbl hb1.size
   clear hb1 hr1 hcw c0 c1 c2 c3 c4 c5 c6 c7 c8
   go_wp2_with fail
   (refine hK.out _ _ ?_ fun hHeld2=>?_;(focus ((try dsimp only);exact hbx1));(clear hK K);(try simp only [Act.put,Zz]))
   ((refine Zk 12 ?_;(try simp only [Act.put,Zz]));(refine Zk 13 ?_;(try simp only [Act.put,Zz])))
   (refine wpAnyH_ready (rs:=[14]) (by kernel_rfl) (by simp) ?_;refine AllReadyH.cons rfl (fun K hK=>?_) AllReadyH.nil;go_simp)
   go_at_call 26
   refine HBC.o.mono ?_
   rintro e w2 ⟨rfl,hbec,hf2⟩
   have HBE:=Zh hbec
   have HF2:=Zh ((Frm.pure HB1.o (zaa g)).trans hf2)
   have hbx2:w2.cell? ⟨b,0,none⟩=some (.pointer (some ⟨g,0,none⟩)):=(hf2.cell hbl1 (fun e=>hbg e)).trans hbx1
   clear hbec hf2
   go_wp2_with fail
   (refine hK.out _ _ ?_ fun hHeld2=>?_;(focus ((try dsimp only);exact hbx2));(clear hK K);(try simp only [Act.put,Zz]))
   (refine Zk 15 ?_;(try simp only [Act.put,Zz]))
   refine wpAnyH_done (by kernel_rfl) ?_ _
   go_wp2_with fail
   go_ret
   exact ⟨rfl,HBE.o,⟨HF2.o.os,HF2.o.tape,HF2.o.output,HF2.o.size,HF2.o.block⟩⟩
  ·
   go_simp
   (refine hK.out _ _ ?_ fun hHeld2=>?_;(focus ((try dsimp only);exact hbx));(clear hK K);(try simp only [Act.put,Zz]))
   refine wpAnyH_ready (rs:=[4,10]) (by kernel_rfl) (by simp) ?_
   refine AllReadyH.cons rfl (fun K hK=>?_) (AllReadyH.cons rfl (fun K hK=>?_) AllReadyH.nil)
   ·
    go_simp
    (refine hK.out _ _ ?_ fun hHeld2=>?_;(focus ((try dsimp only);exact hbx));(clear hK K);(try simp only [Act.put,Zz]))
    (refine wpAnyH_ready (rs:=[10]) (by kernel_rfl) (by simp) ?_;refine AllReadyH.cons rfl (fun K hK=>?_) AllReadyH.nil;go_simp)
    (refine hK.out _ _ ?_ fun hHeld2=>?_;(focus ((try dsimp only);exact hbx));(clear hK K);(try simp only [Act.put,Zz]))
    (refine wpAnyH_ready (rs:=[11]) (by kernel_rfl) (by simp) ?_;refine AllReadyH.cons rfl (fun K hK=>?_) AllReadyH.nil;go_simp)
    go_at_call 47
    refine HF.o.mono ?_
    rintro e w1 ⟨A1,k1,rfl,hr1,hb0⟩
    have hb1:Below w.heap.size w w1:=⟨hb0.os,hb0.tape,hb0.output,hb0.size,hb0.block⟩
    clear hb0
    have HC1:=Zh (HC.o.below hb1)
    have HR1:=Zh hr1
    have HB1:=Zh hb1
    have hgl:g<w.heap.size:=HC.o.1
    have HBC:=Zh (zbc g n (.slice A k ca) (.slice (some ⟨gw,off,none⟩) L cap) bad o A1 k1 w.heap.size w1 (HC.o.below hb1) hr1 hgl HOK.o)
    have hbx1:w1.cell? ⟨b,0,none⟩=some (.pointer (some ⟨g,0,none⟩)):=(hb1.cell (p:=⟨b,0,none⟩) hbl).trans hbx
    have hbl1:b<w1.heap.size:=Nat.lt_of_lt_of_le hbl hb1.size
    clear hb1 hr1 hcw c0 c1 c2 c3 c4 c5 c6 c7 c8
    go_wp2_with fail
    (refine hK.out _ _ ?_ fun hHeld2=>?_;(focus ((try dsimp only);exact hbx1));(clear hK K);(try simp only [Act.put,Zz]))
    ((refine Zk 12 ?_;(try simp only [Act.put,Zz]));(refine Zk 13 ?_;(try simp only [Act.put,Zz])))
    (refine wpAnyH_ready (rs:=[14]) (by kernel_rfl) (by simp) ?_;refine AllReadyH.cons rfl (fun K hK=>?_) AllReadyH.nil;go_simp)
    go_at_call 26
    refine HBC.o.mono ?_
    rintro e w2 ⟨rfl,hbec,hf2⟩
    have HBE:=Zh hbec
    have HF2:=Zh ((Frm.pure HB1.o (zaa g)).trans hf2)
    have hbx2:w2.cell? ⟨b,0,none⟩=some (.pointer (some ⟨g,0,none⟩)):=(hf2.cell hbl1 (fun e=>hbg e)).trans hbx1
    clear hbec hf2
    go_wp2_with fail
    (refine hK.out _ _ ?_ fun hHeld2=>?_;(focus ((try dsimp only);exact hbx2));(clear hK K);(try simp only [Act.put,Zz]))
    (refine Zk 15 ?_;(try simp only [Act.put,Zz]))
    refine wpAnyH_done (by kernel_rfl) ?_ _
    go_wp2_with fail
    go_ret
    exact ⟨rfl,HBE.o,⟨HF2.o.os,HF2.o.tape,HF2.o.output,HF2.o.size,HF2.o.block⟩⟩
   ·
    go_simp
    (refine hK.out _ _ ?_ fun hHeld2=>?_;(focus ((try dsimp only);exact hbx));(clear hK K);(try simp only [Act.put,Zz]))
    (refine wpAnyH_ready (rs:=[4]) (by kernel_rfl) (by simp) ?_;refine AllReadyH.cons rfl (fun K hK=>?_) AllReadyH.nil;go_simp)
    (refine hK.out _ _ ?_ fun hHeld2=>?_;(focus ((try dsimp only);exact hbx));(clear hK K);(try simp only [Act.put,Zz]))
    (refine wpAnyH_ready (rs:=[11]) (by kernel_rfl) (by simp) ?_;refine AllReadyH.cons rfl (fun K hK=>?_) AllReadyH.nil;go_simp)
    go_at_call 47
    refine HF.o.mono ?_
    rintro e w1 ⟨A1,k1,rfl,hr1,hb0⟩
    have hb1:Below w.heap.size w w1:=⟨hb0.os,hb0.tape,hb0.output,hb0.size,hb0.block⟩
    clear hb0
    have HC1:=Zh (HC.o.below hb1)
    have HR1:=Zh hr1
    have HB1:=Zh hb1
    have hgl:g<w.heap.size:=HC.o.1
    have HBC:=Zh (zbc g n (.slice A k ca) (.slice (some ⟨gw,off,none⟩) L cap) bad o A1 k1 w.heap.size w1 (HC.o.below hb1) hr1 hgl HOK.o)
    have hbx1:w1.cell? ⟨b,0,none⟩=some (.pointer (some ⟨g,0,none⟩)):=(hb1.cell (p:=⟨b,0,none⟩) hbl).trans hbx
    have hbl1:b<w1.heap.size:=Nat.lt_of_lt_of_le hbl hb1.size
    clear hb1 hr1 hcw c0 c1 c2 c3 c4 c5 c6 c7 c8
    go_wp2_with fail
    (refine hK.out _ _ ?_ fun hHeld2=>?_;(focus ((try dsimp only);exact hbx1));(clear hK K);(try simp only [Act.put,Zz]))
    ((refine Zk 12 ?_;(try simp only [Act.put,Zz]));(refine Zk 13 ?_;(try simp only [Act.put,Zz])))
    (refine wpAnyH_ready (rs:=[14]) (by kernel_rfl) (by simp) ?_;refine AllReadyH.cons rfl (fun K hK=>?_) AllReadyH.nil;go_simp)
    go_at_call 26
    refine HBC.o.mono ?_
    rintro e w2 ⟨rfl,hbec,hf2⟩
    have HBE:=Zh hbec
    have HF2:=Zh ((Frm.pure HB1.o (zaa g)).trans hf2)
    have hbx2:w2.cell? ⟨b,0,none⟩=some (.pointer (some ⟨g,0,none⟩)):=(hf2.cell hbl1 (fun e=>hbg e)).trans hbx1
    clear hbec hf2
    go_wp2_with fail
    (refine hK.out _ _ ?_ fun hHeld2=>?_;(focus ((try dsimp only);exact hbx2));(clear hK K);(try simp only [Act.put,Zz]))
    (refine Zk 15 ?_;(try simp only [Act.put,Zz]))
    refine wpAnyH_done (by kernel_rfl) ?_ _
    go_wp2_with fail
    go_ret
    exact ⟨rfl,HBE.o,⟨HF2.o.os,HF2.o.tape,HF2.o.output,HF2.o.size,HF2.o.block⟩⟩
theorem z4f:zas 6:=by
 intro N bs A ca us gw off cap g b B V p har
 have har:us.length=1:=har
 have hl:us.length<=1048577:=by omega
 show Calls Tryz.prog 38 #[.pointer (some ⟨b,0,none⟩)] V _
 refine (z2q b g gw off cap bs.length ca N A false us (strV N bs ((zae us 0).getD 0)) V p.con p.wds (by omega) p.siz hl p.env0.1 p.env0.2.1 p.bl p.bg p.bx (fun _ _ h=>zj2 p.ok h) (fun V' h=>z3w N A ca bs _ V' (p.intsF h) p.ok)).mono ?_
 rintro e w' ⟨rfl,h1,h2⟩
 exact ⟨rfl,h1.lft (fun _ _ h=>zj2 p.ok h),h2⟩
theorem z4g:zas 7:=by
 intro N bs A ca us gw off cap g b B V p har
 have har:us.length=1:=har
 have hl:us.length<=1048577:=by omega
 show Calls Tryz.prog 40 #[.pointer (some ⟨b,0,none⟩)] V _
 refine (z2r b g gw off cap bs.length ca N A false us (rptV N bs ((zae us 0).getD 0)) V p.con p.wds (by omega) p.siz hl p.env0.1 p.env0.2.1 p.bl p.bg p.bx (fun _ _ h=>zj1 p.ok h) (fun V' h=>z4a N A ca bs _ V' (p.intsF h) p.ok)).mono ?_
 rintro e w' ⟨rfl,h1,h2⟩
 exact ⟨rfl,h1.lft (fun _ _ h=>zj1 p.ok h),h2⟩
theorem z4h:zas 8:=by
 intro N bs A ca us gw off cap g b B V p har
 have har:us.length=1:=har
 have hl:us.length<=1048577:=by omega
 show Calls Tryz.prog 42 #[.pointer (some ⟨b,0,none⟩)] V _
 refine (z2s b g gw off cap bs.length ca N A false us (phaV N bs ((zae us 0).getD 0)) V p.con p.wds (by omega) p.siz hl p.env0.1 p.env0.2.1 p.bl p.bg p.bx (fun _ _ h=>zj3 p.ok h) (fun V' h=>z4c N A ca bs _ V' (p.intsF h) p.ok)).mono ?_
 rintro e w' ⟨rfl,h1,h2⟩
 exact ⟨rfl,h1.lft (fun _ _ h=>zj3 p.ok h),h2⟩
theorem z4i:zas 10:=by
 intro N bs A ca us gw off cap g b B V p har
 have har:us.length=1:=har
 have hl:us.length<=1048577:=by omega
 show Calls Tryz.prog 46 #[.pointer (some ⟨b,0,none⟩)] V _
 refine (z4e b g gw off cap bs.length ca N A false us (wrdV N bs (us.getD 0 ⟨#[]⟩)) V p.con p.wds (by omega) p.bl p.bg p.bx (fun _ _ h=>zj4 p.ok h) (z4d N A ca bs _ V.drew (p.intsF (zgs _ V)) p.ok (p.siz _ (by
  rw [List.getD_eq_getElem?_getD,List.getElem?_eq_getElem (by omega:0<us.length)]
  exact List.getElem_mem _)))).mono ?_
 rintro e w' ⟨rfl,h1,h2⟩
 exact ⟨rfl,h1.lft (fun _ _ h=>zj4 p.ok h),h2⟩
theorem z4j : ∀ i,i<28->zas i
 | 0,_=>z23
 | 1,_=>z26
 | 2,_=>z29
 | 3,_=>z3a
 | 4,_=>z3b
 | 5,_=>z3c
 | 6,_=>z4f
 | 7,_=>z4g
 | 8,_=>z4h
 | 9,_=>z3d
 | 10,_=>z4i
 | 11,_=>z3e
 | 12,_=>z3f
 | 13,_=>z3g
 | 14,_=>z3h
 | 15,_=>z3i
 | 16,_=>z3j
 | 17,_=>z3k
 | 18,_=>z3l
 | 19,_=>z3m
 | 20,_=>z3n
 | 21,_=>z3o
 | 22,_=>z3p
 | 23,_=>z3q
 | 24,_=>z3r
 | 25,_=>z3s
 | 26,_=>z3t
 | 27,_=>z3u
 | n+28,h=>absurd h (by omega)
theorem zqk {k:Txt}{i:Nat}(h:fndK k=some i):zas i:=z4j i (zgn h).1
end Go.Proofs.YtjpnjchpdkogbaaGreatDoor
