/- Parts of the proof of the card of the law FnConsole. -/
import Derived.Test.YtjpnjchpdkogbaaGreatDoorG26
set_option linter.unusedVariables false
set_option linter.unusedSimpArgs false
set_option maxRecDepth 1000000
set_option maxHeartbeats 8000000
namespace Go.Proofs.YtjpnjchpdkogbaaGreatDoor
open Go.RowKit Go.Maps
theorem z4k (g gw off cap:Nat)(n:Int)(R:Value)(L:Nat)(cmd:ByteArray)(w:World)(hC:Con w g n R (.slice (some ⟨gw,off,none⟩) L cap) false)(hl:L<=1048577)(hcs:cmd.size<=1048576)(hP : ∀ V,Frm (zaa g) w V->Pow V)
  (i:Nat)(hfn:fndK (cmd.data.toList++[32]++itoL (L:Int))=some i)(T:ByteArray)(Post:World->Prop)
  (hF : ∀ V b,w.heap.size<=b->b<V.heap.size->V.cell? ⟨b,0,none⟩=some (.pointer (some ⟨g,0,none⟩))->Below w.heap.size w V->Calls Tryz.prog (cloF i) (cloA b g i) V fun e w'=>e = .returned (.string T)/\Post w') :
  Calls Tryz.prog 14 #[.pointer (some ⟨g,0,none⟩),.string cmd] w fun e w'=>e = .returned (.string T)/\Post w':=by
 have HLK:=Zh (z10 hfn w.heap.size g)
 have HI:=Zh (zgn hfn).1
 have HFF:=Zh hF
 clear hF
 have hgl:=hC.1
 have HC0:=Zh hC
 have HPW:=Zh hP
 have HFT:=Zh (show Fits (L:Int) by unfold Fits;omega)
 have hitl:=(zbe (L:Int) HFT.o)
 have HFI:=Zh (fun V (h:Pow V)=>zbq (L:Int) HFT.o V h)
 have HKS:=Zh (show ((cmd++⟨#[32]⟩)++mkS (itoL (L:Int))).size<=maxLen by rw [zgo];unfold maxLen;omega)
 have HKC:=Zh (zp7 cmd (itoL (L:Int)))
 have HBX:=Zh ((Below.refl w.heap.size w).alloc (Nat.le_refl _) (.cells #[.pointer (some ⟨g,0,none⟩)] 42))
 have HXB:=Zh (zag w (.pointer (some ⟨g,0,none⟩)) 42)
 have HG2:=Zh ((HC0.o.below HBX.o).2.2.2.1)
 have hL:=Lit28.made (w.alloc (.cells #[.pointer (some ⟨g,0,none⟩)] 42)) (w.heap.size+1) (by simp)
 have hx1:0=0:=rfl
 have hx2:0=0:=rfl
 have hmm:=@run_makeMap Tryz.prog
 have hkz:=zgo cmd (itoL (L:Int))
 have hmz:(mkS (itoL (L:Int))).size=(itoL (L:Int)).length:=za2 _
 have hks : ¬ 9223372036854775807<cmd.size+1:=by omega
 have hks2 : ¬ 9223372036854775807<cmd.size+1+(mkS (itoL (L:Int))).size:=by omega
 clear hC hP hfn hkz hmz
 generalize itoL (L:Int)=tl at *
 go_enter Tryz.func14,Tryz.ntmps14
 go_wp2_with (refine zp5 rfl _ _ _ rfl (w.alloc (.cells #[.pointer (some ⟨g,0,none⟩)] 42)) (w.heap.size+1) _ _ rfl hL (by decide) _ (by decide) _ rfl rfl w.heap.size _ (by omega) HXB.o g _ (by omega) HG2.o ?_;clear hL hx1 hx2;intro w1 hL hx1 hx2)
 have HL1:=Zh (show Lit28 (w.alloc (.cells #[.pointer (some ⟨g,0,none⟩)] 42)) w1 (w.heap.size+1) 28 (es28 w.heap.size g) from hL.cast rfl (by kernel_rfl))
 have HBW:=Zh (HBX.o.trans (HL1.o.2.1.mono (Nat.le_succ _)))
 refine (HFI.o w1 (HPW.o _ (Frm.pure HBW.o _))).mono ?_
 rintro e w2 ⟨rfl,hb2⟩
 have HL2:=Zh (HL1.o.below hb2)
 have HB1:=Zh (HBW.o.trans (hb2.mono HBW.o.size))
 have HC1:=Zh (HC0.o.below HB1.o)
 have HF1:=Zh (Frm.pure HB1.o (zaa g))
 have hx3:=(HL2.o.2.1.cell (p:=⟨w.heap.size,0,none⟩) (Nat.lt_succ_self _)).trans HXB.o
 obtain ⟨c0,c1,c2,c3,c4,c5,c6,c7,c8⟩:=HC1.o
 clear hL hx1 hx2 hb2 HL1 HBW HFI HXB HG2 HBX
 have HCL:=Zh (HFF.o w2 w.heap.size (Nat.le_refl _) (Nat.lt_of_lt_of_le (Nat.lt_succ_self _) (Nat.le_of_lt HL2.o.2.2)) hx3 HB1.o)
 have hil:=HI.o
 clear HF1 HC1 HB1 hx3
 match i,hil with
 | 0,_ =>
  have HX:=Zh (show Calls Tryz.prog 25 #[.pointer (some ⟨w.heap.size,0,none⟩)] w2 fun e w'=>e = .returned (.string T)/\Post w' from HCL.o)
  have HLA:=Zh (show (putL (es28 w.heap.size g)).atKey (.string (cmd.data.toList++[32]++tl)) (.held .nilFunc) = .held (.func (.func 25) #[] #[.pointer (some ⟨w.heap.size,0,none⟩)]) from HLK.o.2)
  clear HCL
  go_wp2_with (refine zax rfl _ _ rfl (w.alloc (.cells #[.pointer (some ⟨g,0,none⟩)] 42)) (w.heap.size+1) _ _ rfl HL2.o _ HKS.o rfl (.func (.func 25) #[] #[.pointer (some ⟨w.heap.size,0,none⟩)]) true (by rw [HKC.o];exact HLK.o.1) (by rw [HKC.o];exact HLA.o) ?_)
  refine HX.o.mono ?_
  rintro e w9 ⟨rfl,hpo⟩
  go_wp2_with fail
  go_ret
  exact ⟨rfl,hpo⟩
 | 1,_ =>
  have HX:=Zh (show Calls Tryz.prog 27 #[.pointer (some ⟨w.heap.size,0,none⟩)] w2 fun e w'=>e = .returned (.string T)/\Post w' from HCL.o)
  have HLA:=Zh (show (putL (es28 w.heap.size g)).atKey (.string (cmd.data.toList++[32]++tl)) (.held .nilFunc) = .held (.func (.func 27) #[] #[.pointer (some ⟨w.heap.size,0,none⟩)]) from HLK.o.2)
  clear HCL
  go_wp2_with (refine zax rfl _ _ rfl (w.alloc (.cells #[.pointer (some ⟨g,0,none⟩)] 42)) (w.heap.size+1) _ _ rfl HL2.o _ HKS.o rfl (.func (.func 27) #[] #[.pointer (some ⟨w.heap.size,0,none⟩)]) true (by rw [HKC.o];exact HLK.o.1) (by rw [HKC.o];exact HLA.o) ?_)
  refine HX.o.mono ?_
  rintro e w9 ⟨rfl,hpo⟩
  go_wp2_with fail
  go_ret
  exact ⟨rfl,hpo⟩
 | 2,_ =>
  have HX:=Zh (show Calls Tryz.prog 30 #[.pointer (some ⟨w.heap.size,0,none⟩)] w2 fun e w'=>e = .returned (.string T)/\Post w' from HCL.o)
  have HLA:=Zh (show (putL (es28 w.heap.size g)).atKey (.string (cmd.data.toList++[32]++tl)) (.held .nilFunc) = .held (.func (.func 30) #[] #[.pointer (some ⟨w.heap.size,0,none⟩)]) from HLK.o.2)
  clear HCL
  go_wp2_with (refine zax rfl _ _ rfl (w.alloc (.cells #[.pointer (some ⟨g,0,none⟩)] 42)) (w.heap.size+1) _ _ rfl HL2.o _ HKS.o rfl (.func (.func 30) #[] #[.pointer (some ⟨w.heap.size,0,none⟩)]) true (by rw [HKC.o];exact HLK.o.1) (by rw [HKC.o];exact HLA.o) ?_)
  refine HX.o.mono ?_
  rintro e w9 ⟨rfl,hpo⟩
  go_wp2_with fail
  go_ret
  exact ⟨rfl,hpo⟩
 | 3,_ =>
  have HX:=Zh (show Calls Tryz.prog 32 #[.pointer (some ⟨w.heap.size,0,none⟩)] w2 fun e w'=>e = .returned (.string T)/\Post w' from HCL.o)
  have HLA:=Zh (show (putL (es28 w.heap.size g)).atKey (.string (cmd.data.toList++[32]++tl)) (.held .nilFunc) = .held (.func (.func 32) #[] #[.pointer (some ⟨w.heap.size,0,none⟩)]) from HLK.o.2)
  clear HCL
  go_wp2_with (refine zax rfl _ _ rfl (w.alloc (.cells #[.pointer (some ⟨g,0,none⟩)] 42)) (w.heap.size+1) _ _ rfl HL2.o _ HKS.o rfl (.func (.func 32) #[] #[.pointer (some ⟨w.heap.size,0,none⟩)]) true (by rw [HKC.o];exact HLK.o.1) (by rw [HKC.o];exact HLA.o) ?_)
  refine HX.o.mono ?_
  rintro e w9 ⟨rfl,hpo⟩
  go_wp2_with fail
  go_ret
  exact ⟨rfl,hpo⟩
 | 4,_ =>
  have HX:=Zh (show Calls Tryz.prog 34 #[.pointer (some ⟨w.heap.size,0,none⟩)] w2 fun e w'=>e = .returned (.string T)/\Post w' from HCL.o)
  have HLA:=Zh (show (putL (es28 w.heap.size g)).atKey (.string (cmd.data.toList++[32]++tl)) (.held .nilFunc) = .held (.func (.func 34) #[] #[.pointer (some ⟨w.heap.size,0,none⟩)]) from HLK.o.2)
  clear HCL
  go_wp2_with (refine zax rfl _ _ rfl (w.alloc (.cells #[.pointer (some ⟨g,0,none⟩)] 42)) (w.heap.size+1) _ _ rfl HL2.o _ HKS.o rfl (.func (.func 34) #[] #[.pointer (some ⟨w.heap.size,0,none⟩)]) true (by rw [HKC.o];exact HLK.o.1) (by rw [HKC.o];exact HLA.o) ?_)
  refine HX.o.mono ?_
  rintro e w9 ⟨rfl,hpo⟩
  go_wp2_with fail
  go_ret
  exact ⟨rfl,hpo⟩
 | 5,_ =>
  have HX:=Zh (show Calls Tryz.prog 36 #[.pointer (some ⟨w.heap.size,0,none⟩)] w2 fun e w'=>e = .returned (.string T)/\Post w' from HCL.o)
  have HLA:=Zh (show (putL (es28 w.heap.size g)).atKey (.string (cmd.data.toList++[32]++tl)) (.held .nilFunc) = .held (.func (.func 36) #[] #[.pointer (some ⟨w.heap.size,0,none⟩)]) from HLK.o.2)
  clear HCL
  go_wp2_with (refine zax rfl _ _ rfl (w.alloc (.cells #[.pointer (some ⟨g,0,none⟩)] 42)) (w.heap.size+1) _ _ rfl HL2.o _ HKS.o rfl (.func (.func 36) #[] #[.pointer (some ⟨w.heap.size,0,none⟩)]) true (by rw [HKC.o];exact HLK.o.1) (by rw [HKC.o];exact HLA.o) ?_)
  refine HX.o.mono ?_
  rintro e w9 ⟨rfl,hpo⟩
  go_wp2_with fail
  go_ret
  exact ⟨rfl,hpo⟩
 | 6,_ =>
  have HX:=Zh (show Calls Tryz.prog 38 #[.pointer (some ⟨w.heap.size,0,none⟩)] w2 fun e w'=>e = .returned (.string T)/\Post w' from HCL.o)
  have HLA:=Zh (show (putL (es28 w.heap.size g)).atKey (.string (cmd.data.toList++[32]++tl)) (.held .nilFunc) = .held (.func (.func 38) #[] #[.pointer (some ⟨w.heap.size,0,none⟩)]) from HLK.o.2)
  clear HCL
  go_wp2_with (refine zax rfl _ _ rfl (w.alloc (.cells #[.pointer (some ⟨g,0,none⟩)] 42)) (w.heap.size+1) _ _ rfl HL2.o _ HKS.o rfl (.func (.func 38) #[] #[.pointer (some ⟨w.heap.size,0,none⟩)]) true (by rw [HKC.o];exact HLK.o.1) (by rw [HKC.o];exact HLA.o) ?_)
  refine HX.o.mono ?_
  rintro e w9 ⟨rfl,hpo⟩
  go_wp2_with fail
  go_ret
  exact ⟨rfl,hpo⟩
 | 7,_ =>
  have HX:=Zh (show Calls Tryz.prog 40 #[.pointer (some ⟨w.heap.size,0,none⟩)] w2 fun e w'=>e = .returned (.string T)/\Post w' from HCL.o)
  have HLA:=Zh (show (putL (es28 w.heap.size g)).atKey (.string (cmd.data.toList++[32]++tl)) (.held .nilFunc) = .held (.func (.func 40) #[] #[.pointer (some ⟨w.heap.size,0,none⟩)]) from HLK.o.2)
  clear HCL
  go_wp2_with (refine zax rfl _ _ rfl (w.alloc (.cells #[.pointer (some ⟨g,0,none⟩)] 42)) (w.heap.size+1) _ _ rfl HL2.o _ HKS.o rfl (.func (.func 40) #[] #[.pointer (some ⟨w.heap.size,0,none⟩)]) true (by rw [HKC.o];exact HLK.o.1) (by rw [HKC.o];exact HLA.o) ?_)
  refine HX.o.mono ?_
  rintro e w9 ⟨rfl,hpo⟩
  go_wp2_with fail
  go_ret
  exact ⟨rfl,hpo⟩
 | 8,_ =>
  have HX:=Zh (show Calls Tryz.prog 42 #[.pointer (some ⟨w.heap.size,0,none⟩)] w2 fun e w'=>e = .returned (.string T)/\Post w' from HCL.o)
  have HLA:=Zh (show (putL (es28 w.heap.size g)).atKey (.string (cmd.data.toList++[32]++tl)) (.held .nilFunc) = .held (.func (.func 42) #[] #[.pointer (some ⟨w.heap.size,0,none⟩)]) from HLK.o.2)
  clear HCL
  go_wp2_with (refine zax rfl _ _ rfl (w.alloc (.cells #[.pointer (some ⟨g,0,none⟩)] 42)) (w.heap.size+1) _ _ rfl HL2.o _ HKS.o rfl (.func (.func 42) #[] #[.pointer (some ⟨w.heap.size,0,none⟩)]) true (by rw [HKC.o];exact HLK.o.1) (by rw [HKC.o];exact HLA.o) ?_)
  refine HX.o.mono ?_
  rintro e w9 ⟨rfl,hpo⟩
  go_wp2_with fail
  go_ret
  exact ⟨rfl,hpo⟩
 | 9,_ =>
  have HX:=Zh (show Calls Tryz.prog 44 #[.pointer (some ⟨w.heap.size,0,none⟩)] w2 fun e w'=>e = .returned (.string T)/\Post w' from HCL.o)
  have HLA:=Zh (show (putL (es28 w.heap.size g)).atKey (.string (cmd.data.toList++[32]++tl)) (.held .nilFunc) = .held (.func (.func 44) #[] #[.pointer (some ⟨w.heap.size,0,none⟩)]) from HLK.o.2)
  clear HCL
  go_wp2_with (refine zax rfl _ _ rfl (w.alloc (.cells #[.pointer (some ⟨g,0,none⟩)] 42)) (w.heap.size+1) _ _ rfl HL2.o _ HKS.o rfl (.func (.func 44) #[] #[.pointer (some ⟨w.heap.size,0,none⟩)]) true (by rw [HKC.o];exact HLK.o.1) (by rw [HKC.o];exact HLA.o) ?_)
  refine HX.o.mono ?_
  rintro e w9 ⟨rfl,hpo⟩
  go_wp2_with fail
  go_ret
  exact ⟨rfl,hpo⟩
 | 10,_ =>
  have HX:=Zh (show Calls Tryz.prog 46 #[.pointer (some ⟨w.heap.size,0,none⟩)] w2 fun e w'=>e = .returned (.string T)/\Post w' from HCL.o)
  have HLA:=Zh (show (putL (es28 w.heap.size g)).atKey (.string (cmd.data.toList++[32]++tl)) (.held .nilFunc) = .held (.func (.func 46) #[] #[.pointer (some ⟨w.heap.size,0,none⟩)]) from HLK.o.2)
  clear HCL
  go_wp2_with (refine zax rfl _ _ rfl (w.alloc (.cells #[.pointer (some ⟨g,0,none⟩)] 42)) (w.heap.size+1) _ _ rfl HL2.o _ HKS.o rfl (.func (.func 46) #[] #[.pointer (some ⟨w.heap.size,0,none⟩)]) true (by rw [HKC.o];exact HLK.o.1) (by rw [HKC.o];exact HLA.o) ?_)
  refine HX.o.mono ?_
  rintro e w9 ⟨rfl,hpo⟩
  go_wp2_with fail
  go_ret
  exact ⟨rfl,hpo⟩
 | 11,_ =>
  have HX:=Zh (show Calls Tryz.prog 48 #[.pointer (some ⟨w.heap.size,0,none⟩)] w2 fun e w'=>e = .returned (.string T)/\Post w' from HCL.o)
  have HLA:=Zh (show (putL (es28 w.heap.size g)).atKey (.string (cmd.data.toList++[32]++tl)) (.held .nilFunc) = .held (.func (.func 48) #[] #[.pointer (some ⟨w.heap.size,0,none⟩)]) from HLK.o.2)
  clear HCL
  go_wp2_with (refine zax rfl _ _ rfl (w.alloc (.cells #[.pointer (some ⟨g,0,none⟩)] 42)) (w.heap.size+1) _ _ rfl HL2.o _ HKS.o rfl (.func (.func 48) #[] #[.pointer (some ⟨w.heap.size,0,none⟩)]) true (by rw [HKC.o];exact HLK.o.1) (by rw [HKC.o];exact HLA.o) ?_)
  refine HX.o.mono ?_
  rintro e w9 ⟨rfl,hpo⟩
  go_wp2_with fail
  go_ret
  exact ⟨rfl,hpo⟩
 | 12,_ =>
  have HX:=Zh (show Calls Tryz.prog 50 #[.pointer (some ⟨g,0,none⟩)] w2 fun e w'=>e = .returned (.string T)/\Post w' from HCL.o)
  have HLA:=Zh (show (putL (es28 w.heap.size g)).atKey (.string (cmd.data.toList++[32]++tl)) (.held .nilFunc) = .held (.func (.func 50) #[.pointer (some ⟨g,0,none⟩)] #[]) from HLK.o.2)
  clear HCL
  go_wp2_with (refine zax rfl _ _ rfl (w.alloc (.cells #[.pointer (some ⟨g,0,none⟩)] 42)) (w.heap.size+1) _ _ rfl HL2.o _ HKS.o rfl (.func (.func 50) #[.pointer (some ⟨g,0,none⟩)] #[]) true (by rw [HKC.o];exact HLK.o.1) (by rw [HKC.o];exact HLA.o) ?_)
  refine HX.o.mono ?_
  rintro e w9 ⟨rfl,hpo⟩
  go_wp2_with fail
  go_ret
  exact ⟨rfl,hpo⟩
 | 13,_ =>
  have HX:=Zh (show Calls Tryz.prog 51 #[.pointer (some ⟨w.heap.size,0,none⟩)] w2 fun e w'=>e = .returned (.string T)/\Post w' from HCL.o)
  have HLA:=Zh (show (putL (es28 w.heap.size g)).atKey (.string (cmd.data.toList++[32]++tl)) (.held .nilFunc) = .held (.func (.func 51) #[] #[.pointer (some ⟨w.heap.size,0,none⟩)]) from HLK.o.2)
  clear HCL
  go_wp2_with (refine zax rfl _ _ rfl (w.alloc (.cells #[.pointer (some ⟨g,0,none⟩)] 42)) (w.heap.size+1) _ _ rfl HL2.o _ HKS.o rfl (.func (.func 51) #[] #[.pointer (some ⟨w.heap.size,0,none⟩)]) true (by rw [HKC.o];exact HLK.o.1) (by rw [HKC.o];exact HLA.o) ?_)
  refine HX.o.mono ?_
  rintro e w9 ⟨rfl,hpo⟩
  go_wp2_with fail
  go_ret
  exact ⟨rfl,hpo⟩
 | 14,_ =>
  have HX:=Zh (show Calls Tryz.prog 53 #[.pointer (some ⟨w.heap.size,0,none⟩)] w2 fun e w'=>e = .returned (.string T)/\Post w' from HCL.o)
  have HLA:=Zh (show (putL (es28 w.heap.size g)).atKey (.string (cmd.data.toList++[32]++tl)) (.held .nilFunc) = .held (.func (.func 53) #[] #[.pointer (some ⟨w.heap.size,0,none⟩)]) from HLK.o.2)
  clear HCL
  go_wp2_with (refine zax rfl _ _ rfl (w.alloc (.cells #[.pointer (some ⟨g,0,none⟩)] 42)) (w.heap.size+1) _ _ rfl HL2.o _ HKS.o rfl (.func (.func 53) #[] #[.pointer (some ⟨w.heap.size,0,none⟩)]) true (by rw [HKC.o];exact HLK.o.1) (by rw [HKC.o];exact HLA.o) ?_)
  refine HX.o.mono ?_
  rintro e w9 ⟨rfl,hpo⟩
  go_wp2_with fail
  go_ret
  exact ⟨rfl,hpo⟩
 | 15,_ =>
  have HX:=Zh (show Calls Tryz.prog 55 #[.pointer (some ⟨w.heap.size,0,none⟩)] w2 fun e w'=>e = .returned (.string T)/\Post w' from HCL.o)
  have HLA:=Zh (show (putL (es28 w.heap.size g)).atKey (.string (cmd.data.toList++[32]++tl)) (.held .nilFunc) = .held (.func (.func 55) #[] #[.pointer (some ⟨w.heap.size,0,none⟩)]) from HLK.o.2)
  clear HCL
  go_wp2_with (refine zax rfl _ _ rfl (w.alloc (.cells #[.pointer (some ⟨g,0,none⟩)] 42)) (w.heap.size+1) _ _ rfl HL2.o _ HKS.o rfl (.func (.func 55) #[] #[.pointer (some ⟨w.heap.size,0,none⟩)]) true (by rw [HKC.o];exact HLK.o.1) (by rw [HKC.o];exact HLA.o) ?_)
  refine HX.o.mono ?_
  rintro e w9 ⟨rfl,hpo⟩
  go_wp2_with fail
  go_ret
  exact ⟨rfl,hpo⟩
 | 16,_ =>
  have HX:=Zh (show Calls Tryz.prog 57 #[.pointer (some ⟨w.heap.size,0,none⟩)] w2 fun e w'=>e = .returned (.string T)/\Post w' from HCL.o)
  have HLA:=Zh (show (putL (es28 w.heap.size g)).atKey (.string (cmd.data.toList++[32]++tl)) (.held .nilFunc) = .held (.func (.func 57) #[] #[.pointer (some ⟨w.heap.size,0,none⟩)]) from HLK.o.2)
  clear HCL
  go_wp2_with (refine zax rfl _ _ rfl (w.alloc (.cells #[.pointer (some ⟨g,0,none⟩)] 42)) (w.heap.size+1) _ _ rfl HL2.o _ HKS.o rfl (.func (.func 57) #[] #[.pointer (some ⟨w.heap.size,0,none⟩)]) true (by rw [HKC.o];exact HLK.o.1) (by rw [HKC.o];exact HLA.o) ?_)
  refine HX.o.mono ?_
  rintro e w9 ⟨rfl,hpo⟩
  go_wp2_with fail
  go_ret
  exact ⟨rfl,hpo⟩
 | 17,_ =>
  have HX:=Zh (show Calls Tryz.prog 59 #[.pointer (some ⟨w.heap.size,0,none⟩)] w2 fun e w'=>e = .returned (.string T)/\Post w' from HCL.o)
  have HLA:=Zh (show (putL (es28 w.heap.size g)).atKey (.string (cmd.data.toList++[32]++tl)) (.held .nilFunc) = .held (.func (.func 59) #[] #[.pointer (some ⟨w.heap.size,0,none⟩)]) from HLK.o.2)
  clear HCL
  go_wp2_with (refine zax rfl _ _ rfl (w.alloc (.cells #[.pointer (some ⟨g,0,none⟩)] 42)) (w.heap.size+1) _ _ rfl HL2.o _ HKS.o rfl (.func (.func 59) #[] #[.pointer (some ⟨w.heap.size,0,none⟩)]) true (by rw [HKC.o];exact HLK.o.1) (by rw [HKC.o];exact HLA.o) ?_)
  refine HX.o.mono ?_
  rintro e w9 ⟨rfl,hpo⟩
  go_wp2_with fail
  go_ret
  exact ⟨rfl,hpo⟩
 | 18,_ =>
  have HX:=Zh (show Calls Tryz.prog 61 #[.pointer (some ⟨w.heap.size,0,none⟩)] w2 fun e w'=>e = .returned (.string T)/\Post w' from HCL.o)
  have HLA:=Zh (show (putL (es28 w.heap.size g)).atKey (.string (cmd.data.toList++[32]++tl)) (.held .nilFunc) = .held (.func (.func 61) #[] #[.pointer (some ⟨w.heap.size,0,none⟩)]) from HLK.o.2)
  clear HCL
  go_wp2_with (refine zax rfl _ _ rfl (w.alloc (.cells #[.pointer (some ⟨g,0,none⟩)] 42)) (w.heap.size+1) _ _ rfl HL2.o _ HKS.o rfl (.func (.func 61) #[] #[.pointer (some ⟨w.heap.size,0,none⟩)]) true (by rw [HKC.o];exact HLK.o.1) (by rw [HKC.o];exact HLA.o) ?_)
  refine HX.o.mono ?_
  rintro e w9 ⟨rfl,hpo⟩
  go_wp2_with fail
  go_ret
  exact ⟨rfl,hpo⟩
 | 19,_ =>
  have HX:=Zh (show Calls Tryz.prog 63 #[.pointer (some ⟨w.heap.size,0,none⟩)] w2 fun e w'=>e = .returned (.string T)/\Post w' from HCL.o)
  have HLA:=Zh (show (putL (es28 w.heap.size g)).atKey (.string (cmd.data.toList++[32]++tl)) (.held .nilFunc) = .held (.func (.func 63) #[] #[.pointer (some ⟨w.heap.size,0,none⟩)]) from HLK.o.2)
  clear HCL
  go_wp2_with (refine zax rfl _ _ rfl (w.alloc (.cells #[.pointer (some ⟨g,0,none⟩)] 42)) (w.heap.size+1) _ _ rfl HL2.o _ HKS.o rfl (.func (.func 63) #[] #[.pointer (some ⟨w.heap.size,0,none⟩)]) true (by rw [HKC.o];exact HLK.o.1) (by rw [HKC.o];exact HLA.o) ?_)
  refine HX.o.mono ?_
  rintro e w9 ⟨rfl,hpo⟩
  go_wp2_with fail
  go_ret
  exact ⟨rfl,hpo⟩
 | 20,_ =>
  have HX:=Zh (show Calls Tryz.prog 66 #[.pointer (some ⟨w.heap.size,0,none⟩)] w2 fun e w'=>e = .returned (.string T)/\Post w' from HCL.o)
  have HLA:=Zh (show (putL (es28 w.heap.size g)).atKey (.string (cmd.data.toList++[32]++tl)) (.held .nilFunc) = .held (.func (.func 66) #[] #[.pointer (some ⟨w.heap.size,0,none⟩)]) from HLK.o.2)
  clear HCL
  go_wp2_with (refine zax rfl _ _ rfl (w.alloc (.cells #[.pointer (some ⟨g,0,none⟩)] 42)) (w.heap.size+1) _ _ rfl HL2.o _ HKS.o rfl (.func (.func 66) #[] #[.pointer (some ⟨w.heap.size,0,none⟩)]) true (by rw [HKC.o];exact HLK.o.1) (by rw [HKC.o];exact HLA.o) ?_)
  refine HX.o.mono ?_
  rintro e w9 ⟨rfl,hpo⟩
  go_wp2_with fail
  go_ret
  exact ⟨rfl,hpo⟩
 | 21,_ =>
  have HX:=Zh (show Calls Tryz.prog 68 #[.pointer (some ⟨w.heap.size,0,none⟩)] w2 fun e w'=>e = .returned (.string T)/\Post w' from HCL.o)
  have HLA:=Zh (show (putL (es28 w.heap.size g)).atKey (.string (cmd.data.toList++[32]++tl)) (.held .nilFunc) = .held (.func (.func 68) #[] #[.pointer (some ⟨w.heap.size,0,none⟩)]) from HLK.o.2)
  clear HCL
  go_wp2_with (refine zax rfl _ _ rfl (w.alloc (.cells #[.pointer (some ⟨g,0,none⟩)] 42)) (w.heap.size+1) _ _ rfl HL2.o _ HKS.o rfl (.func (.func 68) #[] #[.pointer (some ⟨w.heap.size,0,none⟩)]) true (by rw [HKC.o];exact HLK.o.1) (by rw [HKC.o];exact HLA.o) ?_)
  refine HX.o.mono ?_
  rintro e w9 ⟨rfl,hpo⟩
  go_wp2_with fail
  go_ret
  exact ⟨rfl,hpo⟩
 | 22,_ =>
  have HX:=Zh (show Calls Tryz.prog 70 #[.pointer (some ⟨w.heap.size,0,none⟩)] w2 fun e w'=>e = .returned (.string T)/\Post w' from HCL.o)
  have HLA:=Zh (show (putL (es28 w.heap.size g)).atKey (.string (cmd.data.toList++[32]++tl)) (.held .nilFunc) = .held (.func (.func 70) #[] #[.pointer (some ⟨w.heap.size,0,none⟩)]) from HLK.o.2)
  clear HCL
  go_wp2_with (refine zax rfl _ _ rfl (w.alloc (.cells #[.pointer (some ⟨g,0,none⟩)] 42)) (w.heap.size+1) _ _ rfl HL2.o _ HKS.o rfl (.func (.func 70) #[] #[.pointer (some ⟨w.heap.size,0,none⟩)]) true (by rw [HKC.o];exact HLK.o.1) (by rw [HKC.o];exact HLA.o) ?_)
  refine HX.o.mono ?_
  rintro e w9 ⟨rfl,hpo⟩
  go_wp2_with fail
  go_ret
  exact ⟨rfl,hpo⟩
 | 23,_ =>
  have HX:=Zh (show Calls Tryz.prog 73 #[.pointer (some ⟨w.heap.size,0,none⟩)] w2 fun e w'=>e = .returned (.string T)/\Post w' from HCL.o)
  have HLA:=Zh (show (putL (es28 w.heap.size g)).atKey (.string (cmd.data.toList++[32]++tl)) (.held .nilFunc) = .held (.func (.func 73) #[] #[.pointer (some ⟨w.heap.size,0,none⟩)]) from HLK.o.2)
  clear HCL
  go_wp2_with (refine zax rfl _ _ rfl (w.alloc (.cells #[.pointer (some ⟨g,0,none⟩)] 42)) (w.heap.size+1) _ _ rfl HL2.o _ HKS.o rfl (.func (.func 73) #[] #[.pointer (some ⟨w.heap.size,0,none⟩)]) true (by rw [HKC.o];exact HLK.o.1) (by rw [HKC.o];exact HLA.o) ?_)
  refine HX.o.mono ?_
  rintro e w9 ⟨rfl,hpo⟩
  go_wp2_with fail
  go_ret
  exact ⟨rfl,hpo⟩
 | 24,_ =>
  have HX:=Zh (show Calls Tryz.prog 75 #[.pointer (some ⟨w.heap.size,0,none⟩)] w2 fun e w'=>e = .returned (.string T)/\Post w' from HCL.o)
  have HLA:=Zh (show (putL (es28 w.heap.size g)).atKey (.string (cmd.data.toList++[32]++tl)) (.held .nilFunc) = .held (.func (.func 75) #[] #[.pointer (some ⟨w.heap.size,0,none⟩)]) from HLK.o.2)
  clear HCL
  go_wp2_with (refine zax rfl _ _ rfl (w.alloc (.cells #[.pointer (some ⟨g,0,none⟩)] 42)) (w.heap.size+1) _ _ rfl HL2.o _ HKS.o rfl (.func (.func 75) #[] #[.pointer (some ⟨w.heap.size,0,none⟩)]) true (by rw [HKC.o];exact HLK.o.1) (by rw [HKC.o];exact HLA.o) ?_)
  refine HX.o.mono ?_
  rintro e w9 ⟨rfl,hpo⟩
  go_wp2_with fail
  go_ret
  exact ⟨rfl,hpo⟩
 | 25,_ =>
  have HX:=Zh (show Calls Tryz.prog 77 #[.pointer (some ⟨w.heap.size,0,none⟩)] w2 fun e w'=>e = .returned (.string T)/\Post w' from HCL.o)
  have HLA:=Zh (show (putL (es28 w.heap.size g)).atKey (.string (cmd.data.toList++[32]++tl)) (.held .nilFunc) = .held (.func (.func 77) #[] #[.pointer (some ⟨w.heap.size,0,none⟩)]) from HLK.o.2)
  clear HCL
  go_wp2_with (refine zax rfl _ _ rfl (w.alloc (.cells #[.pointer (some ⟨g,0,none⟩)] 42)) (w.heap.size+1) _ _ rfl HL2.o _ HKS.o rfl (.func (.func 77) #[] #[.pointer (some ⟨w.heap.size,0,none⟩)]) true (by rw [HKC.o];exact HLK.o.1) (by rw [HKC.o];exact HLA.o) ?_)
  refine HX.o.mono ?_
  rintro e w9 ⟨rfl,hpo⟩
  go_wp2_with fail
  go_ret
  exact ⟨rfl,hpo⟩
 | 26,_ =>
  have HX:=Zh (show Calls Tryz.prog 79 #[.pointer (some ⟨g,0,none⟩)] w2 fun e w'=>e = .returned (.string T)/\Post w' from HCL.o)
  have HLA:=Zh (show (putL (es28 w.heap.size g)).atKey (.string (cmd.data.toList++[32]++tl)) (.held .nilFunc) = .held (.func (.func 79) #[.pointer (some ⟨g,0,none⟩)] #[]) from HLK.o.2)
  clear HCL
  go_wp2_with (refine zax rfl _ _ rfl (w.alloc (.cells #[.pointer (some ⟨g,0,none⟩)] 42)) (w.heap.size+1) _ _ rfl HL2.o _ HKS.o rfl (.func (.func 79) #[.pointer (some ⟨g,0,none⟩)] #[]) true (by rw [HKC.o];exact HLK.o.1) (by rw [HKC.o];exact HLA.o) ?_)
  refine HX.o.mono ?_
  rintro e w9 ⟨rfl,hpo⟩
  go_wp2_with fail
  go_ret
  exact ⟨rfl,hpo⟩
 | 27,_ =>
  have HX:=Zh (show Calls Tryz.prog 80 #[.pointer (some ⟨g,0,none⟩)] w2 fun e w'=>e = .returned (.string T)/\Post w' from HCL.o)
  have HLA:=Zh (show (putL (es28 w.heap.size g)).atKey (.string (cmd.data.toList++[32]++tl)) (.held .nilFunc) = .held (.func (.func 80) #[.pointer (some ⟨g,0,none⟩)] #[]) from HLK.o.2)
  clear HCL
  go_wp2_with (refine zax rfl _ _ rfl (w.alloc (.cells #[.pointer (some ⟨g,0,none⟩)] 42)) (w.heap.size+1) _ _ rfl HL2.o _ HKS.o rfl (.func (.func 80) #[.pointer (some ⟨g,0,none⟩)] #[]) true (by rw [HKC.o];exact HLK.o.1) (by rw [HKC.o];exact HLA.o) ?_)
  refine HX.o.mono ?_
  rintro e w9 ⟨rfl,hpo⟩
  go_wp2_with fail
  go_ret
  exact ⟨rfl,hpo⟩
 | i+28,h=>exact absurd h (by omega)
end Go.Proofs.YtjpnjchpdkogbaaGreatDoor
