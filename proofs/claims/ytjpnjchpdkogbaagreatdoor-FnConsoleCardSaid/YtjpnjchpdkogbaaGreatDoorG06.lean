/- Parts of the proof of the card of the law FnConsole. -/
import Derived.Test.YtjpnjchpdkogbaaGreatDoorG05
import Derived.Test.YtjpnjchpdkogbaaGreatDoorG04
import Derived.Test.YtjpnjchpdkogbaaGreatDoorOwn
import Derived.Test.YtjpnjchpdkogbaaGreatDoorG03
import Derived.Lib.Slices
import Derived.Lib.Bytealg
set_option linter.unusedVariables false
set_option linter.unusedSimpArgs false
set_option maxRecDepth 100000
set_option maxHeartbeats 1000000
namespace Go.Proofs.YtjpnjchpdkogbaaGreatDoor
open Go.RowKit
def mpL (f:Int->Int)(xs:List Int)(j:Nat):List Int:=(xs.take j).map f
theorem zh0 {f:Int->Int}{xs:List Int}{j:Nat}{x:Int}(hj:j<xs.length)(hx:xs.getD j 0=x):mpL f xs (j+1)=mpL f xs j++[f x]:=by
 unfold mpL
 rw [List.take_succ_eq_append_getElem hj,List.map_append,List.map_singleton]
 have:xs[j]=x:=by rw [<- hx,List.getD_eq_getElem?_getD,List.getElem?_eq_getElem hj];rfl
 rw [this]
theorem zd0 (f:Int->Int)(xs:List Int)(j:Nat):(mpL f xs j).length<=xs.length:=by
 unfold mpL
 rw [List.length_map,List.length_take]
 omega
theorem zlm {N:Nat}{bs:List Int}(hok:RhOk N bs){f:Int->Int}(hf : ∀ x,0<=x->x<24 -> -1000000<=f x/\f x<=1000000)(j:Nat) : ∀ x∈mpL f bs j,Fits x:=by
 intro x hx
 unfold mpL at hx
 rw [List.mem_map] at hx
 obtain ⟨y,hy,rfl⟩:=hx
 have:=zba hok y (List.mem_of_mem_take hy)
 have:=hok.2.1
 have:=hf y (by omega) (by omega)
 unfold Fits
 omega
theorem zln {N:Nat}{bs:List Int}(hok:RhOk N bs)(f:Int->Int)(u k:Int)(hf : ∀ x,f x=u*x+k):zak (modL N (mpL f bs bs.length) (mpL f bs bs.length).length)=affL N u k bs:=by
 refine zcq (zcg _).1 (zdu _ _) fun x=>?_
 unfold affL
 rw [(zcg _).2,zhj,zde]
 have hN:(0:Int)<N:=by have:=hok.1;omega
 have hm : ∀ y,y∈mpL f bs bs.length ↔ ∃ b∈bs,f b=y:=fun y=>by
  unfold mpL;rw [List.take_length,List.mem_map]
 constructor
 ·rintro ⟨y,hy,rfl⟩
  obtain ⟨b,hb,rfl⟩:=(hm y).1 hy
  have h0:=Int.emod_nonneg (f b) (show (N:Int)≠0 by omega)
  have h1:=Int.emod_lt_of_pos (f b) hN
  obtain ⟨t,ht⟩:=Int.eq_ofNat_of_zero_le h0
  refine ⟨t,by omega,?_,ht⟩
  unfold hasB
  rw [decide_eq_true_eq,zfb]
  exact ⟨b,hb,by rw [<- ht,hf]⟩
 ·rintro ⟨t,ht,hb,rfl⟩
  unfold hasB at hb
  rw [decide_eq_true_eq,zfb] at hb
  obtain ⟨b,hb,e⟩:=hb
  exact ⟨f b,(hm _).2 ⟨b,hb,rfl⟩,by rw [hf];exact e⟩
theorem zsv (x:Int)(w:World)(hx:0<=x/\x<=1000000) :
  Calls Tryz.prog 158 #[.int .i64 x] w fun e w'=>e = .returned (.int .i64 (-x))/\w=w':=by
 have h1:IntKind.i64.wrap (-x) = -x:=i64w (by omega)
 go_enter Tryz.func158,Tryz.ntmps158
 go_wp2_with fail
 go_ret
 exact ⟨rfl,rfl⟩
theorem zsw (x k:Int)(b:Nat)(w:World)(hx:0<=x/\x<=24)(hk:0<=k/\k<=1000)(hc:w.cell? ⟨b,0,none⟩=some (.int .i64 k)) :
  Calls Tryz.prog 161 #[.int .i64 x,.pointer (some ⟨b,0,none⟩)] w fun e w'=>e = .returned (.int .i64 (k*x))/\w=w':=by
 have h0:0<=k*x:=Int.mul_nonneg hk.1 hx.1
 have h2:k*x<=1000*24:=Int.mul_le_mul hk.2 hx.2 hx.1 (by omega)
 have h1:IntKind.i64.wrap (k*x)=k*x:=i64w (by omega)
 go_enter Tryz.func161,Tryz.ntmps161
 go_wp2_with fail
 go_ret
 exact ⟨rfl,rfl⟩
theorem zsx (N:Nat)(A:Option Addr)(cap:Nat)(bs:List Int)(f:Int->Int)(b:Nat)(w:World)(hA:Ints w w.heap.size A bs)(hok:RhOk N bs)(hf : ∀ x,0<=x->x<24 -> -1000000<=f x/\f x<=1000000)
  (hcl : ∀ x V,0<=x->x<24->Below w.heap.size w V->Calls Tryz.prog 158 #[.int .i64 x] V fun e w'=>e = .returned (.int .i64 (f x))/\V=w') :
  Calls Tryz.prog 156 #[.agg #[.int .i64 N,.slice A bs.length cap],.func (.func 158) #[] #[]] w (zbr w N (zak (modL N (mpL f bs bs.length) (mpL f bs bs.length).length))):=by
 have hn1:=hok.1
 have hn2:=hok.2.1
 have hlen:=hA.1
 unfold maxLen at hlen
 have hbl:bs.length<=N:=zcs hok
 have HC:=Zh hA.2.2
 have HOK:=Zh hok
 have hro:=fun (A2:Option Addr) (c2:Nat) (V:World) (hV:Ints V V.heap.size A2 (mpL f bs bs.length))=>zdv N A2 c2 (mpL f bs bs.length) V hV (by have:=zd0 f bs bs.length;omega) hn1 (by omega)
 generalize zak (modL N (mpL f bs bs.length) (mpL f bs bs.length).length)=R at hro ⊢
 have HRO:=Zh hro
 have HF:=Zh hf
 have HCL:=Zh hcl
 clear hA hok hro hf hcl
 have hW0:=((Below.refl w.heap.size w).alloc (Nat.le_refl _) (.cells #[.int .i64 N,.slice A bs.length cap] 27)).alloc (by first | exact Nat.le_refl _ | (simp;done) | (simp;omega) | omega) (.cells #[.int .i64 0,.slice none 0 0] 27)
 have HW:=Zh hW0
 have HG:=Zh ((Cells2.new w (.int .i64 N) (.slice A bs.length cap) 27).alloc (.cells #[.int .i64 0,.slice none 0 0] 27))
 have HN:=Zh (Cells2.new (w.alloc (.cells #[.int .i64 N,.slice A bs.length cap] 27)) (.int .i64 0) (.slice none 0 0) 27)
 obtain ⟨g0,g1,_,_,_⟩:=HG.o
 clear hW0
 go_enter Tryz.func156,Tryz.ntmps156
 go_wp2_with fail
 clear g0 g1
 go_loopw [5,11] (fun so i wr=>∃ j:Nat,j<=bs.length/\i = .int .i64 j/\OwnI wr (w.heap.size+2) so (mpL f bs j)/\Below (w.heap.size+2) ((w.alloc (.cells #[.int .i64 N,.slice A bs.length cap] 27)).alloc (.cells #[.int .i64 0,.slice none 0 0] 27)) wr) (fun _ i _=>bs.length-(intOf i).toNat)
 case atStart=>exact ⟨0,Nat.zero_le _,rfl,OwnI.nil _ _,Below.refl _ _⟩
 case round =>
  obtain ⟨j,hj,rfl,hown,hbel⟩:=hrel
  obtain ⟨wo,rfl⟩ : ∃ wo:World,wo=wr:=⟨_,rfl⟩
  have hws:w.heap.size+2<=wo.heap.size:=by have:=hbel.size;simpa using this
  have HBE:=Zh hbel
  have HO:=Zh hown
  obtain ⟨A1,c1,rfl⟩:=hown.form
  have hmk:=zd0 f bs j
  clear hbel hown
  obtain ⟨g0,g1,g2,g3,g4⟩:=HG.o.below HBE.o (by simp)
  by_cases hlt:j<bs.length
  ·obtain ⟨b2,off,rfl,hB,hc⟩:=HC.o (by omega)
   have hcell:=((HW.o.trans (HBE.o.mono (by omega))).cell (p:=⟨b2,off+j,none⟩) hB).trans (hc j hlt)
   have hx0:=HOK.o.2.2.1 j hlt
   obtain ⟨x,hx⟩ : ∃ x,bs.getD j 0=x:=⟨_,rfl⟩
   rw [hx] at hcell hx0
   obtain ⟨hx1,hx2⟩:=hx0
   have HSU:=Zh (zh0 (f:=f) hlt hx)
   have HR1:=Zh (HCL.o x wo hx1 (by omega) (HW.o.trans (HBE.o.mono (by omega))))
   generalize mpL f bs j=L at HO HSU hmk ⊢
   clear hc hx
   go_wp2_with (first
    | (go_at_call 158;refine HR1.o.mono ?_;rintro e w' ⟨rfl,rfl⟩)
    | (at_builtin;refine za4 rfl (.tmp 15) (.tmp 19) rfl (w.heap.size+2) _ L rfl (HO.o.alloc _) _ _ rfl (zag _ _ _) (by omega) (by simp;omega) ?_;intro v2 w2 hown2 hb2))
   have HO2:=Zh hown2
   have HB2:=Zh ((HBE.o.alloc (by omega) _).trans hb2)
   clear hown2 hb2
   go_wp2_with fail
   go_roundw
   case rel=>exact ⟨j+1,by omega,by go_num,by rw [HSU.o];exact HO2.o,HB2.o⟩
   case measure=>simp [intOf];omega
  ·have hje:j=bs.length:=by omega
   subst hje
   have HI:=Zh (HO.o.ints (zlm HOK.o HF.o _))
   generalize mpL f bs bs.length=L at HO HRO HI hmk ⊢
   go_wp2_with fail
   refine (HRO.o A1 c1 _ HI.o).mono ?_
   rintro e w2 ⟨A2,c2,rfl,hrw,hb2⟩
   have hz2:=hb2.size
   obtain ⟨f0,f1,f2,f3,f4⟩:=(HN.o.below HBE.o (by simp)).below hb2 (by simp;omega)
   simp only [World.size_alloc] at f0 f1 f2 f3
   go_wp2_with fail
   refine bodyPost_ret (v:=.agg #[.int .i64 N,.slice A2 R.length c2]) (by simp [results,Tryz.results156,go_sem,f0,f1]) rfl ?_
   refine ⟨A2,c2,rfl,?_,?_⟩
   ·exact ((hrw.far (p:=⟨w.heap.size+1,0,none⟩) (by simp;omega) _).far (p:=⟨w.heap.size+1,1,none⟩) (by simp;omega) _).mono (by omega)
   ·exact (((HW.o.trans (HBE.o.mono (by omega))).trans (hb2.mono (by omega))).setCell (by simp) _).setCell (by simp) _
theorem zsy (N:Nat)(A:Option Addr)(cap:Nat)(bs:List Int)(f:Int->Int)(b:Nat)(w:World)(hA:Ints w w.heap.size A bs)(hok:RhOk N bs)(hf : ∀ x,0<=x->x<24 -> -1000000<=f x/\f x<=1000000)
  (hcl : ∀ x V,0<=x->x<24->Below w.heap.size w V->Calls Tryz.prog 161 #[.int .i64 x,.pointer (some ⟨b,0,none⟩)] V fun e w'=>e = .returned (.int .i64 (f x))/\V=w') :
  Calls Tryz.prog 156 #[.agg #[.int .i64 N,.slice A bs.length cap],.func (.func 161) #[] #[.pointer (some ⟨b,0,none⟩)]] w (zbr w N (zak (modL N (mpL f bs bs.length) (mpL f bs bs.length).length))):=by
 have hn1:=hok.1
 have hn2:=hok.2.1
 have hlen:=hA.1
 unfold maxLen at hlen
 have hbl:bs.length<=N:=zcs hok
 have HC:=Zh hA.2.2
 have HOK:=Zh hok
 have hro:=fun (A2:Option Addr) (c2:Nat) (V:World) (hV:Ints V V.heap.size A2 (mpL f bs bs.length))=>zdv N A2 c2 (mpL f bs bs.length) V hV (by have:=zd0 f bs bs.length;omega) hn1 (by omega)
 generalize zak (modL N (mpL f bs bs.length) (mpL f bs bs.length).length)=R at hro ⊢
 have HRO:=Zh hro
 have HF:=Zh hf
 have HCL:=Zh hcl
 clear hA hok hro hf hcl
 have hW0:=((Below.refl w.heap.size w).alloc (Nat.le_refl _) (.cells #[.int .i64 N,.slice A bs.length cap] 27)).alloc (by first | exact Nat.le_refl _ | (simp;done) | (simp;omega) | omega) (.cells #[.int .i64 0,.slice none 0 0] 27)
 have HW:=Zh hW0
 have HG:=Zh ((Cells2.new w (.int .i64 N) (.slice A bs.length cap) 27).alloc (.cells #[.int .i64 0,.slice none 0 0] 27))
 have HN:=Zh (Cells2.new (w.alloc (.cells #[.int .i64 N,.slice A bs.length cap] 27)) (.int .i64 0) (.slice none 0 0) 27)
 obtain ⟨g0,g1,_,_,_⟩:=HG.o
 clear hW0
 go_enter Tryz.func156,Tryz.ntmps156
 go_wp2_with fail
 clear g0 g1
 go_loopw [5,11] (fun so i wr=>∃ j:Nat,j<=bs.length/\i = .int .i64 j/\OwnI wr (w.heap.size+2) so (mpL f bs j)/\Below (w.heap.size+2) ((w.alloc (.cells #[.int .i64 N,.slice A bs.length cap] 27)).alloc (.cells #[.int .i64 0,.slice none 0 0] 27)) wr) (fun _ i _=>bs.length-(intOf i).toNat)
 case atStart=>exact ⟨0,Nat.zero_le _,rfl,OwnI.nil _ _,Below.refl _ _⟩
 case round =>
  obtain ⟨j,hj,rfl,hown,hbel⟩:=hrel
  obtain ⟨wo,rfl⟩ : ∃ wo:World,wo=wr:=⟨_,rfl⟩
  have hws:w.heap.size+2<=wo.heap.size:=by have:=hbel.size;simpa using this
  have HBE:=Zh hbel
  have HO:=Zh hown
  obtain ⟨A1,c1,rfl⟩:=hown.form
  have hmk:=zd0 f bs j
  clear hbel hown
  obtain ⟨g0,g1,g2,g3,g4⟩:=HG.o.below HBE.o (by simp)
  by_cases hlt:j<bs.length
  ·obtain ⟨b2,off,rfl,hB,hc⟩:=HC.o (by omega)
   have hcell:=((HW.o.trans (HBE.o.mono (by omega))).cell (p:=⟨b2,off+j,none⟩) hB).trans (hc j hlt)
   have hx0:=HOK.o.2.2.1 j hlt
   obtain ⟨x,hx⟩ : ∃ x,bs.getD j 0=x:=⟨_,rfl⟩
   rw [hx] at hcell hx0
   obtain ⟨hx1,hx2⟩:=hx0
   have HSU:=Zh (zh0 (f:=f) hlt hx)
   have HR1:=Zh (HCL.o x wo hx1 (by omega) (HW.o.trans (HBE.o.mono (by omega))))
   generalize mpL f bs j=L at HO HSU hmk ⊢
   clear hc hx
   go_wp2_with (first
    | (go_at_call 161;refine HR1.o.mono ?_;rintro e w' ⟨rfl,rfl⟩)
    | (at_builtin;refine za4 rfl (.tmp 15) (.tmp 19) rfl (w.heap.size+2) _ L rfl (HO.o.alloc _) _ _ rfl (zag _ _ _) (by omega) (by simp;omega) ?_;intro v2 w2 hown2 hb2))
   have HO2:=Zh hown2
   have HB2:=Zh ((HBE.o.alloc (by omega) _).trans hb2)
   clear hown2 hb2
   go_wp2_with fail
   go_roundw
   case rel=>exact ⟨j+1,by omega,by go_num,by rw [HSU.o];exact HO2.o,HB2.o⟩
   case measure=>simp [intOf];omega
  ·have hje:j=bs.length:=by omega
   subst hje
   have HI:=Zh (HO.o.ints (zlm HOK.o HF.o _))
   generalize mpL f bs bs.length=L at HO HRO HI hmk ⊢
   go_wp2_with fail
   refine (HRO.o A1 c1 _ HI.o).mono ?_
   rintro e w2 ⟨A2,c2,rfl,hrw,hb2⟩
   have hz2:=hb2.size
   obtain ⟨f0,f1,f2,f3,f4⟩:=(HN.o.below HBE.o (by simp)).below hb2 (by simp;omega)
   simp only [World.size_alloc] at f0 f1 f2 f3
   go_wp2_with fail
   refine bodyPost_ret (v:=.agg #[.int .i64 N,.slice A2 R.length c2]) (by simp [results,Tryz.results156,go_sem,f0,f1]) rfl ?_
   refine ⟨A2,c2,rfl,?_,?_⟩
   ·exact ((hrw.far (p:=⟨w.heap.size+1,0,none⟩) (by simp;omega) _).far (p:=⟨w.heap.size+1,1,none⟩) (by simp;omega) _).mono (by omega)
   ·exact (((HW.o.trans (HBE.o.mono (by omega))).trans (hb2.mono (by omega))).setCell (by simp) _).setCell (by simp) _
theorem zfi (N:Nat)(A:Option Addr)(cap:Nat)(bs:List Int)(w:World)(hA:Ints w w.heap.size A bs)(hok:RhOk N bs) :
  Calls Tryz.prog 100 #[.agg #[.int .i64 N,.slice A bs.length cap]] w (zbr w N (mirV N bs)):=by
 have HA:=Zh hA
 have HMV:=Zh (fun (V:World) hV=>zsx N A cap bs (fun x=>-x) 0 V hV hok (fun x h1 h2=>by omega) (fun x U h1 h2 _=>zsv x U ⟨h1,by omega⟩))
 rw [zln hok (fun x=>-x) (-1) 0 (fun x=>by omega)] at HMV
 rw [show mirV N bs=affL N (-1) 0 bs from rfl]
 generalize affL N (-1) 0 bs=R at HMV ⊢
 clear hA hok
 have HW:=Zh (((Below.refl w.heap.size w).alloc (Nat.le_refl _) (.cells #[.int .i64 N,.slice A bs.length cap] 27)).alloc (by first | exact Nat.le_refl _ | (simp;done) | (simp;omega) | omega) (.cells #[.int .i64 0,.slice none 0 0] 27))
 have HG:=Zh ((Cells2.new w (.int .i64 N) (.slice A bs.length cap) 27).alloc (.cells #[.int .i64 0,.slice none 0 0] 27))
 have HN:=Zh (Cells2.new (w.alloc (.cells #[.int .i64 N,.slice A bs.length cap] 27)) (.int .i64 0) (.slice none 0 0) 27)
 obtain ⟨g0,g1,_,_,_⟩:=HG.o
 go_enter Tryz.func100,Tryz.ntmps100
 go_wp2_with fail
 refine (HMV.o _ (HA.o.lift HW.o)).mono ?_
 rintro e w2 ⟨A2,c2,rfl,hrw,hb2⟩
 have hz2:=hb2.size
 obtain ⟨f0,f1,f2,f3,f4⟩:=HN.o.below hb2 (by simp)
 simp only [World.size_alloc] at f0 f1 f2 f3 hz2 hrw hb2
 go_wp2_with fail
 refine bodyPost_ret (v:=.agg #[.int .i64 N,.slice A2 R.length c2]) (by simp [results,Tryz.results100,go_sem,f0,f1]) rfl ?_
 refine ⟨A2,c2,rfl,?_,?_⟩
 ·exact ((hrw.far (p:=⟨w.heap.size+1,0,none⟩) (by simp) _).far (p:=⟨w.heap.size+1,1,none⟩) (by simp) _).mono (by omega)
 ·exact ((HW.o.trans (hb2.mono (by omega))).setCell (p:=⟨w.heap.size+1,0,none⟩) (Nat.le_add_right _ _) _).setCell (p:=⟨w.heap.size+1,1,none⟩) (Nat.le_add_right _ _) _
theorem zlo (N:Nat)(A:Option Addr)(cap:Nat)(bs:List Int)(k:Nat)(w:World)(hA:Ints w w.heap.size A bs)(hok:RhOk N bs)(hk:k<=1000) :
  Calls Tryz.prog 103 #[.agg #[.int .i64 N,.slice A bs.length cap],.int .i64 k] w (zbr w N (affL N k 0 bs)):=by
 have HA:=Zh hA
 have hfs : ∀ x:Int,0<=x->x<24 -> -1000000<=(k:Int)*x/\(k:Int)*x<=1000000:=fun x h1 h2=>by
  have h0:0<=(k:Int)*x:=Int.mul_nonneg (by omega) h1
  have h2:(k:Int)*x<=1000*24:=Int.mul_le_mul (by omega) (by omega) h1 (by omega)
  omega
 have HMV:=Zh (fun (b:Nat) (V:World) hV (hb:b<V.heap.size) (hc:V.cell? ⟨b,0,none⟩=some (.int .i64 k))=>zsy N A cap bs (fun x=>(k:Int)*x) b V hV hok hfs (fun x U h1 h2 hU=>zsw x k b U ⟨h1,by omega⟩ (by omega) ((hU.cell (p:=⟨b,0,none⟩) hb).trans hc)))
 rw [zln hok (fun x=>(k:Int)*x) k 0 (fun x=>by omega)] at HMV
 generalize affL N k 0 bs=R at HMV ⊢
 clear hA hok hfs
 have HW:=Zh ((((Below.refl w.heap.size w).alloc (Nat.le_refl _) (.cells #[.int .i64 N,.slice A bs.length cap] 27)).alloc (by first | exact Nat.le_refl _ | (simp;done) | (simp;omega) | omega) (.cells #[.int .i64 k] 3)).alloc (by first | exact Nat.le_refl _ | (simp;done) | (simp;omega) | omega) (.cells #[.int .i64 0,.slice none 0 0] 27))
 have HG:=Zh (((Cells2.new w (.int .i64 N) (.slice A bs.length cap) 27).alloc (.cells #[.int .i64 k] 3)).alloc (.cells #[.int .i64 0,.slice none 0 0] 27))
 have HN:=Zh (Cells2.new ((w.alloc (.cells #[.int .i64 N,.slice A bs.length cap] 27)).alloc (.cells #[.int .i64 k] 3)) (.int .i64 0) (.slice none 0 0) 27)
 have HK:=Zh (show (((w.alloc (.cells #[.int .i64 N,.slice A bs.length cap] 27)).alloc (.cells #[.int .i64 k] 3)).alloc (.cells #[.int .i64 0,.slice none 0 0] 27)).cell? ⟨w.heap.size+1,0,none⟩=some (.int .i64 k) by
  rw [((Below.refl (w.heap.size+2) ((w.alloc (.cells #[.int .i64 N,.slice A bs.length cap] 27)).alloc (.cells #[.int .i64 k] 3))).alloc (by simp) (.cells #[.int .i64 0,.slice none 0 0] 27)).cell (p:=⟨w.heap.size+1,0,none⟩) (by simp)]
  simp)
 obtain ⟨g0,g1,_,_,_⟩:=HG.o
 go_enter Tryz.func103,Tryz.ntmps103
 go_wp2_with fail
 refine (HMV.o (w.heap.size+1) _ (HA.o.lift HW.o) (by simp) HK.o).mono ?_
 rintro e w2 ⟨A2,c2,rfl,hrw,hb2⟩
 have hz2:=hb2.size
 obtain ⟨f0,f1,f2,f3,f4⟩:=HN.o.below hb2 (by simp)
 simp only [World.size_alloc] at f0 f1 f2 f3 hz2 hrw hb2
 go_wp2_with fail
 refine bodyPost_ret (v:=.agg #[.int .i64 N,.slice A2 R.length c2]) (by simp [results,Tryz.results103,go_sem,f0,f1]) rfl ?_
 refine ⟨A2,c2,rfl,?_,?_⟩
 ·exact ((hrw.far (p:=⟨w.heap.size+2,0,none⟩) (by simp) _).far (p:=⟨w.heap.size+2,1,none⟩) (by simp) _).mono (by omega)
 ·exact ((HW.o.trans (hb2.mono (by omega))).setCell (p:=⟨w.heap.size+2,0,none⟩) (Nat.le_add_right _ _) _).setCell (p:=⟨w.heap.size+2,1,none⟩) (Nat.le_add_right _ _) _
end Go.Proofs.YtjpnjchpdkogbaaGreatDoor
namespace Go.Proofs.YtjpnjchpdkogbaaGreatDoor
open Go.RowKit
section
variable {N:Nat} {a b:List Int}
theorem zsz {y:List Int} : ∀ {m:Nat},y∈mvL N a m ↔ ∃ j,j<m/\hasB a (mvQ N a j)=false/\y=mvX N a j
 | 0=>by simp [mvL]
 | m+1=>by
  have ih:=zsz (y:=y) (m:=m)
  unfold mvL
  cases hb:hasB a (mvQ N a m)
  ·rw [if_neg (by decide),List.mem_append,List.mem_singleton,ih]
   constructor
   ·rintro (⟨j,h1,h2⟩ | rfl)
    ·exact ⟨j,by omega,h2⟩
    ·exact ⟨m,by omega,hb,rfl⟩
   ·rintro ⟨j,h1,h2,rfl⟩
    by_cases e:j=m
    ·subst e;exact .inr rfl
    ·exact .inl ⟨j,by omega,h2,rfl⟩
  ·rw [if_pos rfl,ih]
   constructor
   ·rintro ⟨j,h1,h2⟩;exact ⟨j,by omega,h2⟩
   ·rintro ⟨j,h1,h2,rfl⟩
    by_cases e:j=m
    ·subst e;rw [hb] at h2;cases h2
    ·exact ⟨j,by omega,h2,rfl⟩
theorem zlp {f:Nat->Int}{B:Int} : ∀ {m:Nat},(∀ i,i<m->f i<=B)->sigN f m<=m*B
 | 0,_=>by simp [sigN]
 | m+1,h=>by
  have h1:=zlp (f:=f) (B:=B) (m:=m) (fun i hi=>h i (by omega))
  have h2:=h m (by omega)
  unfold sigN
  rw [Int.natCast_add,Int.add_mul]
  simp only [Int.natCast_one,Int.one_mul]
  omega
theorem zlq (ha:RhOk N a)(hb:RhOk N b)(hl:a.length=b.length):farV N a b<=576:=by
 have h1:=zsj ha hb hl 0
 have h2:farS N a b 0<=a.length*24:=zlp fun i hi=>by
  have r:=zct ha i hi
  have q:=zct hb i (by omega)
  have:=ha.2.1
  rw [Int.add_zero]
  unfold absI
  split <;> omega
 have h3:=zcs ha
 have:=ha.2.1
 omega
end
end Go.Proofs.YtjpnjchpdkogbaaGreatDoor
namespace Go.Proofs.YtjpnjchpdkogbaaGreatDoor
open Go.RowKit
def comN (a b:List Int):Nat->Nat
 | 0=>0
 | i+1=>comN a b i+(if hasB b (a.getD i 0)=true then 1 else 0)
end Go.Proofs.YtjpnjchpdkogbaaGreatDoor
namespace Go.Proofs.YtjpnjchpdkogbaaGreatDoor
open Go.RowKit
section
variable {N:Nat} {a b c:List Int}
end
end Go.Proofs.YtjpnjchpdkogbaaGreatDoor
namespace Go.Proofs.YtjpnjchpdkogbaaGreatDoor
open Go.RowKit
def zcu (n:Int)(bs:List Int)(i:Nat):Int:=if i+1<bs.length then bs.getD (i+1) 0-bs.getD i 0 else n+bs.getD 0 0-bs.getD i 0
def zb9 (n:Int)(bs:List Int)(k:Nat):List Int:=(List.range k).map (zcu n bs)
def zat (n:Int)(bs:List Int):List Int:=zb9 n bs bs.length
theorem zs0 (n:Int)(bs:List Int)(k:Nat):zb9 n bs (k+1)=zb9 n bs k++[zcu n bs k]:=by simp [zb9,List.range_succ]
theorem zfj (n:Int)(bs:List Int)(k:Nat):(zb9 n bs k).length=k:=by simp [zb9]
theorem zen (n:Int)(bs:List Int):(zat n bs).length=bs.length:=zfj _ _ _
theorem zs1 {n:Int}{bs:List Int}{k:Nat}{x y:Int}(h:k+1<bs.length)(hx:bs.getD k 0=x)(hy:bs.getD (k+1) 0=y):zcu n bs k=y-x:=by
  unfold zcu;rw [if_pos h,hx,hy]
theorem zs2 {n:Int}{bs:List Int}{k:Nat}{x z:Int}(h : ¬ k+1<bs.length)(hx:bs.getD k 0=x)(hz:bs.getD 0 0=z):zcu n bs k=n+z-x:=by
  unfold zcu;rw [if_neg h,hx,hz]
theorem RhOk.beat {n:Int}{bs:List Int}(h:RhOk n bs){i:Nat}(hi:i<bs.length):0<=bs.getD i 0/\bs.getD i 0<n:=h.2.2.1 i hi
theorem RhOk.mono {n:Int}{bs:List Int}(h:RhOk n bs) : ∀ (j i:Nat),i<j->j<bs.length->bs.getD i 0+(j-i:Int)<=bs.getD j 0
  | 0,i,hi,_=>by omega
  | j+1,i,hi,hj=>by
    have h1:=h.2.2.2 j hj
    by_cases e:i=j
    · subst e;omega
    · have:=RhOk.mono h j i (by omega) (by omega)
      omega
theorem RhOk.len {n:Int}{bs:List Int}(h:RhOk n bs):(bs.length:Int)<=n:=by
  by_cases h0:bs.length=0
  · have:=h.1;omega
  · have h1:=h.beat (i:=bs.length-1) (by omega)
    by_cases h2:bs.length=1
    · have:=h.1;omega
    · have h3:=h.mono (bs.length-1) 0 (by omega) (by omega)
      have h4:=h.beat (i:=0) (by omega)
      omega
theorem zs3 {n:Int}{bs:List Int}(h:RhOk n bs){i:Nat}(hi:i<bs.length):1<=zcu n bs i/\zcu n bs i<=n:=by
  unfold zcu
  split
  · rename_i h1
    have a:=h.beat h1
    have b:=h.beat hi
    have c:=h.2.2.2 i h1
    omega
  · have b:=h.beat hi
    have a:=h.beat (i:=0) (by omega)
    by_cases e:i=0
    · subst e;have:=h.1;omega
    · have c:=h.mono i 0 (by omega) hi
      omega
theorem zfk {n:Int}{bs:List Int}(h:RhOk n bs)(k:Nat)(hk:k<=bs.length) : ∀ x∈zb9 n bs k,1<=x/\x<=24:=by
  intro x hx
  obtain ⟨i,hi,rfl⟩:=List.mem_map.1 hx
  have hi:=List.mem_range.1 hi
  have:=zs3 h (i:=i) (by omega)
  have:=h.2.1
  omega
def zfl (w:World)(xs:List Int)(e:Ending)(w':World):Prop:=∃ A cap,e = .returned (.slice A xs.length cap)/\Ints w' w'.heap.size A xs/\Below w.heap.size w w'
theorem zs4 (n:Int)(A:Option Addr)(cap:Nat)(bs:List Int)(w:World)(hA:Ints w w.heap.size A bs)(hok:RhOk n bs) :
    Calls Tryz.prog 228 #[.agg #[.int .i64 n,.slice A bs.length cap]] w (zfl w (zat n bs)):=by
  have hn1:=hok.1
  have hn2:=hok.2.1
  have hlen:=hok.len
  have HC:=Zh hA.2.2
  have HOK:=Zh hok
  clear hA hok
  go_enter Tryz.func228,Tryz.ntmps228
  go_wp2
  go_loopw [3,9] (fun v i wr=>∃ k:Nat,k<=bs.length/\i = .int .i64 k/\OwnI wr (w.heap.size+1) v (zb9 n bs k)/\Below (w.heap.size+1) (w.alloc (.cells #[.int .i64 n,.slice A bs.length cap] 27)) wr) (fun _ i _=>bs.length-(intOf i).toNat)
  case atStart=>exact ⟨0,Nat.zero_le _,rfl,OwnI.nil _ _,Below.refl _ _⟩
  case round =>
    obtain ⟨k,hk,rfl,hown,hbel⟩:=hrel
    have hz:=hbel.size
    simp only [World.size_alloc] at hz
    obtain ⟨A1,c1,rfl⟩:=hown.form
    obtain ⟨hcb,hfb⟩:=zb3 hbel
    by_cases hlt:k<bs.length
    · obtain ⟨b,off,rfl,hB,hc⟩:=HC.o (by omega)
      have hcell:=hc k hlt
      have hcell0:=hc 0 (by omega)
      have hbx:=HOK.o.beat hlt
      have hbz:=HOK.o.beat (i:=0) (by omega)
      obtain ⟨x,hx⟩ : ∃ x,bs.getD k 0=x:=⟨_,rfl⟩
      obtain ⟨z,hz0⟩ : ∃ z,bs.getD 0 0=z:=⟨_,rfl⟩
      rw [hx] at hcell hbx
      rw [hz0] at hcell0 hbz
      have hcell':wr.cell? ⟨b,off+k,none⟩=some (.int .i64 x):=by
        rw [hcb b _ (by omega),World.cell?_alloc_lt w _ _ hB];exact hcell
      have hcell0':wr.cell? ⟨b,off,none⟩=some (.int .i64 z):=by
        rw [hcb b _ (by omega),World.cell?_alloc_lt w _ _ hB];exact hcell0
      have HX:=Zh hx
      have HZ:=Zh hz0
      have hs:=zs0 n bs k
      have HS:=Zh hs
      clear hx hz0 hs
      by_cases hmore:k+1<bs.length
      · have hcell1:=hc (k+1) hmore
        have hby:=HOK.o.beat hmore
        obtain ⟨y,hy⟩ : ∃ y,bs.getD (k+1) 0=y:=⟨_,rfl⟩
        rw [hy] at hcell1 hby
        have hcell1':wr.cell? ⟨b,off+(k+1),none⟩=some (.int .i64 y):=by
          rw [hcb b _ (by omega),World.cell?_alloc_lt w _ _ hB];exact hcell1
        have hst:=zs1 (n:=n) hmore HX.o hy
        have HY:=Zh hy
        have HST:=Zh hst
        clear hy hst hc
        go_wp2_with (at_builtin;refine za4 rfl _ _ rfl (w.heap.size+1) _ (zb9 n bs k) rfl (hown.alloc _) _ _ rfl (zag _ _ _) (by first | omega | (simp only [zfj];omega)) (by first | exact Nat.le_refl _ | (simp;done) | (simp;omega) | omega) ?_;intro v' w1 hown1 hg1)
        go_roundw
        case rel=>exact ⟨k+1,by omega,by go_num,by rw [HS.o,HST.o];exact hown1,(hbel.alloc hz _).trans hg1⟩
        case measure=>simp [intOf];omega
      · clear hc
        have hst:=zs2 (n:=n) hmore HX.o HZ.o
        have HST:=Zh hst
        clear hst
        go_wp2_with fail
        have hbx0:wr.cell? ⟨w.heap.size,0,none⟩=some (.int .i64 n):=by rw [hcb _ _ (by omega)];simp [go_sem]
        have hbx1:wr.cell? ⟨w.heap.size,1,none⟩=some (.slice (some ⟨b,off,none⟩) bs.length cap):=by rw [hcb _ _ (by omega)];simp [go_sem]
        have hl0:(0:Int)<(bs.length:Int):=by omega
        have hl1:0<bs.length:=by omega
        go_region_held3 (fun w'=>w'.cell? ⟨w.heap.size,0,none⟩=some (.int .i64 n)/\w'.cell? ⟨w.heap.size,1,none⟩=some (.slice (some ⟨b,off,none⟩) bs.length cap)/\w'.cell? ⟨b,off,none⟩=some (.int .i64 z))
          (first
            | go_keep
            | (obtain ⟨hcc,_⟩:=zb3 hg1
               refine ⟨?_,?_,?_⟩ <;> (rw [hcc _ _ (by omega)];simp [go_sem, *])))
          ((refine zc0 (by rfl) _ _ (by rfl) (w.heap.size+1) _ (zb9 n bs k) (by rfl) ((hown.alloc _).drew) _ _ (by rfl) (zag _ _ _) (by simp only [zfj];omega) (by first | exact Nat.le_refl _ | (simp;done) | (simp;omega) | omega) ?_;intro v' w1 hown1 hg1))
        go_wp2_with fail
        go_roundw
        case rel=>exact ⟨k+1,by omega,by go_num,by rw [HS.o,HST.o];rw [i64w (x:=n+z) (by omega),i64w (x:=n+z-x) (by omega)] at hown1;exact hown1,((hbel.alloc hz _).drew).trans hg1⟩
        case measure=>simp [intOf];omega
    · have hf:=zfk HOK.o k hk
      have hke:k=bs.length:=by omega
      have HOWN:=Zh hown
      clear hown
      subst hke
      go_wp2
      go_ret
      have hl:(zb9 n bs bs.length).length=bs.length:=zfj _ _ _
      exact ⟨A1,c1,rfl,HOWN.o.ints (fun x hx=>by have:=hf x hx;exact ⟨by omega,by omega⟩),((Below.refl _ _).alloc (Nat.le_refl _) _).trans (hbel.mono (by omega))⟩
end Go.Proofs.YtjpnjchpdkogbaaGreatDoor
namespace Go.Proofs.YtjpnjchpdkogbaaGreatDoor
open Go.RowKit
end Go.Proofs.YtjpnjchpdkogbaaGreatDoor
namespace Go.Proofs.YtjpnjchpdkogbaaGreatDoor
open Go.RowKit
noncomputable def zai (n:Int)(bs:List Int):List Int:=if rhB n bs=true then zat n bs else []
theorem zeo {n:Int}{bs:List Int}(h:rhB n bs=true):zai n bs=zat n bs:=if_pos h
theorem zlr {n:Int}{bs:List Int}(h:rhB n bs=false):zai n bs=[]:=if_neg (by rw [h];decide)
theorem zfm (n:Int)(bs:List Int):(zai n bs).length<=24 /\ ∀ x∈zai n bs,1<=x/\x<=24:=by
 cases h:rhB n bs
 ·rw [zlr h];exact ⟨Nat.zero_le _,fun x hx=>by cases hx⟩
 ·rw [zeo h]
  have hok:=zao.1 h
  refine ⟨?_,zfk hok _ (Nat.le_refl _)⟩
  have:=hok.len
  have:=hok.2.1
  rw [zen];omega
theorem Ints.nil_ (w:World)(B:Nat)(A:Option Addr):Ints w B A []:=⟨Nat.zero_le _,⟨fun x hx=>(List.not_mem_nil hx).elim,fun h=>absurd h (Nat.lt_irrefl 0)⟩⟩
theorem zd1 (n:Int)(A:Option Addr)(cap:Nat)(bs:List Int)(w:World)(hn:Fits n)(hA:Ints w w.heap.size A bs) :
  Calls Tryz.prog 170 #[.agg #[.int .i64 n,.slice A bs.length cap]] w (zfl w (zai n bs)):=by
 have HA:=Zh hA
 have HN:=Zh hn
 clear hA hn
 cases hr:rhB n bs
 ·have HS:=Zh (zlr hr)
  go_enter Tryz.func170,Tryz.ntmps170
  go_wp2_with (go_at_call 98;refine (zav n A cap bs _ HN.o (HA.o.lift (by repeat (first | exact Below.refl _ _ | assumption | (refine Below.alloc ?_ (by first | exact Nat.le_refl _ | (simp;done) | (simp;omega) | omega) _) | (refine Below.drew ?_) | (refine Below.setCell ?_ (by first | exact Nat.le_refl _ | (simp;done) | (simp;omega) | omega) _))))).mono ?_;rintro e w1 ⟨rfl,hb⟩)
  go_ret
  have hb':=((Below.refl w.heap.size w).alloc (by first | exact Nat.le_refl _ | (simp;done) | (simp;omega) | omega) _).trans (hb.mono (by first | exact Nat.le_refl _ | (simp;done) | (simp;omega) | omega))
  rw [HS.o]
  exact ⟨none,0,rfl,Ints.nil_ _ _ _,hb'⟩
 ·have HS:=Zh (zeo hr)
  have HR:=Zh (zao.1 hr)
  go_enter Tryz.func170,Tryz.ntmps170
  go_wp2_with (first
   | (go_at_call 98;refine (zav n A cap bs _ HN.o (HA.o.lift (by repeat (first | exact Below.refl _ _ | assumption | (refine Below.alloc ?_ (by first | exact Nat.le_refl _ | (simp;done) | (simp;omega) | omega) _) | (refine Below.drew ?_) | (refine Below.setCell ?_ (by first | exact Nat.le_refl _ | (simp;done) | (simp;omega) | omega) _))))).mono ?_;rintro e w1 ⟨rfl,hb⟩;have hb':=((Below.refl w.heap.size w).alloc (by first | exact Nat.le_refl _ | (simp;done) | (simp;omega) | omega) _).trans (hb.mono (by first | exact Nat.le_refl _ | (simp;done) | (simp;omega) | omega));obtain ⟨hc,hf⟩:=zqv hb)
   | (go_at_call 228;refine (zs4 n A cap bs _ (HA.o.lift hb') HR.o).mono ?_;rintro e w2 ⟨A2,c2,rfl,hi2,hb2⟩))
  go_ret
  rw [HS.o]
  exact ⟨A2,c2,rfl,hi2,hb'.trans (hb2.mono hb'.size)⟩
end Go.Proofs.YtjpnjchpdkogbaaGreatDoor
namespace Go.Proofs.YtjpnjchpdkogbaaGreatDoor
open Go.RowKit
def zbu (xs:List Int) (i:Nat):Nat->Int
 | 0=>0
 | j+1=>zbu xs i j+xs.getD ((i+j) % xs.length) 0
theorem zfn {xs:List Int}(h : ∀ i,i<xs.length->0<=xs.getD i 0/\xs.getD i 0<=24)(hl:1<=xs.length)(i:Nat) : ∀ j,0<=zbu xs i j/\zbu xs i j<=j*24
 | 0=>⟨Int.le_refl _,by simp [zbu]⟩
 | j+1=>by
  have ih:=zfn h hl i j
  have:=h ((i+j) % xs.length) (Nat.mod_lt _ (by omega))
  unfold zbu
  omega
theorem zs5 (A:Option Addr)(cap:Nat)(xs:List Int)(i k:Nat)(w:World)(hA:Ints w w.heap.size A xs)(hl:1<=xs.length)(hl2:xs.length<=24)(hx : ∀ i,i<xs.length->0<=xs.getD i 0/\xs.getD i 0<=24)(hi:i<=24)(hk:k<=24) :
  Calls Tryz.prog 229 #[.slice A xs.length cap,.int .i64 i,.int .i64 k] w fun e w'=>e = .returned (.int .i64 (zbu xs i k))/\Below w.heap.size w w':=by
 obtain ⟨bA,oA,rfl,hAB,hac⟩:=hA.2.2 (by omega)
 have HAC:=Zh hac
 have HX:=Zh hx
 have HBD:=Zh (zfn hx hl i)
 clear hA hac hx
 have hz:((xs.length:Int)=0)=False:=eq_false (by omega)
 have hz2:(xs.length=0)=False:=eq_false (by omega)
 go_enter Tryz.func229,Tryz.ntmps229
 go_wp2_with fail
 go_loopw [7,10] (fun so ii wr=>∃ j:Nat,j<=k/\ii = .int .i64 j/\so = .int .i64 (zbu xs i j)/\Below w.heap.size w wr) (fun _ ii _=>k-(intOf ii).toNat)
 case atStart=>exact ⟨0,Nat.zero_le _,rfl,rfl,Below.refl _ _⟩
 case round =>
  obtain ⟨j,hj,rfl,rfl,hbel⟩:=hrel
  obtain ⟨wo,rfl⟩ : ∃ wo:World,wo=wr:=⟨_,rfl⟩
  have HBE:=Zh hbel
  have hbd:=HBD.o j
  by_cases hlt:j<k
  ·have hcell:=(hbel.cell (p:=⟨bA,oA+(i+j) % xs.length,none⟩) hAB).trans (HAC.o ((i+j) % xs.length) (Nat.mod_lt _ (by omega)))
   have hxb:=HX.o ((i+j) % xs.length) (Nat.mod_lt _ (by omega))
   have hml:(i+j) % xs.length<xs.length:=Nat.mod_lt _ (by omega)
   have HSU:=Zh (show zbu xs i (j+1)=zbu xs i j+xs.getD ((i+j) % xs.length) 0 from rfl)
   have hmod:Int.tmod ((i:Int)+j) xs.length=(((i+j) % xs.length:Nat):Int):=by
    rw [Int.tmod_eq_emod_of_nonneg (by omega),Int.natCast_emod,Int.natCast_add]
   have hmod2:((i:Int)+j) % xs.length=(((i+j) % xs.length:Nat):Int):=by rw [Int.natCast_emod,Int.natCast_add]
   obtain ⟨m,hm⟩ : ∃ m,(i+j) % xs.length=m:=⟨_,rfl⟩
   obtain ⟨x,hxx⟩ : ∃ x,xs.getD ((i+j) % xs.length) 0=x:=⟨_,rfl⟩
   rw [hxx] at hcell hxb HSU
   rw [hm] at hcell hml hmod hmod2
   obtain ⟨S,hS⟩ : ∃ S,zbu xs i j=S:=⟨_,rfl⟩
   rw [hS] at hbd HSU ⊢
   have hw1:IntKind.i64.wrap ((i:Int)+j)=(i:Int)+j:=i64w (by omega)
   have hw2:IntKind.i64.wrap (S+x)=S+x:=i64w (by omega)
   have hw3:IntKind.i64.wrap (m:Int)=(m:Int):=i64w (by omega)
   have hm0:(0:Int)<=(m:Int):=Int.natCast_nonneg _
   have hm1:(m:Int)<(xs.length:Int):=by omega
   clear hm hxx hS hbel
   go_wp2_with fail
   try go_quiet (fail)
   try go_wp2_with fail
   go_roundw
   case rel=>exact ⟨j+1,by omega,by go_num,by rw [HSU.o],by first | exact HBE.o | exact Below.drewN_ HBE.o _⟩
   case measure=>simp [intOf];omega
  ·have hje:j=k:=by omega
   subst hje
   obtain ⟨S,hS⟩ : ∃ S,zbu xs i j=S:=⟨_,rfl⟩
   have HSS:=Zh hS
   rw [hS]
   clear hS
   go_wp2_with fail
   go_ret
   exact ⟨zbv HSS.o.symm,HBE.o⟩
end Go.Proofs.YtjpnjchpdkogbaaGreatDoor
namespace Go.Proofs.YtjpnjchpdkogbaaGreatDoor
open Go.RowKit
end Go.Proofs.YtjpnjchpdkogbaaGreatDoor
namespace Go.Proofs.YtjpnjchpdkogbaaGreatDoor
open Go.RowKit
theorem OwnI.monoB {w:World}{base base':Nat}{v:Value}{xs:List Int}(h:OwnI w base v xs)(hb:base'<=base):OwnI w base' v xs :=
 ⟨h.1,by
  rcases h.2 with h0 | ⟨g,cap,cur,e,hg,rest⟩
  ·exact .inl h0
  ·exact .inr ⟨g,cap,cur,e,by omega,rest⟩⟩
end Go.Proofs.YtjpnjchpdkogbaaGreatDoor
namespace Go.Proofs.YtjpnjchpdkogbaaGreatDoor
open Go.RowKit
def spnS (S:List Int)(k m:Nat):List Int:=(List.range m).map fun i=>zbu S i k
theorem zs6 (S:List Int)(k m:Nat):(spnS S k m).length=m:=by simp [spnS]
theorem zs7 (S:List Int)(k m:Nat):spnS S k (m+1)=spnS S k m++[zbu S m k]:=by simp [spnS,List.range_succ]
theorem zs8 (N:Nat)(A:Option Addr)(cap:Nat)(bs:List Int)(k:Nat)(w:World)(hA:Ints w w.heap.size A bs)(hok:RhOk N bs)(hp:1<=bs.length)(hk:k<=bs.length) :
  Calls Tryz.prog 172 #[.agg #[.int .i64 N,.slice A bs.length cap],.int .i64 k] w fun e w'=>∃ v,e = .returned v/\OwnI w' w.heap.size v (zak (spnS (zat N bs) k (zat N bs).length))/\Below w.heap.size w w':=by
 have hn1:1<=(N:Int):=hok.1
 have hn2:(N:Int)<=24:=hok.2.1
 have HS:=Zh (fun V h=>zd1 N A cap bs V (by unfold Fits;omega) h)
 have hbl:bs.length<=24:=by have:=hok.len;omega
 have hsl:=zen N bs
 have hsf : ∀ i,i<(zat N bs).length->0<=(zat N bs).getD i 0/\(zat N bs).getD i 0<=24:=fun i hi=>by
  have:=zfk hok _ (Nat.le_refl _) ((zat N bs).getD i 0) (by
   rw [List.getD_eq_getElem?_getD,List.getElem?_eq_getElem hi];exact List.getElem_mem hi)
  omega
 rw [zeo (zao.2 hok)] at HS
 generalize zat N bs=S at *
 have hs1:1<=S.length:=by omega
 have hs2:S.length<=24:=by omega
 have HSF:=Zh hsf
 have HSP:=Zh (fun i j=>zfn hsf hs1 i j)
 have hz:((S.length:Int)==0)=false:=beq_eq_false_iff_ne.2 (by omega)
 have hin:inB k 0 S.length=true:=by unfold inB;simp;omega
 have HA:=Zh hA
 have HK:=Zh hk
 have hks:k<=24:=by omega
 clear hA hsf hok hk
 go_enter Tryz.func172,Tryz.ntmps172
 go_wp2_with fail
 refine (HS.o _ (HA.o.lift (by repeat (first | exact Below.refl _ _ | assumption | (refine Below.alloc ?_ (by first | exact Nat.le_refl _ | (simp;done) | (simp;omega) | omega) _) | (refine Below.drew ?_) | (refine Below.setCell ?_ (by first | exact Nat.le_refl _ | (simp;done) | (simp;omega) | omega) _))))).mono ?_
 rintro e w1 ⟨A1,c1,rfl,hI1,hb1⟩
 have HB1:=Zh (((Below.refl w.heap.size w).alloc (Nat.le_refl _) (.cells #[.int .i64 N,.slice A bs.length cap] 27)).trans (hb1.mono (by simp)))
 have HI1:=Zh hI1
 have HO0:=Zh (OwnI.nil w1 w1.heap.size)
 have HB0:=Zh (Below.refl w1.heap.size w1)
 clear hI1 hb1 hsl
 go_wp2_with (go_at_call 22;refine (zac _ _ _ _).mono ?_;rintro e w' ⟨rfl,rfl⟩)
 go_loopw [6,22] (fun v i wr=>∃ m:Nat,m<=S.length/\i = .int .i64 m/\OwnI wr w1.heap.size v (spnS S k m)/\Below w1.heap.size w1 wr) (fun _ i _=>S.length-(intOf i).toNat)
 case atStart=>exact ⟨0,Nat.zero_le _,rfl,HO0.o,HB0.o⟩
 case round =>
  obtain ⟨m,hm,rfl,hown,hbel⟩:=hrel
  obtain ⟨wo,rfl⟩ : ∃ wo:World,wo=wr:=⟨_,rfl⟩
  obtain ⟨Av,cv,rfl⟩:=hown.form
  have HO:=Zh hown
  have HBE:=Zh hbel
  have HLM:=Zh (zs6 S k m)
  clear hown hbel
  by_cases hlt:m<S.length
  ·have hmi:(m:Int)<(S.length:Int):=by omega
   have hm24:m<=24:=by omega
   have HIO:=Zh (HI1.o.lift HBE.o)
   have HSU:=Zh (zs7 S k m)
   obtain ⟨Q,hQ⟩ : ∃ Q,spnS S k m=Q:=⟨_,rfl⟩
   rw [hQ] at HSU HO HLM ⊢
   have HQ:=Zh hQ
   clear hQ
   go_wp2_with (first
    | (go_at_call 229;refine (zs5 A1 c1 S m k _ HIO.o hs1 hs2 HSF.o hm24 hks).mono ?_;rintro e w2 ⟨rfl,hb2⟩;have HB2:=Zh hb2;have HO2:=Zh (HO.o.grown hb2);obtain ⟨x,hx⟩ : ∃ x,zbu S m k=x:=⟨_,rfl⟩;rw [hx] at HSU ⊢;clear hb2 hx)
    | (at_builtin;refine za4 rfl _ _ rfl w1.heap.size _ Q rfl (HO2.o.alloc _) _ _ rfl (zag _ _ _) (by have:=HLM.o;omega) (by have:=HB2.o.size;have:=HBE.o.size;simp only [World.size_alloc];omega) ?_;intro v3 w3 hown3 hb3;have HO3:=Zh hown3;have HB3:=Zh (HBE.o.trans ((HB2.o.mono HBE.o.size).trans (((Below.refl w2.heap.size w2).alloc (Nat.le_refl _) (.cells #[.int .i64 x] 3)).mono (by have:=HB2.o.size;have:=HBE.o.size;omega) |>.trans hb3)));clear hown3 hb3))
   go_roundw
   case rel=>exact ⟨m+1,by omega,by go_num,by rw [HSU.o];exact HO3.o,HB3.o⟩
   case measure=>simp [intOf];omega
  ·have hme:m=S.length:=by omega
   have HME:=Zh hme
   have hmi : ¬ (m:Int)<(S.length:Int):=by omega
   have HIV:=Zh (HO.o.ints (fun x hx=>by
    obtain ⟨i,hi,rfl⟩:=List.mem_map.1 hx
    have:=HSP.o i k
    have:=hks
    unfold Fits;omega))
   obtain ⟨Q,hQ⟩ : ∃ Q,spnS S k m=Q:=⟨_,rfl⟩
   rw [hQ] at HIV HO HLM ⊢
   have HQ:=Zh hQ
   clear hQ hme
   go_wp2_with fail
   refine (zhi Av cv Q _ HIV.o (by have:=HLM.o;omega)).mono ?_
   rintro e w4 ⟨v4,rfl,ho4,hb4⟩
   have HO4:=Zh ho4
   have HB4:=Zh (HB1.o.trans ((HBE.o.trans (hb4.mono HBE.o.size)).mono HB1.o.size))
   clear ho4 hb4
   go_wp2_with fail
   go_ret
   have:=HB1.o.size
   have:=HBE.o.size
   refine ⟨_,rfl,?_,HB4.o⟩
   rw [<- HME.o,HQ.o]
   exact HO4.o.monoB (by omega)
end Go.Proofs.YtjpnjchpdkogbaaGreatDoor
namespace Go.Proofs.YtjpnjchpdkogbaaGreatDoor
open Go.RowKit
def evT (S:List Int)(k:Nat):Bool:=decide ((zak (spnS S k S.length)).getD ((zak (spnS S k S.length)).length-1) 0-(zak (spnS S k S.length)).getD 0 0<=1)
def evnB (S:List Int):Bool:=(List.range S.length).all fun k=>decide (k=0) || evT S k
theorem zs9 (S:List Int):evnB S=true ↔ ∀ j,1<=j->j<S.length->evT S j=true:=by
 unfold evnB
 rw [List.all_eq_true]
 constructor
 ·intro h j h1 h2
  have:=h j (List.mem_range.2 h2)
  rw [Bool.or_eq_true,decide_eq_true_eq] at this
  rcases this with h3 | h3
  ·omega
  ·exact h3
 ·intro h j hj
  rw [Bool.or_eq_true,decide_eq_true_eq]
  by_cases e:j=0
  ·exact .inl e
  ·exact .inr (h j (by omega) (List.mem_range.1 hj))
theorem zls {L:List Int}{i:Nat}(h:i<L.length):L.getD i 0∈L:=by
 rw [List.getD_eq_getElem?_getD,List.getElem?_eq_getElem h];exact List.getElem_mem h
theorem zlt : ∀ (L:List Int) (lo hi:Int),L.Pairwise (fun a b=>a<b)->(∀ x∈L,lo<=x/\x<=hi)->lo<=hi+1->(L.length:Int)<=hi+1-lo
 | [],lo,hi,_,_,h=>by simp;omega
 | a::L,lo,hi,hp,hb,h=>by
  rw [List.pairwise_cons] at hp
  have ha:=hb a List.mem_cons_self
  have:=zlt L (a+1) hi hp.2 (fun x hx=>⟨by have:=hp.1 x hx;omega,(hb x (List.mem_cons_of_mem _ hx)).2⟩) (by omega)
  rw [List.length_cons];omega
theorem zta {L:List Int}(hp:L.Pairwise (fun a b=>a<b))(hb : ∀ x∈L,0<=x/\x<=576):L.length<=577:=by
 have:=zlt L 0 576 hp hb (by omega);omega
theorem ztb {S:List Int}(h1:1<=S.length)(h : ∀ i,i<S.length->0<=S.getD i 0/\S.getD i 0<=24)(k:Nat)(hk:k<=24) :
  0<(zak (spnS S k S.length)).length/\(zak (spnS S k S.length)).length<=1000000 /\ ∀ x∈zak (spnS S k S.length),0<=x/\x<=576:=by
 have hm : ∀ x,x∈zak (spnS S k S.length) ↔ x∈spnS S k S.length:=(zcg _).2
 have hx : ∀ x∈zak (spnS S k S.length),0<=x/\x<=576:=fun x hx=>by
  obtain ⟨i,_,rfl⟩:=List.mem_map.1 ((hm x).1 hx)
  have:=zfn h h1 i k
  omega
 refine ⟨?_,?_,hx⟩
 ·have:zbu S 0 k∈zak (spnS S k S.length):=(hm _).2 (List.mem_map.2 ⟨0,List.mem_range.2 (by omega),rfl⟩)
  exact List.length_pos_of_mem this
 ·have:=zta (zcg (spnS S k S.length)).1 hx
  omega
theorem ztc (N:Nat)(A:Option Addr)(cap:Nat)(bs:List Int)(w:World)(hA:Ints w w.heap.size A bs)(hok:RhOk N bs) :
  Calls Tryz.prog 117 #[.agg #[.int .i64 N,.slice A bs.length cap]] w fun e w'=>e = .returned (.bool (evnB (zat N bs)))/\Below w.heap.size w w':=by
 have hn1:1<=(N:Int):=hok.1
 have hn2:(N:Int)<=24:=hok.2.1
 have hr:rhB N bs=true:=zao.2 hok
 have HR:=Zh (fun V h=>zav N A cap bs V (by unfold Fits;omega) h)
 have HS:=Zh (fun V h k (hp:1<=bs.length) (hk:k<=bs.length)=>zs8 N A cap bs k V h hok hp hk)
 have hbl:bs.length<=24:=by have:=hok.len;omega
 have hsl:=zen N bs
 have HSB:=Zh (fun (hp:1<=bs.length) k (hk:k<=24)=>ztb (S:=zat N bs) (by omega) (fun i hi=>by
  have:=zfk hok _ (Nat.le_refl _) ((zat N bs).getD i 0) (by
   rw [List.getD_eq_getElem?_getD,List.getElem?_eq_getElem hi];exact List.getElem_mem hi)
  omega) k hk)
 have HE:=Zh (zs9 (zat N bs))
 rw [hr] at HR
 have HA:=Zh hA
 have hal:=(Below.refl w.heap.size w).alloc (Nat.le_refl _) (.cells #[.int .i64 N,.slice A bs.length cap] 27)
 have HC0:=Zh (Cells2.new w (.int .i64 N) (.slice A bs.length cap) 27)
 have HB0:=Zh hal
 clear hA hok hr hal
 generalize zat N bs=S at *
 go_enter Tryz.func117,Tryz.ntmps117
 go_wp2_with fail
 generalize w.alloc (.cells #[.int .i64 N,.slice A bs.length cap] 27)=w0 at *
 obtain ⟨c0,c1,_,_,_⟩:=HC0.o
 refine (HR.o _ (HA.o.lift HB0.o)).mono ?_
 rintro e w1 ⟨rfl,hb1⟩
 have HB1:=Zh (HB0.o.trans (hb1.mono HB0.o.size))
 have HC1:=Zh (HC0.o.below hb1 HC0.o.2.2.2.2)
 clear c0 c1 hb1
 obtain ⟨c0,c1,_,_,_⟩:=HC1.o
 obtain ⟨q,hq⟩ : ∃ q,w.heap.size=q:=⟨_,rfl⟩
 rw [hq] at HC1 c0 c1
 have HQ:=Zh hq
 go_wp2_with fail
 try rw [hq]
 clear hq
 go_loopw [3] (fun i wr=>∃ k:Nat,1<=k/\(k=1\/k<=bs.length)/\i = .int .i64 k/\(∀ j,1<=j->j<k->evT S j=true)/\Cells2 wr q (.int .i64 N) (.slice A bs.length cap)/\Below w.heap.size w wr) (fun i _=>bs.length-(intOf i).toNat)
 case atStart=>exact ⟨1,Nat.le_refl _,.inl rfl,rfl,fun j h1 h2=>by omega,HC1.o,HB1.o⟩
 case round =>
  obtain ⟨k,hk1,hk2,rfl,hall,hcel,hbel⟩:=hrel
  obtain ⟨wo,rfl⟩ : ∃ wo:World,wo=wr:=⟨_,rfl⟩
  have HALL:=Zh hall
  have HC:=Zh hcel
  have HB:=Zh hbel
  clear c0 c1 hall hcel hbel
  obtain ⟨c0,c1,_,_,_⟩:=HC.o
  by_cases hlt:k<bs.length
  ·have hki:(k:Int)<(bs.length:Int):=by omega
   have HIA:=Zh (HA.o.lift HB.o)
   have hwk:IntKind.i64.wrap ((k:Int)+1)=(k:Int)+1:=i64w (by omega)
   go_wp2_with fail
   refine (HS.o _ HIA.o k (by omega) (by omega)).mono ?_
   rintro e w2 ⟨v,rfl,ho,hb2⟩
   obtain ⟨A2,c2,rfl⟩:=ho.form
   obtain ⟨hf1,hf2,hf3⟩:=HSB.o (by omega) k (by omega)
   have HI2:=Zh (ho.ints (fun x hx=>by have:=hf3 x hx;unfold Fits;omega))
   have HC2:=Zh (HC.o.below hb2 HC.o.2.2.2.2)
   have HB2:=Zh (HB.o.trans (hb2.mono HB.o.size))
   have HET:=Zh (show evT S k=decide ((zak (spnS S k S.length)).getD ((zak (spnS S k S.length)).length-1) 0-(zak (spnS S k S.length)).getD 0 0<=1) from rfl)
   have hg1:=hf3 ((zak (spnS S k S.length)).getD ((zak (spnS S k S.length)).length-1) 0) (zls (by omega))
   have hg2:=hf3 ((zak (spnS S k S.length)).getD 0 0) (zls (by omega))
   clear ho hb2 c0 c1 hf3
   obtain ⟨c0,c1,_,_,_⟩:=HC2.o
   obtain ⟨L,hL⟩ : ∃ L,zak (spnS S k S.length)=L:=⟨_,rfl⟩
   rw [hL] at hf1 hf2 HI2 HET hg1 hg2 ⊢
   clear hL
   obtain ⟨bL,oL,rfl,hbL,hcL⟩:=HI2.o.2.2 hf1
   have hx:=hcL (L.length-1) (by omega)
   have hy:=hcL 0 hf1
   obtain ⟨x,hx'⟩ : ∃ x,L.getD (L.length-1) 0=x:=⟨_,rfl⟩
   obtain ⟨y,hy'⟩ : ∃ y,L.getD 0 0=y:=⟨_,rfl⟩
   rw [hx'] at hx HET hg1
   rw [hy'] at hy HET hg2
   rw [Nat.add_zero] at hy
   have hw1:IntKind.i64.wrap ((L.length:Int)-1)=((L.length-1:Nat):Int):=by rw [Int.natCast_sub (by omega)];exact i64w (by omega)
   have hw2:IntKind.i64.wrap (x-y)=x-y:=i64w (by omega)
   have hi1:((L.length-1:Nat):Int)<(L.length:Int):=by omega
   have hi0:(0:Int)<=((L.length-1:Nat):Int):=Int.natCast_nonneg _
   have hi2:(0:Int)<(L.length:Int):=by omega
   clear hx' hy' hcL
   by_cases hle:x-y<=1
   ·have hgt : ¬ 1<x-y:=by omega
    have hgd:decide (1<x-y)=false:=decide_eq_false hgt
    have HT:=Zh (show evT S k=true by rw [HET.o];exact decide_eq_true hle)
    go_wp2_with fail
    try go_quiet (fail)
    try go_wp2_with fail
    go_roundw
    case rel=>exact ⟨k+1,by omega,by omega,by go_num,fun j h1 h2=>by
     by_cases e:j=k
     ·rw [e];exact HT.o
     ·exact HALL.o j h1 (by omega),by first | exact HC2.o | exact HC2.o.drewN_ _,by first | exact HB2.o | exact Below.drewN_ HB2.o _⟩
    case measure=>simp [intOf];omega
   ·have hgt:1<x-y:=by omega
    have hgd:decide (1<x-y)=true:=decide_eq_true hgt
    have HT:=Zh (show evT S k=false by rw [HET.o];exact decide_eq_false hle)
    have HF:=Zh (show evnB S=false from Bool.eq_false_iff.2 fun h=>by
     have:=HE.o.1 h k hk1 (by omega)
     rw [HT.o] at this;cases this)
    go_wp2_with fail
    try go_quiet (fail)
    try go_wp2_with fail
    go_ret
    exact ⟨zaq HF.o.symm,by first | exact HB2.o | exact Below.drewN_ HB2.o _⟩
  ·have hki : ¬ (k:Int)<(bs.length:Int):=by omega
   have HT:=Zh (show evnB S=true from HE.o.2 fun j h1 h2=>HALL.o j h1 (by omega))
   go_wp2_with fail
   go_ret
   exact ⟨zaq HT.o.symm,HB.o⟩
end Go.Proofs.YtjpnjchpdkogbaaGreatDoor
namespace Go.Proofs.YtjpnjchpdkogbaaGreatDoor
open Go.RowKit
section
variable {N:Nat} {a:List Int}
end
end Go.Proofs.YtjpnjchpdkogbaaGreatDoor
namespace Go.Proofs.YtjpnjchpdkogbaaGreatDoor
end Go.Proofs.YtjpnjchpdkogbaaGreatDoor
namespace Go.Proofs.YtjpnjchpdkogbaaGreatDoor
section
variable {N:Nat} {a:List Int}
end
end Go.Proofs.YtjpnjchpdkogbaaGreatDoor
namespace Go.Proofs.YtjpnjchpdkogbaaGreatDoor
section
variable {N:Nat} {a:List Int}
end
end Go.Proofs.YtjpnjchpdkogbaaGreatDoor
namespace Go.Proofs.YtjpnjchpdkogbaaGreatDoor
section
variable {N:Nat} {a:List Int}
def othL (N:Nat)(a:List Int)(q:Nat):List Int:=((List.range q).filter fun t:Nat=>!hasB a t).map Int.ofNat
theorem ztd {q:Nat}(h:hasB a q=false):othL N a (q+1)=othL N a q++[(q:Int)]:=by
 unfold othL;rw [List.range_succ,List.filter_append];simp [h]
theorem zte {q:Nat}(h:hasB a q=true):othL N a (q+1)=othL N a q:=by
 unfold othL;rw [List.range_succ,List.filter_append];simp [h]
theorem ztf (q:Nat):(othL N a q).length<=q:=by
 unfold othL
 rw [List.length_map]
 exact Nat.le_trans (List.length_filter_le _ _) (by simp)
theorem ztg {q:Nat}{x:Int} : x∈othL N a q ↔ ∃ t:Nat,t<q/\hasB a t=false/\x=t:=by
 unfold othL
 rw [List.mem_map]
 constructor
 ·rintro ⟨t,ht,rfl⟩
  rw [List.mem_filter,List.mem_range] at ht
  exact ⟨t,ht.1,by simpa using ht.2,rfl⟩
 ·rintro ⟨t,h1,h2,rfl⟩
  exact ⟨t,List.mem_filter.2 ⟨List.mem_range.2 h1,by simpa using h2⟩,rfl⟩
theorem zth (q:Nat):(othL N a q).Pairwise (fun x y=>x<y):=by
 unfold othL
 rw [List.pairwise_map]
 exact List.Pairwise.imp (fun {a b} h=>Int.ofNat_lt.2 h) (List.Pairwise.filter _ List.pairwise_lt_range)
theorem zti {l:List Int}(h1:1<=N)(h2:N<=24)(ha:l.Pairwise (fun x y=>x<y))(hr : ∀ x∈l,0<=x/\x<N):RhOk N l:=by
 refine ⟨by omega,by omega,fun i hi=>?_,fun i hi=>?_⟩
 ·rw [List.getD_eq_getElem?_getD,List.getElem?_eq_getElem hi];exact hr _ (List.getElem_mem hi)
 ·have:=List.pairwise_iff_getElem.1 ha i (i+1) (by omega) hi (by omega)
  rw [List.getD_eq_getElem?_getD,List.getD_eq_getElem?_getD,List.getElem?_eq_getElem hi,List.getElem?_eq_getElem (by omega:i<l.length)]
  exact this
theorem zfo (h:RhOk N a):RhOk N (othL N a N):=by
 have h1:=h.1
 have h2:=h.2.1
 refine zti (by omega) (by omega) (zth N) fun x hx=>?_
 obtain ⟨t,ht,_,rfl⟩:=ztg.1 hx
 omega
end
end Go.Proofs.YtjpnjchpdkogbaaGreatDoor
