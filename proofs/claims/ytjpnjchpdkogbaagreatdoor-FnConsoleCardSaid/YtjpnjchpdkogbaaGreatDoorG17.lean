/- Parts of the proof of the card of the law FnConsole. -/
import Derived.Test.YtjpnjchpdkogbaaGreatDoorG16
import Derived.Lib.LazyBuf
import Derived.Test.YtjpnjchpdkogbaaGreatDoorG08
import Derived.Test.YtjpnjchpdkogbaaGreatDoorJoin
import Derived.Test.YtjpnjchpdkogbaaGreatDoorG03
import Derived.Test.YtjpnjchpdkogbaaGreatDoorG04
import Derived.Deep.AppendLies
import Derived.Laws.AppendOwnNone
import Derived.Laws.OwnMore
import Derived.Test.YtjpnjchpdkogbaaGreatDoorG10
set_option linter.unusedVariables false
set_option linter.unusedSimpArgs false
set_option maxRecDepth 100000
set_option maxHeartbeats 4000000
namespace Go.Proofs.YtjpnjchpdkogbaaGreatDoor
open Go.RowKit
def codP (N:Nat)(bs:List Int)(j:Nat):List Int:=(List.range j).map fun k=>((cdN N bs k:Nat):Int)
theorem zyg (N:Nat)(bs:List Int)(j:Nat):codP N bs (j+1)=codP N bs j++[((cdN N bs j:Nat):Int)]:=by
 unfold codP;rw [List.range_succ,List.map_append];rfl
theorem znz (N:Nat)(bs:List Int)(j:Nat):(codP N bs j).length=j:=by simp [codP]
theorem zyh (N:Nat)(bs:List Int)(hok:RhOk N bs)(j:Nat) : ∀ x∈codP N bs j,Fits x:=by
 intro x hx
 unfold codP at hx
 rw [List.mem_map] at hx
 obtain ⟨k,_,rfl⟩:=hx
 have h1:=zes hok k
 have h2:=(zny N (by have:=hok.2.1;omega)).2
 unfold Fits;omega
theorem zyi (N:Nat)(bs:List Int)(hok:RhOk N bs)(k:Nat):zbk N (rotL N bs (k:Nat)) (rotL N bs (k:Nat)).length=cdN N bs k:=rfl
def RetP3 (w:World)(N:Nat)(o:Option (List Int))(e:Ending)(w':World):Prop :=
 (match o with
  | none=>e = .returned (.tuple #[.agg #[.int .i64 0,.slice none 0 0],.bool false])
  | some y=>∃ A c,e = .returned (.tuple #[.agg #[.int .i64 N,.slice A y.length c],.bool true])/\Ints w' w'.heap.size A y /\ ∀ k o,A=some ⟨k,o,none⟩->w.heap.size<=k)/\Below w.heap.size w w'
theorem RetP3.plain {w w':World}{N:Nat}{o:Option (List Int)}{e:Ending}(h:RetP3 w N o e w'):znw w N o e w':=by
 obtain ⟨h1,h2⟩:=h
 refine ⟨?_,h2⟩
 cases o with
 | none=>exact h1
 | some y=>obtain ⟨A,c,h3,h4,_⟩:=h1;exact ⟨A,c,h3,h4⟩
theorem zn0 (N:Nat)(A:Option Addr)(cap:Nat)(bs:List Int)(w:World)(hA:Ints w w.heap.size A bs)(hok:RhOk N bs) :
  Calls Tryz.prog 45 #[.agg #[.int .i64 N,.slice A bs.length cap]] w (RetP3 w N (parV N bs)):=by
 have hn1:1<=N:=by have:=hok.1;omega
 have hn2:N<=24:=by have:=hok.2.1;omega
 have hla:bs.length<=N:=zcs hok
 have hfit:Fits (N:Int):=by unfold Fits;omega
 have HRO:=Zh (fun V h=>zao.2 hok ▸ zav N A cap bs V hfit h)
 have HRT:=Zh (fun k V h=>zdf N A cap bs k V h hok)
 have HCD:=Zh (fun k A2 c2 V h=>zyi N bs hok k ▸ zd8 N A2 c2 (rotL N bs (k:Nat)) V h (zah hok _).1)
 have HRF:=Zh (fun k x (hx:x∈rotL N bs (k:Nat))=>show Fits x by have:=zba (zah hok _).1 x hx;unfold Fits;omega)
 have HPT:=Zh (fun AC cC AB cB V h1 h2=>show Calls Tryz.prog 106 #[.slice AC N cC,.slice AB 1 cB,.int .i64 (mskF N bs [0]:Nat)] V (RetB V AB (gS N bs (N-1) [0] 1)) from zyf N bs hok AC cC (N-1) 0 [] AB cB V (by omega) (Nat.le_refl _) (by simp) h1 h2)
 have HCF:=Zh (zyh N bs hok)
 have HM0:=Zh (show mskF N bs [0]=cdN N bs 0 by unfold mskF;simp)
 have HC0:=Zh (show (codL N bs).getD 0 0=((cdN N bs 0:Nat):Int) from znx N bs (by omega))
 have HPV:=Zh (show parV N bs=if bs.length=0\/N % bs.length≠0 then none else (gS N bs (N-1) [0] 1).map (·.map Int.ofNat) from rfl)
 obtain ⟨W,hW⟩ : ∃ W,(w.alloc (.cells #[.int .i64 N,.slice A (bs).length cap] 27)).alloc (.cells #[.int .i64 0,.slice none 0 0] 27)=W:=⟨_,rfl⟩
 have hb0:=(Below.refl w.heap.size w).alloc (Nat.le_refl _) (.cells #[.int .i64 N,.slice A (bs).length cap] 27)
 have HBW:=Zh (hb0.alloc hb0.size (.cells #[.int .i64 0,.slice none 0 0] 27))
 have HVA:=Zh ((Hav.boxed hA N cap).alloc (.cells #[.int .i64 0,.slice none 0 0] 27))
 have HZ:=Zh (Cells2.new_at (w.alloc (.cells #[.int .i64 N,.slice A (bs).length cap] 27)) (.int .i64 0) (.slice none 0 0) 27 (w.heap.size+1) (by simp))
 rw [hW] at HBW HVA HZ
 clear hA hok hb0
 obtain ⟨⟨p0,p1,_,_,_⟩,_⟩:=HVA.o
 obtain ⟨z0,z1,zf0,zf1,_⟩:=HZ.o
 have HRW:=Zh (HRO.o W HVA.o.2)
 have HZ1:=Zh (fun V (h:Below W.heap.size W V)=>show Cells2 V (w.heap.size+1) (.int .i64 0) (.slice none 0 0) from HZ.o.below h HZ.o.2.2.2.2)
 have HFL:=Zh (fun V (h:Cells2 V (w.heap.size+1) (.int .i64 0) (.slice none 0 0))=>(h.set0 (.int .i64 0)).set1 (.slice none 0 0))
 have HBZ:=Zh (fun V (h:Below w.heap.size w V) u v=>(h.setCell (p:=⟨w.heap.size+1,0,none⟩) (Nat.le_succ _) u).setCell (p:=⟨w.heap.size+1,1,none⟩) (Nat.le_succ _) v)
 by_cases h0:bs.length=0
 ·have hbe:bs=[]:=List.eq_nil_of_length_eq_zero h0
  have HV:=Zh (show parV N bs=none by rw [HPV.o,if_pos (.inl h0)])
  rw [HV.o]
  have hlz:((bs.length:Int)==0)=true:=by rw [h0];rfl
  have hnz2:(bs.length=0)=True:=eq_true h0
  have hnz3:(bs=[])=True:=eq_true hbe
  clear h0 hbe
  go_enter Tryz.func45,Tryz.ntmps45
  go_wp2_with fail
  refine HRW.o.mono ?_
  rintro e w1 ⟨rfl,hb⟩
  have HVA:=Zh (HVA.o.lift hb)
  have HZ:=Zh (HZ1.o w1 hb)
  have HBW:=Zh (HBW.o.trans (hb.mono HBW.o.size))
  clear p0 p1 z0 z1 zf0 zf1 hb
  obtain ⟨⟨p0,p1,_,_,_⟩,_⟩:=HVA.o
  obtain ⟨z0,z1,zf0,zf1,_⟩:=HZ.o
  go_wp2_with fail
  obtain ⟨f0,f1,_⟩:=HFL.o w1 HZ.o
  refine bodyPost_ret (v:=.tuple #[.agg #[.int .i64 0,.slice none 0 0],.bool false]) (by simp [results,Tryz.results45,go_sem,f0,f1]) rfl ?_
  exact ⟨rfl,HBZ.o _ HBW.o _ _⟩
 have hlz:((bs.length:Int)==0)=false:=beq_eq_false_iff_ne.2 (by omega)
 have hnz:((bs.length:Int)=0)=False:=eq_false (by omega)
 have hnz2:(bs.length=0)=False:=eq_false (by omega)
 have hnz3:(bs=[])=False:=eq_false (by intro h;rw [h] at h0;exact h0 rfl)
 obtain ⟨r,hr⟩ : ∃ r,N % bs.length=r:=⟨_,rfl⟩
 have hrl:r<bs.length:=by rw [<- hr];exact Nat.mod_lt _ (by omega)
 have hrm:(N:Int).tmod (bs.length:Int)=(r:Int):=by rw [Int.tmod_eq_emod_of_nonneg (by omega),<- Int.natCast_emod,hr]
 have hwr:IntKind.i64.wrap (r:Int)=(r:Int):=i64w (by omega)
 by_cases hrz:r=0
 rotate_left
 ·have hq:((r:Int)==0)=false:=beq_eq_false_iff_ne.2 (by omega)
  have hq2:((r:Int) != 0)=true:=bne_iff_ne.2 (by omega)
  have HV:=Zh (show parV N bs=none by rw [HPV.o,if_pos (.inr (by rw [hr];exact hrz))])
  rw [HV.o]
  clear hr hrz
  go_enter Tryz.func45,Tryz.ntmps45
  go_wp2_with fail
  refine HRW.o.mono ?_
  rintro e w1 ⟨rfl,hb⟩
  have HVA:=Zh (HVA.o.lift hb)
  have HZ:=Zh (HZ1.o w1 hb)
  have HBW:=Zh (HBW.o.trans (hb.mono HBW.o.size))
  clear p0 p1 z0 z1 zf0 zf1 hb
  obtain ⟨⟨p0,p1,_,_,_⟩,_⟩:=HVA.o
  obtain ⟨z0,z1,zf0,zf1,_⟩:=HZ.o
  go_wp2_with fail
  obtain ⟨f0,f1,_⟩:=HFL.o w1 HZ.o
  refine bodyPost_ret (v:=.tuple #[.agg #[.int .i64 0,.slice none 0 0],.bool false]) (by simp [results,Tryz.results45,go_sem,f0,f1]) rfl ?_
  exact ⟨rfl,HBZ.o _ HBW.o _ _⟩
 ·subst hrz
  have HV:=Zh (show parV N bs=(gS N bs (N-1) [0] 1).map (·.map Int.ofNat) by rw [HPV.o,if_neg (by rw [hr];simp;exact fun h=>h0 (by rw [h];rfl))])
  clear hr hrl h0
  go_enter Tryz.func45,Tryz.ntmps45
  go_wp2_with fail
  refine HRW.o.mono ?_
  rintro e w1 ⟨rfl,hb⟩
  have HVA:=Zh (HVA.o.lift hb)
  have HZ:=Zh (HZ1.o w1 hb)
  have HBW:=Zh (HBW.o.trans (hb.mono HBW.o.size))
  clear p0 p1 z0 z1 zf0 zf1 hb
  obtain ⟨⟨p0,p1,_,_,hpl⟩,_⟩:=HVA.o
  obtain ⟨z0,z1,zf0,zf1,hzl⟩:=HZ.o
  go_wp2_with fail
  have HB1:=Zh (Below.refl w1.heap.size w1)
  go_loopw [4,28] (fun s i wr=>∃ j:Nat,j<=N/\i = .int .i64 j/\OwnI wr w1.heap.size s (codP N bs j)/\Below w1.heap.size w1 wr) (fun _ i _=>N-(intOf i).toNat)
  case atStart=>exact ⟨0,Nat.zero_le _,rfl,OwnI.nil _ _,HB1.o⟩
  case round =>
   obtain ⟨j,hj,rfl,hown,hbel⟩:=hrel
   obtain ⟨wo,rfl⟩ : ∃ wo:World,wo=wr:=⟨_,rfl⟩
   have HO:=Zh hown
   have HBE:=Zh hbel
   have HVO:=Zh (HVA.o.lift hbel)
   have HZO:=Zh (HZ.o.below hbel hzl)
   obtain ⟨A1,c1,rfl⟩:=hown.form
   clear p0 p1 z0 z1 zf0 zf1
   obtain ⟨⟨p0,p1,_,_,_⟩,_⟩:=HVO.o
   obtain ⟨z0,z1,zf0,zf1,_⟩:=HZO.o
   have hsz:=hbel.size
   by_cases hlt:j<N
   ·have hji:(j:Int)<(N:Int):=by omega
    have HSU:=Zh (zyg N bs j)
    have hcl:=znz N bs j
    have HCL:=Zh hcl
    have HCDJ:=Zh (HCD.o j)
    have HRFJ:=Zh (HRF.o j)
    have HRTJ:=Zh (HRT.o j wo HVO.o.2 (by omega))
    obtain ⟨L,hL⟩ : ∃ L,rotL N bs (j:Nat)=L:=⟨_,rfl⟩
    rw [hL] at HCDJ HRFJ HRTJ
    obtain ⟨c,hc⟩ : ∃ c,cdN N bs j=c:=⟨_,rfl⟩
    rw [hc] at HCDJ HSU
    obtain ⟨C,hC⟩ : ∃ C,codP N bs j=C:=⟨_,rfl⟩
    rw [hC] at HO HSU HCL ⊢
    clear hown hbel hL hc hC hcl
    go_wp2_with fail
    refine HRTJ.o.mono ?_
    rintro e w3 ⟨A3,c3,rfl,hrw,hb⟩
    have HO:=Zh (HO.o.grown hb)
    have HBE:=Zh (HBE.o.trans (hb.mono HBE.o.size))
    have HI3:=Zh (hrw.ints HRFJ.o)
    clear hrw hb p0 p1 z0 z1 zf0 zf1
    go_wp2_with fail
    refine (HCDJ.o A3 c3 w3 HI3.o).mono ?_
    rintro e w4 ⟨rfl,hb⟩
    have HO:=Zh (HO.o.grown hb)
    have HBE:=Zh (HBE.o.trans (hb.mono HBE.o.size))
    clear hb
    go_wp2_with (at_builtin;refine za4 rfl (.tmp 31) (.tmp 36) rfl w1.heap.size _ C rfl (HO.o.alloc _) w4.heap.size (c:Int) (by rfl) (zag _ _ _) (by rw [HCL.o];omega) (by have:=HBE.o.size;simp only [World.size_alloc];omega) ?_;intro v2 w5 hown2 hb2;rw [<- HSU.o] at hown2)
    have HO5:=Zh hown2
    have HB5:=Zh ((HBE.o.alloc HBE.o.size (.cells #[.int .i64 c] 3)).trans hb2)
    clear hown2 hb2
    go_roundw
    case rel=>exact ⟨j+1,by omega,by go_num,HO5.o,HB5.o⟩
    case measure=>simp [intOf];omega
   ·have hje:j=N:=by omega
    subst hje
    have hji : ¬ (j:Int)<(j:Int):=by omega
    have HI:=Zh (show Ints wo wo.heap.size A1 (codL j bs) from HO.o.ints (HCF.o j))
    have hcl:=znz j bs j
    obtain ⟨b2,off2,hA1,hb2l,hc2⟩:=HI.o.2.2 (by rw [zf9];omega)
    subst hA1
    have hc20:=hc2 0 (by rw [zf9];omega)
    rw [HC0.o,<- HM0.o,Nat.add_zero] at hc20
    have HIT:=HI
    obtain ⟨M,hM⟩ : ∃ M,mskF j bs [0]=M:=⟨_,rfl⟩
    rw [hM] at HPT hc20
    clear hM hown hbel hc2 HC0 HM0
    have hb:=(Below.refl wo.heap.size wo).alloc (Nat.le_refl _) (.cells #[.int .i64 0] 3)
    have hc21:=(hb.cell (p:=⟨b2,off2,none⟩) hb2l).trans hc20
    have HI2:=Zh ((Cell1.new wo (.int .i64 0) 3).ints (show Fits 0 by unfold Fits;omega))
    have HI:=Zh (HI.o.lift hb)
    have HZO:=Zh (HZO.o.below hb HZO.o.2.2.2.2)
    have HVO:=Zh (HVO.o.lift hb)
    have HBE:=Zh (HBE.o.trans (hb.mono HBE.o.size))
    have HBV:=Zh (HBW.o.trans (HBE.o.mono HBW.o.size))
    have hgo:w.heap.size+1<wo.heap.size:=by omega
    clear hb
    go_wp2_with fail
    refine (HPT.o (some ⟨b2,off2,none⟩) c1 (some ⟨wo.heap.size,0,none⟩) 1 _ HI.o HI2.o).mono ?_
    rintro e w2 ⟨h1,hb⟩
    have HZO:=Zh (HZO.o.below hb HZO.o.2.2.2.2)
    have HVO:=Zh (HVO.o.lift hb)
    have HBV:=Zh (HBV.o.trans (hb.mono HBV.o.size))
    have hz2:wo.heap.size+1<=w2.heap.size:=by have:=hb.size;simp at this;omega
    clear hb p0 p1 z0 z1 zf0 zf1 hc20 hc21
    obtain ⟨⟨p0,p1,_,_,_⟩,_⟩:=HVO.o
    obtain ⟨z0,z1,zf0,zf1,_⟩:=HZO.o
    have heq0 : ∀ V:World,(binOp .eql 25 (.slice none 0 0) (.slice none 0 0)).run Tryz.prog V = .ok (.bool true) V:=fun V=>Lib.run_eql_slice_nil V _ _ none 0 0 0 0 Tryz.underlying25
    have heq1 : ∀ (V:World) a l c,(binOp .eql 25 (.slice (some a) l c) (.slice none 0 0)).run Tryz.prog V = .ok (.bool false) V:=fun V a l c=>Lib.run_eql_slice_nil V _ _ (some a) l c 0 0 Tryz.underlying25
    cases he:gS j bs (j-1) [0] 1 with
    | none =>
     rw [he] at h1
     obtain rfl:e = .returned (.slice none 0 0):=h1
     have HV2:=Zh (show parV j bs=none by rw [HV.o,he];rfl)
     clear he
     go_wp2_with fail
     obtain ⟨f0,f1,_⟩:=HFL.o w2 HZO.o
     refine bodyPost_ret (v:=.tuple #[.agg #[.int .i64 0,.slice none 0 0],.bool false]) (by simp [results,Tryz.results45,go_sem,f0,f1]) rfl ?_
     rw [HV2.o]
     exact ⟨rfl,HBZ.o _ HBV.o _ _⟩
    | some y =>
     rw [he] at h1
     have h1' : ∃ g off c,e = .returned (.slice (some ⟨g,off,none⟩) y.length c)/\Ints w2 w2.heap.size (some ⟨g,off,none⟩) (y.map Int.ofNat)/\((some ⟨g,off,none⟩:Option Addr)=some ⟨wo.heap.size,0,none⟩\/(wo.alloc (.cells #[.int .i64 0] 3)).heap.size<=g):=h1
     obtain ⟨g5,o5,c5,rfl,hr,hat⟩:=h1'
     have HR:=Zh hr
     have HAT:=Zh (show ∀ k o,(some ⟨g5,o5,none⟩:Option Addr)=some ⟨k,o,none⟩->k≠w.heap.size+1 from fun k o h=>by
      injection h with h
      injection h with h
      subst h
      rcases hat with h2 | h2
      ·injection h2 with h2;injection h2 with h2;omega
      ·simp at h2;omega)
     have HGE:=Zh (show ∀ k o,(some ⟨g5,o5,none⟩:Option Addr)=some ⟨k,o,none⟩->w.heap.size<=k from fun k o h=>by
      injection h with h
      injection h with h
      subst h
      rcases hat with h2 | h2
      ·injection h2 with h2;injection h2 with h2;omega
      ·simp at h2;omega)
     have HV2:=Zh (show parV j bs=some (y.map Int.ofNat) by rw [HV.o,he];rfl)
     obtain ⟨Y,hY⟩ : ∃ Y,y.map Int.ofNat=Y:=⟨_,rfl⟩
     have hyl:y.length=Y.length:=by rw [<- hY,List.length_map]
     rw [hY] at HR HV2
     rw [hyl]
     clear hY he hr h1 hat hyl
     go_wp2_with fail
     obtain ⟨f0,f1,_⟩:=((HZO.o.set0 (.int .i64 j)).set1 (.slice (some ⟨g5,o5,none⟩) Y.length c5))
     refine bodyPost_ret (v:=.tuple #[.agg #[.int .i64 j,.slice (some ⟨g5,o5,none⟩) Y.length c5],.bool true]) (by simp [results,Tryz.results45,go_sem,f0,f1]) rfl ?_
     rw [HV2.o]
     refine ⟨⟨_,c5,rfl,?_,HGE.o⟩,HBZ.o _ HBV.o _ _⟩
     exact (HR.o.setFarP (p:=⟨w.heap.size+1,0,none⟩) HAT.o _).setFarP (p:=⟨w.heap.size+1,1,none⟩) HAT.o _ |>.mono (by simp [World.setCell])
theorem zyj (N:Nat)(A:Option Addr)(cap:Nat)(bs:List Int)(w:World)(hA:Ints w w.heap.size A bs)(hok:RhOk N bs) :
  Calls Tryz.prog 45 #[.agg #[.int .i64 N,.slice A bs.length cap]] w (znw w N (parV N bs)):=(zn0 N A cap bs w hA hok).mono fun _ _ h=>h.plain
end Go.Proofs.YtjpnjchpdkogbaaGreatDoor
namespace Go.Proofs.YtjpnjchpdkogbaaGreatDoor
open Go.RowKit
theorem zn1 {xs:List Int}(h : ∀ x∈xs,Fits x)(hl:xs.length<=24):(za0 xs).length<=504:=by
 unfold za0
 split
 ·simp
 ·have hjl:=zb4 [44] 20 (xs.map itoL) (zci h)
  rw [List.length_map] at hjl
  have:xs.length*(20+[(44:UInt8)].length)<=24*21:=Nat.mul_le_mul hl (Nat.le_refl _)
  omega
theorem zn2 {N:Nat}(bs:List Int)(h1:1<=N)(h2:N<=24):(vanL N bs).length<=24 /\ ∀ x∈vanL N bs,Fits x:=by
 obtain ⟨ha,_,hc⟩:=znu N h2 h1
 unfold vanL
 refine ⟨Nat.le_trans (List.length_filter_le _ _) hc,fun x hx=>?_⟩
 have:=ha x (List.mem_filter.1 hx).1
 unfold Fits;omega
def parT (N:Nat)(bs:List Int):Txt:=match parV N bs with
 | none=>[110,111,110,101]
 | some y=>zaj N y (fun _=>120)
theorem zn3 {N:Nat}{bs:List Int}(h2:N<=24):(parT N bs).length<=504:=by
 unfold parT
 split
 ·simp
 ·rw [zb5];omega
noncomputable def tilL (N:Nat)(bs:List Int):Txt:=zaf [[111,114,100,101,114,115],za0 (vanL N bs),[112,97,114,116,110,101,114],parT N bs] [32]
theorem zyk (N:Nat)(A:Option Addr)(cap:Nat)(bs:List Int)(w:World)(hA:Ints w w.heap.size A bs)(hok:RhOk N bs)(hP:Pow w) :
  Calls Tryz.prog 58 #[.agg #[.int .i64 N,.slice A bs.length cap]] w fun e w'=>e = .returned (.string (mkS (tilL N bs)))/\Below w.heap.size w w':=by
 have hn1:1<=N:=by have:=hok.1;omega
 have hn2:N<=24:=by have:=hok.2.1;omega
 have hfN:Fits (N:Int):=by unfold Fits;omega
 have HRO:=Zh (fun V h=>zao.2 hok ▸ zav N A cap bs V hfN h)
 obtain ⟨hd1,hd2,hd3⟩:=znu N hn2 hn1
 have HVO:=Zh (fun V h=>zya N A cap bs V h hok hd1 hd2 hd3)
 have HFP:=Zh (fun V h=>zyj N A cap bs V h hok)
 have HTX:=Zh (fun y (hy:parV N bs=some y) A c V h=>zdg N A c y V h (znv hok hy))
 obtain ⟨hvl,hvf⟩:=zn2 bs hn1 hn2
 have HVF:=Zh hvf
 have HFN:=Zh (fun A c V (hb:Below w.heap.size w V) h=>zfr A c (vanL N bs) V h (by omega) (hP.below hb))
 have hnl:=zn1 hvf hvl
 have hpl:=zn3 (bs:=bs) hn2
 have HPN:=Zh (fun (h:parV N bs=none)=>show parT N bs=[110,111,110,101] by unfold parT;rw [h])
 have HPY:=Zh (fun y (h:parV N bs=some y)=>show parT N bs=zaj N y (fun _=>120) by unfold parT;rw [h])
 have HLN:=Zh (show tilL N bs=zaf [[111,114,100,101,114,115],za0 (vanL N bs),[112,97,114,116,110,101,114],parT N bs] [32] from rfl)
 have hb0:=(Below.refl w.heap.size w).alloc (Nat.le_refl _) (.cells #[.int .i64 N,.slice A (bs).length cap] 27)
 have HBW:=Zh hb0
 have HVA:=Zh (Hav.boxed hA N cap)
 have HB5:=Zh (show Below w.heap.size w w from Below.refl _ _)
 clear hA hok hb0 hd1 hd2 hd3 hP
 obtain ⟨⟨p0,p1,_,_,_⟩,_⟩:=HVA.o
 obtain ⟨VL,hVL⟩ : ∃ v,vanL N bs=v:=⟨_,rfl⟩
 rw [hVL] at HVO HFN HLN hnl hvl HVF
 clear hVL hvf
 obtain ⟨NT,hNT⟩ : ∃ t,za0 VL=t:=⟨_,rfl⟩
 rw [hNT] at HFN HLN hnl
 clear hNT
 obtain ⟨PT,hPT⟩ : ∃ t,parT N bs=t:=⟨_,rfl⟩
 rw [hPT] at HLN hpl HPN HPY
 clear hPT
 have HJ:=Zh (fun V g (hg:V.heap.size=g)=>zdr (some ⟨g,0,none⟩) 4 [[111,114,100,101,114,115],NT,[112,97,114,116,110,101,114],PT] [32] 504 _ (ze4 V g _ (by simp) hg) (by simp) (by
  intro x hx
  simp at hx
  rcases hx with rfl | rfl | rfl | rfl <;> first | assumption | (simp;done) | omega) (by simp))
 rw [<- HLN.o] at HJ
 obtain ⟨W,hW⟩ : ∃ W,w.alloc (.cells #[.int .i64 N,.slice A (bs).length cap] 27)=W:=⟨_,rfl⟩
 rw [hW] at HBW HVA p0 p1
 go_enter Tryz.func58,Tryz.ntmps58
 go_wp2_with fail
 clear hW
 refine (HRO.o W HVA.o.2).mono ?_
 rintro e w1 ⟨rfl,hb⟩
 have HBW:=Zh (HBW.o.trans (hb.mono HBW.o.size))
 try have HVA:=Zh (HVA.o.lift hb)
 try have HVF:=Zh (HVF.o.lift hb)
 try have HVP:=Zh (HVP.o.lift hb)
 clear hb
 clear p0 p1
 obtain ⟨⟨p0,p1,_,_,_⟩,_⟩:=HVA.o
 go_wp2_with fail
 refine (HFP.o w1 HVA.o.2).mono ?_
 rintro e w2 ⟨h1,hb⟩
 have HBW:=Zh (HBW.o.trans (hb.mono HBW.o.size))
 try have HVA:=Zh (HVA.o.lift hb)
 try have HVF:=Zh (HVF.o.lift hb)
 try have HVP:=Zh (HVP.o.lift hb)
 clear hb
 clear p0 p1
 cases he:parV N bs with
 | none =>
  rw [he] at h1
  obtain rfl:e = .returned (.tuple #[.agg #[.int .i64 0,.slice none 0 0],.bool false]):=h1
  have hpt:=HPN.o he
  subst hpt
  clear he
  have hb:=(Below.refl w2.heap.size w2).alloc (Nat.le_refl _) (.cells #[.int .i64 0,.slice none 0 0] 27)
  have HBW:=Zh (HBW.o.trans (hb.mono HBW.o.size))
  try have HVA:=Zh (HVA.o.lift hb)
  try have HVF:=Zh (HVF.o.lift hb)
  try have HVP:=Zh (HVP.o.lift hb)
  clear hb
  obtain ⟨⟨p0,p1,_,_,_⟩,_⟩:=HVA.o
  go_wp2_with fail
  generalize w2.alloc (.cells #[.int .i64 0,.slice none 0 0] 27)=w3 at *
  refine (HVO.o w3 HVA.o.2).mono ?_
  rintro e w4 ⟨⟨gv,cv,hf,rfl,hgv,htab,hlst⟩,hb⟩
  have HIV:=Zh (show Ints w4 w4.heap.size (some ⟨gv,0,none⟩) VL by
   have:=htab.intsT (by unfold maxLen;omega) (fun t ht=>by
    have hm:hf t∈VL:=by rw [<- hlst];unfold lstF;rw [List.mem_map];exact ⟨t,by rw [List.mem_range];exact ht,rfl⟩
    exact HVF.o _ hm) 0
   rwa [hlst] at this)
  have HBW:=Zh (HBW.o.trans (hb.mono HBW.o.size))
  try have HVA:=Zh (HVA.o.lift hb)
  try have HVF:=Zh (HVF.o.lift hb)
  try have HVP:=Zh (HVP.o.lift hb)
  clear hb
  clear p0 p1 htab hlst hgv
  go_wp2_with fail
  refine (HFN.o _ cv w4 HBW.o HIV.o).mono ?_
  rintro e w5 ⟨rfl,hb⟩
  have HBW:=Zh (HBW.o.trans (hb.mono HBW.o.size))
  try have HVA:=Zh (HVA.o.lift hb)
  try have HVF:=Zh (HVF.o.lift hb)
  try have HVP:=Zh (HVP.o.lift hb)
  clear hb
  go_wp2_with fail
  refine (HJ.o w5 w5.heap.size rfl).mono ?_
  rintro e w6 ⟨rfl,hb⟩
  have HB6:=Zh (HBW.o.trans (((Below.refl w5.heap.size w5).alloc (Nat.le_refl _) _).mono HBW.o.size |>.trans (hb.mono (Nat.le_trans HBW.o.size (by simp)))))
  clear hb
  go_wp2_with fail
  go_ret
  exact ⟨rfl,HB6.o⟩
 | some y =>
  rw [he] at h1
  have h1' : ∃ A c,e = .returned (.tuple #[.agg #[.int .i64 N,.slice A y.length c],.bool true])/\Ints w2 w2.heap.size A y:=h1
  obtain ⟨A5,c5,rfl,hi5⟩:=h1'
  have hpt:=HPY.o y he
  subst hpt
  have HTX:=Zh (HTX.o y he)
  have HVP:=Zh (Hav.boxed hi5 N c5)
  clear he hi5 h1
  have hb:=(Below.refl w2.heap.size w2).alloc (Nat.le_refl _) (.cells #[.int .i64 N,.slice A5 (y).length c5] 27)
  have HVA:=Zh (HVA.o.lift hb)
  have HBW:=Zh (HBW.o.trans (hb.mono HBW.o.size))
  clear hb
  obtain ⟨wx,hwx⟩ : ∃ V,w2.alloc (.cells #[.int .i64 N,.slice A5 (y).length c5] 27)=V:=⟨_,rfl⟩
  rw [hwx] at HVA HBW HVP
  obtain ⟨⟨q0,q1,_,_,_⟩,_⟩:=HVP.o
  go_wp2_with fail
  clear hwx
  refine (HTX.o A5 c5 wx HVP.o.2).mono ?_
  rintro e w3 ⟨rfl,hb⟩
  have HVA:=Zh (HVA.o.lift hb)
  have HBW:=Zh (HBW.o.trans (hb.mono HBW.o.size))
  clear hb q0 q1
  obtain ⟨⟨p0,p1,_,_,_⟩,_⟩:=HVA.o
  go_wp2_with fail
  refine (HVO.o w3 HVA.o.2).mono ?_
  rintro e w4 ⟨⟨gv,cv,hf,rfl,hgv,htab,hlst⟩,hb⟩
  have HIV:=Zh (show Ints w4 w4.heap.size (some ⟨gv,0,none⟩) VL by
   have:=htab.intsT (by unfold maxLen;omega) (fun t ht=>by
    have hm:hf t∈VL:=by rw [<- hlst];unfold lstF;rw [List.mem_map];exact ⟨t,by rw [List.mem_range];exact ht,rfl⟩
    exact HVF.o _ hm) 0
   rwa [hlst] at this)
  have HBW:=Zh (HBW.o.trans (hb.mono HBW.o.size))
  try have HVA:=Zh (HVA.o.lift hb)
  try have HVF:=Zh (HVF.o.lift hb)
  try have HVP:=Zh (HVP.o.lift hb)
  clear hb
  clear p0 p1 htab hlst hgv
  go_wp2_with fail
  refine (HFN.o _ cv w4 HBW.o HIV.o).mono ?_
  rintro e w5 ⟨rfl,hb⟩
  have HBW:=Zh (HBW.o.trans (hb.mono HBW.o.size))
  try have HVA:=Zh (HVA.o.lift hb)
  try have HVF:=Zh (HVF.o.lift hb)
  try have HVP:=Zh (HVP.o.lift hb)
  clear hb
  go_wp2_with fail
  refine (HJ.o w5 w5.heap.size rfl).mono ?_
  rintro e w6 ⟨rfl,hb⟩
  have HB6:=Zh (HBW.o.trans (((Below.refl w5.heap.size w5).alloc (Nat.le_refl _) _).mono HBW.o.size |>.trans (hb.mono (Nat.le_trans HBW.o.size (by simp)))))
  clear hb
  go_wp2_with fail
  go_ret
  exact ⟨rfl,HB6.o⟩
end Go.Proofs.YtjpnjchpdkogbaaGreatDoor
namespace Go.Proofs.YtjpnjchpdkogbaaGreatDoor
open Go.RowKit
structure SV where
 xs:List Int
 A:Option Addr
 c:Nat
instance:Inhabited SV:=⟨⟨[],none,0⟩⟩
def SV.slc (r:SV):Value:=.slice r.A r.xs.length r.c
def SV.Rd (r:SV)(w:World)(o:Option Nat):Prop:=r.xs.length<=r.c/\Ints w w.heap.size r.A r.xs/\(0<r.xs.length -> ∀ b off t,r.A=some ⟨b,off,t⟩->o≠some b)
theorem SV.Rd.frm {r:SV}{w w':World}{o o':Option Nat}{S:Nat->Prop}(h:r.Rd w o)(hf:Frm S w w')(hS : ∀ b,S b->o=some b)(ho : ∀ g,o'=some g->o=some g\/w.heap.size<=g):r.Rd w' o':=by
 refine ⟨h.1,⟨h.2.1.1,h.2.1.2.1,fun hn=>?_⟩,fun hn b off t e he=>?_⟩
 ·obtain ⟨b,off,e,hb,hc⟩:=h.2.1.2.2 hn
  exact ⟨b,off,e,Nat.lt_of_lt_of_le hb hf.size,fun i hi=>(hf.cell hb (fun hs=>h.2.2 hn b off none e (hS b hs))).trans (hc i hi)⟩
 ·obtain ⟨b',off',e',hb',_⟩:=h.2.1.2.2 hn
  rw [e] at e'
  injection e' with e'
  injection e' with e1 e2 e3
  subst e1
  rcases ho b he with h1 | h1
  ·exact h.2.2 hn b off t e h1
  ·omega
theorem SV.Rd.lift {r:SV}{w w':World}{o:Option Nat}(h:r.Rd w o)(hb:Below w.heap.size w w'):r.Rd w' o:=h.frm (Frm.pure hb (fun _=>False)) (fun _ h=>h.elim) (fun _ h=>.inl h)
theorem SV.Rd.old {r:SV}{w:World}{o:Option Nat}(h1:r.xs.length<=r.c)(h:Ints w w.heap.size r.A r.xs)(ho : ∀ g,o=some g->w.heap.size<=g):r.Rd w o :=
 ⟨h1,h,fun hn b off t e he=>by
  obtain ⟨b',off',e',hb',_⟩:=h.2.2 hn
  rw [e] at e'
  injection e' with e'
  injection e' with e1 e2 e3
  subst e1
  have:=ho b he
  omega⟩
def OwnW (w:World)(base:Nat)(v:Value)(rs:List SV):Prop :=
 w.ownsRow base 25 1 v rs.length (rs.map SV.slc) /\ ∀ r∈rs,r.Rd w v.ownBlock
section
variable {w w':World} {base:Nat} {v:Value} {rs:List SV}
theorem OwnW.nil (w:World)(base:Nat):OwnW w base (.slice none 0 0) []:=⟨World.ownsRow_nil _ _ _ _,fun r hr=>by cases hr⟩
theorem OwnW.form (h:OwnW w base v rs) : ∃ A cap,v = .slice A rs.length cap:=by
 rcases h.1.2 with ⟨rfl,h0⟩ | ⟨g,cap,cur,rfl,_⟩
 ·exact ⟨none,0,by rw [h0]⟩
 ·exact ⟨some ⟨g,0,none⟩,cap,rfl⟩
theorem OwnW.lt (h:OwnW w base v rs) : ∀ g,v.ownBlock=some g->base<=g/\g<w.heap.size:=h.1.lt
theorem OwnW.lift (h:OwnW w base v rs)(hb:Below w.heap.size w w'):OwnW w' base v rs:=by
 refine ⟨⟨h.1.1,?_⟩,fun r hr=>(h.2 r hr).lift hb⟩
 rcases h.1.2 with h0 | ⟨g,cap,cur,e,hg,hh,rest⟩
 ·exact .inl h0
 ·have hlt:g<w.heap.size:=(Array.getElem?_eq_some_iff.1 hh).1
  exact .inr ⟨g,cap,cur,e,hg,by rw [hb.block g hlt];exact hh,rest⟩
theorem OwnW.drew (h:OwnW w base v rs):OwnW w.drew base v rs:=h
theorem OwnW.mono {base':Nat}(h:OwnW w base v rs)(hb:base'<=base):OwnW w base' v rs:=⟨⟨h.1.1,by
  rcases h.1.2 with h0 | ⟨g,cap,cur,e,hg,rest⟩
  ·exact .inl h0
  ·exact .inr ⟨g,cap,cur,e,by omega,rest⟩⟩,h.2⟩
theorem OwnW.cells {A:Option Addr}{cap:Nat}(h:OwnW w base (.slice A rs.length cap) rs)(hn:0<rs.length) : ∃ g,A=some ⟨g,0,none⟩/\base<=g/\g<w.heap.size /\ ∀ i (hi:i<rs.length),w.cell? ⟨g,i,none⟩=some rs[i].slc:=by
 rcases h.1.2 with ⟨hv,h0⟩ | ⟨g,cap',cur,hv,hge,hh,hnc,hm,hsz,hxs⟩
 ·omega
 ·have hA:A=some ⟨g,0,none⟩:=by injection hv
  subst hA
  refine ⟨g,rfl,hge,(h.1.lt g rfl).2,fun i hi=>?_⟩
  have h0:=World.ownsRow.cells h.1 (g:=g) rfl i rs[i].slc (by rw [List.getElem?_map,List.getElem?_eq_getElem hi];rfl)
  rwa [Go.WideShapes.add_plain,Nat.zero_add] at h0
theorem OwnW.lit (r:SV)(hb:base<=w.heap.size)(hr:r.xs.length<=r.c/\Ints w w.heap.size r.A r.xs):OwnW (w.alloc (.cells #[r.slc] 25)) base (.slice (some ⟨w.heap.size,0,none⟩) 1 1) [r]:=by
 refine ⟨World.ownsRow_lit w #[r.slc] 1 hb (by unfold maxLen;omega) rfl,fun r' hr'=>?_⟩
 rw [List.mem_singleton] at hr'
 subst hr'
 have h0:r'.Rd w (some w.heap.size):=SV.Rd.old hr.1 hr.2 (fun g hg=>by injection hg with hg;omega)
 exact h0.lift ((Below.refl _ _).alloc (Nat.le_refl _) _)
theorem OwnW.appended {news:List SV}{g cap:Nat}(h:OwnW w base v rs)(ho:w'.ownsRow base 25 1 (.slice (some ⟨g,0,none⟩) (rs.length+news.length) cap) (rs.length+news.length) (rs.map SV.slc++news.map SV.slc))
  (hg:w.grownBy w' v.ownBlock)(hat:v.ownBlock=some g\/g=w.heap.size)(hn : ∀ r∈news,r.Rd w v.ownBlock):OwnW w' base (.slice (some ⟨g,0,none⟩) (rs++news).length cap) (rs++news):=by
 have hf:Frm (fun c=>v.ownBlock=some c) w w':=⟨hg.os,hg.tape,hg.output,hg.size,fun c hc hS=>hg.block c hc (fun e=>hS e.symm)⟩
 refine ⟨by rw [List.length_append,List.map_append];exact ho,fun r hr=>?_⟩
 have hr':r.Rd w v.ownBlock:=by
  rcases List.mem_append.1 hr with h1 | h1
  ·exact h.2 r h1
  ·exact hn r h1
 refine hr'.frm hf (fun b hb=>hb) (fun k hk=>?_)
 have:g=k:=by simpa [Value.ownBlock] using hk
 subst this
 rcases hat with h1 | h1
 ·exact .inl h1
 ·exact .inr (by omega)
end
theorem Tryz.infoIntS:(Tryz.prog.info? 25).map (fun i=>(i.zero,i.size,i.bytes))=some (some (.slice none 0 0),1,24):=by kernel_rfl
theorem zga {w:World}{b off:Nat}{rs:List SV}(hc : ∀ i (hi:i<rs.length),w.cell? ⟨b,off+i,none⟩=some rs[i].slc) :
  (∀ j u,(rs.map SV.slc)[j]? = some u->w.cell? ((⟨b,off,none⟩:Addr).add j)=some u) /\ ∀ u∈rs.map SV.slc,u.oneCell'=true:=by
 refine ⟨fun j u hu=>?_,fun u hu=>?_⟩
 ·rw [List.getElem?_map] at hu
  have hj:j<rs.length:=by
   apply Classical.byContradiction
   intro hh
   rw [List.getElem?_eq_none (by omega)] at hu
   cases hu
  rw [Addr.add_lit,hc j hj]
  rw [List.getElem?_eq_getElem hj] at hu
  exact hu
 ·obtain ⟨t,_,rfl⟩:=List.mem_map.1 hu
  rfl
theorem zn4 {w:World}{ops:Array Oper}{o:Oper}{a:Act}{K:Act->World->Prop}{Q:Exit->Act->World->Prop}{E:Prop}(hgd:o.guard=none)(s x:Operand)
  (ho:o.op = .call { callee:=.builtin .append,args:=#[s,x],argTypes:=#[117,117] })
  (base:Nat) (v:Value) (rs:List SV) (hs:a.eval s=v) (hown:OwnW w base v rs) (b off c:Nat) (news:List SV) (hx:a.eval x = .slice (some ⟨b,off,none⟩) news.length c)
  (hc : ∀ i (hi:i<news.length),w.cell? ⟨b,off+i,none⟩=some news[i].slc) (hn : ∀ r∈news,r.Rd w v.ownBlock) (hm:0<news.length) (hlen:rs.length+news.length<=1000000) (hbase:base<=w.heap.size)
  (h : ∀ v' w',OwnW w' base v' (rs++news)->w.grownBy w' v.ownBlock->(∀ g,v'.ownBlock=some g->v.ownBlock=some g\/w.heap.size<=g)->K (a.put o.dst v') w') :
  if Region.wanted o (yielded ops a.tmps)=true then Oper.wp Tryz.prog o a w K Q else E:=by
 obtain ⟨i,hi,hz,hsz,hby⟩:=info_parts Tryz.infoIntS
 refine step_append_lies w hgd s x _ ho base 25 i _ 1 24 Tryz.underlying117 hi hz hsz hby rfl (by omega) v rs.length _ hs hown.1 ⟨b,off,none⟩ news.length c (news.map SV.slc) hx (by simp) (zga hc).1 (zga hc).2 hm (by unfold maxLen;omega) (by omega) hbase _ rfl ?_
 intro g cap w' hown' hgrow hat hlt
 have:=hown.appended hown' hgrow hat hn
 rw [List.length_append] at this
 exact h _ w' this hgrow (fun k hk=>by
  have e:g=k:=by simpa [Value.ownBlock] using hk
  subst e
  rcases hat with h1 | h1
  ·exact .inl h1
  ·exact .inr (by omega))
theorem zn5 {w:World}{ops:Array Oper}{o:Oper}{a:Act}{K:Act->World->Prop}{Q:Exit->Act->World->Prop}{E:Prop}(hgd:o.guard=none)(s x:Operand)
  (ho:o.op = .call { callee:=.builtin .append,args:=#[s,x],argTypes:=#[117,117] })
  (base:Nat) (v:Value) (rs:List SV) (hs:a.eval s=v) (hown:OwnW w base v rs) (hx:a.eval x = .slice none 0 0)
  (h:K (a.put o.dst v) w):if Region.wanted o (yielded ops a.tmps)=true then Oper.wp Tryz.prog o a w K Q else E:=by
 have hw:Region.wanted o (yielded ops a.tmps)=true:=by simp [Region.wanted,hgd]
 rw [if_pos hw]
 obtain ⟨i,hi,hz,hsz,hby⟩:=info_parts Tryz.infoIntS
 have hrun:=run_append_owned_none (P:=Tryz.prog) (w:=w) base 117 o.type 25 i 1 Tryz.underlying117 hi v rs.length _ hown.1
 unfold Oper.wp
 simp [execOp,ho,resolve,invoke,builtin,hs,hx,hrun,Result.andThen]
 exact h
end Go.Proofs.YtjpnjchpdkogbaaGreatDoor

namespace Go.Proofs.YtjpnjchpdkogbaaGreatDoor
open Go.RowKit Go.Shelf
theorem OwnI.capM {w:World}{base:Nat}{A:Option Addr}{cap:Nat}{xs:List Int}(h:OwnI w base (.slice A xs.length cap) xs):xs.length<=cap:=by
 rcases h.2 with ⟨hv,h0⟩ | ⟨g,cap',cur,hv,hge,hh,hnc,hm,hsz,hxs⟩
 ·omega
 ·injection hv with h1 h2 h3;omega
theorem OwnI.monoM {w:World}{base base':Nat}{v:Value}{xs:List Int}(h:OwnI w base v xs)(hb:base'<=base):OwnI w base' v xs :=
 ⟨h.1,by
  rcases h.2 with h0 | ⟨g,cap,cur,e,hg,rest⟩
  ·exact .inl h0
  ·exact .inr ⟨g,cap,cur,e,by omega,rest⟩⟩
theorem zyl {w:World}{B g off:Nat}{xs:List Int}(h:Ints w B (some ⟨g,off,none⟩) xs) : ∀ j,j<xs.length->w.cell? ⟨g,off+j,none⟩=some (.int .i64 (xs.getD j 0)):=by
 intro j hj
 obtain ⟨b,o,e,_,hc⟩:=h.2.2 (by omega)
 injection e with e
 injection e with e1 e2
 subst e1 e2
 exact hc j hj
theorem zym (A:Option Addr)(cap:Nat)(xs:List Int)(w:World)(h:Ints w w.heap.size A xs)(hl:xs.length<=1048576) :
  Calls Tryz.prog 12 #[.slice A xs.length cap] w fun e w'=>∃ v,e = .returned v/\OwnI w' w.heap.size v xs/\Below w.heap.size w w':=by
 by_cases hp:0<xs.length
 ·obtain ⟨b,off,rfl,_,_⟩:=h.2.2 hp
  refine (Any.slices_Clone_int Tryz.lays15 b off xs.length cap xs w (Nat.le_refl _) (by omega) (zyl h)).mono ?_
  rintro e w' ⟨v,rfl,ho,_,hb⟩
  rw [List.take_length] at ho
  exact ⟨v,rfl,ho,hb⟩
 ·have h0:xs=[]:=List.eq_nil_of_length_eq_zero (by omega)
  subst h0
  cases A with
  | none =>
   refine (Any.slices_Clone_int_nil Tryz.lays15 0 cap w).mono ?_
   rintro e w' ⟨rfl,rfl⟩
   exact ⟨_,rfl,OwnI.nil _ _,Below.refl _ _⟩
  | some a =>
   refine (Any.slices_Clone_int_zero Tryz.lays15 a cap w).mono ?_
   rintro e w' ⟨v,rfl,ho,_,hb⟩
   exact ⟨v,rfl,ho,hb⟩
theorem zgb : ∀ (f n:Nat) (b:List Int),(metL f n b).length<=6 ^ f
 | 0,_,_=>by show (0:Nat)<=1;omega
 | f+1,n,b=>by
  have hP : ∀ j,(metP f n b j).length<=j*6 ^ f:=by
   intro j
   induction j with
   | zero=>show (0:Nat)<=_;omega
   | succ j ih =>
    by_cases h:n % (j+2)=0
    ·rw [zie h,List.length_append,Nat.succ_mul]
     have:=zgb f (n / (j+2)) (b++[((j+2:Nat):Int)])
     omega
    ·rw [zif h,Nat.succ_mul];exact Nat.le_trans ih (Nat.le_add_right _ _)
  by_cases h1:n=1
  ·subst h1;rw [zmk];exact Nat.pow_pos (n:=f+1) (show 0<6 by omega)
  ·by_cases h5:b.length=5
   ·rw [zml h1 h5];exact Nat.zero_le _
   ·rw [zmm h1 h5]
    have:=hP 6
    rw [Nat.pow_succ];omega
theorem zyn (f n:Nat)(b:List Int)(hf:f<=5) : ∀ j,j<=6->(metP f n b j).length<=50000:=by
 intro j hj
 have hP : ∀ j,(metP f n b j).length<=j*6 ^ f:=by
  intro j
  induction j with
  | zero=>show (0:Nat)<=_;omega
  | succ j ih =>
   by_cases h:n % (j+2)=0
   ·rw [zie h,List.length_append,Nat.succ_mul]
    have:=zgb f (n / (j+2)) (b++[((j+2:Nat):Int)])
    omega
   ·rw [zif h,Nat.succ_mul];exact Nat.le_trans ih (Nat.le_add_right _ _)
 have h1:=hP j
 have h2:6 ^ f<=6 ^ 5:=Nat.pow_le_pow_right (by omega) hf
 have h3:j*6 ^ f<=6*6 ^ 5:=Nat.mul_le_mul hj h2
 have h4:(6:Nat)*6 ^ 5=46656:=by decide
 omega
def NewR (B:Nat)(rs:List SV):Prop:=∀ r∈rs,0<r.xs.length -> ∀ b off t,r.A=some ⟨b,off,t⟩->B<=b
theorem NewR.app {B:Nat}{rs ss:List SV}(h:NewR B rs)(k:NewR B ss):NewR B (rs++ss):=fun r hr=>by
 rcases List.mem_append.1 hr with h1 | h1
 ·exact h r h1
 ·exact k r h1
theorem NewR.mono {B B':Nat}{rs:List SV}(h:NewR B rs)(hB:B'<=B):NewR B' rs:=fun r hr hn b off t e=>Nat.le_trans hB (h r hr hn b off t e)
theorem NewR.nil (B:Nat):NewR B []:=fun r hr=>by cases hr
def RetM (w:World)(L:List (List Int))(e:Ending)(w':World):Prop:=∃ v rs,e = .returned v/\OwnW w' w.heap.size v rs/\rs.map SV.xs=L/\(rs=[]->v = .slice none 0 0)/\NewR w.heap.size rs/\Below w.heap.size w w'
theorem zyo : ∀ (f n:Nat) (b:List Int) (A:Option Addr) (c:Nat) (w:World),f+b.length=6->1<=f->1<=n->n<=24->Ints w w.heap.size A b ->
  Calls Tryz.prog 233 #[.int .i64 n,.slice A b.length c] w (RetM w (metL f n b)):=by
 intro f
 induction f with
 | zero=>intro n b A c w _ h;omega
 | succ f ih =>
  intro n b A c w hfl _ hn1 hn2 hA
  have HIH:=Zh (fun n b A c w h1 h2 h3 h4 h5=>ih n b A c w h1 h2 h3 h4 h5)
  clear ih
  have HCL:=Zh (fun V h=>zym A c b V h (by omega))
  have HA:=Zh hA
  have hb5:b.length<=5:=by omega
  clear hA
  by_cases h1:n=1
  ·subst h1
   rw [zmk]
   go_enter Tryz.func233,Tryz.ntmps233
   go_wp2_with fail
   refine (HCL.o _ HA.o).mono ?_
   rintro e w1 ⟨v1,rfl,hown,hb⟩
   obtain ⟨A1,c1,rfl⟩:=hown.form
   have hR:=OwnI.capM hown
   have hI:=hown.ints HA.o.2.1
   have HW:=Zh (OwnW.lit (w:=w1) (base:=w.heap.size) ⟨b,A1,c1⟩ hb.size ⟨hR,hI⟩)
   have HB:=Zh (hb.alloc hb.size (.cells #[(⟨b,A1,c1⟩:SV).slc] 25))
   have HNW:=Zh (show NewR w.heap.size [⟨b,A1,c1⟩] from fun r hr hn bb off t e=>by
    rw [List.mem_singleton] at hr
    subst hr
    have e':A1=some ⟨bb,off,t⟩:=e
    exact (hown.lt bb (by rw [e'];rfl)).1)
   clear hown hb hR hI
   go_wp2_with fail
   go_ret
   exact ⟨_,[⟨b,A1,c1⟩],rfl,HW.o,rfl,(fun h=>by cases h),HNW.o,HB.o⟩
  ·have hne:((n:Int)==1)=false:=beq_eq_false_iff_ne.2 (by omega)
   by_cases h5:b.length=5
   ·rw [zml h1 h5]
    go_enter Tryz.func233,Tryz.ntmps233
    go_wp2_with fail
    go_loopw [5,6] (fun so k wr=>so = .slice none 0 0/\k = .int .i64 2/\w=wr) (fun _ _ _=>0)
    case atStart=>exact ⟨rfl,rfl,rfl⟩
    case round =>
     obtain ⟨rfl,rfl,rfl⟩:=hrel
     go_wp2_with fail
     go_ret
     exact ⟨_,[],rfl,OwnW.nil _ _,rfl,fun _=>rfl,NewR.nil _,Below.refl _ _⟩
   ·have HGO:=Zh (zmm h1 h5:metL (f+1) n b=metP f n b 6)
    have HPB:=Zh (fun j hj=>zyn f n b (by omega) j hj)
    have hbl:(b.length:Int)<5:=by omega
    have hf1:1<=f:=by omega
    go_enter Tryz.func233,Tryz.ntmps233
    go_wp2_with fail
    go_loopw [5,6] (fun so k wr=>∃ (j:Nat) (rs:List SV),j<=6/\k = .int .i64 ((j+2:Nat):Int)/\OwnW wr w.heap.size so rs/\rs.map SV.xs=metP f n b j/\(rs=[]->so = .slice none 0 0)/\NewR w.heap.size rs/\Below w.heap.size w wr) (fun _ k _=>8-(intOf k).toNat)
    case atStart=>exact ⟨0,[],by omega,rfl,OwnW.nil _ _,rfl,fun _=>rfl,NewR.nil _,Below.refl _ _⟩
    case round =>
     obtain ⟨j,rs,hj,rfl,hown,hkey,hnl,hnw,hbel⟩:=hrel
     obtain ⟨wo,rfl⟩ : ∃ wo:World,wo=wr:=⟨_,rfl⟩
     obtain ⟨So,cso,rfl⟩:=hown.form
     have hrl:rs.length<=50000:=by
      have:=congrArg List.length hkey
      rw [List.length_map] at this
      have:=HPB.o j hj
      omega
     have hws:=hbel.size
     have HKY:=Zh hkey
     have HNL:=Zh hnl
     have HNW:=Zh hnw
     have hf5:f<=5:=by omega
     have HLA:=Zh hown
     have HBO:=Zh hbel
     clear hkey hnl hown hbel hnw
     by_cases hlt:j<6
     ·have hk7:((j+2:Nat):Int)<=7:=by omega
      have hnz:(((j+2:Nat):Int)=0)=False:=eq_false (by omega)
      have hrm:(n:Int).tmod ((j+2:Nat):Int)=((n % (j+2):Nat):Int):=by rw [Int.tmod_eq_emod_of_nonneg (by omega)];omega
      have hmb:n % (j+2)<j+2:=Nat.mod_lt _ (by omega)
      have hw1:IntKind.i64.wrap ((n % (j+2):Nat):Int)=((n % (j+2):Nat):Int):=i64w (by omega)
      by_cases hd:n % (j+2)=0
      ·have HSU:=Zh (zie (f:=f) (b:=b) hd)
       have hdv:(n:Int).tdiv ((j+2:Nat):Int)=((n / (j+2):Nat):Int):=by rw [Int.tdiv_eq_ediv_of_nonneg (by omega)];omega
       have hql:n / (j+2)<=n:=Nat.div_le_self _ _
       have hq1:1<=n / (j+2):=by
        have:=Nat.div_add_mod n (j+2)
        rw [hd,Nat.add_zero] at this
        rcases Nat.eq_zero_or_pos (n / (j+2)) with h0 | h0
        ·rw [h0,Nat.mul_zero] at this;omega
        ·exact h0
       have hw2:IntKind.i64.wrap ((n / (j+2):Nat):Int)=((n / (j+2):Nat):Int):=i64w (by omega)
       have hb1:f+(b++[((j+2:Nat):Int)]).length=6:=by rw [List.length_append,List.length_singleton];omega
       have HIJ:=Zh (fun A c V h=>HIH.o (n / (j+2)) (b++[((j+2:Nat):Int)]) A c V hb1 hf1 hq1 (by omega) h)
       rw [hd] at hrm hw1
       generalize n / (j+2)=q at *
       clear hb1 hmb
       have hnz2:(j+2=0)=False:=eq_false (by omega)
       generalize hk:j+2=k at *
       have HK:=Zh hk
       clear hk
       go_wp2_with fail
       have HBW:=Zh (Below.refl wo.heap.size wo.drew)
       have HLA:=Zh HLA.o.drew
       (refine wp_region_held_drew (S:=(fun _=>True)) (by kernel_rfl) ?_ (fun hHeld=>?_);(focus ((try dsimp only);all_goals trivial)))
       ((refine Zk 0 ?_;(try simp only [Act.put,Zz]));(refine Zk 1 ?_;(try simp only [Act.put,Zz]));(refine Zk 2 ?_;(try simp only [Act.put,Zz]));(refine Zk 3 ?_;(try simp only [Act.put,Zz]));(refine Zk 4 ?_;(try simp only [Act.put,Zz]));(refine Zk 6 ?_;(try simp only [Act.put,Zz])))
       refine wpAnyH_ready (rs:=[5,7]) (by kernel_rfl) (by simp) ?_
       refine AllReadyH.cons rfl (fun K hK=>?_) (AllReadyH.cons rfl (fun K hK=>?_) AllReadyH.nil)
       ·as_aux_lemma =>
        go_simp
        go_at_call 12
        refine (HCL.o wo.drew (show Ints wo.drew wo.drew.heap.size A b from (HA.o.below HBO.o).mono hws)).mono ?_
        rintro e w2 ⟨v2,rfl,hown2,hb2⟩
        obtain ⟨A2,c2,rfl⟩:=hown2.form
        have HO2:=Zh hown2
        have HBW:=Zh (HBW.o.trans hb2)
        clear hown2 hb2
        go_wp2_with fail
        (refine hK.out _ _ ?_ fun hHeld2=>?_;(focus ((try dsimp only);all_goals trivial));(clear hK K);(try simp only [Act.put,Zz]))
        (refine wpAnyH_ready (rs:=[7]) (by kernel_rfl) (by simp) ?_;refine AllReadyH.cons rfl (fun K hK=>?_) AllReadyH.nil;go_simp)
        have HOI:=Zh (show OwnI (w2.alloc (.cells #[.int .i64 k] 3)) wo.heap.size (.slice A2 b.length c2) b from HO2.o.alloc _)
        have HKC:=Zh (zag w2 (.int .i64 k) 3)
        have HBW:=Zh (HBW.o.alloc HBW.o.size (.cells #[.int .i64 k] 3))
        (refine hK.out _ _ ?_ fun hHeld2=>?_;(focus ((try dsimp only);all_goals trivial));(clear hK K);(try simp only [Act.put,Zz]))
        generalize w2.alloc (.cells #[.int .i64 k] 3)=w3 at *
        refine wpAnyH_ready (rs:=[8]) (by kernel_rfl) (by simp) ?_
        refine AllReadyH.cons rfl (fun K hK=>?_) AllReadyH.nil
        refine zc0 (by rfl) _ _ (by rfl) wo.heap.size _ b (by rfl) HOI.o _ (k:Int) (by rfl) HKC.o (by omega) HBW.o.size ?_
        intro v4 w4 hown4 hb4
        obtain ⟨A4,c4,rfl⟩:=hown4.form
        have HB4:=Zh (HBW.o.trans hb4)
        have HI4:=Zh (hown4.ints (fun x hx=>by
         rcases List.mem_append.1 hx with h | h
         ·exact HA.o.2.1 x h
         ·rw [List.mem_singleton] at h;subst h;unfold Fits;omega))
        clear hown4 hb4
        generalize b++[(k:Int)]=bk at *
        (try simp only [Act.put,Zz])
        (refine hK.out _ _ ?_ fun hHeld2=>?_;(focus ((try dsimp only);all_goals trivial));(clear hK K);(try simp only [Act.put,Zz]))
        (refine wpAnyH_ready (rs:=[9]) (by kernel_rfl) (by simp) ?_;refine AllReadyH.cons rfl (fun K hK=>?_) AllReadyH.nil;go_simp)
        go_at_call 233
        refine (HIJ.o A4 c4 _ HI4.o).mono ?_
        rintro e w5 ⟨v5,rs5,rfl,hown5,hkey5,hnl5,hnw5,hb5⟩
        have HB5:=Zh (HB4.o.trans (hb5.mono HB4.o.size))
        have HLA5:=Zh (HLA.o.lift (show Below wo.drew.heap.size wo.drew w5 from HB5.o))
        have hz4:wo.heap.size<=w4.heap.size:=HB4.o.size
        have hz5:wo.heap.size<=w5.heap.size:=HB5.o.size
        have HOL:=Zh (fun g (hg:(Value.slice So rs.length cso).ownBlock=some g)=>(HLA.o.lt g hg))
        obtain ⟨A5,c5,rfl⟩:=hown5.form
        have hr5:rs5.length<=50000:=by
         have h1:=congrArg List.length hkey5
         rw [List.length_map] at h1
         have h2:=zgb f q bk
         have h3:6 ^ f<=6 ^ 5:=Nat.pow_le_pow_right (by omega) hf5
         have h4:(6:Nat) ^ 5=7776:=by decide
         omega
        have hk6:(rs++rs5).map SV.xs=metP f n b (j+1):=by rw [List.map_append,HKY.o,hkey5,HSU.o]
        have hnw6:NewR w.heap.size (rs++rs5):=HNW.o.app (hnw5.mono (by omega))
        have HK6:=Zh hk6
        have HN6:=Zh hnw6
        clear hk6 hnw6 hkey5 hb5
        go_wp2_with fail
        (refine hK.out _ _ ?_ fun hHeld2=>?_;(focus ((try dsimp only);all_goals trivial));(clear hK K);(try simp only [Act.put,Zz]))
        refine wpAnyH_ready (rs:=[10]) (by kernel_rfl) (by simp) ?_
        refine AllReadyH.cons rfl (fun K hK=>?_) AllReadyH.nil
        by_cases h50:rs5=[]
        ·have hv5:=hnl5 h50
         subst h50
         rw [hv5]
         refine zn5 (by rfl) _ _ (by rfl) w.heap.size _ rs (by rfl) HLA5.o (by rfl) ?_
         have hkx:=HK6.o
         have hnx:=HN6.o
         rw [List.append_nil] at hkx hnx
         have HK7:=Zh hkx
         have HN7:=Zh hnx
         have HB7:=Zh ((Below.drewH_ HBO.o).trans (HB5.o.mono hws))
         clear hkx hnx hown5 hnl5 hnw5 hv5
         (try simp only [Act.put,Zz])
         (refine hK.out _ _ ?_ fun hHeld2=>?_;(focus ((try dsimp only);all_goals trivial));(clear hK K);(try simp only [Act.put,Zz]))
         (refine Zk 11 ?_;(try simp only [Act.put,Zz]))
         refine wpAnyH_done (by kernel_rfl) ?_ _
         go_wp2_with fail
         go_roundw
         case rel=>exact ⟨j+1,rs,by omega,by rw [<- HK.o];go_num,HLA5.o,HK7.o,HNL.o,HN7.o,HB7.o⟩
         case measure=>simp [intOf];omega
        ·have hpos:0<rs5.length:=List.length_pos_iff.2 h50
         obtain ⟨g5,hA5,hg51,hg52,hc5⟩:=hown5.cells hpos
         subst hA5
         refine zn4 (by rfl) _ _ (by rfl) w.heap.size _ rs (by rfl) HLA5.o g5 0 c5 rs5 (by rfl) (fun i hi=>by rw [Nat.zero_add];exact hc5 i hi) (fun r hr=>⟨(hown5.2 r hr).1,(hown5.2 r hr).2.1,fun hn bb off t e he=>by
          have h1:=hnw5 r hr hn bb off t e
          have h2:=HOL.o bb he
          have h3:bb<wo.heap.size:=h2.2
          omega⟩) hpos (by omega) (by omega) ?_
         intro v6 w6 hown6 hgr6 hat6
         have HO6:=Zh hown6
         have HB6:=Zh (((Below.drewH_ HBO.o).trans (HB5.o.mono hws)).trans ((Below.refl w.heap.size w5).grown hgr6 (by omega) (fun g hg=>(HOL.o g hg).1)))
         have hne6:rs++rs5=[]->v6 = .slice none 0 0:=fun h=>absurd (List.append_eq_nil_iff.1 h).2 h50
         have HE6:=Zh hne6
         clear hown6 hgr6 hat6 hc5 hown5 hnl5 hnw5 hne6
         (try simp only [Act.put,Zz])
         (refine hK.out _ _ ?_ fun hHeld2=>?_;(focus ((try dsimp only);all_goals trivial));(clear hK K);(try simp only [Act.put,Zz]))
         (refine Zk 11 ?_;(try simp only [Act.put,Zz]))
         refine wpAnyH_done (by kernel_rfl) ?_ _
         go_wp2_with fail
         go_roundw
         case rel=>exact ⟨j+1,rs++rs5,by omega,by rw [<- HK.o];go_num,HO6.o,HK6.o,HE6.o,HN6.o,HB6.o⟩
         case measure=>simp [intOf];omega
       ·as_aux_lemma =>
        go_simp
        have HKC0:=Zh (show (wo.alloc (.cells #[.int .i64 k] 3)).drew.cell? ⟨wo.heap.size,0,none⟩=some (.int .i64 k) from zag wo (.int .i64 k) 3)
        have HBW:=Zh (show Below wo.heap.size wo.drew (wo.alloc (.cells #[.int .i64 k] 3)).drew from HBW.o.alloc HBW.o.size (.cells #[.int .i64 k] 3))
        have hgl:wo.heap.size<(wo.alloc (.cells #[.int .i64 k] 3)).drew.heap.size:=by show wo.heap.size<(wo.alloc _).heap.size;simp
        (refine hK.out _ _ ?_ fun hHeld2=>?_;(focus ((try dsimp only);all_goals trivial));(clear hK K);(try simp only [Act.put,Zz]))
        generalize (wo.alloc (.cells #[.int .i64 k] 3)).drew=w2 at *
        (refine wpAnyH_ready (rs:=[5]) (by kernel_rfl) (by simp) ?_;refine AllReadyH.cons rfl (fun K hK=>?_) AllReadyH.nil;go_simp)
        go_at_call 12
        refine (HCL.o _ ((HA.o.below ((Below.drewH_ HBO.o).trans (HBW.o.mono hws))).mono (by have:=HBW.o.size;have h9:wo.drew.heap.size=wo.heap.size:=rfl;omega))).mono ?_
        rintro e w3 ⟨v2,rfl,hown2,hb2⟩
        obtain ⟨A2,c2,rfl⟩:=hown2.form
        have HOI:=Zh (show OwnI w3 wo.heap.size (.slice A2 b.length c2) b from hown2.monoM (by have:=HBW.o.size;have h9:wo.drew.heap.size=wo.heap.size:=rfl;omega))
        have HKC:=Zh ((hb2.cell (p:=⟨wo.heap.size,0,none⟩) hgl).trans HKC0.o)
        have HBW:=Zh (HBW.o.trans (hb2.mono HBW.o.size))
        clear hown2 hb2
        go_wp2_with fail
        (refine hK.out _ _ ?_ fun hHeld2=>?_;(focus ((try dsimp only);all_goals trivial));(clear hK K);(try simp only [Act.put,Zz]))
        refine wpAnyH_ready (rs:=[8]) (by kernel_rfl) (by simp) ?_
        refine AllReadyH.cons rfl (fun K hK=>?_) AllReadyH.nil
        refine zc0 (by rfl) _ _ (by rfl) wo.heap.size _ b (by rfl) HOI.o _ (k:Int) (by rfl) HKC.o (by omega) HBW.o.size ?_
        intro v4 w4 hown4 hb4
        obtain ⟨A4,c4,rfl⟩:=hown4.form
        have HB4:=Zh (HBW.o.trans hb4)
        have HI4:=Zh (hown4.ints (fun x hx=>by
         rcases List.mem_append.1 hx with h | h
         ·exact HA.o.2.1 x h
         ·rw [List.mem_singleton] at h;subst h;unfold Fits;omega))
        clear hown4 hb4
        generalize b++[(k:Int)]=bk at *
        (try simp only [Act.put,Zz])
        (refine hK.out _ _ ?_ fun hHeld2=>?_;(focus ((try dsimp only);all_goals trivial));(clear hK K);(try simp only [Act.put,Zz]))
        (refine wpAnyH_ready (rs:=[9]) (by kernel_rfl) (by simp) ?_;refine AllReadyH.cons rfl (fun K hK=>?_) AllReadyH.nil;go_simp)
        go_at_call 233
        refine (HIJ.o A4 c4 _ HI4.o).mono ?_
        rintro e w5 ⟨v5,rs5,rfl,hown5,hkey5,hnl5,hnw5,hb5⟩
        have HB5:=Zh (HB4.o.trans (hb5.mono HB4.o.size))
        have HLA5:=Zh (HLA.o.lift (show Below wo.drew.heap.size wo.drew w5 from HB5.o))
        have hz4:wo.heap.size<=w4.heap.size:=HB4.o.size
        have hz5:wo.heap.size<=w5.heap.size:=HB5.o.size
        have HOL:=Zh (fun g (hg:(Value.slice So rs.length cso).ownBlock=some g)=>(HLA.o.lt g hg))
        obtain ⟨A5,c5,rfl⟩:=hown5.form
        have hr5:rs5.length<=50000:=by
         have h1:=congrArg List.length hkey5
         rw [List.length_map] at h1
         have h2:=zgb f q bk
         have h3:6 ^ f<=6 ^ 5:=Nat.pow_le_pow_right (by omega) hf5
         have h4:(6:Nat) ^ 5=7776:=by decide
         omega
        have hk6:(rs++rs5).map SV.xs=metP f n b (j+1):=by rw [List.map_append,HKY.o,hkey5,HSU.o]
        have hnw6:NewR w.heap.size (rs++rs5):=HNW.o.app (hnw5.mono (by omega))
        have HK6:=Zh hk6
        have HN6:=Zh hnw6
        clear hk6 hnw6 hkey5 hb5
        go_wp2_with fail
        (refine hK.out _ _ ?_ fun hHeld2=>?_;(focus ((try dsimp only);all_goals trivial));(clear hK K);(try simp only [Act.put,Zz]))
        refine wpAnyH_ready (rs:=[10]) (by kernel_rfl) (by simp) ?_
        refine AllReadyH.cons rfl (fun K hK=>?_) AllReadyH.nil
        by_cases h50:rs5=[]
        ·have hv5:=hnl5 h50
         subst h50
         rw [hv5]
         refine zn5 (by rfl) _ _ (by rfl) w.heap.size _ rs (by rfl) HLA5.o (by rfl) ?_
         have hkx:=HK6.o
         have hnx:=HN6.o
         rw [List.append_nil] at hkx hnx
         have HK7:=Zh hkx
         have HN7:=Zh hnx
         have HB7:=Zh ((Below.drewH_ HBO.o).trans (HB5.o.mono hws))
         clear hkx hnx hown5 hnl5 hnw5 hv5
         (try simp only [Act.put,Zz])
         (refine hK.out _ _ ?_ fun hHeld2=>?_;(focus ((try dsimp only);all_goals trivial));(clear hK K);(try simp only [Act.put,Zz]))
         (refine Zk 11 ?_;(try simp only [Act.put,Zz]))
         refine wpAnyH_done (by kernel_rfl) ?_ _
         go_wp2_with fail
         go_roundw
         case rel=>exact ⟨j+1,rs,by omega,by rw [<- HK.o];go_num,HLA5.o,HK7.o,HNL.o,HN7.o,HB7.o⟩
         case measure=>simp [intOf];omega
        ·have hpos:0<rs5.length:=List.length_pos_iff.2 h50
         obtain ⟨g5,hA5,hg51,hg52,hc5⟩:=hown5.cells hpos
         subst hA5
         refine zn4 (by rfl) _ _ (by rfl) w.heap.size _ rs (by rfl) HLA5.o g5 0 c5 rs5 (by rfl) (fun i hi=>by rw [Nat.zero_add];exact hc5 i hi) (fun r hr=>⟨(hown5.2 r hr).1,(hown5.2 r hr).2.1,fun hn bb off t e he=>by
          have h1:=hnw5 r hr hn bb off t e
          have h2:=HOL.o bb he
          have h3:bb<wo.heap.size:=h2.2
          omega⟩) hpos (by omega) (by omega) ?_
         intro v6 w6 hown6 hgr6 hat6
         have HO6:=Zh hown6
         have HB6:=Zh (((Below.drewH_ HBO.o).trans (HB5.o.mono hws)).trans ((Below.refl w.heap.size w5).grown hgr6 (by omega) (fun g hg=>(HOL.o g hg).1)))
         have hne6:rs++rs5=[]->v6 = .slice none 0 0:=fun h=>absurd (List.append_eq_nil_iff.1 h).2 h50
         have HE6:=Zh hne6
         clear hown6 hgr6 hat6 hc5 hown5 hnl5 hnw5 hne6
         (try simp only [Act.put,Zz])
         (refine hK.out _ _ ?_ fun hHeld2=>?_;(focus ((try dsimp only);all_goals trivial));(clear hK K);(try simp only [Act.put,Zz]))
         (refine Zk 11 ?_;(try simp only [Act.put,Zz]))
         refine wpAnyH_done (by kernel_rfl) ?_ _
         go_wp2_with fail
         go_roundw
         case rel=>exact ⟨j+1,rs++rs5,by omega,by rw [<- HK.o];go_num,HO6.o,HK6.o,HE6.o,HN6.o,HB6.o⟩
         case measure=>simp [intOf];omega
      ·have HSU:=Zh (zif (f:=f) (b:=b) hd)
       have hmz:((n % (j+2):Nat):Int)≠0:=by omega
       generalize n % (j+2)=m at *
       have hme:((m:Int)==0)=false:=beq_eq_false_iff_ne.2 hmz
       have hnz2:(j+2=0)=False:=eq_false (by omega)
       generalize hk:j+2=k at *
       have HK:=Zh hk
       clear hk
       go_wp2_with fail
       go_roundw
       case rel=>exact ⟨j+1,rs,by omega,by rw [<- HK.o];go_num,HLA.o,by rw [HKY.o,HSU.o],HNL.o,HNW.o,HBO.o⟩
       case measure=>simp [intOf];omega
     ·have hje:j=6:=by omega
      subst hje
      go_wp2_with fail
      go_ret
      rw [HGO.o]
      exact ⟨_,rs,rfl,HLA.o,HKY.o,HNL.o,HNW.o,HBO.o⟩
end Go.Proofs.YtjpnjchpdkogbaaGreatDoor
namespace Go.Proofs.YtjpnjchpdkogbaaGreatDoor
open Go.RowKit Go.Shelf
end Go.Proofs.YtjpnjchpdkogbaaGreatDoor
