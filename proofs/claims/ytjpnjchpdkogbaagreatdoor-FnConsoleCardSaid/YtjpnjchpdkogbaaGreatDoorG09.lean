/- Parts of the proof of the card of the law FnConsole. -/
import Derived.Test.YtjpnjchpdkogbaaGreatDoorG03
import Derived.Test.YtjpnjchpdkogbaaGreatDoorG08
import Derived.Laws.BitsLemmas
import Derived.Test.YtjpnjchpdkogbaaGreatDoorG04
import Derived.WalkSpells
import Derived.Test.YtjpnjchpdkogbaaGreatDoorG07
import Derived.Test.YtjpnjchpdkogbaaGreatDoorG02
import Derived.Test.YtjpnjchpdkogbaaGreatDoorG06
import Derived.Test.YtjpnjchpdkogbaaGreatDoorJoin
set_option linter.unusedVariables false
set_option linter.unusedSimpArgs false
set_option maxRecDepth 100000
set_option maxHeartbeats 4000000
namespace Go.Proofs.YtjpnjchpdkogbaaGreatDoor
open Go.RowKit
theorem zuc (n:Int):bits .and .i64 n 255=n % 256:=by
 have h127:(BitVec.ofInt 64 255).toNat=2 ^ 8-1:=by decide
 have key:(BitVec.ofInt 64 n &&& BitVec.ofInt 64 255).toNat=(n % ((2 ^ 64:Nat):Int)).toNat % 2 ^ 8:=by
  rw [BitVec.toNat_and,BitVec.toNat_ofInt,h127,Nat.and_two_pow_sub_one_eq_mod]
 show IntKind.i64.wrap ((BitVec.ofInt 64 n &&& BitVec.ofInt 64 255).toNat:Nat)=n % 256
 rw [key,IntKind.wrap_i64]
 omega
theorem zud (n:Int):bits .and .i64 n 1073741823=n % 1073741824:=by
 have h127:(BitVec.ofInt 64 1073741823).toNat=2 ^ 30-1:=by decide
 have key:(BitVec.ofInt 64 n &&& BitVec.ofInt 64 1073741823).toNat=(n % ((2 ^ 64:Nat):Int)).toNat % 2 ^ 30:=by
  rw [BitVec.toNat_and,BitVec.toNat_ofInt,h127,Nat.and_two_pow_sub_one_eq_mod]
 show IntKind.i64.wrap ((BitVec.ofInt 64 n &&& BitVec.ofInt 64 1073741823).toNat:Nat)=n % 1073741824
 rw [key,IntKind.wrap_i64]
 omega
def Byt (w:World)(B:Nat)(A:Option Addr)(xs:List Int):Prop :=
 xs.length<=maxLen/\(∀ x∈xs,0<=x/\x<256) /\
 (0<xs.length -> ∃ b off,A=some ⟨b,off,none⟩/\b<B /\ ∀ i,i<xs.length->w.cell? ⟨b,off+i,none⟩=some (.int .u8 (xs.getD i 0)))
theorem Byt.below {w w':World}{B:Nat}{A:Option Addr}{xs:List Int}(h:Byt w B A xs)(hb:Below B w w'):Byt w' B A xs:=by
 refine ⟨h.1,h.2.1,fun hn=>?_⟩
 obtain ⟨b,off,rfl,hlt,hc⟩:=h.2.2 hn
 exact ⟨b,off,rfl,hlt,fun i hi=>(hb.cell (p:=⟨b,off+i,none⟩) hlt).trans (hc i hi)⟩
theorem zl7 {xs:List Int}(h : ∀ x∈xs,0<=x/\x<256){k:Nat}(hk:k<xs.length):0<=xs.getD k 0/\xs.getD k 0<256:=by
 rw [List.getD_eq_getElem?_getD,List.getElem?_eq_getElem hk];exact h _ (List.getElem_mem hk)
def Cur (w:World)(g:Nat)(A:Option Addr)(cap:Nat)(xs:List Int):Prop :=
 Byt w g A xs/\g<w.heap.size/\w.cell? ⟨g,0,none⟩=some (.slice A xs.length cap) /\
 ∃ (i:Nat) (h:Int),i<=xs.length/\w.cell? ⟨g,1,none⟩=some (.int .i64 i)/\w.cell? ⟨g,2,none⟩=some (.int .i64 h) /\
  w.frozen? ⟨g,1,none⟩=false/\w.frozen? ⟨g,2,none⟩=false
theorem Cur.frm {w w':World}{g:Nat}{A:Option Addr}{cap:Nat}{xs:List Int}{S:Nat->Prop}(h:Cur w g A cap xs)(hf:Frm S w w')(hS : ∀ c,S c->g<c):Cur w' g A cap xs:=by
 obtain ⟨hb,hg,c0,i,hh,hi,c1,c2,f1,f2⟩:=h
 have hng : ¬ S g:=fun hs=>by have:=hS g hs;omega
 refine ⟨hb.below (hf.below (fun c hc=>by have:=hS c hc;omega) (by omega)),Nat.lt_of_lt_of_le hg hf.size,(hf.cell hg hng).trans c0,i,hh,hi,(hf.cell hg hng).trans c1,(hf.cell hg hng).trans c2,(hf.frozen hg hng).trans f1,(hf.frozen hg hng).trans f2⟩
theorem zue (g:Nat)(A:Option Addr)(cap:Nat)(xs:List Int)(w:World)(hC:Cur w g A cap xs) :
  Calls Tryz.prog 84 #[.pointer (some ⟨g,0,none⟩)] w fun e w'=>(∃ x:Int,e = .returned (.int .i64 x)/\0<=x/\x<=255)/\Cur w' g A cap xs/\Frm (fun c=>c=g) w w':=by
 have HC:=Zh hC
 obtain ⟨hb,hg,c0,i,hh,hi,c1,c2,f1,f2⟩:=hC
 have hml:=hb.1
 unfold maxLen at hml
 have HB:=Zh hb
 have hand:=zuc
 clear hb
 obtain ⟨H1,hH⟩ : ∃ H1,wrap64 (wrap64 (hh*6364136223846793005)+1442695040888963407)=H1:=⟨_,rfl⟩
 go_enter Tryz.func84,Tryz.ntmps84
 go_wp2_with fail
 try rw [hH]
 have d2:=World.cell?_setCell_same w ⟨g,2,none⟩ (.int .i64 H1) c2
 have d1:=(World.cell?_setCell_other w ⟨g,2,none⟩ ⟨g,1,none⟩ (.int .i64 H1) (fun q=>by injection q;omega)).trans c1
 have d0:=(World.cell?_setCell_other w ⟨g,2,none⟩ ⟨g,0,none⟩ (.int .i64 H1) (fun q=>by injection q;omega)).trans c0
 have e1:=(World.frozen?_setCell w ⟨g,2,none⟩ ⟨g,1,none⟩ (.int .i64 H1)).trans f1
 have e2:=(World.frozen?_setCell w ⟨g,2,none⟩ ⟨g,2,none⟩ (.int .i64 H1)).trans f2
 have HF:=Zh ((Frm.refl (fun c=>c=g) w).setCell (p:=⟨g,2,none⟩) rfl (.int .i64 H1))
 have HB1:=Zh (HB.o.below ((Below.refl g w).setCell (p:=⟨g,2,none⟩) (Nat.le_refl _) (.int .i64 H1)))
 have hg1:g<(w.setCell ⟨g,2,none⟩ (.int .i64 H1)).heap.size:=by simpa [World.setCell] using hg
 generalize w.setCell ⟨g,2,none⟩ (.int .i64 H1)=W1 at *
 clear c0 c1 c2 f1 f2 hH
 go_quiet (fail)
 go_wp2_with fail
 obtain ⟨z,hz⟩ : ∃ z,bits .xor .i64 (H1 / 8589934592) (H1 / 35184372088832)=z:=⟨_,rfl⟩
 try rw [hz]
 clear hz
 by_cases hlt:i<xs.length
 ·obtain ⟨b,off,rfl,hB,hc⟩:=HB1.o.2.2 (by omega)
  have hcell:=hc i hlt
  have hxy:=zl7 HB1.o.2.1 hlt
  obtain ⟨y,hy⟩ : ∃ y,xs.getD i 0=y:=⟨_,rfl⟩
  rw [hy] at hcell hxy
  clear hc hy
  go_quiet (fail)
  go_wp2_with fail
  go_quiet (fail)
  go_wp2_with fail
  go_ret
  refine ⟨⟨_,rfl,Int.emod_nonneg _ (by decide),by have:=Int.emod_lt_of_pos (z+y) (show (0:Int)<256 by decide);omega⟩,?_,?_⟩
  ·refine ⟨Byt.below (w:=W1.drewN _) HB1.o ((Below.refl g _).setCell (p:=⟨g,1,none⟩) (Nat.le_refl _) _),by simpa [World.setCell] using hg1,(World.cell?_setCell_other _ ⟨g,1,none⟩ ⟨g,0,none⟩ _ (fun q=>by injection q;omega)).trans d0,i+1,H1,hlt,World.cell?_setCell_same _ _ _ (show (W1.drewN _).cell? ⟨g,1,none⟩=_ from d1),(World.cell?_setCell_other _ ⟨g,1,none⟩ ⟨g,2,none⟩ _ (fun q=>by injection q;omega)).trans d2,(World.frozen?_setCell _ _ _ _).trans e1,(World.frozen?_setCell _ _ _ _).trans e2⟩
  ·exact Frm.setCell (p:=⟨g,1,none⟩) (Frm.drewN HF.o _) rfl _
 ·go_quiet (fail)
  go_wp2_with fail
  go_ret
  refine ⟨⟨_,rfl,Int.emod_nonneg _ (by decide),by have:=Int.emod_lt_of_pos z (show (0:Int)<256 by decide);omega⟩,?_,?_⟩
  ·exact ⟨HB1.o,hg1,d0,i,H1,hi,d1,d2,e1,e2⟩
  ·first | exact Frm.drewN HF.o _ | exact Frm.drewN (Frm.drewN HF.o _) _
theorem zl8 (w:World){A:Option Addr}{cap:Nat}{xs:List Int}(hB:Byt w w.heap.size A xs)(z:Int):Cur (w.alloc (.cells #[.slice A xs.length cap,.int .i64 0,.int .i64 z] 59)) w.heap.size A cap xs:=by
 have hh:(w.alloc (.cells #[.slice A xs.length cap,.int .i64 0,.int .i64 z] 59)).heap[w.heap.size]? = some (.cells #[.slice A xs.length cap,.int .i64 0,.int .i64 z] 59 (0,0)):=heap_alloc_new w _
 exact ⟨hB.below ((Below.refl _ _).alloc (Nat.le_refl _) _),by simp,by rw [cell_of_row _ _ _ _ _ _ hh];rfl,0,z,Nat.zero_le _,by rw [cell_of_row _ _ _ _ _ _ hh];rfl,by rw [cell_of_row _ _ _ _ _ _ hh];rfl,frozen_of_row _ _ _ _ _ hh,frozen_of_row _ _ _ _ _ hh⟩
def zuf (w:World)(A:Option Addr)(cap:Nat)(xs:List Int)(e:Ending)(w':World):Prop :=
 ∃ g,e = .returned (.pointer (some ⟨g,0,none⟩))/\w.heap.size<=g/\Cur w' g A cap xs/\Below w.heap.size w w'
theorem zug (A:Option Addr)(cap:Nat)(xs:List Int)(w:World)(hB:Byt w w.heap.size A xs) :
  Calls Tryz.prog 10 #[.slice A xs.length cap] w (zuf w A cap xs):=by
 have HB:=Zh hB
 have hml:=hB.1
 unfold maxLen at hml
 have hand:=zud
 clear hB
 go_enter Tryz.func10,Tryz.ntmps10
 go_wp2_with fail
 go_loop [3,4] (fun h i=>∃ (k:Nat) (z:Int),k<=xs.length/\i = .int .i64 k/\h = .int .i64 z) (fun _ i=>xs.length-(intOf i).toNat)
 case atStart=>exact ⟨0,_,Nat.zero_le _,rfl,rfl⟩
 case round =>
  obtain ⟨k,z,hk,rfl,rfl⟩:=hrel
  by_cases hlt:k<xs.length
  ·obtain ⟨b,off,rfl,hBo,hc⟩:=HB.o.2.2 (by omega)
   have hcell:=hc k hlt
   have hxy:=zl7 HB.o.2.1 hlt
   generalize xs.getD k 0=y at hcell hxy
   have hwy:IntKind.i64.wrap y=y:=i64w (by omega)
   clear hc
   by_cases h4:k<4000
   ·go_wp2_with fail
    go_round
    case rel=>exact ⟨k+1,_,by omega,by go_num,rfl⟩
    case measure=>simp [intOf];omega
   ·go_wp2_with fail
    go_ret
    exact ⟨w.heap.size,rfl,Nat.le_refl _,zl8 w HB.o z,(Below.refl _ _).alloc (Nat.le_refl _) _⟩
  ·go_wp2_with fail
   go_ret
   exact ⟨w.heap.size,rfl,Nat.le_refl _,zl8 w HB.o z,(Below.refl _ _).alloc (Nat.le_refl _) _⟩
end Go.Proofs.YtjpnjchpdkogbaaGreatDoor
namespace Go.Proofs.YtjpnjchpdkogbaaGreatDoor
open Go.RowKit
theorem zh7 (g:Nat)(A:Option Addr)(cap:Nat)(xs:List Int)(n:Nat)(w:World)(hC:Cur w g A cap xs)(h1:1<=n)(h2:n<=256) :
  Calls Tryz.prog 20 #[.pointer (some ⟨g,0,none⟩),.int .i64 n] w fun e w'=>(∃ x:Nat,e = .returned (.int .i64 x)/\x<n)/\Cur w' g A cap xs/\Frm (fun c=>c=g) w w':=by
 have HB:=Zh (zue g A cap xs w hC)
 have hn0 : ¬ (n:Int)<=0:=by omega
 have hn2:(n:Int)<=256:=by omega
 have hnz:((n:Int)=0)=False:=by rw [eq_iff_iff,iff_false];omega
 have hnn : ¬ n=0:=by omega
 clear hC
 go_enter Tryz.func20,Tryz.ntmps20
 go_wp2_with fail
 refine HB.o.mono ?_
 rintro e w1 ⟨⟨x,rfl,hx0,hx1⟩,hc1,hf1⟩
 obtain ⟨x,rfl⟩:=Int.eq_ofNat_of_zero_le hx0
 have hr:x % n<n:=Nat.mod_lt _ (by omega)
 go_wp2_with fail
 go_ret
 exact ⟨⟨x % n,by rw [Int.natCast_emod];rfl,hr⟩,hc1,hf1⟩
theorem zuh {S:Nat->Prop}{w w1 w2:World}{q:Nat}(h:Frm S w w1)(hb:Below q w1 w2)(hq:w.heap.size<=q):Frm S w w2 :=
 ⟨hb.os.trans h.os,hb.tape.trans h.tape,hb.output.trans h.output,Nat.le_trans h.size hb.size,fun c hc hS=>(hb.block c (by omega)).trans (h.block c hc hS)⟩
end Go.Proofs.YtjpnjchpdkogbaaGreatDoor
namespace Go.Proofs.YtjpnjchpdkogbaaGreatDoor
open Go.RowKit
theorem zl9 (N:Nat)(A:Option Addr)(cap:Nat)(bs:List Int)(w:World)(hA:Ints w w.heap.size A bs)(hok:RhOk N bs) :
  Calls Tryz.prog 52 #[.agg #[.int .i64 N,.slice A bs.length cap]] w fun e w'=>e = .returned (.string (mkS (zaj N bs (fun _=>120))))/\Below w.heap.size w w':=by
 have hfN:Fits (N:Int):=by have h1:=hok.1;have h2:=hok.2.1;unfold Fits;omega
 have HRO:=Zh (fun V h=>zav N A cap bs V hfN h)
 rw [zao.2 hok] at HRO
 have HVE:=Zh (fun V h=>zdg N A cap bs V h hok)
 generalize mkS (zaj N bs (fun _=>120))=per at HVE ⊢
 obtain ⟨c0,c1⟩:=box2 (Below.refl (w.heap.size+1) (w.alloc (.cells #[.int .i64 N,.slice A bs.length cap] 27)))
 have HB0:=Zh ((Below.refl w.heap.size w).alloc (Nat.le_refl _) (.cells #[.int .i64 N,.slice A bs.length cap] 27))
 have HC0:=Zh (Cells2.new w (.int .i64 N) (.slice A bs.length cap) 27)
 have HI0:=Zh (hA.lift HB0.o)
 clear hA hok
 go_enter Tryz.func52,Tryz.ntmps52
 go_wp2_with fail
 refine (HRO.o _ HI0.o).mono ?_
 rintro e w1 ⟨rfl,hb⟩
 have HB1:=Zh (HB0.o.trans (hb.mono HB0.o.size))
 have HC1:=Zh (HC0.o.below hb HC0.o.2.2.2.2)
 have HI1:=Zh (HI0.o.lift hb)
 clear hb c0 c1
 obtain ⟨c0,c1,_,_,_⟩:=HC1.o
 go_wp2_with fail
 refine (HVE.o _ HI1.o).mono ?_
 rintro e w2 ⟨rfl,hb⟩
 have HB2:=Zh (HB1.o.trans (hb.mono HB1.o.size))
 have HC2:=Zh (HC1.o.below hb HC1.o.2.2.2.2)
 have HI2:=Zh (HI1.o.lift hb)
 clear hb c0 c1
 obtain ⟨c0,c1,_,_,_⟩:=HC2.o
 go_wp2_with fail
 go_ret
 exact ⟨rfl,HB2.o⟩
end Go.Proofs.YtjpnjchpdkogbaaGreatDoor
namespace Go.Proofs.YtjpnjchpdkogbaaGreatDoor
open Go.RowKit
def Con (w:World)(g:Nat)(n:Int)(R W:Value)(bad:Bool):Prop :=
 g<w.heap.size/\w.cell? ⟨g,0,none⟩=some (.int .i64 n)/\w.cell? ⟨g,1,none⟩=some R/\w.cell? ⟨g,2,none⟩=some W/\w.cell? ⟨g,3,none⟩=some (.bool bad) /\
 w.frozen? ⟨g,0,none⟩=false/\w.frozen? ⟨g,1,none⟩=false/\w.frozen? ⟨g,2,none⟩=false/\w.frozen? ⟨g,3,none⟩=false
section
variable {w w':World} {g:Nat} {n:Int} {R W:Value} {bad:Bool}
theorem Con.of_block (h:Con w g n R W bad)(hs:w.heap.size<=w'.heap.size)(hh:w'.heap[g]? = w.heap[g]?):Con w' g n R W bad:=by
 obtain ⟨h0,h1,h2,h3,h4,f0,f1,f2,f3⟩:=h
 refine ⟨Nat.lt_of_lt_of_le h0 hs,?_,?_,?_,?_,?_,?_,?_,?_⟩
 ·rw [World.cell?_of_block (w:=w) (w':=w') (a:=⟨g,0,none⟩) hh];exact h1
 ·rw [World.cell?_of_block (w:=w) (w':=w') (a:=⟨g,1,none⟩) hh];exact h2
 ·rw [World.cell?_of_block (w:=w) (w':=w') (a:=⟨g,2,none⟩) hh];exact h3
 ·rw [World.cell?_of_block (w:=w) (w':=w') (a:=⟨g,3,none⟩) hh];exact h4
 ·rw [World.frozen?_of_block (w:=w) (w':=w') (a:=⟨g,0,none⟩) hh];exact f0
 ·rw [World.frozen?_of_block (w:=w) (w':=w') (a:=⟨g,1,none⟩) hh];exact f1
 ·rw [World.frozen?_of_block (w:=w) (w':=w') (a:=⟨g,2,none⟩) hh];exact f2
 ·rw [World.frozen?_of_block (w:=w) (w':=w') (a:=⟨g,3,none⟩) hh];exact f3
theorem Con.below (h:Con w g n R W bad)(hb:Below w.heap.size w w'):Con w' g n R W bad:=h.of_block hb.size (hb.block g h.1)
theorem Con.alloc (h:Con w g n R W bad)(o:Obj):Con (w.alloc o) g n R W bad:=h.below ((Below.refl _ _).alloc (Nat.le_refl _) o)
theorem Con.setBad (h:Con w g n R W bad)(b:Bool):Con (w.setCell ⟨g,3,none⟩ (.bool b)) g n R W b:=by
 obtain ⟨h0,h1,h2,h3,h4,f0,f1,f2,f3⟩:=h
 refine ⟨by simpa [World.setCell] using h0,?_,?_,?_,World.cell?_setCell_same w _ _ h4,?_,?_,?_,?_⟩
 ·rw [World.cell?_setCell_other w _ _ _ (fun q=>by injection q;omega)];exact h1
 ·rw [World.cell?_setCell_other w _ _ _ (fun q=>by injection q;omega)];exact h2
 ·rw [World.cell?_setCell_other w _ _ _ (fun q=>by injection q;omega)];exact h3
 ·rw [World.frozen?_setCell];exact f0
 ·rw [World.frozen?_setCell];exact f1
 ·rw [World.frozen?_setCell];exact f2
 ·rw [World.frozen?_setCell];exact f3
theorem Con.set0 (h:Con w g n R W bad)(m:Int):Con (w.setCell ⟨g,0,none⟩ (.int .i64 m)) g m R W bad:=by
 obtain ⟨h0,h1,h2,h3,h4,f0,f1,f2,f3⟩:=h
 refine ⟨by simpa [World.setCell] using h0,World.cell?_setCell_same w _ _ h1,?_,?_,?_,?_,?_,?_,?_⟩
 ·rw [World.cell?_setCell_other w _ _ _ (fun q=>by injection q;omega)];exact h2
 ·rw [World.cell?_setCell_other w _ _ _ (fun q=>by injection q;omega)];exact h3
 ·rw [World.cell?_setCell_other w _ _ _ (fun q=>by injection q;omega)];exact h4
 ·rw [World.frozen?_setCell];exact f0
 ·rw [World.frozen?_setCell];exact f1
 ·rw [World.frozen?_setCell];exact f2
 ·rw [World.frozen?_setCell];exact f3
theorem Con.set1 (h:Con w g n R W bad)(S:Value):Con (w.setCell ⟨g,1,none⟩ S) g n S W bad:=by
 obtain ⟨h0,h1,h2,h3,h4,f0,f1,f2,f3⟩:=h
 refine ⟨by simpa [World.setCell] using h0,?_,World.cell?_setCell_same w _ _ h2,?_,?_,?_,?_,?_,?_⟩
 ·rw [World.cell?_setCell_other w _ _ _ (fun q=>by injection q;omega)];exact h1
 ·rw [World.cell?_setCell_other w _ _ _ (fun q=>by injection q;omega)];exact h3
 ·rw [World.cell?_setCell_other w _ _ _ (fun q=>by injection q;omega)];exact h4
 ·rw [World.frozen?_setCell];exact f0
 ·rw [World.frozen?_setCell];exact f1
 ·rw [World.frozen?_setCell];exact f2
 ·rw [World.frozen?_setCell];exact f3
end
def Wds (w:World)(gw off:Nat)(us:List ByteArray):Prop:=gw<w.heap.size /\ ∀ i,i<us.length->w.cell? ⟨gw,off+i,none⟩=some (.string (us.getD i ⟨#[]⟩))
theorem Wds.below {w w':World}{gw off:Nat}{us:List ByteArray}(h:Wds w gw off us)(hb:Below w.heap.size w w'):Wds w' gw off us :=
 ⟨Nat.lt_of_lt_of_le h.1 hb.size,fun i hi=>(hb.cell (p:=⟨gw,off+i,none⟩) h.1).trans (h.2 i hi)⟩
theorem Wds.frm {w w':World}{gw off:Nat}{us:List ByteArray}{S:Nat->Prop}(h:Wds w gw off us)(hf:Frm S w w')(hS : ¬ S gw):Wds w' gw off us :=
 ⟨Nat.lt_of_lt_of_le h.1 hf.size,fun i hi=>(hf.cell h.1 hS).trans (h.2 i hi)⟩
theorem Ints.setFarC {w:World}{B:Nat}{A:Option Addr}{xs:List Int}(h:Ints w B A xs){p:Addr}(hne:0<xs.length -> ∀ k o,A=some ⟨k,o,none⟩->k≠p.block)(u:Value):Ints (w.setCell p u) B A xs:=by
 refine ⟨h.1,h.2.1,fun hn=>?_⟩
 obtain ⟨b,off,e,hb,hc⟩:=h.2.2 hn
 refine ⟨b,off,e,hb,fun i hi=>?_⟩
 rw [World.cell?_of_block (w:=w) (a:=⟨b,off+i,none⟩) (Below.heap_setCell w p u b (hne hn b off e))]
 exact hc i hi
def zaa (g:Nat):Nat->Prop:=fun c=>c=g
theorem zbm (g gw off i cap:Nat)(n:Int)(R:Value)(bad:Bool)(us:List ByteArray)(w:World)(hC:Con w g n R (.slice (some ⟨gw,off,none⟩) us.length cap) bad)(hW:Wds w gw off us)(hi:i<us.length)
  (hs : ∀ u∈us,u.size<=1048576)(hl:us.length<=1048577)(hE:Errs w)(hP:Pow w) :
  Calls Tryz.prog 29 #[.pointer (some ⟨g,0,none⟩),.int .i64 i] w fun e w' =>
   e = .returned (.int .i64 ((zab (us.getD i ⟨#[]⟩)).getD 0))/\Con w' g n R (.slice (some ⟨gw,off,none⟩) us.length cap) (bad || !(zab (us.getD i ⟨#[]⟩)).isSome)/\Frm (zaa g) w w':=by
 have hc:=hW.2 i hi
 have hu:=hs (us.getD i ⟨#[]⟩) (by rw [List.getD_eq_getElem?_getD,List.getElem?_eq_getElem hi];exact List.getElem_mem hi)
 obtain ⟨u,hue⟩ : ∃ u,us.getD i ⟨#[]⟩=u:=⟨_,rfl⟩
 rw [hue] at hc hu ⊢
 have HPI:=Zh (zg4 u (by omega) w hE hP)
 generalize zab u=o at *
 have h0:(0:Int)<=(i:Int):=Int.natCast_nonneg _
 have h1:(i:Int)<(us.length:Int):=by omega
 have HC:=Zh hC
 obtain ⟨c0,c1,c2,c3,c4,c5,c6,c7,c8⟩:=hC
 generalize us.length=L at *
 clear hW hs hE hP hue
 go_enter Tryz.func29,Tryz.ntmps29
 go_wp2_with fail
 refine HPI.o.mono ?_
 rintro e w1 ⟨rfl,hb⟩
 have HB:=Zh hb
 have HC1:=Zh (HC.o.below hb)
 clear c0 c1 c2 c3 c4 c5 c6 c7 c8 hb hc
 obtain ⟨c0,c1,c2,c3,c4,c5,c6,c7,c8⟩:=HC1.o
 cases bad <;> cases o
 all_goals
  go_wp2_with fail
  go_ret
  exact ⟨rfl,HC1.o.setBad _,(Frm.pure HB.o (zaa g)).setCell (p:=⟨g,3,none⟩) (show zaa g g from rfl) _⟩
theorem zfw (g gw off i cap:Nat)(n:Int)(R:Value)(bad:Bool)(us:List ByteArray)(w:World)(hC:Con w g n R (.slice (some ⟨gw,off,none⟩) us.length cap) bad)(hW:Wds w gw off us)(hi:i<us.length)
  (hs : ∀ u∈us,u.size<=1048576)(hl:us.length<=1048577)(hE:Errs w)(hP:Pow w) :
  Calls Tryz.prog 72 #[.pointer (some ⟨g,0,none⟩),.int .i64 i] w fun e w' =>
   (∃ A c,e = .returned (.slice A ((zal (us.getD i ⟨#[]⟩)).getD []).length c)/\OwnI w' w.heap.size (.slice A ((zal (us.getD i ⟨#[]⟩)).getD []).length c) ((zal (us.getD i ⟨#[]⟩)).getD []) /\ ∀ x∈(zal (us.getD i ⟨#[]⟩)).getD [],Fits x) /\
   Con w' g n R (.slice (some ⟨gw,off,none⟩) us.length cap) (bad || !(zal (us.getD i ⟨#[]⟩)).isSome)/\Frm (zaa g) w w':=by
 have hc:=hW.2 i hi
 have hu:=hs (us.getD i ⟨#[]⟩) (by rw [List.getD_eq_getElem?_getD,List.getElem?_eq_getElem hi];exact List.getElem_mem hi)
 obtain ⟨u,hue⟩ : ∃ u,us.getD i ⟨#[]⟩=u:=⟨_,rfl⟩
 rw [hue] at hc hu ⊢
 have HPI:=Zh (zrr u w hu hE hP)
 generalize zal u=o at *
 have h0:(0:Int)<=(i:Int):=Int.natCast_nonneg _
 have h1:(i:Int)<(us.length:Int):=by omega
 have HC:=Zh hC
 have hgl:=hC.1
 obtain ⟨c0,c1,c2,c3,c4,c5,c6,c7,c8⟩:=hC
 generalize us.length=L at *
 clear hW hs hE hP hue
 go_enter Tryz.func72,Tryz.ntmps72
 go_wp2_with fail
 refine HPI.o.mono ?_
 rintro e w1 ⟨A1,k1,rfl,hown,hft,hb⟩
 have HB:=Zh hb
 have HOW:=Zh hown
 have HFT:=Zh hft
 have HC1:=Zh (HC.o.below hb)
 clear c0 c1 c2 c3 c4 c5 c6 c7 c8 hb hc hown hft
 obtain ⟨c0,c1,c2,c3,c4,c5,c6,c7,c8⟩:=HC1.o
 cases bad <;> cases o
 all_goals
  go_wp2_with fail
  go_ret
  exact ⟨⟨A1,k1,rfl,HOW.o.far (p:=⟨g,3,none⟩) hgl _,HFT.o⟩,HC1.o.setBad _,(Frm.pure HB.o (zaa g)).setCell (p:=⟨g,3,none⟩) (show zaa g g from rfl) _⟩
def noneS:ByteArray:=⟨#[110,111,110,101]⟩
theorem zma (g:Nat)(n m:Int)(R S W:Value)(bad:Bool)(w:World)(hC:Con w g n R W bad) :
  Calls Tryz.prog 26 #[.pointer (some ⟨g,0,none⟩),.agg #[.int .i64 m,S],.bool false] w fun e w' =>
   e = .returned (.string noneS)/\Con w' g n R W bad/\Frm (zaa g) w w':=by
 have HC1:=Zh (hC.alloc (.cells #[.int .i64 m,S] 27))
 go_enter Tryz.func26,Tryz.ntmps26
 go_wp2_with fail
 go_ret
 exact ⟨rfl,HC1.o,(Frm.refl (zaa g) w).alloc _⟩
theorem zmb (g N:Nat)(n:Int)(A:Option Addr)(cap:Nat)(bs:List Int)(R W:Value)(bad:Bool)(w:World)(hC:Con w g n R W bad)(hA:Ints w w.heap.size A bs)(hok:RhOk N bs)(hne:0<bs.length -> ∀ k o,A=some ⟨k,o,none⟩->k≠g) :
  Calls Tryz.prog 26 #[.pointer (some ⟨g,0,none⟩),.agg #[.int .i64 N,.slice A bs.length cap],.bool true] w fun e w' =>
   e = .returned (.string (mkS (zaj N bs (fun _=>120))))/\Con w' g N (.slice A bs.length cap) W bad/\Ints w' w'.heap.size A bs/\Frm (zaa g) w w':=by
 have hgl:=hC.1
 have HFR:=Zh (fun V h=>zl9 N A cap bs V h hok)
 generalize mkS (zaj N bs (fun _=>120))=T at *
 have HC1:=Zh (hC.alloc (.cells #[.int .i64 N,.slice A bs.length cap] 27))
 have HX:=Zh (Cells2.new w (.int .i64 N) (.slice A bs.length cap) 27)
 have HF1:=Zh ((Frm.refl (zaa g) w).alloc (.cells #[.int .i64 N,.slice A bs.length cap] 27))
 have HI1:=Zh (hA.lift ((Below.refl w.heap.size w).alloc (Nat.le_refl _) (.cells #[.int .i64 N,.slice A bs.length cap] 27)))
 have HC2:=Zh ((HC1.o.set0 N).set1 (.slice A bs.length cap))
 have HF2:=Zh ((HF1.o.setCell (p:=⟨g,0,none⟩) (show zaa g g from rfl) (.int .i64 N)).setCell (p:=⟨g,1,none⟩) (show zaa g g from rfl) (.slice A bs.length cap))
 have HX2:=Zh ((HX.o.far (p:=⟨g,0,none⟩) (by show w.heap.size≠g;omega) (.int .i64 N)).far (p:=⟨g,1,none⟩) (by show w.heap.size≠g;omega) (.slice A bs.length cap))
 have HI2:=Zh ((HI1.o.setFarC (p:=⟨g,0,none⟩) hne (.int .i64 N)).setFarC (p:=⟨g,1,none⟩) hne (.slice A bs.length cap))
 obtain ⟨c0,c1,c2,c3,c4,c5,c6,c7,c8⟩:=HC1.o
 obtain ⟨x0,x1,x2,x3,_⟩:=HX.o
 obtain ⟨y0,y1,y2,y3,_⟩:=HX2.o
 obtain ⟨_,d1,d2,_,_,e1,e2,_,_⟩:=(HC1.o.set0 N)
 clear hA hok hC hgl c0
 go_enter Tryz.func26,Tryz.ntmps26
 go_wp2_with fail
 refine (HFR.o _ (HI2.o.mono (by simp [World.setCell]))).mono ?_
 rintro e w1 ⟨rfl,hb⟩
 go_wp2_with fail
 go_ret
 exact ⟨rfl,HC2.o.below hb,(HI2.o.mono (by simp [World.setCell])).lift hb,HF2.o.trans (Frm.pure hb _)⟩
end Go.Proofs.YtjpnjchpdkogbaaGreatDoor
namespace Go.Proofs.YtjpnjchpdkogbaaGreatDoor
open Go.RowKit Go.Shelf
theorem zui (d:UInt8)(most:Nat)(s:ByteArray)(w:World)(hs:s.size<=1048576)(hm:most<=12)(hE:Errs w)(hP:Pow w)(hM:MaxL w) :
  Calls Tryz.prog 164 #[.string s,.string ⟨#[d]⟩,.int .i64 most] w fun e w'=>∃ A cap,e = .returned (.slice A (pbyV d most s).length cap)/\OwnI w' w.heap.size (.slice A (pbyV d most s).length cap) (pbyV d most s)/\Below w.heap.size w w':=by
 have HSP:=Zh (zg3 d s w hs hM)
 have HSZ:=Zh (fun u=>zg2 d s u)
 have HE:=Zh hE
 have HP:=Zh hP
 clear hE hP hM
 by_cases hl:(splT d s).length<=most
 ·have HV:=Zh (show pbyV d most s=(splT d s).map (fun u=>(zab u).getD 0) from if_pos hl)
  generalize pbyV d most s=V at *
  generalize splT d s=us at *
  have hle:decide (most<us.length)=false:=decide_eq_false (by omega)
  have HL:=Zh hl
  have hul:us.length<=12:=by omega
  clear hl
  go_enter Tryz.func164,Tryz.ntmps164
  go_wp2_with (go_at_call 13;refine HSP.o.mono ?_;rintro e w1 ⟨A1,c1,rfl,hown1,hb1⟩)
  have HT:=Zh hown1
  have HB1:=Zh hb1
  clear hown1 hb1
  go_loopw [8,22] (fun v ki wr=>∃ k:Nat,k<=us.length/\ki = .int .i64 k/\OwnI wr w1.heap.size v ((us.take k).map (fun u=>(zab u).getD 0))/\Below w1.heap.size w1 wr) (fun _ ki _=>us.length-(intOf ki).toNat)
  case atStart=>exact ⟨0,Nat.zero_le _,rfl,OwnI.nil _ _,Below.refl _ _⟩
  case round =>
   obtain ⟨k,hk,rfl,hown,hb2⟩:=hrel
   obtain ⟨wo,rfl⟩ : ∃ wo:World,wo=wr:=⟨_,rfl⟩
   obtain ⟨A3,c3,rfl⟩:=hown.form
   have HO:=Zh hown
   have HB2:=Zh hb2
   clear hown hb2
   by_cases hlt:k<us.length
   ·obtain ⟨g,rfl,hg1,hg2,hgc⟩:=HT.o.read (by omega)
    have hcell:wo.cell? ⟨g,k,none⟩=some (.string (us.getD k ⟨#[]⟩)):=(HB2.o.cell (p:=⟨g,k,none⟩) hg2).trans (hgc k hlt)
    have HUS:=Zh (HSZ.o (us.getD k ⟨#[]⟩) (by rw [List.getD_eq_getElem?_getD,List.getElem?_eq_getElem hlt];exact List.getElem_mem hlt))
    have HTK:=Zh (show (us.take (k+1)).map (fun u=>(zab u).getD 0)=(us.take k).map (fun u=>(zab u).getD 0)++[(zab (us.getD k ⟨#[]⟩)).getD 0] by
     rw [List.take_succ_eq_append_getElem hlt,List.map_append,List.getD_eq_getElem?_getD,List.getElem?_eq_getElem hlt];rfl)
    have htl:((us.take k).map (fun u=>(zab u).getD 0)).length<=12:=by have:=HL.o;simp;omega
    generalize us.getD k ⟨#[]⟩=u at *
    generalize (us.take k).map (fun u=>(zab u).getD 0)=L at *
    clear hgc
    have HBA:=Zh (HB1.o.trans (HB2.o.mono HB1.o.size))
    have HPI:=Zh (zg4 u (by have:=HUS.o;omega) wo (HE.o.below HBA.o) (HP.o.below HBA.o))
    have hki:(k:Int)<(us.length:Int):=by omega
    generalize (zab u).getD 0=x at *
    generalize (zab u).isSome=ok at *
    go_wp2_with (first
     | (go_at_call 96;refine HPI.o.mono ?_;rintro e w3 ⟨rfl,hb3⟩)
     | (at_builtin;refine za4 rfl _ _ rfl w1.heap.size _ L rfl ((HO.o.grown hb3).alloc _) _ x rfl (zag _ _ _) (by omega) (by have:=HB2.o.size;have:=hb3.size;first | omega | (simp only [World.size_alloc];omega)) ?_;intro v' w4 hown4 hb4;obtain ⟨A6,c6,rfl⟩:=hown4.form))
    go_roundw
    case rel=>exact ⟨k+1,by omega,by go_num,by rw [HTK.o];simpa using hown4,HB2.o.trans (((hb3.mono HB2.o.size).alloc (Nat.le_trans HB2.o.size hb3.size) _).trans hb4)⟩
    case measure=>simp [intOf];omega
   ·have hke:k=us.length:=by omega
    subst hke
    have e:=HV.o
    have HO2:=HO.o
    rw [List.take_length,<- HV.o] at HO2
    have hvl:V.length=((us.take us.length).map (fun u=>(zab u).getD 0)).length:=by rw [List.take_length,<- HV.o]
    have HO3:=Zh HO2
    clear HO2 e HO
    go_wp2_with fail
    go_ret
    rw [<- hvl]
    exact ⟨_,_,rfl,zkr HO3.o HB1.o.size,HB1.o.trans (HB2.o.mono HB1.o.size)⟩
 ·have HV:=Zh (show pbyV d most s=[] from if_neg hl)
  generalize pbyV d most s=V at *
  generalize splT d s=us at *
  have hle:(most:Int)<(us.length:Int):=by omega
  go_enter Tryz.func164,Tryz.ntmps164
  go_wp2_with (go_at_call 13;refine HSP.o.mono ?_;rintro e w1 ⟨A1,c1,rfl,hown1,hb1⟩)
  go_ret
  rw [HV.o]
  exact ⟨_,_,rfl,OwnI.nil _ _,hb1⟩
def sumX (xs:List Int):Nat->Int
 | 0=>0
 | i+1=>sumX xs i+xs.getD i 0
theorem zep {xs:List Int}(h : ∀ x∈xs,0<=x/\x<=1000) : ∀ i,i<=xs.length->0<=sumX xs i/\sumX xs i<=1000*i
 | 0,_=>by simp [sumX]
 | i+1,hi=>by
  have:=zep h i (by omega)
  have hx:=h (xs.getD i 0) (by rw [List.getD_eq_getElem?_getD,List.getElem?_eq_getElem (by omega)];exact List.getElem_mem _)
  unfold sumX
  omega
theorem zmc (A:Option Addr)(cap:Nat)(xs:List Int)(w:World)(B:Nat)(hA:Ints w B A xs)(h : ∀ x∈xs,0<=x/\x<=1000)(hl:xs.length<=1000) :
  Calls Tryz.prog 226 #[.slice A xs.length cap] w fun e w'=>e = .returned (.int .i64 (sumX xs xs.length))/\w'=w:=by
 have HS:=Zh (fun i hi=>zep h i hi)
 have HA:=Zh hA.2.2
 clear hA h
 go_enter Tryz.func226,Tryz.ntmps226
 go_wp2_with fail
 go_loopw [3,8] (fun sv ki wr=>∃ k:Nat,k<=xs.length/\ki = .int .i64 k/\sv = .int .i64 (sumX xs k)/\wr=w) (fun _ ki _=>xs.length-(intOf ki).toNat)
 case atStart=>exact ⟨0,Nat.zero_le _,rfl,rfl,rfl⟩
 case round =>
  obtain ⟨k,hk,rfl,rfl,rfl⟩:=hrel
  have hs:=HS.o k hk
  by_cases hlt:k<xs.length
  ·obtain ⟨b,o,rfl,hb,hc⟩:=HA.o (by omega)
   have hcell:=hc k hlt
   have hs2:=HS.o (k+1) (by omega)
   have HSU:=Zh (show sumX xs (k+1)=sumX xs k+xs.getD k 0 from rfl)
   have hki:(k:Int)<(xs.length:Int):=by omega
   rw [show sumX xs (k+1)=sumX xs k+xs.getD k 0 from rfl] at hs2
   generalize xs.getD k 0=x at *
   generalize sumX xs k=S at *
   clear hc
   go_wp2_with fail
   go_roundw
   case rel=>exact ⟨k+1,by omega,by go_num,by rw [HSU.o] <;> go_num,by first | rfl | trivial⟩
   case measure=>simp [intOf];omega
  ·have hke:k=xs.length:=by omega
   subst hke
   go_wp2_with fail
   go_ret
   exact ⟨rfl,rfl⟩
def barB (xs:List Int):Bool:=decide (1<=xs.length/\xs.length<=12) && allB xs 2 3 && decide (sumX xs xs.length<=24)
theorem zmd (A:Option Addr)(cap:Nat)(xs:List Int)(w:World)(hA:Ints w w.heap.size A xs) :
  Calls Tryz.prog 166 #[.slice A xs.length cap] w fun e w'=>e = .returned (.bool (barB xs))/\Below w.heap.size w w':=by
 have hlm:=hA.1
 unfold maxLen at hlm
 by_cases hl:1<=xs.length/\xs.length<=12
 ·have hin:inB (xs.length:Int) 1 12=true:=za1 ⟨by omega,by omega⟩
  have HAW:=Zh (zfp A cap xs 2 3 w hA)
  have HBB:=Zh (show barB xs=(allB xs 2 3 && decide (sumX xs xs.length<=24)) by unfold barB;rw [decide_eq_true hl,Bool.true_and])
  have HA:=Zh hA
  clear hA
  cases hab:allB xs 2 3
  ·rw [hab] at HAW HBB
   clear hab
   go_enter Tryz.func166,Tryz.ntmps166
   go_wp2_with (first
    | (go_at_call 22;refine (zac _ _ _ _).mono ?_;rintro e w' ⟨rfl,rfl⟩)
    | (go_at_call 225;refine HAW.o.mono ?_;rintro e w1 ⟨rfl,hb1⟩))
   go_ret
   exact ⟨zaq (by rw [HBB.o];rfl),hb1⟩
  ·have hx : ∀ x∈xs,0<=x/\x<=1000:=fun x hx=>by
    have:=List.all_eq_true.1 hab x hx
    have:=zan.1 this
    omega
   have hsf:=zep hx xs.length (Nat.le_refl _)
   have HSO:=Zh (fun V (h:Ints V w.heap.size A xs)=>zmc A cap xs V w.heap.size h hx (by omega))
   rw [hab] at HAW HBB
   generalize sumX xs xs.length=S at *
   clear hab hx
   by_cases h24:S<=24
   ·rw [decide_eq_true h24] at HBB
    go_enter Tryz.func166,Tryz.ntmps166
    go_wp2_with (first
     | (go_at_call 22;refine (zac _ _ _ _).mono ?_;rintro e w' ⟨rfl,rfl⟩)
     | (go_at_call 225;refine HAW.o.mono ?_;rintro e w1 ⟨rfl,hb1⟩)
     | (go_at_call 226;refine (HSO.o _ (HA.o.below hb1)).mono ?_;rintro e w2 ⟨rfl,rfl⟩))
    go_ret
    exact ⟨zaq (by rw [HBB.o];simp [h24]),hb1⟩
   ·rw [decide_eq_false h24] at HBB
    go_enter Tryz.func166,Tryz.ntmps166
    go_wp2_with (first
     | (go_at_call 22;refine (zac _ _ _ _).mono ?_;rintro e w' ⟨rfl,rfl⟩)
     | (go_at_call 225;refine HAW.o.mono ?_;rintro e w1 ⟨rfl,hb1⟩)
     | (go_at_call 226;refine (HSO.o _ (HA.o.below hb1)).mono ?_;rintro e w2 ⟨rfl,rfl⟩))
    go_ret
    exact ⟨zaq (by rw [HBB.o];simp [h24]),hb1⟩
 ·have hin:inB (xs.length:Int) 1 12=false:=zed (by omega)
  have HBB:=Zh (show barB xs=false by unfold barB;rw [decide_eq_false hl];rfl)
  clear hA
  go_enter Tryz.func166,Tryz.ntmps166
  go_wp2_with (go_at_call 22;refine (zac _ _ _ _).mono ?_;rintro e w' ⟨rfl,rfl⟩)
  go_ret
  exact ⟨zaq HBB.o.symm,Below.refl _ _⟩
def fmtB (xs:List Int):Txt:=zaf (xs.map itoL) [43]
def zbz (xs:List Int):Txt:=if barB xs then fmtB xs else []
theorem zuj {xs:List Int}(h:barB xs=true):1<=xs.length/\xs.length<=12/\(∀ x∈xs,2<=x/\x<=3)/\sumX xs xs.length<=24:=by
 unfold barB at h
 simp only [Bool.and_eq_true,decide_eq_true_eq] at h
 exact ⟨h.1.1.1,h.1.1.2,fun x hx=>by have:=List.all_eq_true.1 h.1.2 x hx;exact zan.1 this,h.2⟩
theorem zuk (A:Option Addr)(cap:Nat)(xs:List Int)(w:World)(hA:Ints w w.heap.size A xs)(hP:Pow w)(hM:MaxL w) :
  Calls Tryz.prog 165 #[.slice A xs.length cap] w fun e w'=>e = .returned (.string (mkS (zbz xs)))/\Below w.heap.size w w':=by
 have HBO:=Zh (zmd A cap xs w hA)
 cases hbb:barB xs
 ·have HV:=Zh (show zbz xs=[] by unfold zbz;rw [hbb];rfl)
  rw [hbb] at HBO
  clear hA hP hM hbb
  go_enter Tryz.func165,Tryz.ntmps165
  go_wp2_with fail
  refine HBO.o.mono ?_
  rintro e w1 ⟨rfl,hb1⟩
  go_wp2_with fail
  go_ret
  exact ⟨zbw (by rw [HV.o];rfl),hb1⟩
 ·obtain ⟨hb1,hb2,hb3,hb4⟩:=zuj hbb
  have hf : ∀ x∈xs,Fits x:=fun x hx=>by have:=hb3 x hx;unfold Fits;omega
  have HNT:=Zh (fun V h hb=>zfq A cap xs V h (by omega) (hP.below hb))
  have HM:=Zh hM
  have HA:=Zh hA
  have HV:=Zh (show zbz xs=(zaf (xs.map itoL) [44]).map zd3 by unfold zbz;rw [hbb];exact (zl2 xs).symm)
  have hjl:=zb4 [44] 20 (xs.map itoL) (zci hf)
  rw [List.length_map] at hjl
  have HJL:=Zh (show (zaf (xs.map itoL) [44]).length<=12*21 by
   have:xs.length*(20+1)<=12*21:=Nat.mul_le_mul hb2 (Nat.le_refl _)
   exact Nat.le_trans hjl this)
  rw [hbb] at HBO
  generalize zbz xs=v at HV ⊢
  generalize zaf (xs.map itoL) [44]=T at *
  clear hA hP hM hjl hf hb3 hb4 hbb
  have HR:=Zh (fun (V:World) (hb:Below w.heap.size w V)=>by
   obtain ⟨m,hm⟩:=HM.o.below hb
   have hsz:(mkS T).size<=504:=by rw [za2];exact Nat.le_trans HJL.o (by decide)
   have hcnt:=Lib.countB_le (⟨#[44]⟩:ByteArray) (by decide) (mkS T).size (mkS T) (Nat.le_refl _)
   have:=Any.strings_ReplaceAll Tryz.lays155 Tryz.bx155 (mkS T) ⟨#[44]⟩ ⟨#[43]⟩ m V (by omega) hm (by decide) (by have h1:(⟨#[43]⟩:ByteArray).size=1:=rfl;rw [h1];omega)
   rw [show (⟨#[44]⟩:ByteArray).data.toList=[44] from rfl,show (⟨#[43]⟩:ByteArray).data.toList=[43] from rfl,zh3,show (mkS T).data.toList=T from za9 _] at this
   exact this)
  go_enter Tryz.func165,Tryz.ntmps165
  go_wp2_with fail
  refine HBO.o.mono ?_
  rintro e w1 ⟨rfl,hw1⟩
  have HB1:=Zh hw1
  clear hw1
  go_wp2_with fail
  refine (HNT.o _ (HA.o.lift HB1.o) HB1.o).mono ?_
  rintro e w2 ⟨rfl,hw2⟩
  have HB2:=Zh (HB1.o.trans (hw2.mono HB1.o.size))
  clear hw2
  go_wp2_with fail
  refine (HR.o _ HB2.o).mono ?_
  rintro e w3 ⟨rfl,hw3⟩
  have HB3:=Zh (HB2.o.trans (hw3.mono HB2.o.size))
  clear hw3
  go_wp2_with fail
  go_ret
  exact ⟨zbw (by rw [HV.o];rfl),HB3.o⟩
end Go.Proofs.YtjpnjchpdkogbaaGreatDoor
namespace Go.Proofs.YtjpnjchpdkogbaaGreatDoor
open Go.RowKit
def prd (xs:List Int):Int:=xs.foldl (· * ·) 1
theorem zh8 : ∀ (l:List Int) (a:Int),l.foldl (· * ·) a=a*prd l
 | [],a=>by simp [prd]
 | x::l,a=>by
  unfold prd
  rw [List.foldl_cons,List.foldl_cons,zh8 l (a*x),zh8 l (1*x),Int.one_mul,Int.mul_assoc]
theorem zh9 (a b:List Int):prd (a++b)=prd a*prd b:=by
 conv=>lhs;unfold prd
 rw [List.foldl_append,zh8]
 rfl
theorem zme (k:Int):prd [k]=k:=by simp [prd]
theorem zmf (a:List Int)(k:Int):prd (a++[k])=prd a*k:=by rw [zh9,zme]
theorem zul {xs:List Int}{j:Nat}{x:Int}(hj:j<xs.length)(hx:xs.getD j 0=x):prd (xs.take (j+1))=prd (xs.take j)*x:=by
 rw [List.take_succ_eq_append_getElem hj,zmf]
 have:xs[j]=x:=by rw [<- hx,List.getD_eq_getElem?_getD,List.getElem?_eq_getElem hj];rfl
 rw [this]
def In27 (xs:List Int):Prop:=∀ x∈xs,2<=x/\x<=7
theorem zc4 : ∀ {xs:List Int},In27 xs->1<=prd xs
 | [],_=>by simp [prd]
 | x::xs,h=>by
  have h1:=h x List.mem_cons_self
  have h2:=zc4 (xs:=xs) (fun y hy=>h y (List.mem_cons_of_mem _ hy))
  rw [show x::xs=[x]++xs from rfl,zh9,zme]
  have:(1:Int)*1<=x*prd xs:=Int.mul_le_mul (by omega) h2 (by omega) (by omega)
  omega
theorem In27.sub {xs ys:List Int}(h:In27 xs)(hs : ∀ x∈ys,x∈xs):In27 ys:=fun x hx=>h x (hs x hx)
theorem In27.take {xs:List Int}(h:In27 xs)(j:Nat):In27 (xs.take j):=h.sub fun x hx=>List.mem_of_mem_take hx
theorem In27.drop {xs:List Int}(h:In27 xs)(j:Nat):In27 (xs.drop j):=h.sub fun x hx=>List.mem_of_mem_drop hx
theorem zia (xs:List Int)(j:Nat):prd (xs.take j)*prd (xs.drop j)=prd xs:=by rw [<- zh9,List.take_append_drop]
theorem zmg {xs:List Int}(h:In27 xs)(j:Nat):prd (xs.take j)<=prd xs:=by
 have h1:=zc4 (h.take j)
 have h2:=zc4 (h.drop j)
 have:prd (xs.take j)*1<=prd (xs.take j)*prd (xs.drop j):=Int.mul_le_mul_of_nonneg_left h2 (by omega)
 rw [zia] at this
 omega
theorem zum {xs:List Int}(h:In27 xs)(j:Nat):prd (xs.drop j)<=prd xs:=by
 have h1:=zc4 (h.take j)
 have h2:=zc4 (h.drop j)
 have:1*prd (xs.drop j)<=prd (xs.take j)*prd (xs.drop j):=Int.mul_le_mul_of_nonneg_right h1 (by omega)
 rw [zia] at this
 omega
def zbn (xs:List Int):Prop:=1<=xs.length/\xs.length<=5/\In27 xs/\prd xs<=24
def unt (xs:List Int)(i:Nat):Int:=prd (xs.drop (i+1))
theorem zun {xs:List Int}(h:zbn xs)(i:Nat):1<=unt xs i/\unt xs i<=24:=by
 have h1:=zc4 (h.2.2.1.drop (i+1))
 have h2:=zum h.2.2.1 (i+1)
 have:=h.2.2.2
 unfold unt
 omega
def cwM (xs:List Int) (p:Nat):Nat->Int
 | 0=>0
 | i+1=>if (p:Int) % unt xs i=0 then cwM xs p i+1 else cwM xs p i
theorem zfx (xs:List Int)(p:Nat) : ∀ i,0<=cwM xs p i/\cwM xs p i<=i
 | 0=>⟨Int.le_refl _,Int.le_refl _⟩
 | i+1=>by
  have:=zfx xs p i
  unfold cwM;split <;> omega
def wgtF (xs:List Int)(m:Nat):List Int:=(List.range m).map fun p=>cwM xs p xs.length
theorem zib (xs:List Int)(m:Nat):(wgtF xs m).length=m:=by simp [wgtF]
theorem zmh (xs:List Int){m p:Nat}(hp:p<m):(wgtF xs m).getD p 0=cwM xs p xs.length:=by
 unfold wgtF
 rw [List.getD_eq_getElem?_getD,List.getElem?_eq_getElem (by simpa using hp)]
 simp
def wgtL (xs:List Int):List Int:=wgtF xs (prd xs).toNat
theorem zmi (xs:List Int):(wgtL xs).length=(prd xs).toNat:=zib _ _
theorem zfy {xs:List Int}(h:zbn xs)(p:Nat):0<=(wgtL xs).getD p 0/\(wgtL xs).getD p 0<=5:=by
 by_cases hp:p<(prd xs).toNat
 ·unfold wgtL
  rw [zmh xs hp]
  have:=zfx xs p xs.length
  have:=h.2.1
  omega
 ·rw [List.getD_eq_getElem?_getD,List.getElem?_eq_none (by rw [zmi];omega)]
  exact ⟨Int.le_refl _,by decide⟩
def grtV (W:List Int) (N p:Int):Nat->Int
 | 0=>0
 | m+1=>max (grtV W N p m) (W.getD ((p+(m+1:Nat)) % N).toNat 0)
theorem zic {W:List Int}(h : ∀ p,0<=W.getD p 0/\W.getD p 0<=5)(N p:Int) : ∀ m,0<=grtV W N p m/\grtV W N p m<=5
 | 0=>⟨Int.le_refl _,by show (0:Int)<=5;decide⟩
 | m+1=>by
  have h1:=zic h N p m
  have h2:=h ((p+(m+1:Nat)) % N).toNat
  unfold grtV
  omega
def synV (W:List Int) (N:Int) (bs S:List Int):Nat->Int
 | 0=>0
 | i+1=>synV W N bs S i+max 0 (grtV W N (bs.getD i 0) ((S.getD i 0).toNat-1)-W.getD (bs.getD i 0).toNat 0)
theorem zid {W:List Int}(h : ∀ p,0<=W.getD p 0/\W.getD p 0<=5)(N:Int)(bs S:List Int) : ∀ i:Nat,0<=synV W N bs S i/\synV W N bs S i<=5*i
 | 0=>⟨Int.le_refl _,by show (0:Int)<=_;omega⟩
 | i+1=>by
  have h1:=zid h N bs S i
  have h2:=zic h N (bs.getD i 0) ((S.getD i 0).toNat-1)
  have h3:=h (bs.getD i 0).toNat
  unfold synV
  omega
def zbf (N:Nat)(bs xs:List Int):Int:=synV (wgtL xs) N bs (zat N bs) bs.length
theorem zmj {xs:List Int}(h:zbn xs)(N:Nat)(bs:List Int):0<=zbf N bs xs/\zbf N bs xs<=5*bs.length:=zid (zfy h) _ _ _ _
def metL:Nat->Nat->List Int->List (List Int)
 | 0,_,_=>[]
 | f+1,n,b=>if n=1 then [b] else if b.length=5 then [] else (List.range 6).flatMap fun j=>if n % (j+2)=0 then metL f (n / (j+2)) (b++[((j+2:Nat):Int)]) else []
def metP (f n:Nat)(b:List Int)(j:Nat):List (List Int):=(List.range j).flatMap fun j=>if n % (j+2)=0 then metL f (n / (j+2)) (b++[((j+2:Nat):Int)]) else []
theorem zmk (f:Nat)(b:List Int):metL (f+1) 1 b=[b]:=rfl
theorem zml {f n:Nat}{b:List Int}(hn:n≠1)(hb:b.length=5):metL (f+1) n b=[]:=by unfold metL;rw [if_neg hn,if_pos hb]
theorem zmm {f n:Nat}{b:List Int}(hn:n≠1)(hb:b.length≠5):metL (f+1) n b=metP f n b 6:=by unfold metL;rw [if_neg hn,if_neg hb];rfl
theorem zie {f n j:Nat}{b:List Int}(h:n % (j+2)=0):metP f n b (j+1)=metP f n b j++metL f (n / (j+2)) (b++[((j+2:Nat):Int)]):=by
 unfold metP
 rw [List.range_succ,List.flatMap_append]
 simp only [List.flatMap_cons,List.flatMap_nil,List.append_nil]
 rw [if_pos h]
theorem zif {f n j:Nat}{b:List Int}(h : ¬ n % (j+2)=0):metP f n b (j+1)=metP f n b j:=by
 unfold metP
 rw [List.range_succ,List.flatMap_append]
 simp only [List.flatMap_cons,List.flatMap_nil,List.append_nil]
 rw [if_neg h,List.append_nil]
theorem zmn : ∀ (f n:Nat) (b x:List Int),1<=n->In27 b->b.length+f=6->x∈metL f n b->In27 x/\prd x=prd b*n/\x.length<=5/\b.length<=x.length
 | 0,n,b,x,_,_,_,h=>by cases h
 | f+1,n,b,x,hn,hb,hl,h=>by
  unfold metL at h
  split at h
  ·rename_i h1
   rw [List.mem_singleton] at h
   subst h h1
   exact ⟨hb,by simp,by omega,Nat.le_refl _⟩
  ·split at h
   ·cases h
   ·rw [List.mem_flatMap] at h
    obtain ⟨j,hj,hx⟩:=h
    rw [List.mem_range] at hj
    split at hx
    ·rename_i hd
     have hq:1<=n / (j+2):=by
      have:=Nat.div_add_mod n (j+2)
      rw [hd,Nat.add_zero] at this
      rcases Nat.eq_zero_or_pos (n / (j+2)) with h0 | h0
      ·rw [h0,Nat.mul_zero] at this;omega
      ·exact h0
     obtain ⟨a1,a2,a3,a4⟩:=zmn f (n / (j+2)) (b++[((j+2:Nat):Int)]) x hq (fun y hy=>by
      rcases List.mem_append.1 hy with h1 | h1
      ·exact hb y h1
      ·rw [List.mem_singleton] at h1;subst h1;omega) (by simp;omega) hx
     refine ⟨a1,?_,a3,by rw [List.length_append] at a4;omega⟩
     rw [a2,zmf,Int.mul_assoc,<- Int.natCast_mul,Nat.mul_div_cancel' (Nat.dvd_of_mod_eq_zero hd)]
    ·cases hx
theorem zuo {N:Nat}(h1:2<=N)(h2:N<=24){x:List Int}(hx:x∈metL 6 N []):zbn x/\prd x=N:=by
 obtain ⟨a,b,c,d⟩:=zmn 6 N [] x (by omega) (by intro y hy;cases hy) rfl hx
 have hp:prd x=N:=by rw [b];simp [prd]
 refine ⟨⟨?_,c,a,by omega⟩,hp⟩
 cases x with
 | nil=>simp [prd] at hp;omega
 | cons y r=>simp
theorem zup {N:Nat}(h1:1<=N)(h2:N<=24):(metL 6 N []).length<=100:=by
 have : ∀ n,n<25->(metL 6 n []).length<=100:=by decide +kernel
 exact this N (by omega)
def bstI (f:Nat->Int):Nat->Nat
 | 0=>0
 | j+1=>if j=0 then 0 else if f j<f (bstI f j) then j else bstI f j
theorem zig (f:Nat->Int) : ∀ j,1<=j->bstI f j<j
 | 1,_=>by simp [bstI]
 | j+2,_=>by
  have:=zig f (j+1) (by omega)
  show (if j+1=0 then 0 else if f (j+1)<f (bstI f (j+1)) then j+1 else bstI f (j+1))<j+2
  rw [if_neg (by omega)]
  split <;> omega
theorem zuq {f:Nat->Int}{j:Nat}(h0:j≠0)(h:f j<f (bstI f j)):bstI f (j+1)=j:=by
 show (if j=0 then 0 else if f j<f (bstI f j) then j else bstI f j)=j
 rw [if_neg h0,if_pos h]
theorem zur {f:Nat->Int}{j:Nat}(h0:j≠0)(h : ¬ f j<f (bstI f j)):bstI f (j+1)=bstI f j:=by
 show (if j=0 then 0 else if f j<f (bstI f j) then j else bstI f j)=bstI f j
 rw [if_neg h0,if_neg h]
def cntP (xs:List Int)(U i t p:Nat):Int:=cwM xs p i+if p % U=0/\p / U<t then 1 else 0
theorem zus (xs:List Int)(U i p:Nat):cntP xs U i 0 p=cwM xs p i:=by
 unfold cntP;rw [if_neg (fun h=>Nat.not_lt_zero _ h.2)];omega
theorem zut (xs:List Int){U:Nat}(hU:1<=U)(i t:Nat):cntP xs U i (t+1) (t*U)=cntP xs U i t (t*U)+1:=by
 unfold cntP
 rw [Nat.mul_mod_left,Nat.mul_div_cancel t hU,if_pos ⟨rfl,by omega⟩,if_neg (by omega)]
 omega
theorem zuu (xs:List Int){U:Nat}(hU:1<=U)(i t:Nat){p:Nat}(hp:p≠t*U):cntP xs U i (t+1) p=cntP xs U i t p:=by
 unfold cntP
 by_cases h:p % U=0/\p / U<t+1
 ·have:p / U≠t:=fun e=>hp (by have:=Nat.div_add_mod p U;rw [h.1,e,Nat.add_zero,Nat.mul_comm] at this;omega)
  rw [if_pos h,if_pos ⟨h.1,by omega⟩]
 ·rw [if_neg h,if_neg (fun h'=>h ⟨h'.1,by omega⟩)]
theorem zuv (xs:List Int){U i K:Nat}(hu:unt xs i=U){p:Nat}(hU:1<=U)(hp:p<K*U):cntP xs U i K p=cwM xs p (i+1):=by
 have hd:p / U<K:=(Nat.div_lt_iff_lt_mul hU).2 hp
 unfold cntP
 show _=if (p:Int) % unt xs i=0 then cwM xs p i+1 else cwM xs p i
 rw [hu]
 by_cases h:p % U=0
 ·rw [if_pos ⟨h,hd⟩,if_pos (by omega)]
 ·rw [if_neg (fun h'=>h h'.1),if_neg (by omega)];omega
theorem zuw (xs:List Int)(U i t p:Nat):0<=cntP xs U i t p/\cntP xs U i t p<=i+1:=by
 have:=zfx xs p i
 unfold cntP;split <;> omega
theorem zux {xs:List Int}(h:zbn xs){i:Nat}(hi:i<xs.length) : ∃ K U:Nat,prd (xs.take (i+1))=K/\unt xs i=U/\1<=K/\1<=U/\prd xs=((K*U:Nat):Int):=by
 have h1:=zc4 (h.2.2.1.take (i+1))
 have h2:=(zun h i).1
 obtain ⟨K,hK⟩:=Int.eq_ofNat_of_zero_le (show 0<=prd (xs.take (i+1)) by omega)
 obtain ⟨U,hU⟩:=Int.eq_ofNat_of_zero_le (show 0<=unt xs i by omega)
 refine ⟨K,U,hK,hU,by omega,by omega,?_⟩
 rw [Int.natCast_mul,<- hK,<- hU,unt,zia]
end Go.Proofs.YtjpnjchpdkogbaaGreatDoor
