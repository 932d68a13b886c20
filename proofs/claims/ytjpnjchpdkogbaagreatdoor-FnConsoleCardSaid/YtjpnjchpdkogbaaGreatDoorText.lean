/- Parts of the proof of the card of the law FnConsole. -/
import Derived.Test.YtjpnjchpdkogbaaGreatDoorG06
import Derived.Test.YtjpnjchpdkogbaaGreatDoorG04
import Derived.Test.YtjpnjchpdkogbaaGreatDoorBRep
set_option linter.unusedVariables false
set_option linter.unusedSimpArgs false
set_option maxRecDepth 100000
set_option maxHeartbeats 1000000
namespace Go.Proofs.YtjpnjchpdkogbaaGreatDoor
open Go.RowKit
theorem Ints.drew2_ {w:World}{B:Nat}{A:Option Addr}{xs:List Int}(h:Ints w B A xs):Ints w.drew B A xs:=h
def txF (bs:List Int)(F:Nat->UInt8)(t:Nat):UInt8:=if hasB bs t then F t else 46
def zaj (N:Nat)(bs:List Int)(F:Nat->UInt8):List UInt8:=tabL N (txF bs F)
theorem zb5 (N:Nat)(bs:List Int)(F:Nat->UInt8):(zaj N bs F).length=N:=zgz _ _
theorem ztx (N:Nat)(bs:List Int):zaj N bs (fun _=>120)=winL N bs 0 N:=by
 unfold zaj tabL winL
 refine List.map_congr_left fun t ht=>?_
 have h:t<N:=List.mem_range.1 ht
 unfold txF
 rw [Nat.zero_add,<- Int.natCast_emod,Nat.mod_eq_of_lt h]
theorem zty (bs:List Int)(k:Nat)(hk:k<bs.length)(t x:Int)(hx:bs.getD k 0=x):hasB (bs.take (k+1)) t=(hasB (bs.take k) t || decide (t=x)):=by
 unfold hasB
 rw [List.take_succ_eq_append_getElem hk,Bool.eq_iff_iff,Bool.or_eq_true,decide_eq_true_eq,decide_eq_true_eq,decide_eq_true_eq,List.mem_append,List.mem_singleton]
 have:bs[k]=x:=by rw [<- hx,List.getD_eq_getElem?_getD,List.getElem?_eq_getElem hk];rfl
 rw [this]
theorem zh1 {bs:List Int}{F:Nat->UInt8}{k j:Nat}(hk:k<bs.length)(hx:bs.getD k 0=(j:Int))(t:Nat):(if t=j then F j else txF (bs.take k) F t)=txF (bs.take (k+1)) F t:=by
 unfold txF
 rw [zty bs k hk t j hx]
 by_cases h:t=j
 ·subst h;simp
 ·have : ¬ (t:Int)=(j:Int):=by omega
  simp [h,this]
def natF (t:Nat):UInt8:=if t % 2=0 then 82 else 76
theorem zdg (N:Nat)(A:Option Addr)(cap:Nat)(bs:List Int)(w:World)(hA:Ints w w.heap.size A bs)(hok:RhOk N bs) :
  Calls Tryz.prog 112 #[.agg #[.int .i64 N,.slice A bs.length cap]] w fun e w'=>e = .returned (.string (mkS (zaj N bs (fun _=>120))))/\Below w.heap.size w w':=by
 have hlen:=hA.1
 unfold maxLen at hlen
 have HC:=Zh hA.2.2
 have hn1:1<=N:=by have:=hok.1;omega
 have hn2:N<=24:=by have:=hok.2.1;omega
 have HOK:=Zh hok
 clear hA hok
 have HW:=Zh ((Below.refl w.heap.size w).alloc (Nat.le_refl _) (.cells #[.int .i64 N,.slice A bs.length cap] 27))
 obtain ⟨c0,c1⟩:=box2 (Below.refl (w.heap.size+1) (w.alloc (.cells #[.int .i64 N,.slice A bs.length cap] 27)))
 have kc:(convert 22 22 (.slice (some ⟨w.heap.size+1,0,none⟩) 1 1)).run Tryz.prog ((w.alloc (.cells #[.int .i64 N,.slice A bs.length cap] 27)).alloc (.cells #[.int .u8 46] 5)) = .ok (.slice (some ⟨w.heap.size+1,0,none⟩) 1 1) ((w.alloc (.cells #[.int .i64 N,.slice A bs.length cap] 27)).alloc (.cells #[.int .u8 46] 5 (1,2))) :=
  Joins.run_convert_bytes_const_at (P:=Tryz.prog) (w.alloc (.cells #[.int .i64 N,.slice A bs.length cap] 27)) 22 5 #[.int .u8 46] 1 1 (w.heap.size+1) (by simp) Tryz.underlying22 Tryz.underlying5
 go_enter Tryz.func112,Tryz.ntmps112
 go_wp2_with fail
 clear kc
 refine (zl0 (w.heap.size+1) 1 N 46 _ ?_ ?_ hn1 (by omega)).mono ?_
 ·simp
 ·exact (Joins.cell_alloc_mark_at _ _ _ _ _ 0 (by simp)).trans rfl
 rintro e w1 ⟨rfl,htab0,hb1⟩
 have hb1':=(zb3 hb1).1
 have HB1:=Zh ((HW.o.alloc (by first | exact Nat.le_refl _ | (simp;done) | (simp;omega) | omega) (.cells #[.int .u8 46] 5 (1,2))).trans (hb1.mono (by first | exact Nat.le_refl _ | (simp;done) | (simp;omega) | omega)))
 have hd0:=(hb1' w.heap.size 0 (by first | exact Nat.le_refl _ | (simp;done) | (simp;omega) | omega)).trans ((((Below.refl (w.heap.size+1) _).alloc (by first | exact Nat.le_refl _ | (simp;done) | (simp;omega) | omega) (.cells #[.int .u8 46] 5 (1,2))).cell (p:=⟨w.heap.size,0,none⟩) (by first | exact Nat.le_refl _ | (simp;done) | (simp;omega) | omega)).trans c0)
 have hd1:=(hb1' w.heap.size 1 (by first | exact Nat.le_refl _ | (simp;done) | (simp;omega) | omega)).trans ((((Below.refl (w.heap.size+1) _).alloc (by first | exact Nat.le_refl _ | (simp;done) | (simp;omega) | omega) (.cells #[.int .u8 46] 5 (1,2))).cell (p:=⟨w.heap.size,1,none⟩) (by first | exact Nat.le_refl _ | (simp;done) | (simp;omega) | omega)).trans c1)
 clear hb1 hb1'
 obtain ⟨h,hh⟩ : ∃ h,((w.alloc (.cells #[.int .i64 N,.slice A bs.length cap] 27)).alloc (.cells #[.int .u8 46] 5 (1,2))).heap.size=h:=⟨_,rfl⟩
 have hwh:w.heap.size<h:=by rw [<- hh];simp;omega
 simp only [hh] at htab0 ⊢
 have HT0:=Zh htab0
 clear htab0 hh
 go_wp2_with fail
 go_loopw [14] (fun i wr=>∃ k:Nat,k<=bs.length/\i = .int .i64 k/\TabU wr h N (txF (bs.take k) (fun _=>120))/\Below w.heap.size w wr) (fun i _=>bs.length-(intOf i).toNat)
 case atStart=>exact ⟨0,Nat.zero_le _,rfl,HT0.o.congr (fun t _=>by simp [txF,hasB]),HB1.o⟩
 case round =>
  obtain ⟨k,hk,rfl,htab,hbel⟩:=hrel
  by_cases hlt:k<bs.length
  ·obtain ⟨b,off,rfl,hB,hc⟩:=HC.o (by omega)
   have hcell:=(hbel.cell (p:=⟨b,off+k,none⟩) hB).trans (hc k hlt)
   have hx0:=HOK.o.2.2.1 k hlt
   obtain ⟨x,hx⟩ : ∃ x,bs.getD k 0=x:=⟨_,rfl⟩
   rw [hx] at hcell hx0
   obtain ⟨hx1,hx2⟩:=hx0
   obtain ⟨j,rfl⟩:=Int.eq_ofNat_of_zero_le hx1
   have hjN:j<N:=by omega
   have hto:=(htab.2 j hjN).1
   have hfr:=htab.frz hjN
   have HX:=Zh hx
   clear hx hc
   go_wp2_with fail
   go_roundw
   case rel=>exact ⟨k+1,by omega,by go_num,(htab.set_ j 120 hjN _ rfl).congr (fun t _=>zh1 (F:=fun _=>120) hlt HX.o t),hbel.setCell (by simp;omega) _⟩
   case measure=>simp [intOf];omega
  ·have hke:k=bs.length:=by omega
   subst hke
   rw [List.take_length] at htab
   have hcv:=htab.string N
   go_wp2_with fail
   go_ret
   exact ⟨rfl,hbel⟩
end Go.Proofs.YtjpnjchpdkogbaaGreatDoor
