/- Parts of the proof of the card of the law FnConsole. -/
import Derived.Test.YtjpnjchpdkogbaaGreatDoorAa
import Derived.Test.YtjpnjchpdkogbaaGreatDoorChecked
import Derived.WalkKit
import Derived.WalkSpells
import Derived.Lib.Hide
import Derived.Deep.Draws
import Derived.Deep.Light
import Derived.Deep.QuietTactic
import Derived.BigQuiet
import Derived.Deep.RegionHeld3
import Derived.Laws.MakeOwn
import Derived.Laws.NewBlocks
set_option linter.unusedVariables false
set_option linter.unusedSimpArgs false
set_option maxHeartbeats 400000
namespace Go.Proofs.YtjpnjchpdkogbaaGreatDoor
open Go.RowKit
def Fits (n:Int):Prop:=-9223372036854775808<=n/\n<=9223372036854775807
theorem i64w {x:Int}(h : -9223372036854775808<=x/\x<=9223372036854775807):IntKind.i64.wrap x=x:=by rw [IntKind.wrap_i64];omega
def inB (n lo hi:Int):Bool:=decide (lo<=n) && decide (n<=hi)
theorem za1 {n lo hi:Int}(h:lo<=n/\n<=hi):inB n lo hi=true:=by
 unfold inB;simp [h.1,h.2]
theorem zed {n lo hi:Int}(h : ¬ (lo<=n/\n<=hi)):inB n lo hi=false:=by
 unfold inB
 rw [Bool.and_eq_false_iff]
 simp only [decide_eq_false_iff_not]
 by_cases h1:lo<=n
 ·exact .inr fun h2=>h ⟨h1,h2⟩
 ·exact .inl h1
theorem zan {n lo hi:Int} : inB n lo hi=true ↔ lo<=n/\n<=hi:=by
 unfold inB;simp
theorem zac (n lo hi:Int)(w:World) :
  Calls Tryz.prog 22 #[.int .i64 n,.int .i64 lo,.int .i64 hi] w fun e w'=>e = .returned (.bool (inB n lo hi))/\w=w':=by
 by_cases h1:lo<=n <;> by_cases h2:n<=hi
 all_goals
  go_enter Tryz.func22,Tryz.ntmps22
  go_wp2
  go_ret
  exact ⟨by unfold inB;simp [h1,h2],rfl⟩
def Ints (w:World)(B:Nat)(A:Option Addr)(xs:List Int):Prop :=
 xs.length<=maxLen/\(∀ x∈xs,Fits x) /\
 (0<xs.length -> ∃ b off,A=some ⟨b,off,none⟩/\b<B /\ ∀ i,i<xs.length->w.cell? ⟨b,off+i,none⟩=some (.int .i64 (xs.getD i 0)))
theorem Ints.below {w w':World}{B:Nat}{A:Option Addr}{xs:List Int}(h:Ints w B A xs)(hb:Below B w w'):Ints w' B A xs:=by
 refine ⟨h.1,h.2.1,fun hn=>?_⟩
 obtain ⟨b,off,rfl,hlt,hc⟩:=h.2.2 hn
 exact ⟨b,off,rfl,hlt,fun i hi=>(hb.cell (p:=⟨b,off+i,none⟩) hlt).trans (hc i hi)⟩
theorem Ints.mono {w:World}{B B':Nat}{A:Option Addr}{xs:List Int}(h:Ints w B A xs)(hB:B<=B'):Ints w B' A xs:=by
 refine ⟨h.1,h.2.1,fun hn=>?_⟩
 obtain ⟨b,off,rfl,hlt,hc⟩:=h.2.2 hn
 exact ⟨b,off,rfl,by omega,hc⟩
theorem Ints.alloc {w:World}{B:Nat}{A:Option Addr}{xs:List Int}(h:Ints w B A xs)(hB:B<=w.heap.size)(o:Obj):Ints (w.alloc o) B A xs :=
 h.below ((Below.refl _ _).alloc hB o)
theorem Ints.lift {w w':World}{A:Option Addr}{xs:List Int}(h:Ints w w.heap.size A xs)(hb:Below w.heap.size w w'):Ints w' w'.heap.size A xs:=(h.below hb).mono hb.size
theorem Below.drewN_ {B:Nat}{a w:World}(h:Below B a w)(n:Nat):Below B a (w.drewN n):=⟨h.os,h.tape,h.output,h.size,h.block⟩
theorem zqv {W w1:World}(hb:Below W.heap.size W w1):(∀ b o,b<W.heap.size->w1.cell? ⟨b,o,none⟩=W.cell? ⟨b,o,none⟩)/\(∀ b o,b<W.heap.size->w1.frozen? ⟨b,o,none⟩=W.frozen? ⟨b,o,none⟩) :=
 ⟨fun b o h=>hb.cell (p:=⟨b,o,none⟩) h,fun b o h=>hb.frozen (p:=⟨b,o,none⟩) h⟩
theorem Ints.drewN_ {w:World}{B:Nat}{A:Option Addr}{xs:List Int}(h:Ints w B A xs)(n:Nat):Ints (w.drewN n) B A xs:=h
def RhOk (n:Int)(bs:List Int):Prop:=1<=n/\n<=24/\(∀ i,i<bs.length->0<=bs.getD i 0/\bs.getD i 0<n) /\ ∀ i,i+1<bs.length->bs.getD i 0<bs.getD (i+1) 0
noncomputable def rhB (n:Int)(bs:List Int):Bool:=@decide (RhOk n bs) (Classical.propDecidable _)
theorem zao {n:Int}{bs:List Int} : rhB n bs=true ↔ RhOk n bs:=by unfold rhB;simp
theorem zgx {n:Int}{bs:List Int}(h : ¬ RhOk n bs):rhB n bs=false:=by
 rw [<- Bool.not_eq_true,zao];exact h
theorem zqw {n:Int}{bs:List Int}(h : ¬ (1<=n/\n<=24)):rhB n bs=false:=zgx fun r=>h ⟨r.1,r.2.1⟩
def RhPre (n:Int)(bs:List Int)(k:Nat):Prop:=k<=bs.length/\(∀ i,i<k->0<=bs.getD i 0/\bs.getD i 0<n) /\ ∀ i,i+1<k->bs.getD i 0<bs.getD (i+1) 0
theorem RhPre.zero (n:Int)(bs:List Int):RhPre n bs 0:=⟨Nat.zero_le _,fun i h=>by omega,fun i h=>by omega⟩
theorem RhPre.step {n:Int}{bs:List Int}{k:Nat}{x y:Int}(h:RhPre n bs k)(hk:k<bs.length)(hx:bs.getD k 0=x)(hy:bs.getD (k-1) 0=y)
  (hin:inB x 0 (n-1)=true)(hs:0<k->y<x):RhPre n bs (k+1):=by
 subst hx;subst hy
 have hin:=zan.1 hin
 refine ⟨hk,fun i hi=>?_,fun i hi=>?_⟩
 ·by_cases e:i=k
  ·subst e;exact ⟨hin.1,by omega⟩
  ·exact h.2.1 i (by omega)
 ·by_cases e:i+1=k
  ·subst e;exact hs (by omega)
  ·exact h.2.2 i (by omega)
theorem RhPre.done {n:Int}{bs:List Int}(h1:1<=n)(h2:n<=24)(h:RhPre n bs bs.length):rhB n bs=true:=zao.2 ⟨h1,h2,h.2.1,h.2.2⟩
theorem zqx {n:Int}{bs:List Int}{k:Nat}{x:Int}(hk:k<bs.length)(hx:bs.getD k 0=x)(hin : ¬ inB x 0 (n-1)=true):rhB n bs=false :=
 zgx fun r=>hin (by subst hx;have:=r.2.2.1 k hk;exact za1 ⟨this.1,by omega⟩)
theorem zqy {n:Int}{bs:List Int}{k:Nat}{x y:Int}(hk:k<bs.length)(hx:bs.getD k 0=x)(hy:bs.getD (k-1) 0=y)(h0:0<k)(hle:x<=y):rhB n bs=false :=
 zgx fun r=>by
  subst hx;subst hy
  have:=r.2.2.2 (k-1) (by omega)
  rw [show k-1+1=k by omega] at this
  omega
theorem zaq {a b:Bool}(h:a=b):Ending.returned (.bool a) = .returned (.bool b):=by rw [h]
theorem zbv {k:IntKind}{a b:Int}(h:a=b):Ending.returned (.int k a) = .returned (.int k b):=by rw [h]
def Tab (w:World)(b N:Nat)(f:Nat->Int):Prop :=
 b<w.heap.size /\ ∀ t,t<N->w.cell? ⟨b,t,none⟩=some (.int .i64 (f t))/\w.frozen? ⟨b,t,none⟩=false
section
variable {w w':World} {b N:Nat} {f g:Nat->Int}
theorem Tab.get (h:Tab w b N f){t:Nat}(ht:t<N){v:Int}(hv:f t=v):w.cell? ⟨b,t,none⟩=some (.int .i64 v):=by rw [<- hv];exact (h.2 t ht).1
theorem Tab.frz (h:Tab w b N f){t:Nat}(ht:t<N):w.frozen? ⟨b,t,none⟩=false:=(h.2 t ht).2
theorem Tab.below {B:Nat}(h:Tab w b N f)(hb:Below B w w')(hB:b<B):Tab w' b N f :=
 ⟨Nat.lt_of_lt_of_le h.1 hb.size,fun t ht=>⟨(hb.cell (p:=⟨b,t,none⟩) hB).trans (h.2 t ht).1,(hb.frozen (p:=⟨b,t,none⟩) hB).trans (h.2 t ht).2⟩⟩
theorem Tab.alloc (h:Tab w b N f)(o:Obj):Tab (w.alloc o) b N f:=h.below ((Below.refl _ _).alloc (Nat.le_refl _) o) h.1
theorem Tab.congr (h:Tab w b N f)(hfg : ∀ t,t<N->f t=g t):Tab w b N g:=⟨h.1,fun t ht=>⟨by rw [<- hfg t ht];exact (h.2 t ht).1,(h.2 t ht).2⟩⟩
theorem Tab.far (h:Tab w b N f){p:Addr}(hp:b≠p.block)(u:Value):Tab (w.setCell p u) b N f:=by
 have hh:(w.setCell p u).heap[b]? = w.heap[b]?:=Below.heap_setCell w p u b hp
 refine ⟨by simpa [World.setCell] using h.1,fun t ht=>⟨?_,?_⟩⟩
 ·rw [World.cell?_of_block (w:=w) (w':=w.setCell p u) (a:=⟨b,t,none⟩) hh];exact (h.2 t ht).1
 ·rw [World.frozen?_of_block (w:=w) (w':=w.setCell p u) (a:=⟨b,t,none⟩) hh];exact (h.2 t ht).2
theorem Tab.set_ (h:Tab w b N f)(j:Nat)(u:Int)(hj:j<N)(hu:g j=u)(hg : ∀ t,t<N->t≠j->g t=f t):Tab (w.setCell ⟨b,j,none⟩ (.int .i64 u)) b N g:=by
 refine ⟨by simpa [World.setCell] using h.1,fun t ht=>⟨?_,?_⟩⟩
 ·by_cases e:t=j
  ·subst e
   rw [World.cell?_setCell_same w _ _ (h.2 t ht).1,hu]
  ·rw [World.cell?_setCell_other w _ _ _ (fun q=>e (by injection q;omega)),(h.2 t ht).1,hg t ht e]
 ·rw [World.frozen?_setCell];exact (h.2 t ht).2
theorem zee (w:World)(N:Nat)(e:TypeId):Tab (w.alloc (.cells (madeCells #[.int .i64 0] N) e)) w.heap.size N (fun _=>0):=by
 have hh:(w.alloc (.cells (madeCells #[.int .i64 0] N) e)).heap[w.heap.size]? = some (.cells (madeCells #[.int .i64 0] N) e (0,0)):=heap_alloc_new w _
 refine ⟨by simp,fun t ht=>⟨?_,frozen_of_row _ _ _ _ _ hh⟩⟩
 rw [cell_of_row _ _ _ _ _ _ hh,<- Array.getElem?_toList,toList_madeCells_one]
 simp [ht]
end
theorem zqz {P:Program}(t e:TypeId)(i:TypeInfo)(ht:P.underlying t=some (.slice e))(hi:P.info? e=some i)(hz:i.zero=some (.int .i64 0))(hsz:i.size=1)(hby:i.bytes=8)
  (n:Nat)(hn:n<=16777216)(w:World) :
  (Instr.makeSlice t (.int .i64 (n:Int)) (.int .i64 (n:Int))).run P w = .ok (.slice (some ⟨w.heap.size,0,none⟩) n n) (w.alloc (.cells (madeCells #[.int .i64 0] n) e)):=by
 have hr:=run_make (P:=P) w t e i _ ht hi hz .i64 .i64 n n (by omega) (by omega) (by rw [hby];omega) (by omega)
 simp only [Int.toNat_natCast,hsz,Nat.mul_one] at hr
 exact hr
theorem Tryz.infoInt:(Tryz.prog.info? 3).map (fun i=>(i.zero,i.size,i.bytes))=some (some (.int .i64 0),1,8):=by kernel_rfl
theorem zda (n:Nat)(hn:n<=16777216)(w:World) :
  (Instr.makeSlice 25 (.int .i64 (n:Int)) (.int .i64 (n:Int))).run Tryz.prog w = .ok (.slice (some ⟨w.heap.size,0,none⟩) n n) (w.alloc (.cells (madeCells #[.int .i64 0] n) 3)):=by
 obtain ⟨i,hi,hz,hs,hb⟩:=info_parts Tryz.infoInt
 exact zqz _ _ i Tryz.underlying25 hi hz hs hb n hn w
theorem box2 {w w1:World}{u v:Value}{t:TypeId}(h:Below (w.heap.size+1) (w.alloc (.cells #[u,v] t)) w1):w1.cell? ⟨w.heap.size,0,none⟩=some u/\w1.cell? ⟨w.heap.size,1,none⟩=some v :=
 ⟨(h.cell (p:=⟨w.heap.size,0,none⟩) (Nat.lt_succ_self _)).trans (by rw [cell_of_row _ _ _ _ _ _ (heap_alloc_new w _)];rfl),(h.cell (p:=⟨w.heap.size,1,none⟩) (Nat.lt_succ_self _)).trans (by rw [cell_of_row _ _ _ _ _ _ (heap_alloc_new w _)];rfl)⟩
end Go.Proofs.YtjpnjchpdkogbaaGreatDoor
