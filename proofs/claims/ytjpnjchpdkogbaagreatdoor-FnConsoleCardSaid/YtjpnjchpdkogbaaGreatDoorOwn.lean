/- Parts of the proof of the card of the law FnConsole. -/
import Derived.Test.YtjpnjchpdkogbaaGreatDoorG01
import Derived.StillTailTactics
set_option linter.unusedVariables false
set_option linter.unusedSimpArgs false
namespace Go.Proofs.YtjpnjchpdkogbaaGreatDoor
open Go.RowKit
def OwnI (w:World)(base:Nat)(v:Value)(xs:List Int):Prop:=w.ownsRow base 3 1 v xs.length (xs.map (Value.int .i64))
theorem OwnI.nil (w:World)(base:Nat):OwnI w base (.slice none 0 0) []:=World.ownsRow_nil _ _ _ _
theorem OwnI.alloc {w:World}{base:Nat}{v:Value}{xs:List Int}(h:OwnI w base v xs)(o:Obj):OwnI (w.alloc o) base v xs:=World.ownsRow.alloc h o
theorem OwnI.drew {w:World}{base:Nat}{v:Value}{xs:List Int}(h:OwnI w base v xs):OwnI w.drew base v xs:=h
theorem OwnI.form {w:World}{base:Nat}{v:Value}{xs:List Int}(h:OwnI w base v xs) : ∃ A cap,v = .slice A xs.length cap:=by
 rcases h.2 with ⟨rfl,h0⟩ | ⟨g,cap,cur,rfl,_⟩
 ·exact ⟨none,0,by rw [h0]⟩
 ·exact ⟨some ⟨g,0,none⟩,cap,rfl⟩
theorem OwnI.lt {w:World}{base:Nat}{v:Value}{xs:List Int}(h:OwnI w base v xs) : ∀ k,v.ownBlock=some k->base<=k/\k<w.heap.size:=World.ownsRow.lt h
theorem OwnI.grown {w w':World}{base:Nat}{v:Value}{xs:List Int}(h:OwnI w base v xs)(hb:Below w.heap.size w w'):OwnI w' base v xs:=by
 refine ⟨h.1,?_⟩
 rcases h.2 with ⟨rfl,h0⟩ | ⟨g,cap,cur,rfl,hg,hh,r⟩
 ·exact .inl ⟨rfl,h0⟩
 ·have hlt:g<w.heap.size:=by
   rcases Nat.lt_or_ge g w.heap.size with h | h'
   ·exact h
   ·rw [Array.getElem?_eq_none h'] at hh;cases hh
  exact .inr ⟨g,cap,cur,rfl,hg,by rw [hb.block g hlt];exact hh,r⟩
theorem OwnI.ints {w:World}{base:Nat}{A:Option Addr}{cap:Nat}{xs:List Int}(h:OwnI w base (.slice A xs.length cap) xs)(hf : ∀ x∈xs,Fits x):Ints w w.heap.size A xs:=by
 rcases h.2 with ⟨hv,h0⟩ | ⟨g,cap',cur,hv,_,hh,hnc,hm,hsz,hxs⟩
 ·exact ⟨by rw [h0];exact Nat.zero_le _,hf,fun hn=>absurd h0 (by omega)⟩
 ·refine ⟨by omega,hf,fun hn=>?_⟩
  have hA:A=some ⟨g,0,none⟩:=by injection hv
  subst hA
  have hlt:=(h.lt g rfl).2
  refine ⟨g,0,rfl,hlt,fun i hi=>?_⟩
  have:=World.ownsRow.cells h (g:=g) rfl i (.int .i64 (xs.getD i 0)) (by rw [List.getElem?_map,List.getElem?_eq_getElem hi];simp [List.getD_eq_getElem?_getD,hi])
  rwa [Go.WideShapes.add_plain] at this
theorem zb3 {B:Nat}{W w1:World}(hb:Below B W w1):(∀ b o,b<B->w1.cell? ⟨b,o,none⟩=W.cell? ⟨b,o,none⟩)/\(∀ b o,b<B->w1.frozen? ⟨b,o,none⟩=W.frozen? ⟨b,o,none⟩) :=
 ⟨fun b o h=>hb.cell (p:=⟨b,o,none⟩) h,fun b o h=>hb.frozen (p:=⟨b,o,none⟩) h⟩
theorem zag (w:World)(v:Value)(t:TypeId):(w.alloc (.cells #[v] t)).cell? ⟨w.heap.size,0,none⟩=some v:=by
 rw [cell_of_row _ _ _ _ _ _ (heap_alloc_new w _)];rfl
theorem za4 {w:World}{ops:Array Oper}{rest:List Oper}{o:Oper}{a:Act}{Q:Exit->Act->World->Prop}(hgd:o.guard=none)(s x:Operand)
  (ho:o.op = .call { callee:=.builtin .append,args:=#[s,x],argTypes:=#[25,25] })
  (base:Nat) (v:Value) (xs:List Int) (hs:a.eval s=v) (hown:OwnI w base v xs) (g:Nat) (y:Int) (hx:a.eval x = .slice (some ⟨g,0,none⟩) 1 1)
  (hcell:w.cell? ⟨g,0,none⟩=some (.int .i64 y)) (hlen:xs.length<=1048576) (hbase:base<=w.heap.size)
  (h : ∀ v' w',OwnI w' base v' (xs++[y])->Below base w w'->wpList Tryz.prog ops Q rest (a.put o.dst v') w'):wpList Tryz.prog ops Q (o::rest) a w:=by
 obtain ⟨i,hi,hz,hsz,hby⟩:=info_parts Tryz.infoInt
 refine wpList_append_own _ hgd s x _ ho base 3 i _ 1 8 Tryz.underlying25 hi hz hsz hby rfl (by omega) v xs.length _ hs hown ⟨g,0,none⟩ 1 1 [.int .i64 y] hx rfl ?_ ?_ (by unfold maxLen;omega) (by omega) hbase ?_
 ·intro j u hj
  match j,hj with
  | 0,hj =>
   simp at hj
   subst hj
   exact hcell
 ·intro u hu
  simp at hu
  subst hu
  rfl
 ·intro v' w' hown' hgrow _
  refine h v' w' ?_ ?_
  ·unfold OwnI
   simpa using hown'
  ·exact (Below.refl base w).grown hgrow hbase (fun k hk=>(hown.lt k hk).1)
theorem zc0 {w:World}{ops:Array Oper}{o:Oper}{a:Act}{K:Act->World->Prop}{Q:Exit->Act->World->Prop}{E:Prop}(hgd:o.guard=none)(s x:Operand)
  (ho:o.op = .call { callee:=.builtin .append,args:=#[s,x],argTypes:=#[25,25] })
  (base:Nat) (v:Value) (xs:List Int) (hs:a.eval s=v) (hown:OwnI w base v xs) (g:Nat) (y:Int) (hx:a.eval x = .slice (some ⟨g,0,none⟩) 1 1)
  (hcell:w.cell? ⟨g,0,none⟩=some (.int .i64 y)) (hlen:xs.length<=1048576) (hbase:base<=w.heap.size)
  (h : ∀ v' w',OwnI w' base v' (xs++[y])->Below base w w'->K (a.put o.dst v') w'):if Region.wanted o (yielded ops a.tmps)=true then Oper.wp Tryz.prog o a w K Q else E:=by
 have hw:Region.wanted o (yielded ops a.tmps)=true:=by simp [Region.wanted,hgd]
 rw [if_pos hw]
 obtain ⟨i,hi,hz,hsz,hby⟩:=info_parts Tryz.infoInt
 refine wp_append_own w s x _ ho base 3 i _ 1 8 Tryz.underlying25 hi hz hsz hby rfl (by omega) v xs.length _ hs hown ⟨g,0,none⟩ 1 1 [.int .i64 y] hx rfl ?_ ?_ (by unfold maxLen;omega) (by omega) hbase ?_
 ·intro j u hj
  match j,hj with
  | 0,hj =>
   simp at hj
   subst hj
   exact hcell
 ·intro u hu
  simp at hu
  subst hu
  rfl
 ·intro v' w' hown' hgrow _
  refine h v' w' ?_ ?_
  ·unfold OwnI
   simpa using hown'
  ·exact (Below.refl base w).grown hgrow hbase (fun k hk=>(hown.lt k hk).1)
end Go.Proofs.YtjpnjchpdkogbaaGreatDoor
