/- Parts of the proof of the card of the law FnConsole. -/
import Derived.Test.YtjpnjchpdkogbaaGreatDoorStr
import Derived.Test.YtjpnjchpdkogbaaGreatDoorOwn
import Derived.Laws.AppendOwnNone
set_option linter.unusedVariables false
set_option linter.unusedSimpArgs false
set_option maxRecDepth 100000
namespace Go.Proofs.YtjpnjchpdkogbaaGreatDoor
open Go.RowKit
theorem Tryz.infoString:(Tryz.prog.info? 9).map (fun i=>(i.zero,i.size,i.bytes))=some (some (.string ByteArray.empty),1,16):=by kernel_rfl
abbrev Txt:=List UInt8
def emS (l:Txt):Value:=.string (mkS l)
def Strs (w:World)(B:Nat)(A:Option Addr)(xs:List Txt):Prop :=
 xs.length<=1048576/\(0<xs.length -> ∃ b off,A=some ⟨b,off,none⟩/\b<B /\ ∀ i,i<xs.length->w.cell? ⟨b,off+i,none⟩=some (emS (xs.getD i [])))
section
variable {w w':World} {B B':Nat} {A:Option Addr} {xs:List Txt}
end
def OwnS (w:World)(base:Nat)(v:Value)(xs:List Txt):Prop:=w.ownsRow base 9 1 v xs.length (xs.map emS)
section
variable {w w':World} {base:Nat} {v:Value} {xs:List Txt}
theorem OwnS.nil (w:World)(base:Nat):OwnS w base (.slice none 0 0) []:=World.ownsRow_nil _ _ _ _
theorem OwnS.alloc (h:OwnS w base v xs)(o:Obj):OwnS (w.alloc o) base v xs:=World.ownsRow.alloc h o
theorem OwnS.mono {base':Nat}(h:OwnS w base v xs)(hb:base'<=base):OwnS w base' v xs:=by
 refine ⟨h.1,?_⟩
 rcases h.2 with h | ⟨g,cap,cur,e,hg,r⟩
 ·exact .inl h
 ·exact .inr ⟨g,cap,cur,e,by omega,r⟩
theorem OwnS.form (h:OwnS w base v xs) : ∃ A cap,v = .slice A xs.length cap/\xs.length<=cap/\(0<cap -> ∃ g,A=some ⟨g,0,none⟩/\base<=g/\g<w.heap.size)/\cap<=maxLen:=by
 rcases h.2 with ⟨rfl,h0⟩ | ⟨g,cap,cur,rfl,hg,hh,hnc,hm,_⟩
 ·exact ⟨none,0,by rw [h0],by omega,fun h=>by omega,by unfold maxLen;omega⟩
 ·exact ⟨some ⟨g,0,none⟩,cap,rfl,hnc,fun _=>⟨g,rfl,hg,(Array.getElem?_eq_some_iff.1 hh).1⟩,hm⟩
theorem OwnS.lt (h:OwnS w base v xs) : ∀ k,v.ownBlock=some k->base<=k/\k<w.heap.size:=World.ownsRow.lt h
theorem OwnS.grown (h:OwnS w base v xs)(hb:Below w.heap.size w w'):OwnS w' base v xs:=by
 refine ⟨h.1,?_⟩
 rcases h.2 with ⟨rfl,h0⟩ | ⟨g,cap,cur,rfl,hg,hh,r⟩
 ·exact .inl ⟨rfl,h0⟩
 ·have hlt:g<w.heap.size:=(Array.getElem?_eq_some_iff.1 hh).1
  exact .inr ⟨g,cap,cur,rfl,hg,by rw [hb.block g hlt];exact hh,r⟩
theorem OwnS.strs {A:Option Addr}{cap:Nat}(h:OwnS w base (.slice A xs.length cap) xs)(hl:xs.length<=1048576):Strs w w.heap.size A xs:=by
 rcases h.2 with ⟨hv,h0⟩ | ⟨g,cap',cur,hv,_,hh,hnc,hm,hsz,hxs⟩
 ·exact ⟨hl,fun hn=>absurd h0 (by omega)⟩
 ·refine ⟨hl,fun hn=>?_⟩
  have hA:A=some ⟨g,0,none⟩:=by injection hv
  subst hA
  have hlt:=(h.lt g rfl).2
  refine ⟨g,0,rfl,hlt,fun i hi=>?_⟩
  have:=World.ownsRow.cells h (g:=g) rfl i (emS (xs.getD i [])) (by rw [List.getElem?_map,List.getElem?_eq_getElem hi];simp [List.getD_eq_getElem?_getD,hi])
  rwa [Go.WideShapes.add_plain] at this
end
theorem zki {w:World}{b off:Nat}{ys:List Txt}(hc : ∀ i,i<ys.length->w.cell? ⟨b,off+i,none⟩=some (emS (ys.getD i []))) :
  (∀ j u,(ys.map emS)[j]? = some u->w.cell? ((⟨b,off,none⟩:Addr).add j)=some u) /\ ∀ u∈ys.map emS,u.oneCell'=true:=by
 refine ⟨fun j u hu=>?_,fun u hu=>?_⟩
 ·rw [List.getElem?_map] at hu
  have hj:j<ys.length:=by
   apply Classical.byContradiction
   intro hh
   rw [List.getElem?_eq_none (by omega)] at hu
   cases hu
  rw [Addr.add_lit,hc j hj,List.getD_eq_getElem?_getD]
  rw [List.getElem?_eq_getElem hj] at hu ⊢
  exact hu
 ·obtain ⟨t,_,rfl⟩:=List.mem_map.1 hu
  rfl
theorem zq1 {w:World}{ops:Array Oper}{rest:List Oper}{o:Oper}{a:Act}{Q:Exit->Act->World->Prop}(hgd:o.guard=none)(s x:Operand)
  (ho:o.op = .call { callee:=.builtin .append,args:=#[s,x],argTypes:=#[23,23] })
  (base:Nat) (v:Value) (xs:List Txt) (hs:a.eval s=v) (hown:OwnS w base v xs) (A:Option Addr) (c:Nat) (ys:List Txt) (hx:a.eval x = .slice A ys.length c)
  (B:Nat) (hy:Strs w B A ys) (hform:A=none->c=0) (hpl : ∀ ad,A=some ad -> ∃ b off,ad=⟨b,off,none⟩) (hlen:xs.length+ys.length<=1048576) (hbase:base<=w.heap.size)
  (h : ∀ v' w',OwnS w' base v' (xs++ys)->Below base w w'->wpList Tryz.prog ops Q rest (a.put o.dst v') w'):wpList Tryz.prog ops Q (o::rest) a w:=by
 obtain ⟨i,hi,hz,hsz,hby⟩:=info_parts Tryz.infoString
 cases A with
 | none =>
  have h0:ys=[]:=by
   cases ys with
   | nil=>rfl
   | cons y ys=>obtain ⟨b,off,e,_⟩:=hy.2 (by simp);cases e
  subst h0
  have:=hform rfl
  subst this
  refine wpList_append_own_none hgd s x _ ho base 9 i 1 Tryz.underlying23 hi v xs.length _ hs hown hx ?_
  exact h v w (by simpa using hown) (Below.refl _ _)
 | some ad =>
  obtain ⟨b,off,rfl⟩:=hpl ad rfl
  have hcells : ∀ i,i<ys.length->w.cell? ⟨b,off+i,none⟩=some (emS (ys.getD i [])):=by
   intro i hi
   obtain ⟨b',off',e,_,hc⟩:=hy.2 (by omega)
   injection e with e
   injection e with e1 e2
   subst e1 e2
   exact hc i hi
  refine wpList_append_own _ hgd s x _ ho base 9 i _ 1 16 Tryz.underlying23 hi hz hsz hby rfl (by omega) v xs.length _ hs hown ⟨b,off,none⟩ ys.length c (ys.map emS) hx (by simp) (zki hcells).1 (zki hcells).2 (by unfold maxLen;omega) (by omega) hbase ?_
  intro v' w' hown' hgrow _
  refine h v' w' ?_ ?_
  ·unfold OwnS
   rw [List.length_append,List.map_append]
   exact hown'
  ·exact (Below.refl base w).grown hgrow hbase (fun k hk=>(hown.lt k hk).1)
theorem zkj {w:World}{ops:Array Oper}{rest:List Oper}{o:Oper}{a:Act}{Q:Exit->Act->World->Prop}(hgd:o.guard=none)(s x:Operand)
  (ho:o.op = .call { callee:=.builtin .append,args:=#[s,x],argTypes:=#[23,23] })
  (base:Nat) (v:Value) (xs:List Txt) (hs:a.eval s=v) (hown:OwnS w base v xs) (g:Nat) (y:Txt) (hx:a.eval x = .slice (some ⟨g,0,none⟩) 1 1)
  (hcell:w.cell? ⟨g,0,none⟩=some (emS y)) (hlen:xs.length<1048576) (hbase:base<=w.heap.size)
  (h : ∀ v' w',OwnS w' base v' (xs++[y])->Below base w w'->wpList Tryz.prog ops Q rest (a.put o.dst v') w'):wpList Tryz.prog ops Q (o::rest) a w:=by
 refine zq1 hgd s x ho base v xs hs hown (some ⟨g,0,none⟩) 1 [y] hx (g+1) ⟨by simp,fun _=>⟨g,0,rfl,Nat.lt_succ_self _,fun i hi=>?_⟩⟩ (fun h=>by cases h) (fun ad h=>by injection h with h;exact ⟨g,0,h.symm⟩) (by simp;omega) hbase h
 have:i=0:=by simpa using hi
 subst this
 exact hcell
theorem ze4 (w:World)(g:Nat)(xs:List Txt)(hl:xs.length<=1048576)(hg:w.heap.size=g):Strs (w.alloc (.cells (xs.map emS).toArray 9)) (w.alloc (.cells (xs.map emS).toArray 9)).heap.size (some ⟨g,0,none⟩) xs:=by
 subst hg
 refine ⟨hl,fun _=>⟨w.heap.size,0,rfl,by simp,fun i hi=>?_⟩⟩
 rw [cell_of_row _ _ _ _ _ _ (heap_alloc_new w _),Nat.zero_add]
 rw [List.getElem?_toArray,List.getElem?_map,List.getElem?_eq_getElem hi,List.getD_eq_getElem?_getD,List.getElem?_eq_getElem hi]
 rfl
end Go.Proofs.YtjpnjchpdkogbaaGreatDoor
