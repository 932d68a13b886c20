/- Parts of the proof of the card of the law FnConsole. -/
import Derived.Test.YtjpnjchpdkogbaaGreatDoorStr
import Derived.Test.YtjpnjchpdkogbaaGreatDoorG01
import Derived.Test.YtjpnjchpdkogbaaGreatDoorG03
import Derived.Test.YtjpnjchpdkogbaaGreatDoorOwn
import Derived.Deep.RegionLaw
import Derived.Lib.SlicesCompact
import Derived.Sort.Grow
import Derived.Sort.EncStr
import Derived.Test.YtjpnjchpdkogbaaGreatDoorChecked
import Derived.Shelf.Sort.Plain
import Derived.Shelf.Slices.In.SortNone
import Derived.Shelf.Slices.CompactI
import Derived.Shelf.Slices.Clone
import Derived.Shelf.Slices.Equal
import Derived.Shelf.Slices.Empties2
import Derived.Lib.RowBridge
set_option linter.unusedVariables false
set_option linter.unusedSimpArgs false
set_option maxRecDepth 100000
set_option maxHeartbeats 1000000
namespace Go.Proofs.YtjpnjchpdkogbaaGreatDoor
open Go.RowKit
def hasB (xs:List Int)(x:Int):Bool:=decide (x∈xs)
theorem zru {xs:List Int}{x:Int}{i:Nat}(hi:i<xs.length)(h:xs.getD i 0=x):hasB xs x=true:=by
 unfold hasB
 rw [decide_eq_true_eq,<- h,List.getD_eq_getElem?_getD,List.getElem?_eq_getElem hi]
 exact List.getElem_mem hi
theorem zrv {xs:List Int}{x:Int}(h : ∀ i,i<xs.length->xs.getD i 0≠x):hasB xs x=false:=by
 unfold hasB
 rw [decide_eq_false_iff_not]
 intro hm
 obtain ⟨i,hi,he⟩:=List.getElem_of_mem hm
 refine h i hi ?_
 rw [List.getD_eq_getElem?_getD,List.getElem?_eq_getElem hi]
 exact he
theorem Calls.quiet_of_left {P:Program}{f:FuncId}{args:Array Value}{w:World}{n:Nat}{v:Value}
  (h:Calls P f args (w.drewN n) fun e w'=>e = .returned v/\w.drewN n=w'):Calls P f args (w.drewN n) fun e w''=>e = .returned v /\ ∃ m,w''=w.drewN m :=
 h.mono fun _ _ ⟨he,hm⟩=>⟨he,n,hm.symm⟩
def winL (n:Int)(bs:List Int)(p k:Nat):List UInt8:=(List.range k).map fun i=>if hasB bs (((p+i:Nat):Int) % n) then 120 else 46
theorem ze8 (n:Int)(bs:List Int)(p k:Nat):(winL n bs p k).length=k:=by simp [winL]
end Go.Proofs.YtjpnjchpdkogbaaGreatDoor
namespace Go.Proofs.YtjpnjchpdkogbaaGreatDoor
def ltL (a b:List UInt8):Bool:=decide (a<b)
theorem zha (a:List UInt8):ltL a a=false:=by
 unfold ltL;rw [decide_eq_false_iff_not];exact List.lt_irrefl a
theorem zhb {a b c:List UInt8}(h:ltL a b=true)(h':ltL b c=true):ltL a c=true:=by
 unfold ltL at *;rw [decide_eq_true_eq] at *;exact List.lt_trans h h'
theorem zkx {a b:List UInt8}(h:ltL a b=false)(hne:a≠b):ltL b a=true:=by
 unfold ltL at *;rw [decide_eq_false_iff_not] at h;rw [decide_eq_true_eq]
 rcases Std.lt_trichotomy a b with h1 | h1 | h1
 ·exact absurd h1 h
 ·exact absurd h1 hne
 ·exact h1
def DescL (l:List (List UInt8)):Prop:=l.Pairwise (fun a b=>ltL b a=true)
theorem DescL.unique : ∀ {l m:List (List UInt8)},DescL l->DescL m->(∀ x,x∈l ↔ x∈m)->l=m
 | [],[],_,_,_=>rfl
 | [],y::m,_,_,h=>by have:=(h y).2 (by simp);cases this
 | x::l,[],_,_,h=>by have:=(h x).1 (by simp);cases this
 | x::l,y::m,hl,hm,h=>by
  have hl':=List.pairwise_cons.1 hl
  have hm':=List.pairwise_cons.1 hm
  have hxy:x=y:=by
   apply Classical.byContradiction
   intro hne
   have h1:x∈m:=by
    rcases List.mem_cons.1 ((h x).1 (by simp)) with e | e
    ·exact absurd e hne
    ·exact e
   have h2:y∈l:=by
    rcases List.mem_cons.1 ((h y).2 (by simp)) with e | e
    ·exact absurd e.symm hne
    ·exact e
   have:=zhb (hl'.1 y h2) (hm'.1 x h1)
   rw [zha] at this
   cases this
  subst hxy
  have hxl : ∀ z∈l,z≠x:=fun z hz e=>by subst e;have:=hl'.1 _ hz;rw [zha] at this;cases this
  have hxm : ∀ z∈m,z≠x:=fun z hz e=>by subst e;have:=hm'.1 _ hz;rw [zha] at this;cases this
  rw [DescL.unique hl'.2 hm'.2 (fun z=>⟨fun hz=>by
   rcases List.mem_cons.1 ((h z).1 (by simp [hz])) with e | e
   ·exact absurd e (hxl z hz)
   ·exact e,fun hz=>by
   rcases List.mem_cons.1 ((h z).2 (by simp [hz])) with e | e
   ·exact absurd e (hxm z hz)
   ·exact e⟩)]
def posD (w:List UInt8):List (List UInt8)->Nat
 | []=>0
 | x::l=>if ltL w x then posD w l+1 else 0
def insD (w:List UInt8)(l:List (List UInt8)):List (List UInt8) :=
 if posD w l<l.length/\l.getD (posD w l) []=w then l else l.take (posD w l)++[w]++l.drop (posD w l)
theorem zrw {w x:List UInt8}{l:List (List UInt8)}(h:ltL w x=true):insD w (x::l)=x::insD w l:=by
 unfold insD
 have e:posD w (x::l)=posD w l+1:=by rw [posD,if_pos h]
 rw [e]
 by_cases hc:posD w l<l.length/\l.getD (posD w l) []=w
 ·rw [if_pos hc,if_pos ⟨by simpa using hc.1,by simpa using hc.2⟩]
 ·rw [if_neg hc,if_neg (fun hh=>hc ⟨by simpa using hh.1,by simpa using hh.2⟩)]
  simp
theorem zky (w:List UInt8) : ∀ (l:List (List UInt8)) x,x∈insD w l ↔ x=w\/x∈l:=by
 intro l x
 unfold insD
 split
 ·rename_i h
  constructor
  ·exact .inr
  ·rintro (rfl | h')
   ·rw [<- h.2,List.getD_eq_getElem?_getD,List.getElem?_eq_getElem h.1]
    exact List.getElem_mem h.1
   ·exact h'
 ·conv=>rhs;rw [<- List.take_append_drop (posD w l) l]
  simp only [List.mem_append,List.mem_singleton]
  constructor
  ·rintro ((h | h) | h)
   ·exact .inr (.inl h)
   ·exact .inl h
   ·exact .inr (.inr h)
  ·rintro (h | h | h)
   ·exact .inl (.inr h)
   ·exact .inl (.inl h)
   ·exact .inr h
theorem zkz (w:List UInt8) : ∀ (l:List (List UInt8)),DescL l->DescL (insD w l)
 | [],_=>by simp [insD,posD,DescL]
 | x::l,h=>by
  have h':=List.pairwise_cons.1 h
  by_cases hx:ltL w x=true
  ·rw [zrw hx]
   refine List.pairwise_cons.2 ⟨fun y hy=>?_,zkz w l h'.2⟩
   rcases (zky w l y).1 hy with rfl | hy
   ·exact hx
   ·exact h'.1 y hy
  ·have hx':ltL w x=false:=by simpa using hx
   have e:posD w (x::l)=0:=by rw [posD,if_neg hx]
   unfold insD
   rw [e]
   by_cases hc:x=w
   ·rw [if_pos ⟨by simp,by simpa using hc⟩];exact h
   ·rw [if_neg (fun hh=>hc (by simpa using hh.2))]
    have hw:=zkx hx' (fun e=>hc e.symm)
    refine List.pairwise_cons.2 ⟨fun y hy=>?_,h⟩
    rcases List.mem_cons.1 hy with rfl | hy
    ·exact hw
    ·exact zhb (h'.1 y hy) hw
def allD (n:Int) (bs:List Int) (k:Nat):Nat->List (List UInt8)
 | 0=>[]
 | p+1=>insD (winL n bs p k) (allD n bs k p)
theorem zk0 (n:Int) (bs:List Int) (k:Nat) : ∀ m x,x∈allD n bs k m ↔ ∃ p,p<m/\winL n bs p k=x
 | 0,x=>by simp [allD]
 | m+1,x=>by
  unfold allD
  rw [zky,zk0 n bs k m]
  constructor
  ·rintro (rfl | ⟨p,hp,rfl⟩)
   ·exact ⟨m,by omega,rfl⟩
   ·exact ⟨p,by omega,rfl⟩
  ·rintro ⟨p,hp,rfl⟩
   by_cases h:p=m
   ·subst h;exact .inl rfl
   ·exact .inr ⟨p,by omega,rfl⟩
theorem zk1 (n:Int) (bs:List Int) (k:Nat) : ∀ m,DescL (allD n bs k m)
 | 0=>List.Pairwise.nil
 | m+1=>zkz _ _ (zk1 n bs k m)
theorem zhc (n:Int)(bs:List Int)(k:Nat) : ∀ m,(allD n bs k m).length<=m
 | 0=>Nat.le_refl _
 | m+1=>by
  have:=zhc n bs k m
  unfold allD insD
  split
  ·omega
  ·simp;omega
end Go.Proofs.YtjpnjchpdkogbaaGreatDoor
namespace Go.Proofs.YtjpnjchpdkogbaaGreatDoor
def zbk (n:Int):List Int->Nat->Nat
 | bs,0=>0
 | bs,j+1=>zbk n bs j ||| 2 ^ (n-1-bs.getD j 0).toNat
theorem zk2 (n:Int) (bs:List Int) : ∀ j b,(zbk n bs j).testBit b=true ↔ ∃ i,i<j/\(n-1-bs.getD i 0).toNat=b
 | 0,b=>by simp [zbk]
 | j+1,b=>by
  unfold zbk
  rw [Nat.testBit_or,Bool.or_eq_true,zk2 n bs j b,Nat.testBit_two_pow]
  simp only [decide_eq_true_eq]
  constructor
  ·rintro (⟨i,hi,e⟩ | e)
   ·exact ⟨i,by omega,e⟩
   ·exact ⟨j,by omega,e⟩
  ·rintro ⟨i,hi,e⟩
   by_cases h:i=j
   ·subst h;exact .inr e
   ·exact .inl ⟨i,by omega,e⟩
theorem zhd (n:Int)(bs:List Int)(h0:0<n)(hb : ∀ i,i<bs.length->0<=bs.getD i 0/\bs.getD i 0<n) : ∀ j,j<=bs.length->zbk n bs j<2 ^ n.toNat
 | 0,_=>Nat.two_pow_pos _
 | j+1,h=>Nat.or_lt_two_pow (zhd n bs h0 hb j (by omega)) (Nat.pow_lt_pow_right (by omega) (by have:=hb j (by omega);omega))
theorem zrx (n:Int)(bs:List Int)(h0:0<n)(hb : ∀ i,i<bs.length->0<=bs.getD i 0/\bs.getD i 0<n)(b:Nat)(hbn:(b:Int)<n):(zbk n bs bs.length).testBit b=hasB bs (n-1-b):=by
 rw [Bool.eq_iff_iff,zk2]
 unfold hasB
 rw [decide_eq_true_eq]
 constructor
 ·rintro ⟨i,hi,e⟩
  have:=hb i hi
  have e2:n-1-(b:Int)=bs.getD i 0:=by omega
  rw [e2,List.getD_eq_getElem?_getD,List.getElem?_eq_getElem hi]
  exact List.getElem_mem hi
 ·intro hm
  obtain ⟨i,hi,he⟩:=List.getElem_of_mem hm
  refine ⟨i,hi,?_⟩
  rw [List.getD_eq_getElem?_getD,List.getElem?_eq_getElem hi]
  simp only [Option.getD_some]
  omega
end Go.Proofs.YtjpnjchpdkogbaaGreatDoor
namespace Go.Proofs.YtjpnjchpdkogbaaGreatDoor
def zcf (n c:Nat)(m:Nat):List Int:=((List.range m).filter (fun p=>c.testBit (n-1-p))).map Int.ofNat
theorem zry {n c m:Nat}(h:c.testBit (n-1-m)=true):zcf n c (m+1)=zcf n c m++[(m:Int)]:=by
 simp [zcf,List.range_succ,h]
theorem zrz {n c m:Nat}(h:c.testBit (n-1-m)=false):zcf n c (m+1)=zcf n c m:=by
 simp [zcf,List.range_succ,h]
theorem zk3 {n c m:Nat}{x:Int} : x∈zcf n c m ↔ ∃ p:Nat,p<m/\c.testBit (n-1-p)=true/\x=p:=by
 unfold zcf
 rw [List.mem_map]
 constructor
 ·rintro ⟨p,hp,rfl⟩
  rw [List.mem_filter,List.mem_range] at hp
  exact ⟨p,hp.1,hp.2,rfl⟩
 ·rintro ⟨p,h1,h2,rfl⟩
  exact ⟨p,by rw [List.mem_filter,List.mem_range];exact ⟨h1,h2⟩,rfl⟩
theorem zhe (n c:Nat) : ∀ m,(zcf n c m).Pairwise (fun a b=>a<b)
 | 0=>List.Pairwise.nil
 | m+1=>by
  cases h:c.testBit (n-1-m)
  ·rw [zrz h];exact zhe n c m
  ·rw [zry h,List.pairwise_append]
   refine ⟨zhe n c m,by simp,fun a ha b hb=>?_⟩
   rw [List.mem_singleton] at hb
   obtain ⟨p,hp,_,rfl⟩:=zk3.1 ha
   omega
end Go.Proofs.YtjpnjchpdkogbaaGreatDoor
namespace Go.Proofs.YtjpnjchpdkogbaaGreatDoor
open Go.RowKit
def Cells2 (w:World)(g:Nat)(u v:Value):Prop :=
 w.cell? ⟨g,0,none⟩=some u/\w.cell? ⟨g,1,none⟩=some v/\w.frozen? ⟨g,0,none⟩=false/\w.frozen? ⟨g,1,none⟩=false/\g<w.heap.size
section
variable {w w':World} {g:Nat} {u v:Value}
theorem Cells2.below {B:Nat}(h:Cells2 w g u v)(hb:Below B w w')(hg:g<B):Cells2 w' g u v :=
 ⟨(hb.cell (p:=⟨g,0,none⟩) hg).trans h.1,(hb.cell (p:=⟨g,1,none⟩) hg).trans h.2.1,(hb.frozen (p:=⟨g,0,none⟩) hg).trans h.2.2.1,(hb.frozen (p:=⟨g,1,none⟩) hg).trans h.2.2.2.1,Nat.lt_of_lt_of_le h.2.2.2.2 hb.size⟩
theorem Cells2.new (w:World)(u v:Value)(t:TypeId):Cells2 (w.alloc (.cells #[u,v] t)) w.heap.size u v:=by
 have hh:(w.alloc (.cells #[u,v] t)).heap[w.heap.size]? = some (.cells #[u,v] t (0,0)):=heap_alloc_new w _
 exact ⟨by rw [cell_of_row _ _ _ _ _ _ hh];rfl,by rw [cell_of_row _ _ _ _ _ _ hh];rfl,frozen_of_row _ _ _ _ _ hh,frozen_of_row _ _ _ _ _ hh,by simp⟩
theorem Cells2.new_at (w:World)(u v:Value)(t:TypeId)(g:Nat)(hg:w.heap.size=g):Cells2 (w.alloc (.cells #[u,v] t)) g u v:=by subst hg;exact Cells2.new w u v t
theorem Cells2.alloc (h:Cells2 w g u v)(o:Obj):Cells2 (w.alloc o) g u v:=h.below ((Below.refl _ _).alloc (Nat.le_refl _) o) h.2.2.2.2
theorem Cells2.far (h:Cells2 w g u v){p:Addr}(hp:g≠p.block)(x:Value):Cells2 (w.setCell p x) g u v:=by
 have hh:(w.setCell p x).heap[g]? = w.heap[g]?:=Below.heap_setCell w p x g hp
 refine ⟨?_,?_,?_,?_,by simpa [World.setCell] using h.2.2.2.2⟩
 ·rw [World.cell?_of_block (w:=w) (w':=w.setCell p x) (a:=⟨g,0,none⟩) hh];exact h.1
 ·rw [World.cell?_of_block (w:=w) (w':=w.setCell p x) (a:=⟨g,1,none⟩) hh];exact h.2.1
 ·rw [World.frozen?_of_block (w:=w) (w':=w.setCell p x) (a:=⟨g,0,none⟩) hh];exact h.2.2.1
 ·rw [World.frozen?_of_block (w:=w) (w':=w.setCell p x) (a:=⟨g,1,none⟩) hh];exact h.2.2.2.1
theorem Cells2.set1 (h:Cells2 w g u v)(x:Value):Cells2 (w.setCell ⟨g,1,none⟩ x) g u x:=by
 refine ⟨?_,World.cell?_setCell_same w _ _ h.2.1,?_,?_,by simpa [World.setCell] using h.2.2.2.2⟩
 ·rw [World.cell?_setCell_other w _ _ _ (fun q=>by injection q;omega)];exact h.1
 ·rw [World.frozen?_setCell];exact h.2.2.1
 ·rw [World.frozen?_setCell];exact h.2.2.2.1
theorem OwnI.far {base:Nat}{x:Value}{xs:List Int}(h:OwnI w base x xs){p:Addr}(hp:p.block<base)(y:Value):OwnI (w.setCell p y) base x xs:=ownsRow_setCell_below h hp y
end
theorem Cells2.grown {w w':World}{g:Nat}{u v:Value}{r:Option Nat}(h:Cells2 w g u v)(hg:w.grownBy w' r)(hr:some g≠r):Cells2 w' g u v:=by
 have hh:w'.heap[g]? = w.heap[g]?:=hg.block g h.2.2.2.2 hr
 refine ⟨?_,?_,?_,?_,Nat.lt_of_lt_of_le h.2.2.2.2 hg.size⟩
 ·rw [World.cell?_of_block (w:=w) (w':=w') (a:=⟨g,0,none⟩) hh];exact h.1
 ·rw [World.cell?_of_block (w:=w) (w':=w') (a:=⟨g,1,none⟩) hh];exact h.2.1
 ·rw [World.frozen?_of_block (w:=w) (w':=w') (a:=⟨g,0,none⟩) hh];exact h.2.2.1
 ·rw [World.frozen?_of_block (w:=w) (w':=w') (a:=⟨g,1,none⟩) hh];exact h.2.2.2.1
theorem Cells2.set0 {w:World}{g:Nat}{u v:Value}(h:Cells2 w g u v)(x:Value):Cells2 (w.setCell ⟨g,0,none⟩ x) g x v:=by
 refine ⟨World.cell?_setCell_same w _ _ h.1,?_,?_,?_,by simpa [World.setCell] using h.2.2.2.2⟩
 ·rw [World.cell?_setCell_other w _ _ _ (fun q=>by injection q;omega)];exact h.2.1
 ·rw [World.frozen?_setCell];exact h.2.2.1
 ·rw [World.frozen?_setCell];exact h.2.2.2.1
theorem ze9 {w:World}{b off:Nat}{ys:List Int}(hc : ∀ i,i<ys.length->w.cell? ⟨b,off+i,none⟩=some (.int .i64 (ys.getD i 0))) :
  (∀ j u,(ys.map (Value.int .i64))[j]? = some u->w.cell? ((⟨b,off,none⟩:Addr).add j)=some u) /\ ∀ u∈ys.map (Value.int .i64),u.oneCell'=true:=by
 refine ⟨fun j u hu=>?_,fun u hu=>?_⟩
 ·rw [List.getElem?_map] at hu
  have hj:j<ys.length:=by
   apply Classical.byContradiction
   intro hh
   rw [List.getElem?_eq_none (by omega)] at hu
   cases hu
  rw [Addr.add_lit,hc j hj,List.getD_eq_getElem?_getD]
  rw [List.getElem?_eq_getElem hj] at hu ⊢
  exact hu
 ·obtain ⟨t,_,rfl⟩:=List.mem_map.1 hu
  rfl
theorem zr0 {w:World}{ops:Array Oper}{rest:List Oper}{o:Oper}{a:Act}{Q:Exit->Act->World->Prop}(hgd:o.guard=none)(s x:Operand)
  (ho:o.op = .call { callee:=.builtin .append,args:=#[s,x],argTypes:=#[25,25] })
  (base:Nat) (v:Value) (xs:List Int) (hs:a.eval s=v) (hown:OwnI w base v xs) (b off c:Nat) (ys:List Int) (hx:a.eval x = .slice (some ⟨b,off,none⟩) ys.length c)
  (hc : ∀ i,i<ys.length->w.cell? ⟨b,off+i,none⟩=some (.int .i64 (ys.getD i 0))) (hlen:xs.length+ys.length<=1000000000) (hbase:base<=w.heap.size)
  (h : ∀ v' w',OwnI w' base v' (xs++ys)->Below base w w'->w.grownBy w' v.ownBlock->wpList Tryz.prog ops Q rest (a.put o.dst v') w'):wpList Tryz.prog ops Q (o::rest) a w:=by
 obtain ⟨i,hi,hz,hsz,hby⟩:=info_parts Tryz.infoInt
 refine wpList_append_own _ hgd s x _ ho base 3 i _ 1 8 Tryz.underlying25 hi hz hsz hby rfl (by omega) v xs.length _ hs hown ⟨b,off,none⟩ ys.length c (ys.map (Value.int .i64)) hx (by simp) (ze9 hc).1 (ze9 hc).2 (by unfold maxLen;omega) (by omega) hbase ?_
 intro v' w' hown' hgrow _
 refine h v' w' ?_ ?_ hgrow
 ·unfold OwnI
  rw [List.length_append,List.map_append]
  exact hown'
 ·exact (Below.refl base w).grown hgrow hbase (fun k hk=>(hown.lt k hk).1)
theorem zr1 {w:World}{ops:Array Oper}{o:Oper}{a:Act}{K:Act->World->Prop}{Q:Exit->Act->World->Prop}{E:Prop}(hgd:o.guard=none)(s x:Operand)
  (ho:o.op = .call { callee:=.builtin .append,args:=#[s,x],argTypes:=#[25,25] })
  (base:Nat) (v:Value) (xs:List Int) (hs:a.eval s=v) (hown:OwnI w base v xs) (b off c:Nat) (ys:List Int) (hx:a.eval x = .slice (some ⟨b,off,none⟩) ys.length c)
  (hc : ∀ i,i<ys.length->w.cell? ⟨b,off+i,none⟩=some (.int .i64 (ys.getD i 0))) (hlen:xs.length+ys.length<=1000000000) (hbase:base<=w.heap.size)
  (h : ∀ v' w',OwnI w' base v' (xs++ys)->Below base w w'->w.grownBy w' v.ownBlock->K (a.put o.dst v') w'):if Region.wanted o (yielded ops a.tmps)=true then Oper.wp Tryz.prog o a w K Q else E:=by
 have hw:Region.wanted o (yielded ops a.tmps)=true:=by simp [Region.wanted,hgd]
 rw [if_pos hw]
 obtain ⟨i,hi,hz,hsz,hby⟩:=info_parts Tryz.infoInt
 refine wp_append_own w s x _ ho base 3 i _ 1 8 Tryz.underlying25 hi hz hsz hby rfl (by omega) v xs.length _ hs hown ⟨b,off,none⟩ ys.length c (ys.map (Value.int .i64)) hx (by simp) (ze9 hc).1 (ze9 hc).2 (by unfold maxLen;omega) (by omega) hbase ?_
 intro v' w' hown' hgrow _
 refine h v' w' ?_ ?_ hgrow
 ·unfold OwnI
  rw [List.length_append,List.map_append]
  exact hown'
 ·exact (Below.refl base w).grown hgrow hbase (fun k hk=>(hown.lt k hk).1)
end Go.Proofs.YtjpnjchpdkogbaaGreatDoor
namespace Go.Proofs.YtjpnjchpdkogbaaGreatDoor
open Go.RowKit
def RW (w:World)(base:Nat)(A:Option Addr)(xs:List Int):Prop :=
 xs.length<=1048576/\(0<xs.length -> ∃ b,A=some ⟨b,0,none⟩/\base<=b/\Tab w b xs.length (fun t=>xs.getD t 0))
theorem RW.below {w w':World}{base:Nat}{A:Option Addr}{xs:List Int}(h:RW w base A xs)(hb:Below w.heap.size w w'):RW w' base A xs:=by
 refine ⟨h.1,fun hn=>?_⟩
 obtain ⟨b,e,hge,ht⟩:=h.2 hn
 exact ⟨b,e,hge,ht.below hb ht.1⟩
theorem RW.ints {w:World}{base:Nat}{A:Option Addr}{xs:List Int}(h:RW w base A xs)(hf : ∀ x∈xs,Fits x):Ints w w.heap.size A xs:=by
 refine ⟨by have:=h.1;unfold maxLen;omega,hf,fun hn=>?_⟩
 obtain ⟨b,e,_,ht⟩:=h.2 hn
 exact ⟨b,0,e,ht.1,fun i hi=>by rw [Nat.zero_add];exact (ht.2 i hi).1⟩
theorem OwnI.rw_ {w:World}{base:Nat}{A:Option Addr}{cap:Nat}{xs:List Int}(h:OwnI w base (.slice A xs.length cap) xs)(hl:xs.length<=1048576):RW w base A xs:=by
 refine ⟨hl,fun hn=>?_⟩
 rcases h.2 with ⟨hv,h0⟩ | ⟨g,cap',cur,hv,hge,hh,hnc,hm,hsz,hxs⟩
 ·omega
 ·have hA:A=some ⟨g,0,none⟩:=by injection hv
  subst hA
  refine ⟨g,rfl,hge,(h.lt g rfl).2,fun t ht=>⟨?_,?_⟩⟩
  ·have:=World.ownsRow.cells h (g:=g) rfl t (.int .i64 (xs.getD t 0)) (by rw [List.getElem?_map,List.getElem?_eq_getElem ht];simp [List.getD_eq_getElem?_getD,ht])
   rwa [Go.WideShapes.add_plain,Nat.zero_add] at this
  ·exact frozen_of_row _ _ _ _ _ hh
theorem RW.mono {w:World}{base base':Nat}{A:Option Addr}{xs:List Int}(h:RW w base A xs)(hb:base'<=base):RW w base' A xs :=
 ⟨h.1,fun hn=>by obtain ⟨b,e,hge,ht⟩:=h.2 hn;exact ⟨b,e,by omega,ht⟩⟩
def zbr (w:World)(n:Int)(xs:List Int)(e:Ending)(w':World):Prop:=∃ A cap,e = .returned (.agg #[.int .i64 n,.slice A xs.length cap])/\RW w' w.heap.size A xs/\Below w.heap.size w w'
def RetRh2 (w:World)(n:Int)(xs:List Int)(ok:Bool)(e:Ending)(w':World):Prop:=∃ A cap,e = .returned (.tuple #[.agg #[.int .i64 n,.slice A xs.length cap],.bool ok])/\RW w' w.heap.size A xs/\Below w.heap.size w w'
theorem RW.far {w:World}{base:Nat}{A:Option Addr}{xs:List Int}(h:RW w base A xs){p:Addr}(hp:p.block<base)(u:Value):RW (w.setCell p u) base A xs :=
 ⟨h.1,fun hn=>by obtain ⟨b,e,hge,ht⟩:=h.2 hn;exact ⟨b,e,hge,ht.far (by omega) u⟩⟩
end Go.Proofs.YtjpnjchpdkogbaaGreatDoor
namespace Go.Proofs.YtjpnjchpdkogbaaGreatDoor
open Go.RowKit
theorem zr2 (k n:Int):(k.tmod n+n) % n=k % n:=by
 rw [Int.add_emod_right]
 have e:=Int.mul_tdiv_add_tmod k n
 have:k.tmod n=k-n*k.tdiv n:=by omega
 rw [this,Int.sub_mul_emod_self_left]
theorem zhf (k n:Int)(w:World)(hn:1<=n)(hn2:n<=1000000000) :
  Calls Tryz.prog 154 #[.int .i64 k,.int .i64 n] w fun e w'=>e = .returned (.int .i64 (k % n))/\w=w':=by
 have h0:(n=0)=False:=by simp;omega
 have h1:=Int.lt_tmod_of_pos k (show 0<n by omega)
 have h2:=Int.tmod_lt_of_pos k (show 0<n by omega)
 have HR:=Zh (zr2 k n)
 have h5:IntKind.i64.wrap (k.tmod n)=k.tmod n:=i64w (by omega)
 have h3:IntKind.i64.wrap (k.tmod n+n)=k.tmod n+n:=i64w (by omega)
 have h4:(k.tmod n+n).tmod n=(k.tmod n+n) % n:=Int.tmod_eq_emod_of_nonneg (by omega)
 have h6:IntKind.i64.wrap ((k.tmod n+n) % n)=(k.tmod n+n) % n:=i64w (by rw [HR.o];have:=Int.emod_nonneg k (show n≠0 by omega);have:=Int.emod_lt_of_pos k (show 0<n by omega);omega)
 go_enter Tryz.func154,Tryz.ntmps154
 go_wp2
 go_ret
 exact ⟨zbv (by have:=HR.o;rw [Int.add_emod_right] at this;exact this),rfl⟩
end Go.Proofs.YtjpnjchpdkogbaaGreatDoor
namespace Go.Proofs.YtjpnjchpdkogbaaGreatDoor
def rotL (N:Nat)(bs:List Int)(k:Int):List Int:=((List.range N).filter (fun t:Nat=>hasB bs (((t:Int)-k) % N))).map Int.ofNat
theorem zdc {N:Nat}{bs:List Int}{k x:Int} : x∈rotL N bs k ↔ ∃ t:Nat,t<N/\hasB bs (((t:Int)-k) % N)=true/\x=t:=by
 unfold rotL
 rw [List.mem_map]
 constructor
 ·rintro ⟨p,hp,rfl⟩
  rw [List.mem_filter,List.mem_range] at hp
  exact ⟨p,hp.1,hp.2,rfl⟩
 ·rintro ⟨p,h1,h2,rfl⟩
  exact ⟨p,by rw [List.mem_filter,List.mem_range];exact ⟨h1,h2⟩,rfl⟩
theorem zhg (N:Nat)(bs:List Int)(k:Int):(rotL N bs k).Pairwise (fun a b=>a<b):=by
 unfold rotL
 rw [List.pairwise_map]
 exact List.Pairwise.imp (fun {a b} h=>by show (a:Int)<b;omega) (List.Pairwise.filter _ List.pairwise_lt_range)
theorem zfa (N:Nat)(bs:List Int)(k:Int):(rotL N bs k).length<=N:=by
 unfold rotL
 rw [List.length_map]
 exact Nat.le_trans (List.length_filter_le _ _) (by simp)
theorem zcq : ∀ {l m:List Int},l.Pairwise (fun a b=>a<b)->m.Pairwise (fun a b=>a<b)->(∀ x,x∈l ↔ x∈m)->l=m
 | [],[],_,_,_=>rfl
 | [],y::m,_,_,h=>by have:=(h y).2 (by simp);cases this
 | x::l,[],_,_,h=>by have:=(h x).1 (by simp);cases this
 | x::l,y::m,hl,hm,h=>by
  have hl':=List.pairwise_cons.1 hl
  have hm':=List.pairwise_cons.1 hm
  have hxy:x=y:=by
   apply Classical.byContradiction
   intro hne
   have h1:x∈m:=by
    rcases List.mem_cons.1 ((h x).1 (by simp)) with e | e
    ·exact absurd e hne
    ·exact e
   have h2:y∈l:=by
    rcases List.mem_cons.1 ((h y).2 (by simp)) with e | e
    ·exact absurd e.symm hne
    ·exact e
   have a:=hl'.1 y h2
   have b:=hm'.1 x h1
   omega
  subst hxy
  rw [zcq hl'.2 hm'.2 (fun z=>⟨fun hz=>by
   rcases List.mem_cons.1 ((h z).1 (by simp [hz])) with e | e
   ·have:=hl'.1 z hz;omega
   ·exact e,fun hz=>by
   rcases List.mem_cons.1 ((h z).2 (by simp [hz])) with e | e
   ·have:=hm'.1 z hz;omega
   ·exact e⟩)]
theorem zc2 {n:Int}{bs:List Int}(h:RhOk n bs):bs.Pairwise (fun a b=>a<b):=by
 have hmono : ∀ d a,a+d<bs.length->0<d->bs.getD a 0<bs.getD (a+d) 0:=by
  intro d
  induction d with
  | zero=>intro a _ h;omega
  | succ d ih =>
   intro a ha _
   by_cases hd:d=0
   ·subst hd;exact h.2.2.2 a (by omega)
   ·have h3:=ih a (by omega) (by omega)
    have h4:=h.2.2.2 (a+d) (by omega)
    rw [show a+d+1=a+(d+1) by omega] at h4
    omega
 rw [List.pairwise_iff_getElem]
 intro i j hi hj hij
 have:=hmono (j-i) i (by omega) (by omega)
 rw [show i+(j-i)=j by omega,List.getD_eq_getElem?_getD,List.getElem?_eq_getElem hi,List.getD_eq_getElem?_getD,List.getElem?_eq_getElem hj] at this
 exact this
theorem zba {n:Int}{bs:List Int}(h:RhOk n bs) : ∀ x∈bs,0<=x/\x<n:=by
 intro x hx
 obtain ⟨i,hi,rfl⟩:=List.getElem_of_mem hx
 have:=h.2.2.1 i hi
 rw [List.getD_eq_getElem?_getD,List.getElem?_eq_getElem hi] at this
 exact this
theorem zdt {N:Nat}{bs:List Int}(h:RhOk N bs)(k:Int):rotL N bs k=bs ↔ ∀ t:Nat,t<N->hasB bs (((t:Int)-k) % N)=hasB bs (t:Int):=by
 constructor
 ·intro e t ht
  have h1:((t:Int)∈rotL N bs k) ↔ ((t:Int)∈bs):=by rw [e]
  rw [zdc] at h1
  unfold hasB at *
  rw [Bool.eq_iff_iff,decide_eq_true_eq,decide_eq_true_eq,<- h1]
  constructor
  ·intro hh
   exact ⟨t,ht,by rw [decide_eq_true_eq];exact hh,rfl⟩
  ·rintro ⟨t',ht',hh,e'⟩
   have:t=t':=by omega
   subst this
   rwa [decide_eq_true_eq] at hh
 ·intro hh
  refine zcq (zhg N bs k) (zc2 h) (fun x=>?_)
  rw [zdc]
  constructor
  ·rintro ⟨t,ht,hb,rfl⟩
   rw [hh t ht] at hb
   unfold hasB at hb
   rwa [decide_eq_true_eq] at hb
  ·intro hx
   obtain ⟨h1,h2⟩:=zba h x hx
   obtain ⟨t,rfl⟩:=Int.eq_ofNat_of_zero_le h1
   refine ⟨t,by omega,?_,rfl⟩
   rw [hh t (by omega)]
   unfold hasB
   rwa [decide_eq_true_eq]
def perB (N:Nat)(bs:List Int)(k:Nat):Bool:=eqB (rotL N bs k) bs
theorem zdd {N:Nat}{bs:List Int}{k:Nat} : perB N bs k=true ↔ rotL N bs k=bs:=by unfold perB eqB;rw [decide_eq_true_eq]
theorem zk4 {N:Nat}{bs:List Int}(h:RhOk N bs):perB N bs N=true:=by
 rw [zdd,zdt h]
 intro t ht
 congr 1
 rw [Int.sub_emod_right]
 exact Int.emod_eq_of_lt (by omega) (by omega)
def perF (N:Nat) (bs:List Int):Nat->Nat->Nat
 | 0,k=>k
 | f+1,k=>if perB N bs k=true then k else perF N bs f (k+1)
def perV (N:Nat)(bs:List Int):Nat:=perF N bs (N-1) 1
theorem zk5 (N:Nat)(bs:List Int) : ∀ f k,k<=perF N bs f k/\perF N bs f k<=k+f/\(∀ j,k<=j->j<perF N bs f k->perB N bs j=false)/\(perF N bs f k<k+f->perB N bs (perF N bs f k)=true)
 | 0,k=>⟨Nat.le_refl _,Nat.le_refl _,fun j h1 h2=>by unfold perF at h2;omega,fun h=>by unfold perF at h;omega⟩
 | f+1,k=>by
  unfold perF
  cases hb:perB N bs k
  ·rw [if_neg (by simp)]
   obtain ⟨h1,h2,h3,h4⟩:=zk5 N bs f (k+1)
   refine ⟨by omega,by omega,fun j hj1 hj2=>?_,fun h=>h4 (by omega)⟩
   by_cases e:j=k
   ·subst e;exact hb
   ·exact h3 j (by omega) hj2
  ·rw [if_pos rfl]
   exact ⟨Nat.le_refl _,by omega,fun j h1 h2=>by omega,fun _=>hb⟩
theorem zcr {N:Nat}{bs:List Int}(h:RhOk N bs):1<=perV N bs/\perV N bs<=N/\perB N bs (perV N bs)=true /\ ∀ j,1<=j->j<perV N bs->perB N bs j=false:=by
 have hN:1<=N:=by have:=h.1;omega
 obtain ⟨h1,h2,h3,h4⟩:=zk5 N bs (N-1) 1
 unfold perV
 refine ⟨h1,by omega,?_,h3⟩
 by_cases e:perF N bs (N-1) 1<1+(N-1)
 ·exact h4 e
 ·have:perF N bs (N-1) 1=N:=by omega
  rw [this]
  exact zk4 h
theorem zk6 {N:Nat}{bs:List Int}(h:RhOk N bs){k:Nat}(hk:1<=k)(hb:perB N bs k=true)(hno : ∀ j,1<=j->j<k->perB N bs j=false):perV N bs=k:=by
 obtain ⟨h1,h2,h3,h4⟩:=zcr h
 rcases Nat.lt_trichotomy (perV N bs) k with hlt | he | hgt
 ·have:=hno _ h1 hlt
  rw [h3] at this;cases this
 ·exact he
 ·have:=h4 k hk hgt
  rw [hb] at this;cases this
end Go.Proofs.YtjpnjchpdkogbaaGreatDoor
namespace Go.Proofs.YtjpnjchpdkogbaaGreatDoor
open Go.RowKit
def ofL (xs:List Int)(q:Nat):List Int:=((List.range q).filter (fun t:Nat=>hasB xs t)).map Int.ofNat
theorem zde {xs:List Int}{q:Nat}{x:Int} : x∈ofL xs q ↔ ∃ t:Nat,t<q/\hasB xs t=true/\x=t:=by
 unfold ofL
 rw [List.mem_map]
 constructor
 ·rintro ⟨p,hp,rfl⟩
  rw [List.mem_filter,List.mem_range] at hp
  exact ⟨p,hp.1,hp.2,rfl⟩
 ·rintro ⟨p,h1,h2,rfl⟩
  exact ⟨p,by rw [List.mem_filter,List.mem_range];exact ⟨h1,h2⟩,rfl⟩
theorem zdu (xs:List Int)(q:Nat):(ofL xs q).Pairwise (fun a b=>a<b):=by
 unfold ofL
 rw [List.pairwise_map]
 exact List.Pairwise.imp (fun {a b} h=>by show (a:Int)<b;omega) (List.Pairwise.filter _ List.pairwise_lt_range)
def mapL (a b n:Int)(xs:List Int)(j:Nat):List Int:=(xs.take j).map (fun x=>(a*x+b) % n)
theorem zfb {a b n x:Int}{xs:List Int} : x∈mapL a b n xs xs.length ↔ ∃ y∈xs,(a*y+b) % n=x:=by
 unfold mapL
 rw [List.take_length,List.mem_map]
theorem zr3 {N:Nat}{bs:List Int}(hok:RhOk N bs)(k:Int):ofL (mapL 1 k N bs bs.length) N=rotL N bs k:=by
 refine zcq (zdu _ _) (zhg _ _ _) fun x=>?_
 rw [zde,zdc]
 have hN:(0:Int)<N:=by have:=hok.1;omega
 have hkey : ∀ t:Nat,t<N->(hasB (mapL 1 k N bs bs.length) t=true ↔ hasB bs (((t:Int)-k) % N)=true):=by
  intro t ht
  unfold hasB
  rw [decide_eq_true_eq,decide_eq_true_eq,zfb]
  constructor
  ·rintro ⟨b,hb,h⟩
   have hr:=zba hok b hb
   rw [<- h,Int.emod_sub_emod,show 1*b+k-k=b by omega,Int.emod_eq_of_lt hr.1 hr.2]
   exact hb
  ·intro hb
   refine ⟨_,hb,?_⟩
   rw [Int.one_mul,Int.emod_add_emod,show (t:Int)-k+k=t by omega,Int.emod_eq_of_lt (by omega) (by omega)]
 constructor
 ·rintro ⟨t,ht,h,rfl⟩;exact ⟨t,ht,(hkey t ht).1 h,rfl⟩
 ·rintro ⟨t,ht,h,rfl⟩;exact ⟨t,ht,(hkey t ht).2 h,rfl⟩
end Go.Proofs.YtjpnjchpdkogbaaGreatDoor
namespace Go.Proofs.YtjpnjchpdkogbaaGreatDoor
open Go.RowKit Go.Sort
section
variable {α:Type}
def RowE (enc:α->Value)(e:TypeId)(w:World)(base g cap:Nat)(xs:List α):Prop :=
 base<=g/\xs.length<=cap/\cap<=maxLen /\ ∃ cur:Array Value,w.heap[g]? = some (.cells cur e (0,0))/\cur.size=cap/\cur.toList.take xs.length=xs.map enc
variable {enc:α->Value} {e:TypeId} {w w':World} {base g cap:Nat} {xs ys:List α}
theorem RowE.lt (h:RowE enc e w base g cap xs):g<w.heap.size:=by
 obtain ⟨_,_,_,cur,hh,_⟩:=h
 exact (Array.getElem?_eq_some_iff.1 hh).1
theorem RowE.get (h:RowE enc e w base g cap xs){j:Nat}(hj:j<xs.length):w.cell? ⟨g,j,none⟩=some (enc xs[j]):=by
 obtain ⟨_,hl,_,cur,hh,hs,ht⟩:=h
 rw [cell_of_row _ _ _ _ _ _ hh,<- Array.getElem?_toList]
 have:(cur.toList.take xs.length)[j]? = (xs.map enc)[j]?:=by rw [ht]
 rw [List.getElem?_take_of_lt hj] at this
 rw [this,List.getElem?_map,List.getElem?_eq_getElem hj]
 rfl
theorem RowE.holds [Inhabited α](h:RowE enc e w base g cap xs):Holds enc w g 0 xs.toArray:=by
 intro j hj
 have hj':j<xs.length:=by simpa using hj
 refine ⟨?_,?_⟩
 ·rw [Nat.zero_add,h.get hj',getElem!_pos _ j (by simpa using hj')]
  simp
 ·obtain ⟨_,_,_,cur,hh,_⟩:=h
  exact frozen_of_row _ _ _ _ _ hh
theorem RowE.put [Inhabited α](h:RowE enc e w base g cap xs)(hl:ys.length=xs.length){n:Nat}{os:Array Obj}(hw:w'=grow (putRow enc (Sort.ahead w n) g 0 ys.toArray) os):RowE enc e w' base g cap ys/\Below base w w':=by
 have hlt:=h.lt
 obtain ⟨hb,hle,hm,cur,hh,hs,ht⟩:=h
 have hhe:w'.heap=w.heap.modify g (onCells (putCells enc 0 ys.toArray))++os:=by subst hw;rfl
 refine ⟨⟨hb,by omega,hm,putCells enc 0 ys.toArray cur,?_,by simp [putCells,hs],?_⟩,?_⟩
 ·rw [hhe,Array.getElem?_append_left (by simpa using hlt),Array.getElem?_modify,if_pos rfl,hh]
  rfl
 ·refine List.ext_getElem? fun j=>?_
  by_cases hj:j<ys.length
  ·have hjc:j<cur.size:=by omega
   rw [List.getElem?_take_of_lt hj,Array.getElem?_toList,List.getElem?_map,List.getElem?_eq_getElem hj]
   unfold putCells
   rw [Array.getElem?_mapIdx,Array.getElem?_eq_getElem hjc]
   simp only [Option.map_some,Nat.zero_le,true_and,Nat.zero_add,Nat.sub_zero,List.size_toArray,if_pos hj]
   rw [getElem!_pos _ j (by simpa using hj)]
   simp
  ·rw [List.getElem?_eq_none (by rw [List.length_take];omega),List.getElem?_eq_none (by rw [List.length_map];omega)]
 ·refine ⟨by subst hw;rfl,by subst hw;rfl,by subst hw;rfl,by rw [hhe];simp,fun k hk=>?_⟩
  rw [hhe]
  by_cases hkw:k<w.heap.size
  ·rw [Array.getElem?_append_left (by simpa using hkw),Array.getElem?_modify,if_neg (by omega)]
  ·omega
theorem RowE.cut (h:RowE enc e w base g cap (xs++ys)):RowE enc e w base g cap xs:=by
 obtain ⟨hb,hle,hm,cur,hh,hs,ht⟩:=h
 rw [List.length_append] at hle
 refine ⟨hb,by omega,hm,cur,hh,hs,?_⟩
 have:=congrArg (List.take xs.length) ht
 rw [List.take_take,List.length_append,Nat.min_eq_left (by omega),List.map_append,List.take_left' (by simp)] at this
 exact this
end
end Go.Proofs.YtjpnjchpdkogbaaGreatDoor
namespace Go.Proofs.YtjpnjchpdkogbaaGreatDoor
section
variable {α:Type} [Inhabited α] [DecidableEq α]
theorem zk7 (lt:α->α->Bool)(htr : ∀ a b c,lt a b=true->lt b c=true->lt a c=true)(d:Array α)(hs : ∀ i j,i<j->j<d.size->d[i]! = d[j]! \/ lt d[i]! d[j]! = true) :
  ∀ m,m<=d.size->(Lib.compactUpTo d m).Pairwise (fun a b=>lt a b=true)/\(∀ x,x∈Lib.compactUpTo d m ↔ ∃ j,j<m/\d[j]! = x) /\ ∀ x∈Lib.compactUpTo d m,0<m->x=d[m-1]! \/ lt x d[m-1]! = true
 | 0,_=>by
  refine ⟨by simp [Lib.compactUpTo],fun x=>by simp [Lib.compactUpTo],fun x hx=>by simp [Lib.compactUpTo] at hx⟩
 | m+1,h=>by
  obtain ⟨h1,h2,h3⟩:=zk7 lt htr d hs m (by omega)
  rw [Lib.compactUpTo_succ]
  by_cases hm:m=0
  ·subst hm
   rw [Lib.keeps_lt_one d 0 (by omega),if_pos rfl,show Lib.compactUpTo d 0=[] by simp [Lib.compactUpTo]]
   refine ⟨by simp,fun x=>?_,fun x hx _=>?_⟩
   ·simp only [List.nil_append,List.mem_singleton]
    constructor
    ·rintro rfl;exact ⟨0,by omega,rfl⟩
    ·rintro ⟨j,hj,rfl⟩
     have:j=0:=by omega
     subst this;rfl
   ·simp only [List.nil_append,List.mem_singleton] at hx
    subst hx
    exact .inl rfl
  ·by_cases heq:d[m]! = d[m-1]!
   ·rw [Lib.keeps_neg (by omega) heq,if_neg (by simp),List.append_nil]
    refine ⟨h1,fun x=>?_,fun x hx _=>?_⟩
    ·rw [h2]
     constructor
     ·rintro ⟨j,hj,rfl⟩;exact ⟨j,by omega,rfl⟩
     ·rintro ⟨j,hj,rfl⟩
      by_cases e:j=m
      ·subst e;exact ⟨j-1,by omega,heq.symm⟩
      ·exact ⟨j,by omega,rfl⟩
    ·rw [Nat.add_sub_cancel,heq]
     exact h3 x hx (by omega)
   ·rw [Lib.keeps_pos heq,if_pos rfl]
    have hlt : ∀ x∈Lib.compactUpTo d m,lt x d[m]! = true:=by
     intro x hx
     have hstep:lt d[m-1]! d[m]! = true:=by
      rcases hs (m-1) m (by omega) (by omega) with e | e
      ·exact absurd e.symm heq
      ·exact e
     rcases h3 x hx (by omega) with e | e
     ·rw [e];exact hstep
     ·exact htr _ _ _ e hstep
    refine ⟨?_,fun x=>?_,fun x hx _=>?_⟩
    ·rw [List.pairwise_append]
     refine ⟨h1,by simp,fun a ha b hb=>?_⟩
     rw [List.mem_singleton] at hb
     subst hb
     exact hlt a ha
    ·rw [List.mem_append,h2,List.mem_singleton]
     constructor
     ·rintro (⟨j,hj,rfl⟩ | rfl)
      ·exact ⟨j,by omega,rfl⟩
      ·exact ⟨m,by omega,rfl⟩
     ·rintro ⟨j,hj,rfl⟩
      by_cases e:j=m
      ·subst e;exact .inr rfl
      ·exact .inl ⟨j,by omega,rfl⟩
    ·rw [Nat.add_sub_cancel]
     rcases List.mem_append.1 hx with hx | hx
     ·exact .inr (hlt x hx)
     ·rw [List.mem_singleton] at hx;exact .inl hx
theorem zk8 (lt:α->α->Bool)(htr : ∀ a b c,lt a b=true->lt b c=true->lt a c=true)(zs:List α)(hs:zs.Pairwise (fun a b=>a=b\/lt a b=true)) :
  (Lib.compact zs).Pairwise (fun a b=>lt a b=true) /\ ∀ x,x∈Lib.compact zs ↔ x∈zs:=by
 have hget : ∀ i,i<zs.length->zs.toArray[i]! = zs[i]!:=by
  intro i hi
  rw [getElem!_pos _ i (by simpa using hi),getElem!_pos _ i hi]
  simp
 obtain ⟨h1,h2,_⟩:=zk7 lt htr zs.toArray (fun i j hij hj=>by
  have hj':j<zs.length:=by simpa using hj
  rw [hget i (by omega),hget j hj',getElem!_pos _ i (by omega),getElem!_pos _ j hj']
  exact List.pairwise_iff_getElem.1 hs i j (by omega) hj' hij) zs.length (by simp)
 refine ⟨h1,fun x=>(h2 x).trans ?_⟩
 constructor
 ·rintro ⟨j,hj,rfl⟩
  rw [hget j hj,getElem!_pos _ j hj]
  exact List.getElem_mem hj
 ·intro hx
  obtain ⟨j,hj,rfl⟩:=List.getElem_of_mem hx
  exact ⟨j,hj,by rw [hget j hj,getElem!_pos _ j hj]⟩
end
end Go.Proofs.YtjpnjchpdkogbaaGreatDoor
namespace Go.Proofs.YtjpnjchpdkogbaaGreatDoor
open Go.Shelf
def Tryz.lays189_ren:Go.Shelf.Ren:=⟨fun | 189=>221 | 125=>238 | 257=>260 | 128=>284 | 129=>285 | 294=>294 | 295=>295 | 296=>296 | 297=>297 | 298=>298 | 299=>299 | 216=>300 | 300=>301 | 301=>302 | 328=>316 | 329=>309 | 330=>310 | 331=>317 | 332=>318 | 215=>319 | 343=>322 | n=>n,fun | 28=>25 | 3=>3 | 46=>122 | 0=>0 | 51=>177 | 53=>180 | 4=>4 | 183=>218 | 182=>217 | 131=>92 | 5=>5 | 9=>9 | 218=>239 | 222=>243 | 228=>251 | 229=>159 | n=>n,fun | n=>n⟩
theorem Tryz.lays189:Go.Proofs.Lays.n189 Tryz.prog Tryz.lays189_ren:={
 mixed:=by kernel_rfl
 f125:=Tryz.func238.trans (congrArg some (by kernel_rfl))
 f128:=Tryz.func284.trans (congrArg some (by kernel_rfl))
 f129:=Tryz.func285.trans (congrArg some (by kernel_rfl))
 f189:=Tryz.func221.trans (congrArg some (by kernel_rfl))
 f215:=Tryz.func319.trans (congrArg some (by kernel_rfl))
 f216:=Tryz.func300.trans (congrArg some (by kernel_rfl))
 f257:=Tryz.func260.trans (congrArg some (by kernel_rfl))
 f294:=Tryz.func294.trans (congrArg some (by kernel_rfl))
 f295:=Tryz.func295.trans (congrArg some (by kernel_rfl))
 f296:=Tryz.func296.trans (congrArg some (by kernel_rfl))
 f297:=Tryz.func297.trans (congrArg some (by kernel_rfl))
 f298:=Tryz.func298.trans (congrArg some (by kernel_rfl))
 f299:=Tryz.func299.trans (congrArg some (by kernel_rfl))
 f300:=Tryz.func301.trans (congrArg some (by kernel_rfl))
 f301:=Tryz.func302.trans (congrArg some (by kernel_rfl))
 f328:=Tryz.func316.trans (congrArg some (by kernel_rfl))
 f329:=Tryz.func309.trans (congrArg some (by kernel_rfl))
 f330:=Tryz.func310.trans (congrArg some (by kernel_rfl))
 f331:=Tryz.func317.trans (congrArg some (by kernel_rfl))
 f332:=Tryz.func318.trans (congrArg some (by kernel_rfl))
 f343:=Tryz.func322.trans (congrArg some (by kernel_rfl))
 t0:=Tryz.underlying0
 a0:=Tryz.isAgg0
 z0:=Tryz.sizeOf0
 v0:=Tryz.zeroValue0
 t3:=Tryz.underlying3
 a3:=Tryz.isAgg3
 z3:=Tryz.sizeOf3
 v3:=Tryz.zeroValue3
 t4:=Tryz.underlying4
 a4:=Tryz.isAgg4
 z4:=Tryz.sizeOf4
 v4:=Tryz.zeroValue4
 t5:=Tryz.underlying5
 a5:=Tryz.isAgg5
 z5:=Tryz.sizeOf5
 v5:=Tryz.zeroValue5
 t9:=Tryz.underlying9
 a9:=Tryz.isAgg9
 z9:=Tryz.sizeOf9
 v9:=Tryz.zeroValue9
 t28:=Tryz.underlying25
 a28:=Tryz.isAgg25
 z28:=Tryz.sizeOf25
 v28:=Tryz.zeroValue25
 t46:=Tryz.underlying122
 a46:=Tryz.isAgg122
 z46:=Tryz.sizeOf122
 v46:=Tryz.zeroValue122
 t51:=Tryz.underlying177
 a51:=Tryz.isAgg177
 z51:=Tryz.sizeOf177
 v51:=Tryz.zeroValue177
 t53:=Tryz.underlying180
 a53:=Tryz.isAgg180
 z53:=Tryz.sizeOf180
 v53:=Tryz.zeroValue180
 t131:=Tryz.underlying92
 a131:=Tryz.isAgg92
 z131:=Tryz.sizeOf92
 v131:=Tryz.zeroValue92
 t182:=Tryz.underlying217
 a182:=Tryz.isAgg217
 z182:=Tryz.sizeOf217
 v182:=Tryz.zeroValue217
 t183:=Tryz.underlying218
 a183:=Tryz.isAgg218
 z183:=Tryz.sizeOf218
 v183:=Tryz.zeroValue218
 t218:=Tryz.underlying239
 a218:=Tryz.isAgg239
 z218:=Tryz.sizeOf239
 v218:=Tryz.zeroValue239
 t222:=Tryz.underlying243
 a222:=Tryz.isAgg243
 z222:=Tryz.sizeOf243
 v222:=Tryz.zeroValue243
 t228:=Tryz.underlying251
 a228:=Tryz.isAgg251
 z228:=Tryz.sizeOf251
 v228:=Tryz.zeroValue251
 t229:=Tryz.underlying159
 a229:=Tryz.isAgg159
 z229:=Tryz.sizeOf159
 v229:=Tryz.zeroValue159 }
def Tryz.lays20_ren:Go.Shelf.Ren:=⟨fun | 20=>222 | n=>n,fun | 22=>25 | 3=>3 | 4=>4 | 0=>0 | n=>n,fun | n=>n⟩
theorem Tryz.lays20:Go.Proofs.Lays2.n20 Tryz.prog Tryz.lays20_ren:={
 mixed:=by kernel_rfl
 f20:=Tryz.func222.trans (congrArg some (by kernel_rfl))
 t0:=Tryz.underlying0
 a0:=Tryz.isAgg0
 z0:=Tryz.sizeOf0
 v0:=Tryz.zeroValue0
 t3:=Tryz.underlying3
 a3:=Tryz.isAgg3
 z3:=Tryz.sizeOf3
 v3:=Tryz.zeroValue3
 t4:=Tryz.underlying4
 a4:=Tryz.isAgg4
 z4:=Tryz.sizeOf4
 v4:=Tryz.zeroValue4
 t22:=Tryz.underlying25
 a22:=Tryz.isAgg25
 z22:=Tryz.sizeOf25
 v22:=Tryz.zeroValue25
 i3:=by kernel_rfl }
def Tryz.lays15_ren:Go.Shelf.Ren:=⟨fun | 15=>12 | n=>n,fun | 22=>25 | 3=>3 | 4=>4 | n=>n,fun | n=>n⟩
theorem Tryz.lays15:Go.Proofs.Lays2.n15 Tryz.prog Tryz.lays15_ren:={
 mixed:=by kernel_rfl
 f15:=Tryz.func12.trans (congrArg some (by kernel_rfl))
 t3:=Tryz.underlying3
 a3:=Tryz.isAgg3
 z3:=Tryz.sizeOf3
 v3:=Tryz.zeroValue3
 t4:=Tryz.underlying4
 a4:=Tryz.isAgg4
 z4:=Tryz.sizeOf4
 v4:=Tryz.zeroValue4
 t22:=Tryz.underlying25
 a22:=Tryz.isAgg25
 z22:=Tryz.sizeOf25
 v22:=Tryz.zeroValue25
 i3:=by kernel_rfl }
def Tryz.lays111_ren:Go.Shelf.Ren:=⟨fun | 111=>200 | n=>n,fun | 28=>25 | 3=>3 | 4=>4 | 0=>0 | n=>n,fun | n=>n⟩
theorem Tryz.lays111:Go.Proofs.Lays.n111 Tryz.prog Tryz.lays111_ren:={
 mixed:=by kernel_rfl
 f111:=Tryz.func200.trans (congrArg some (by kernel_rfl))
 t0:=Tryz.underlying0
 a0:=Tryz.isAgg0
 z0:=Tryz.sizeOf0
 v0:=Tryz.zeroValue0
 t3:=Tryz.underlying3
 a3:=Tryz.isAgg3
 z3:=Tryz.sizeOf3
 v3:=Tryz.zeroValue3
 t4:=Tryz.underlying4
 a4:=Tryz.isAgg4
 z4:=Tryz.sizeOf4
 v4:=Tryz.zeroValue4
 t28:=Tryz.underlying25
 a28:=Tryz.isAgg25
 z28:=Tryz.sizeOf25
 v28:=Tryz.zeroValue25 }
end Go.Proofs.YtjpnjchpdkogbaaGreatDoor
namespace Go.Proofs.YtjpnjchpdkogbaaGreatDoor
open Go.RowKit Go.Shelf Go.Sort
def zak (xs:List Int):List Int:=Lib.compact (xs.mergeSort fun x y=>decide (x<=y))
theorem zcg (xs:List Int):(zak xs).Pairwise (fun a b=>a<b) /\ ∀ x,x∈zak xs ↔ x∈xs:=by
 have hs:(xs.mergeSort fun x y=>decide (x<=y)).Pairwise (fun a b=>a=b\/decide (a<b)=true):=by
  have:=List.pairwise_mergeSort (le:=fun x y:Int=>decide (x<=y)) (fun a b c h1 h2=>by simp at h1 h2 ⊢;omega) (fun a b=>by simp;omega) xs
  refine this.imp fun {a b} h=>?_
  simp at h ⊢
  omega
 have:=zk8 (fun a b:Int=>decide (a<b)) (fun a b c h1 h2=>by simp at h1 h2 ⊢;omega) _ hs
 refine ⟨this.1.imp fun {a b} h=>by simpa using h,fun x=>?_⟩
 unfold zak
 rw [this.2,List.mem_mergeSort]
theorem zeh (xs:List Int):(zak xs).length<=xs.length:=by
 have:=Lib.compact_length_le (xs.mergeSort fun x y=>decide (x<=y))
 rwa [List.length_mergeSort] at this
theorem zr4:zak []=[]:=by
 have:=zeh []
 exact List.eq_nil_of_length_eq_zero (by simpa using this)
theorem OwnI.posC {w:World}{base:Nat}{v:Value}{xs:List Int}(h:OwnI w base v xs)(hp:0<xs.length) : ∃ g c,v = .slice (some ⟨g,0,none⟩) xs.length c:=by
 rcases h.2 with ⟨rfl,h0⟩ | ⟨g,cap,cur,rfl,hg,hh,hnc,hm,_⟩
 ·omega
 ·exact ⟨g,cap,rfl⟩
theorem OwnI.rowC {w:World}{base g cap:Nat}{xs:List Int}(h:OwnI w base (.slice (some ⟨g,0,none⟩) xs.length cap) xs):RowE (Value.int .i64) 3 w base g cap xs:=by
 rcases h.2 with ⟨hv,h0⟩ | ⟨g',cap',cur,hv,hg,hh,hnc,hm,hs,ht⟩
 ·cases hv
 ·injection hv with h1 h2 h3
  injection h1 with h1
  injection h1 with h1
  subst h1 h3
  exact ⟨hg,hnc,hm,cur,hh,by simpa using hs,by rw [Nat.mul_one] at ht;exact ht⟩
theorem RowE.ownC {w:World}{base g cap:Nat}{xs:List Int}(h:RowE (Value.int .i64) 3 w base g cap xs):OwnI w base (.slice (some ⟨g,0,none⟩) xs.length cap) xs:=by
 obtain ⟨hb,hl,hm,cur,hh,hs,ht⟩:=h
 exact ⟨by simp,.inr ⟨g,cap,cur,rfl,hb,hh,hl,hm,by rw [Nat.mul_one];exact hs,by rw [Nat.mul_one];exact ht⟩⟩
theorem zr5 (g cap base:Nat)(xs:List Int)(w:World)(h:RowE (Value.int .i64) 3 w base g cap xs)(hl:xs.length<=1048576) :
  Calls Tryz.prog 221 #[.slice (some ⟨g,0,none⟩) xs.length cap] w fun e w'=>e = .returned (.tuple #[])/\RowE (Value.int .i64) 3 w' base g cap (xs.mergeSort fun x y=>decide (x<=y))/\Below base w w' :=
 (Any.slices_Sort_int Tryz.lays189 g 0 cap xs w h.holds h.lt (by omega)).mono fun e w' ⟨he,n,os,hw⟩=>by
  have:=h.put (ys:=xs.mergeSort fun x y=>decide (x<=y)) (List.length_mergeSort _) hw
  exact ⟨he,this.1,this.2⟩
theorem zr6 (g cap base:Nat)(xs:List Int)(w:World)(h:RowE (Value.int .i64) 3 w base g cap xs)(hl:xs.length<=1048576) :
  Calls Tryz.prog 222 #[.slice (some ⟨g,0,none⟩) xs.length cap] w fun e w'=>e = .returned (.slice (some ⟨g,0,none⟩) (Lib.compact xs).length cap)/\RowE (Value.int .i64) 3 w' base g cap (Lib.compact xs)/\Below base w w' :=
 (Any.slices_Compact_int Tryz.lays20 g 0 cap xs w h.holds (by omega) h.2.1).mono fun e w' ⟨he,q,hw⟩=>by
  have hle:=Lib.compact_length_le xs
  have:=h.put (ys:=Lib.compact xs++List.replicate (xs.length-(Lib.compact xs).length) 0) (by simp;omega) (n:=q) (os:=#[]) (hw.trans (grow_empty _).symm)
  exact ⟨he,this.1.cut,this.2⟩
theorem zhh {w:World}{B g off:Nat}{xs:List Int}(h:Ints w B (some ⟨g,off,none⟩) xs) : ∀ j,j<xs.length->w.cell? ⟨g,off+j,none⟩=some (.int .i64 (xs.getD j 0)):=by
 intro j hj
 obtain ⟨b,off',e,_,hc⟩:=h.2.2 (by omega)
 injection e with e
 injection e with e1 e2
 subst e1 e2
 exact hc j hj
theorem zei (A:Option Addr)(cap:Nat)(xs:List Int)(w:World)(h:Ints w w.heap.size A xs)(hl:xs.length<=1048576) :
  Calls Tryz.prog 12 #[.slice A xs.length cap] w fun e w'=>∃ v,e = .returned v/\OwnI w' w.heap.size v xs/\Below w.heap.size w w':=by
 by_cases hp:0<xs.length
 ·obtain ⟨b,off,rfl,_,_⟩:=h.2.2 hp
  refine (Any.slices_Clone_int Tryz.lays15 b off xs.length cap xs w (Nat.le_refl _) (by omega) (zhh h)).mono ?_
  rintro e w' ⟨v,rfl,ho,_,hb⟩
  rw [List.take_length] at ho
  exact ⟨v,rfl,ho,hb⟩
 ·have h0:xs=[]:=List.eq_nil_of_length_eq_zero (by omega)
  subst h0
  cases A with
  | none =>
   refine (Any.slices_Clone_int_nil Tryz.lays15 0 cap w).mono ?_
   rintro e w' ⟨rfl,rfl⟩
   exact ⟨_,rfl,OwnI.nil _ _,Below.refl _ _⟩
  | some a =>
   refine (Any.slices_Clone_int_zero Tryz.lays15 a cap w).mono ?_
   rintro e w' ⟨v,rfl,ho,_,hb⟩
   exact ⟨v,rfl,ho,hb⟩
theorem zhi (A:Option Addr)(cap:Nat)(xs:List Int)(w:World)(hA:Ints w w.heap.size A xs)(hl:xs.length<=1048576) :
  Calls Tryz.prog 155 #[.slice A xs.length cap] w fun e w'=>∃ v,e = .returned v/\OwnI w' w.heap.size v (zak xs)/\Below w.heap.size w w':=by
 have HCL:=Zh (zei A cap xs w hA hl)
 clear hA
 by_cases hp:0<xs.length
 ·have hsrt:=fun V g c h=>zr5 g c w.heap.size xs V h hl
  have hcmp:=fun V g c h=>zr6 g c w.heap.size (xs.mergeSort fun x y=>decide (x<=y)) V h (by rw [List.length_mergeSort];exact hl)
  have hcl:=zeh xs
  rw [List.length_mergeSort] at hcmp
  have he:Lib.compact (xs.mergeSort fun x y=>decide (x<=y))=zak xs:=rfl
  rw [he] at hcmp
  generalize zak xs=C at hcmp hcl ⊢
  generalize (xs.mergeSort fun x y=>decide (x<=y))=M at hsrt hcmp
  have HS:=Zh hsrt
  have HC:=Zh hcmp
  clear hsrt hcmp he
  go_enter Tryz.func155,Tryz.ntmps155
  go_wp2_with fail
  refine HCL.o.mono ?_
  rintro e w1 ⟨v,rfl,ho,hb⟩
  obtain ⟨g,c,rfl⟩:=ho.posC hp
  have HR:=Zh ho.rowC
  have HB:=Zh hb
  clear ho hb
  go_wp2_with fail
  refine (HS.o _ g c HR.o).mono ?_
  rintro e w2 ⟨rfl,hr2,hb2⟩
  have HR2:=Zh hr2
  have HB2:=Zh (HB.o.trans hb2)
  clear hr2 hb2
  go_wp2_with fail
  refine (HC.o _ g c HR2.o).mono ?_
  rintro e w3 ⟨rfl,hr3,hb3⟩
  have HR3:=Zh hr3
  have HB3:=Zh (HB2.o.trans hb3)
  clear hr3 hb3
  go_wp2_with fail
  go_ret
  exact ⟨_,rfl,HR3.o.ownC,HB3.o⟩
 ·have h0:xs=[]:=List.eq_nil_of_length_eq_zero (by omega)
  subst h0
  rw [zr4]
  go_enter Tryz.func155,Tryz.ntmps155
  go_wp2_with fail
  refine HCL.o.mono ?_
  rintro e w1 ⟨v,rfl,ho,hb⟩
  obtain ⟨A1,c1,rfl⟩:=ho.form
  have HO:=Zh ho
  have HB:=Zh hb
  clear ho hb
  go_wp2_with fail
  refine (Any.slices_Sort_int_none Tryz.lays189 A1 c1 _).mono ?_
  rintro e w2 ⟨rfl,rfl⟩
  go_wp2_with fail
  refine (Any.slices_Compact_int_empty Tryz.lays20 A1 c1 _).mono ?_
  rintro e w2 ⟨rfl,rfl⟩
  go_wp2_with fail
  go_ret
  exact ⟨_,rfl,HO.o,HB.o⟩
def modL (n:Int)(xs:List Int)(k:Nat):List Int:=(xs.take k).map (· % n)
theorem zr7 {n:Int}{xs:List Int}{k:Nat}{x:Int}(hk:k<xs.length)(hx:xs.getD k 0=x):modL n xs (k+1)=modL n xs k++[x % n]:=by
 unfold modL
 rw [List.take_succ_eq_append_getElem hk,List.map_append,List.map_singleton]
 have:xs[k]=x:=by rw [<- hx,List.getD_eq_getElem?_getD,List.getElem?_eq_getElem hk];rfl
 rw [this]
theorem zfc (n:Int)(xs:List Int)(k:Nat):(modL n xs k).length<=xs.length:=by
 unfold modL
 rw [List.length_map,List.length_take]
 omega
theorem zhj {n x:Int}{xs:List Int} : x∈modL n xs xs.length ↔ ∃ y∈xs,y % n=x:=by
 unfold modL
 rw [List.take_length,List.mem_map]
theorem zr8 {n:Int}{xs:List Int}(hn:1<=n)(hn2:n<=1000000000)(k:Nat) : ∀ x∈modL n xs k,Fits x:=by
 intro x hx
 unfold modL at hx
 rw [List.mem_map] at hx
 obtain ⟨y,_,rfl⟩:=hx
 have:=Int.emod_nonneg y (show n≠0 by omega)
 have:=Int.emod_lt_of_pos y (show 0<n by omega)
 unfold Fits
 omega
theorem zdv (n:Int)(A:Option Addr)(cap:Nat)(xs:List Int)(w:World)(hA:Ints w w.heap.size A xs)(hl:xs.length<=1000000)(hn:1<=n)(hn2:n<=1000000000) :
  Calls Tryz.prog 97 #[.int .i64 n,.slice A xs.length cap] w (zbr w n (zak (modL n xs xs.length))):=by
 have HC:=Zh hA.2.2
 have hco:=fun (A2:Option Addr) (c2:Nat) (V:World) (hV:Ints V V.heap.size A2 (modL n xs xs.length))=>zhi A2 c2 (modL n xs xs.length) V hV (by have:=zfc n xs xs.length;omega)
 have hcl:=zeh (modL n xs xs.length)
 obtain ⟨R,hR⟩ : ∃ R,zak (modL n xs xs.length)=R:=⟨_,rfl⟩
 rw [hR] at hco hcl ⊢
 have HCO:=Zh hco
 clear hco hR
 have hml:=zfc n xs xs.length
 clear hA
 have HW:=Zh ((Below.refl w.heap.size w).alloc (Nat.le_refl _) (.cells #[.int .i64 0,.slice none 0 0] 27))
 have HN:=Zh (Cells2.new w (.int .i64 0) (.slice none 0 0) 27)
 go_enter Tryz.func97,Tryz.ntmps97
 go_wp2_with fail
 go_loopw [5,10] (fun so i wr=>∃ k:Nat,k<=xs.length/\i = .int .i64 k/\OwnI wr (w.heap.size+1) so (modL n xs k)/\Below (w.heap.size+1) (w.alloc (.cells #[.int .i64 0,.slice none 0 0] 27)) wr) (fun _ i _=>xs.length-(intOf i).toNat)
 case atStart=>exact ⟨0,Nat.zero_le _,rfl,OwnI.nil _ _,Below.refl _ _⟩
 case round =>
  obtain ⟨k,hk,rfl,hown,hbel⟩:=hrel
  obtain ⟨wo,rfl⟩ : ∃ wo:World,wo=wr:=⟨_,rfl⟩
  have hws:w.heap.size+1<=wo.heap.size:=by have:=hbel.size;simpa using this
  have HBE:=Zh hbel
  have HO:=Zh hown
  obtain ⟨A1,c1,rfl⟩:=hown.form
  have hmk:=zfc n xs k
  clear hbel hown
  by_cases hlt:k<xs.length
  ·obtain ⟨b,off,rfl,hB,hc⟩:=HC.o (by omega)
   have hcell:=((HW.o.trans (HBE.o.mono (by omega))).cell (p:=⟨b,off+k,none⟩) hB).trans (hc k hlt)
   obtain ⟨x,hx⟩ : ∃ x,xs.getD k 0=x:=⟨_,rfl⟩
   rw [hx] at hcell
   have HSU:=Zh (zr7 (n:=n) hlt hx)
   generalize modL n xs k=L at HO HSU hmk ⊢
   clear hc hx
   go_wp2_with (first
    | (go_at_call 154;refine (zhf x n _ hn hn2).mono ?_;rintro e w' ⟨rfl,rfl⟩)
    | (at_builtin;refine za4 rfl (.tmp 14) (.tmp 18) rfl (w.heap.size+1) _ L rfl (HO.o.alloc _) _ _ rfl (zag _ _ _) (by omega) (by simp;omega) ?_;intro v2 w2 hown2 hb2))
   have HO2:=Zh hown2
   have HB2:=Zh ((HBE.o.alloc (by omega) _).trans hb2)
   clear hown2 hb2
   go_wp2_with fail
   go_roundw
   case rel=>exact ⟨k+1,by omega,by go_num,by rw [HSU.o];exact HO2.o,HB2.o⟩
   case measure=>simp [intOf];omega
  ·have hke:k=xs.length:=by omega
   subst hke
   have HI:=Zh (HO.o.ints (zr8 hn hn2 _))
   generalize modL n xs xs.length=L at HO HCO HI hmk hcl hml ⊢
   go_wp2_with fail
   refine (HCO.o A1 c1 _ HI.o).mono ?_
   rintro e w2 ⟨v,rfl,ho2,hb2⟩
   obtain ⟨A2,c2,rfl⟩:=ho2.form
   have hz2:=hb2.size
   obtain ⟨f0,f1,f2,f3,f4⟩:=(HN.o.below HBE.o (by simp)).below hb2 (by omega)
   go_wp2_with fail
   refine bodyPost_ret (v:=.agg #[.int .i64 n,.slice A2 R.length c2]) (by simp [results,Tryz.results97,go_sem,f0,f1]) rfl ?_
   refine ⟨A2,c2,rfl,?_,?_⟩
   ·exact (((ho2.rw_ (by omega)).far (p:=⟨w.heap.size,0,none⟩) (by simp;omega) _).far (p:=⟨w.heap.size,1,none⟩) (by simp;omega) _).mono (by omega)
   ·exact (((HW.o.trans (HBE.o.mono (by omega))).trans (hb2.mono (by omega))).setCell (Nat.le_refl _) _).setCell (Nat.le_refl _) _
end Go.Proofs.YtjpnjchpdkogbaaGreatDoor
