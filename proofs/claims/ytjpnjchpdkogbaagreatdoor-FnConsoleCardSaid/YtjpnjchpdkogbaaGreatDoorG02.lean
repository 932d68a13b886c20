/- Parts of the proof of the card of the law FnConsole. -/
import Derived.Test.YtjpnjchpdkogbaaGreatDoorFmtS
import Derived.Test.YtjpnjchpdkogbaaGreatDoorStrs
import Derived.Deep.RegionLaw
import Derived.Lib.SmallJoins
import Derived.Lib.AppendIntMem
import Derived.Test.YtjpnjchpdkogbaaGreatDoorOwn
import Derived.Test.YtjpnjchpdkogbaaGreatDoorStr
import Derived.Deep.QuietTactic
import Derived.BigQuiet
import Derived.Test.YtjpnjchpdkogbaaGreatDoorChecked
import Derived.Shelf.Strings.Split
import Derived.Lib.SplitLaws
import Derived.Lib.IndexBytes
import Derived.Shelf.Strings.Replace
import Derived.Below
import Derived.Shelf.Strconv.AtoiAll
import Derived.Lib.AtoiAllCases
import Derived.Deep.CutRange
import Derived.ArgAppend
import Derived.Shelf.Strings.OnBuilder
set_option linter.unusedVariables false
set_option linter.unusedSimpArgs false
set_option maxRecDepth 100000
set_option maxHeartbeats 1000000
namespace Go.Proofs.YtjpnjchpdkogbaaGreatDoor
open Go.RowKit Go.Shelf
def Pow (w:World):Prop:=Lib.TabIs Tryz.prog w "internal/strconv.uint64pow10" .u64 Lib.pow10Tab
theorem Pow.below {w w':World}(h:Pow w)(hb:Below w.heap.size w w'):Pow w':=by
 obtain ⟨g,hg⟩ : ∃ g,Tryz.prog.globalNamed "internal/strconv.uint64pow10" = some g:=Option.isSome_iff_exists.1 (by kernel_rfl)
 exact Joins.tab_stays hg h hb (Nat.le_refl _)
def itoL (n:Int):Txt:=Lib.itoa n
theorem zco (N:Nat):itoL (N:Int)=Lib.decDigits N:=by
 unfold itoL Lib.itoa;rw [if_neg (by omega)];rfl
theorem ze5 (N:Nat)(h:0<N):itoL (-(N:Int))=45::Lib.decDigits N:=by
 unfold itoL Lib.itoa;rw [if_pos (by omega)];simp
theorem zdb {k:Nat}(h:k<10):Lib.decDigits k=[UInt8.ofNat (48+k)]:=by rw [Lib.decDigits,dif_pos h]
theorem zg0 {k:Nat}(h : ¬ k<10):Lib.decDigits k=Lib.decDigits (k / 10)++[UInt8.ofNat (48+k % 10)]:=by rw [Lib.decDigits,dif_neg h]
theorem zg1 : ∀ (p k:Nat),k<10 ^ (p+1)->(Lib.decDigits k).length<=p+1
 | 0,k,h=>by rw [zdb (by simpa using h)];simp
 | p+1,k,h=>by
  by_cases h9:k<10
  ·rw [zdb h9];simp
  ·rw [zg0 h9,List.length_append]
   have:=zg1 p (k / 10) (by rw [Nat.pow_succ] at h;omega)
   simp;omega
theorem zbe (n:Int)(h:Fits n):(itoL n).length<=20:=by
 unfold Fits at h
 obtain ⟨N,rfl | rfl⟩:=Int.eq_nat_or_neg n
 ·rw [zco]
  have:=zg1 18 N (by omega)
  omega
 ·by_cases h0:0<N
  ·rw [ze5 N h0]
   have:=zg1 18 N (by omega)
   simp;omega
  ·have:N=0:=by omega
   subst this
   rw [show (-((0:Nat):Int))=((0:Nat):Int) from rfl,zco,zdb (by omega)]
   simp
theorem zbq (n:Int)(hn:Fits n)(w:World)(hP:Pow w) :
  Calls Tryz.prog 64 #[.int .i64 n] w fun e w'=>e = .returned (.string (mkS (itoL n)))/\Below w.heap.size w w':=by
 have HI:=Zh (Any.strconv_Itoa Tryz.laysM171 n hn.1 hn.2 w hP)
 have he:(⟨(Lib.itoa n).toArray⟩:ByteArray)=mkS (itoL n):=rfl
 rw [he] at HI
 clear he
 generalize mkS (itoL n)=X at HI ⊢
 go_enter Tryz.func64,Tryz.ntmps64
 go_wp2_with fail
 refine HI.o.mono ?_
 rintro e w' ⟨rfl,k,os,rfl⟩
 have HB:=Zh (Lib.below_grow w.heap.size w (Nat.le_refl _) k os)
 generalize Sort.grow (w.drewN k) os=w2 at HB ⊢
 go_wp2_with fail
 go_ret
 exact ⟨rfl,HB.o⟩
end Go.Proofs.YtjpnjchpdkogbaaGreatDoor
namespace Go.Proofs.YtjpnjchpdkogbaaGreatDoor
open Go.RowKit
def OwnTx (w:World)(base:Nat)(v:Value)(us:List ByteArray):Prop:=w.ownsRow base 9 1 v us.length (us.map Value.string)
theorem OwnTx.alloc {w:World}{base:Nat}{v:Value}{us:List ByteArray}(h:OwnTx w base v us)(o:Obj):OwnTx (w.alloc o) base v us:=World.ownsRow.alloc h o
theorem OwnTx.form {w:World}{base:Nat}{v:Value}{us:List ByteArray}(h:OwnTx w base v us) : ∃ A cap,v = .slice A us.length cap:=by
 rcases h.2 with ⟨rfl,h0⟩ | ⟨g,cap,cur,rfl,_⟩
 ·exact ⟨none,0,by rw [h0]⟩
 ·exact ⟨some ⟨g,0,none⟩,cap,rfl⟩
theorem OwnTx.lt {w:World}{base:Nat}{v:Value}{us:List ByteArray}(h:OwnTx w base v us) : ∀ k,v.ownBlock=some k->base<=k/\k<w.heap.size:=World.ownsRow.lt h
theorem zq2:(Tryz.prog.info? 9).map (fun i=>(i.zero,i.size,i.bytes))=some (some (.string ⟨#[]⟩),1,16):=by kernel_rfl
theorem zq3 {w:World}{ops:Array Oper}{rest:List Oper}{o:Oper}{a:Act}{Q:Exit->Act->World->Prop}(hgd:o.guard=none)(s x:Operand)
  (ho:o.op = .call { callee:=.builtin .append,args:=#[s,x],argTypes:=#[23,23] })
  (base:Nat) (v:Value) (us:List ByteArray) (hs:a.eval s=v) (hown:OwnTx w base v us) (g:Nat) (y:ByteArray) (hx:a.eval x = .slice (some ⟨g,0,none⟩) 1 1)
  (hcell:w.cell? ⟨g,0,none⟩=some (.string y)) (hlen:us.length<=2000000) (hbase:base<=w.heap.size)
  (h : ∀ v' w',OwnTx w' base v' (us++[y])->Below base w w'->wpList Tryz.prog ops Q rest (a.put o.dst v') w'):wpList Tryz.prog ops Q (o::rest) a w:=by
 obtain ⟨i,hi,hz,hsz,hby⟩:=info_parts zq2
 refine wpList_append_own _ hgd s x _ ho base 9 i _ 1 16 Tryz.underlying23 hi hz hsz hby rfl (by omega) v us.length _ hs hown ⟨g,0,none⟩ 1 1 [.string y] hx rfl ?_ ?_ (by unfold maxLen;omega) (by omega) hbase ?_
 ·intro j u hj
  match j,hj with
  | 0,hj =>
   simp at hj
   subst hj
   exact hcell
 ·intro u hu
  simp at hu
  subst hu
  rfl
 ·intro v' w' hown' hgrow _
  refine h v' w' ?_ ?_
  ·unfold OwnTx
   simpa using hown'
  ·exact (Below.refl base w).grown hgrow hbase (fun k hk=>(hown.lt k hk).1)
end Go.Proofs.YtjpnjchpdkogbaaGreatDoor
namespace Go.Proofs.YtjpnjchpdkogbaaGreatDoor
open Go.RowKit
def splF (d:UInt8):List UInt8->List UInt8->List (List UInt8)
 | cur,[]=>[cur]
 | cur,c::r=>if c=d then cur::splF d [] r else splF d (cur++[c]) r
theorem ze6 (d:UInt8)(cur r:List UInt8):splF d cur (d::r)=cur::splF d [] r:=by rw [splF,if_pos rfl]
theorem zef {d:UInt8}(cur r:List UInt8){c:UInt8}(h:c≠d):splF d cur (c::r)=splF d (cur++[c]) r:=by rw [splF,if_neg h]
theorem zeg (d:UInt8) : ∀ (l cur:List UInt8),(splF d cur l).length<=l.length+1
 | [],cur=>by simp [splF]
 | c::r,cur=>by
  by_cases h:c=d
  ·subst h;rw [ze6];have:=zeg c r [];simp;omega
  ·rw [zef _ _ h];have:=zeg d r (cur++[c]);simp;omega
def splT (d:UInt8)(s:ByteArray):List ByteArray:=(splF d [] s.data.toList).map mkS
theorem zg2 (d:UInt8)(s u:ByteArray)(h:u∈splT d s):u.size<=s.size:=by
 have key : ∀ (l cur x:List UInt8),x∈splF d cur l->x.length<=cur.length+l.length:=by
  intro l
  induction l with
  | nil=>intro cur x hx;rw [splF,List.mem_singleton] at hx;subst hx;simp
  | cons c r ih =>
   intro cur x hx
   by_cases hc:c=d
   ·subst hc
    rw [ze6] at hx
    rcases List.mem_cons.1 hx with rfl | hx
    ·simp
    ·have:=ih [] x hx;simp at this ⊢;omega
   ·rw [zef _ _ hc] at hx
    have:=ih (cur++[c]) x hx
    simp at this ⊢;omega
 unfold splT at h
 obtain ⟨x,hx,rfl⟩:=List.mem_map.1 h
 have:=key _ _ _ hx
 rw [za2]
 simpa using this
end Go.Proofs.YtjpnjchpdkogbaaGreatDoor
namespace Go.Proofs.YtjpnjchpdkogbaaGreatDoor
open Go.RowKit
def keyT:List Txt:=[
 [98,101,97,116,115,32,49],
 [101,118,101,110,32,50],
 [103,101,110,32,51],
 [116,117,114,110,32,49],
 [109,105,114,114,111,114,32,48],
 [111,116,104,101,114,32,48],
 [115,116,114,101,116,99,104,32,49],
 [114,101,112,101,97,116,32,49],
 [112,104,97,115,101,32,49],
 [112,97,114,116,110,101,114,32,48],
 [119,111,114,100,32,49],
 [112,111,108,121,32,50],
 [98,97,114,32,49],
 [115,104,111,119,32,48],
 [108,105,110,101,32,48],
 [101,118,101,110,32,48],
 [116,105,108,101,32,48],
 [109,101,116,101,114,32,48],
 [99,108,97,115,115,32,48],
 [104,97,110,100,115,32,49],
 [119,105,110,100,111,119,115,32,49],
 [115,116,105,99,107,32,48],
 [112,97,116,116,101,114,110,32,49],
 [99,111,118,101,114,32,49],
 [116,119,111,32,49],
 [99,111,117,110,116,32,50],
 [112,108,97,121,32,49],
 [113,117,97,110,116,105,122,101,32,50]]
theorem keyT_nodup:keyT.Nodup:=by decide
def fndK (k:Txt):Option Nat:=keyT.findIdx? (fun x=>x==k)
def unkS:ByteArray:=⟨#[117,110,107,110,111,119,110,32,99,111,109,109,97,110,100]⟩
def keyV (ws:List ByteArray):Txt:=(ws.getD 0 ⟨#[]⟩).data.toList++[32]++itoL ((ws.length-1:Nat):Int)
end Go.Proofs.YtjpnjchpdkogbaaGreatDoor
namespace Go.Proofs.YtjpnjchpdkogbaaGreatDoor
open Go.Shelf
def Tryz.lays146_ren:Go.Shelf.Ren:=⟨fun | 146=>13 | 221=>24 | 268=>92 | 138=>93 | 143=>94 | 195=>150 | 197=>147 | 218=>151 | 219=>152 | 260=>212 | 217=>215 | 225=>216 | 224=>217 | 267=>218 | 266=>253 | 314=>254 | n=>n,fun | 9=>9 | 31=>23 | 3=>3 | 4=>4 | 0=>0 | 105=>124 | 21=>21 | 5=>5 | 46=>122 | 119=>194 | 139=>197 | 138=>196 | 146=>178 | 51=>177 | n=>n,fun | 1=>0 | 3=>1 | 4=>2 | n=>n⟩
theorem Tryz.lays146:Go.Proofs.Lays.n146 Tryz.prog Tryz.lays146_ren:={
 mixed:=by kernel_rfl
 f138:=Tryz.func93.trans (congrArg some (by kernel_rfl))
 f143:=Tryz.func94.trans (congrArg some (by kernel_rfl))
 f146:=Tryz.func13.trans (congrArg some (by kernel_rfl))
 f195:=Tryz.func150.trans (congrArg some (by kernel_rfl))
 f197:=Tryz.func147.trans (congrArg some (by kernel_rfl))
 f217:=Tryz.func215.trans (congrArg some (by kernel_rfl))
 f218:=Tryz.func151.trans (congrArg some (by kernel_rfl))
 f219:=Tryz.func152.trans (congrArg some (by kernel_rfl))
 f221:=Tryz.func24.trans (congrArg some (by kernel_rfl))
 f224:=Tryz.func217.trans (congrArg some (by kernel_rfl))
 f225:=Tryz.func216.trans (congrArg some (by kernel_rfl))
 f260:=Tryz.func212.trans (congrArg some (by kernel_rfl))
 f266:=Tryz.func253.trans (congrArg some (by kernel_rfl))
 f267:=Tryz.func218.trans (congrArg some (by kernel_rfl))
 f268:=Tryz.func92.trans (congrArg some (by kernel_rfl))
 f314:=Tryz.func254.trans (congrArg some (by kernel_rfl))
 t0:=Tryz.underlying0
 a0:=Tryz.isAgg0
 z0:=Tryz.sizeOf0
 v0:=Tryz.zeroValue0
 t3:=Tryz.underlying3
 a3:=Tryz.isAgg3
 z3:=Tryz.sizeOf3
 v3:=Tryz.zeroValue3
 t4:=Tryz.underlying4
 a4:=Tryz.isAgg4
 z4:=Tryz.sizeOf4
 v4:=Tryz.zeroValue4
 t5:=Tryz.underlying5
 a5:=Tryz.isAgg5
 z5:=Tryz.sizeOf5
 v5:=Tryz.zeroValue5
 t9:=Tryz.underlying9
 a9:=Tryz.isAgg9
 z9:=Tryz.sizeOf9
 v9:=Tryz.zeroValue9
 t21:=Tryz.underlying21
 a21:=Tryz.isAgg21
 z21:=Tryz.sizeOf21
 v21:=Tryz.zeroValue21
 t31:=Tryz.underlying23
 a31:=Tryz.isAgg23
 z31:=Tryz.sizeOf23
 v31:=Tryz.zeroValue23
 t46:=Tryz.underlying122
 a46:=Tryz.isAgg122
 z46:=Tryz.sizeOf122
 v46:=Tryz.zeroValue122
 t51:=Tryz.underlying177
 a51:=Tryz.isAgg177
 z51:=Tryz.sizeOf177
 v51:=Tryz.zeroValue177
 t105:=Tryz.underlying124
 a105:=Tryz.isAgg124
 z105:=Tryz.sizeOf124
 v105:=Tryz.zeroValue124
 t119:=Tryz.underlying194
 a119:=Tryz.isAgg194
 z119:=Tryz.sizeOf194
 t138:=Tryz.underlying196
 a138:=Tryz.isAgg196
 z138:=Tryz.sizeOf196
 v138:=Tryz.zeroValue196
 t139:=Tryz.underlying197
 a139:=Tryz.isAgg197
 z139:=Tryz.sizeOf197
 v139:=Tryz.zeroValue197
 t146:=Tryz.underlying178
 a146:=Tryz.isAgg178
 z146:=Tryz.sizeOf178
 v146:=Tryz.zeroValue178
 g1:=by kernel_rfl
 g3:=by kernel_rfl
 g4:=by kernel_rfl }
end Go.Proofs.YtjpnjchpdkogbaaGreatDoor
namespace Go.Proofs.YtjpnjchpdkogbaaGreatDoor
theorem zkk (d:UInt8) : ∀ (l cur:List UInt8),Lib.indexByte l d = -1->splF d cur l=[cur++l]
 | [],cur,_=>by simp [splF]
 | c::r,cur,h=>by
  unfold Lib.indexByte at h
  by_cases hc:c=d
  ·subst hc;simp at h
  ·have hb:(c==d)=false:=by simpa using hc
   rw [hb] at h
   simp only [Bool.false_eq_true,if_false] at h
   have:Lib.indexByte r d = -1:=by
    by_cases h2:(Lib.indexByte r d == -1)=true
    ·simpa using h2
    ·rw [if_neg h2] at h;have:=Lib.indexByte_ge r d;omega
   rw [zef _ _ hc,zkk d r _ this]
   simp
theorem zkl (d:UInt8) : ∀ (l cur:List UInt8) (o:Nat),Lib.indexByte l d=o->o<l.length/\splF d cur l=(cur++l.take o)::splF d [] (l.drop (o+1))
 | [],cur,o,h=>by unfold Lib.indexByte at h;omega
 | c::r,cur,o,h=>by
  unfold Lib.indexByte at h
  by_cases hc:c=d
  ·subst hc
   simp at h
   have:o=0:=by omega
   subst this
   exact ⟨by simp,by rw [ze6];simp⟩
  ·have hb:(c==d)=false:=by simpa using hc
   rw [hb] at h
   simp only [Bool.false_eq_true,if_false] at h
   by_cases h2:(Lib.indexByte r d == -1)=true
   ·rw [if_pos h2] at h;omega
   ·rw [if_neg h2] at h
    have h3:=Lib.indexByte_ge r d
    have h4:Lib.indexByte r d ≠ -1:=by simpa using h2
    obtain ⟨q,hq⟩ : ∃ q:Nat,o=q+1:=⟨o-1,by omega⟩
    subst hq
    obtain ⟨k1,k2⟩:=zkl d r (cur++[c]) q (by omega)
    refine ⟨by simp;omega,?_⟩
    rw [zef _ _ hc,k2]
    simp
theorem zkm (d:UInt8)(r:ByteArray)(h:Lib.indexByte r.data.toList d = -1):splT d r=[r]:=by
 unfold splT
 rw [zkk d _ _ h]
 simp only [List.nil_append,List.map_cons,List.map_nil]
 rw [<- (zq0 r).eq]
theorem zkn (d:UInt8)(r:ByteArray)(o:Nat)(h:Lib.indexByte r.data.toList d=o):o<r.size/\splT d r=r.extract 0 o::splT d (r.extract (o+1) r.size):=by
 obtain ⟨h1,h2⟩:=zkl d r.data.toList [] o h
 have hl:r.data.toList.length=r.size:=by simp
 refine ⟨by omega,?_⟩
 unfold splT
 rw [h2,List.map_cons]
 have e1:r.extract 0 o=mkS ([]++r.data.toList.take o):=by
  have:Str (r.extract 0 o) ([]++r.data.toList.take o):=by unfold Str;rw [Lib.extract_data];simp
  exact this.eq
 have e2:(r.extract (o+1) r.size).data.toList=r.data.toList.drop (o+1):=by
  rw [Lib.extract_data,List.take_of_length_le]
  rw [List.length_drop];omega
 rw [e1,e2]
theorem zq4 (d:UInt8) : ∀ (k:Nat) (s:ByteArray),Lib.countB s ⟨#[d]⟩=k->Lib.splitB ⟨#[d]⟩ 0 k s=splT d s:=by
 have hix : ∀ s:ByteArray,Lib.indexB s ⟨#[d]⟩=Lib.indexByte s.data.toList d:=fun s=>Lib.index_one s.data.toList d
 intro k
 induction k with
 | zero =>
  intro s hk
  have h1:Lib.indexB s ⟨#[d]⟩ = -1:=by
   rcases Lib.indexB_cases s ⟨#[d]⟩ with h | ⟨i,h,_⟩
   ·exact h
   ·have:=Lib.countB_hit s ⟨#[d]⟩ i (Nat.le_refl 1) h;omega
  rw [zkm d s (by rw [<- hix];exact h1)]
  rfl
 | succ k ih =>
  intro s hk
  rcases Lib.indexB_cases s ⟨#[d]⟩ with h | ⟨i,h,_⟩
  ·have:=Lib.countB_miss s ⟨#[d]⟩ h;omega
  ·have hc:=Lib.countB_hit s ⟨#[d]⟩ i (Nat.le_refl 1) h
   have e:(⟨#[d]⟩:ByteArray).size=1:=rfl
   rw [Lib.splitB_hit _ 0 k s i h,(zkn d s i (by rw [<- hix];exact h)).2]
   rw [e] at hc ⊢
   rw [ih _ (by omega),Nat.add_zero]
end Go.Proofs.YtjpnjchpdkogbaaGreatDoor
namespace Go.Proofs.YtjpnjchpdkogbaaGreatDoor
open Go.Shelf
def Tryz.lays155_ren:Go.Shelf.Ren:=⟨fun | 155=>168 | 154=>227 | 138=>93 | 165=>83 | 143=>94 | 166=>16 | 197=>147 | 169=>17 | 195=>150 | 218=>151 | 240=>82 | 241=>145 | 219=>152 | 260=>212 | 276=>144 | 277=>194 | 217=>215 | 225=>216 | 224=>217 | 267=>218 | 266=>253 | 314=>254 | n=>n,fun | 9=>9 | 3=>3 | 4=>4 | 72=>49 | 0=>0 | 76=>52 | 105=>124 | 21=>21 | 5=>5 | 70=>47 | 20=>20 | 37=>22 | 75=>51 | 127=>80 | 164=>120 | 46=>122 | 119=>194 | 139=>197 | 138=>196 | 146=>178 | 51=>177 | 80=>54 | n=>n,fun | 1=>0 | 3=>1 | 4=>2 | n=>n⟩
theorem Tryz.lays155:Go.Proofs.Lays.n155 Tryz.prog Tryz.lays155_ren:={
 mixed:=by kernel_rfl
 f138:=Tryz.func93.trans (congrArg some (by kernel_rfl))
 f143:=Tryz.func94.trans (congrArg some (by kernel_rfl))
 f154:=Tryz.func227.trans (congrArg some (by kernel_rfl))
 f155:=Tryz.func168.trans (congrArg some (by kernel_rfl))
 f165:=Tryz.func83.trans (congrArg some (by kernel_rfl))
 f166:=Tryz.func16.trans (congrArg some (by kernel_rfl))
 f169:=Tryz.func17.trans (congrArg some (by kernel_rfl))
 f195:=Tryz.func150.trans (congrArg some (by kernel_rfl))
 f197:=Tryz.func147.trans (congrArg some (by kernel_rfl))
 f217:=Tryz.func215.trans (congrArg some (by kernel_rfl))
 f218:=Tryz.func151.trans (congrArg some (by kernel_rfl))
 f219:=Tryz.func152.trans (congrArg some (by kernel_rfl))
 f224:=Tryz.func217.trans (congrArg some (by kernel_rfl))
 f225:=Tryz.func216.trans (congrArg some (by kernel_rfl))
 f240:=Tryz.func82.trans (congrArg some (by kernel_rfl))
 f241:=Tryz.func145.trans (congrArg some (by kernel_rfl))
 f260:=Tryz.func212.trans (congrArg some (by kernel_rfl))
 f266:=Tryz.func253.trans (congrArg some (by kernel_rfl))
 f267:=Tryz.func218.trans (congrArg some (by kernel_rfl))
 f276:=Tryz.func144.trans (congrArg some (by kernel_rfl))
 f277:=Tryz.func194.trans (congrArg some (by kernel_rfl))
 f314:=Tryz.func254.trans (congrArg some (by kernel_rfl))
 t0:=Tryz.underlying0
 a0:=Tryz.isAgg0
 z0:=Tryz.sizeOf0
 v0:=Tryz.zeroValue0
 t3:=Tryz.underlying3
 a3:=Tryz.isAgg3
 z3:=Tryz.sizeOf3
 v3:=Tryz.zeroValue3
 t4:=Tryz.underlying4
 a4:=Tryz.isAgg4
 z4:=Tryz.sizeOf4
 v4:=Tryz.zeroValue4
 t5:=Tryz.underlying5
 a5:=Tryz.isAgg5
 z5:=Tryz.sizeOf5
 v5:=Tryz.zeroValue5
 t9:=Tryz.underlying9
 a9:=Tryz.isAgg9
 z9:=Tryz.sizeOf9
 v9:=Tryz.zeroValue9
 t20:=Tryz.underlying20
 a20:=Tryz.isAgg20
 z20:=Tryz.sizeOf20
 v20:=Tryz.zeroValue20
 t21:=Tryz.underlying21
 a21:=Tryz.isAgg21
 z21:=Tryz.sizeOf21
 v21:=Tryz.zeroValue21
 t37:=Tryz.underlying22
 a37:=Tryz.isAgg22
 z37:=Tryz.sizeOf22
 v37:=Tryz.zeroValue22
 t46:=Tryz.underlying122
 a46:=Tryz.isAgg122
 z46:=Tryz.sizeOf122
 v46:=Tryz.zeroValue122
 t51:=Tryz.underlying177
 a51:=Tryz.isAgg177
 z51:=Tryz.sizeOf177
 v51:=Tryz.zeroValue177
 t70:=Tryz.underlying47
 a70:=Tryz.isAgg47
 z70:=Tryz.sizeOf47
 v70:=Tryz.zeroValue47
 t72:=Tryz.underlying49
 a72:=Tryz.isAgg49
 z72:=Tryz.sizeOf49
 v72:=Tryz.zeroValue49
 t75:=Tryz.underlying51
 a75:=Tryz.isAgg51
 z75:=Tryz.sizeOf51
 v75:=Tryz.zeroValue51
 t76:=Tryz.underlying52
 a76:=Tryz.isAgg52
 z76:=Tryz.sizeOf52
 v76:=Tryz.zeroValue52
 t105:=Tryz.underlying124
 a105:=Tryz.isAgg124
 z105:=Tryz.sizeOf124
 v105:=Tryz.zeroValue124
 t119:=Tryz.underlying194
 a119:=Tryz.isAgg194
 z119:=Tryz.sizeOf194
 t127:=Tryz.underlying80
 a127:=Tryz.isAgg80
 z127:=Tryz.sizeOf80
 v127:=Tryz.zeroValue80
 t138:=Tryz.underlying196
 a138:=Tryz.isAgg196
 z138:=Tryz.sizeOf196
 v138:=Tryz.zeroValue196
 t139:=Tryz.underlying197
 a139:=Tryz.isAgg197
 z139:=Tryz.sizeOf197
 v139:=Tryz.zeroValue197
 t146:=Tryz.underlying178
 a146:=Tryz.isAgg178
 z146:=Tryz.sizeOf178
 v146:=Tryz.zeroValue178
 t164:=Tryz.underlying120
 a164:=Tryz.isAgg120
 z164:=Tryz.sizeOf120
 v164:=Tryz.zeroValue120
 g1:=by kernel_rfl
 g3:=by kernel_rfl
 g4:=by kernel_rfl }
theorem Tryz.bx155:Go.Proofs.Builder.Extra Tryz.prog Tryz.lays155_ren:={
 sizeBuilder:=by kernel_rfl
 liesBuilder:=by kernel_rfl
 t5:=Tryz.underlying5
 a5:=Tryz.isAgg5
 z5:=Tryz.sizeOf5
 v5:=Tryz.zeroValue5
 infoByte:=by kernel_rfl
 cellsByte:=by kernel_rfl
 sizeByte:=by kernel_rfl
 neB5:=by decide }
end Go.Proofs.YtjpnjchpdkogbaaGreatDoor
namespace Go.Proofs.YtjpnjchpdkogbaaGreatDoor
open Go.RowKit Go.Shelf
def MaxL (w:World):Prop:=∃ m,w.cell? ⟨Tryz.lays155_ren.g 1,0,none⟩=some (.int .i64 m)
theorem MaxL.below {w w':World}(h:MaxL w)(hb:Below w.heap.size w w'):MaxL w':=by
 obtain ⟨m,hm⟩:=h
 exact ⟨m,(hb.cell (p:=⟨Tryz.lays155_ren.g 1,0,none⟩) (World.block_lt_of_cell? _ _ hm)).trans hm⟩
end Go.Proofs.YtjpnjchpdkogbaaGreatDoor
namespace Go.Proofs.YtjpnjchpdkogbaaGreatDoor
open Go.RowKit Go.Shelf
theorem zg3 (d:UInt8)(s:ByteArray)(w:World)(hs:s.size<=1048576)(hM:MaxL w) :
  Calls Tryz.prog 13 #[.string s,.string ⟨#[d]⟩] w fun e w'=>∃ A cap,e = .returned (.slice A (splT d s).length cap)/\OwnTx w' w.heap.size (.slice A (splT d s).length cap) (splT d s)/\Below w.heap.size w w':=by
 obtain ⟨m,hm⟩:=hM
 have hlen:=Lib.splitB_all ⟨#[d]⟩ (Nat.le_refl 1) 0 _ s rfl
 have hT:=zq4 d _ s rfl
 refine (Any.strings_Split Tryz.lays146 (by kernel_rfl) s ⟨#[d]⟩ m w (by omega) hm (Nat.le_refl 1)).mono ?_
 rintro e w' ⟨rfl,rfl⟩
 rw [hT] at hlen ⊢
 rw [<- hlen]
 have hl:(splT d s).length<=1048577:=by
  unfold splT
  rw [List.length_map]
  have h1:=zeg d s.data.toList []
  have h2:s.data.toList.length=s.size:=by simp
  omega
 generalize splT d s=us at *
 refine ⟨_,_,rfl,⟨by simp,.inr ⟨w.heap.size,us.length,(us.map Value.string).toArray,rfl,Nat.le_refl _,?_,Nat.le_refl _,by unfold maxLen;omega,by simp,?_⟩⟩,(Below.refl _ _).alloc (Nat.le_refl _) _⟩
 ·exact heap_alloc_new w _
 ·simp [List.take_of_length_le]
end Go.Proofs.YtjpnjchpdkogbaaGreatDoor
namespace Go.Proofs.YtjpnjchpdkogbaaGreatDoor
open Go.Shelf
def Tryz.laysC172_ren:Go.Shelf.Ren:=⟨fun | 172=>153 | 244=>219 | 245=>220 | 247=>255 | 279=>256 | 280=>257 | 281=>258 | 282=>259 | 287=>291 | 316=>292 | 171=>127 | 205=>293 | 321=>314 | 322=>315 | 243=>187 | 246=>235 | 283=>269 | 284=>270 | 285=>271 | 286=>272 | 129=>285 | 317=>304 | 318=>305 | 319=>306 | 320=>203 | 337=>246 | 338=>247 | n=>n,fun | 9=>9 | 3=>3 | 75=>51 | 76=>52 | 4=>4 | 5=>5 | 167=>200 | 37=>22 | 0=>0 | 85=>201 | 2=>2 | 168=>203 | 53=>180 | 175=>227 | 46=>122 | 210=>230 | 127=>80 | 145=>248 | 143=>246 | 21=>21 | 171=>211 | 173=>213 | 212=>237 | 51=>177 | 20=>20 | 213=>238 | 232=>225 | 233=>226 | 80=>54 | n=>n,fun | 15=>5 | 16=>6 | 17=>7 | 18=>3 | 19=>4 | n=>n⟩
theorem Tryz.laysC172:Go.Proofs.LaysC.n172 Tryz.prog Tryz.laysC172_ren:={
 mixed:=by kernel_rfl
 f129:=Tryz.func285.trans (congrArg some (by kernel_rfl))
 f171:=Tryz.func127.trans (congrArg some (by kernel_rfl))
 f172:=Tryz.func153.trans (congrArg some (by kernel_rfl))
 f205:=Tryz.func293.trans (congrArg some (by kernel_rfl))
 f243:=Tryz.func187.trans (congrArg some (by kernel_rfl))
 f244:=Tryz.func219.trans (congrArg some (by kernel_rfl))
 f245:=Tryz.func220.trans (congrArg some (by kernel_rfl))
 f246:=Tryz.func235.trans (congrArg some (by kernel_rfl))
 f247:=Tryz.func255.trans (congrArg some (by kernel_rfl))
 f279:=Tryz.func256.trans (congrArg some (by kernel_rfl))
 f280:=Tryz.func257.trans (congrArg some (by kernel_rfl))
 f281:=Tryz.func258.trans (congrArg some (by kernel_rfl))
 f282:=Tryz.func259.trans (congrArg some (by kernel_rfl))
 f283:=Tryz.func269.trans (congrArg some (by kernel_rfl))
 f284:=Tryz.func270.trans (congrArg some (by kernel_rfl))
 f285:=Tryz.func271.trans (congrArg some (by kernel_rfl))
 f286:=Tryz.func272.trans (congrArg some (by kernel_rfl))
 f287:=Tryz.func291.trans (congrArg some (by kernel_rfl))
 f316:=Tryz.func292.trans (congrArg some (by kernel_rfl))
 f317:=Tryz.func304.trans (congrArg some (by kernel_rfl))
 f318:=Tryz.func305.trans (congrArg some (by kernel_rfl))
 f319:=Tryz.func306.trans (congrArg some (by kernel_rfl))
 f320:=Tryz.func203.trans (congrArg some (by kernel_rfl))
 f321:=Tryz.func314.trans (congrArg some (by kernel_rfl))
 f322:=Tryz.func315.trans (congrArg some (by kernel_rfl))
 f337:=Tryz.func246.trans (congrArg some (by kernel_rfl))
 f338:=Tryz.func247.trans (congrArg some (by kernel_rfl))
 t0:=Tryz.underlying0
 a0:=Tryz.isAgg0
 z0:=Tryz.sizeOf0
 v0:=Tryz.zeroValue0
 t2:=Tryz.underlying2
 a2:=Tryz.isAgg2
 z2:=Tryz.sizeOf2
 v2:=Tryz.zeroValue2
 t3:=Tryz.underlying3
 a3:=Tryz.isAgg3
 z3:=Tryz.sizeOf3
 v3:=Tryz.zeroValue3
 t4:=Tryz.underlying4
 a4:=Tryz.isAgg4
 z4:=Tryz.sizeOf4
 v4:=Tryz.zeroValue4
 t5:=Tryz.underlying5
 a5:=Tryz.isAgg5
 z5:=Tryz.sizeOf5
 v5:=Tryz.zeroValue5
 t9:=Tryz.underlying9
 a9:=Tryz.isAgg9
 z9:=Tryz.sizeOf9
 v9:=Tryz.zeroValue9
 t20:=Tryz.underlying20
 a20:=Tryz.isAgg20
 z20:=Tryz.sizeOf20
 v20:=Tryz.zeroValue20
 t21:=Tryz.underlying21
 a21:=Tryz.isAgg21
 z21:=Tryz.sizeOf21
 v21:=Tryz.zeroValue21
 t37:=Tryz.underlying22
 a37:=Tryz.isAgg22
 z37:=Tryz.sizeOf22
 v37:=Tryz.zeroValue22
 t46:=Tryz.underlying122
 a46:=Tryz.isAgg122
 z46:=Tryz.sizeOf122
 v46:=Tryz.zeroValue122
 t51:=Tryz.underlying177
 a51:=Tryz.isAgg177
 z51:=Tryz.sizeOf177
 v51:=Tryz.zeroValue177
 t53:=Tryz.underlying180
 a53:=Tryz.isAgg180
 z53:=Tryz.sizeOf180
 v53:=Tryz.zeroValue180
 t75:=Tryz.underlying51
 a75:=Tryz.isAgg51
 z75:=Tryz.sizeOf51
 v75:=Tryz.zeroValue51
 t76:=Tryz.underlying52
 a76:=Tryz.isAgg52
 z76:=Tryz.sizeOf52
 v76:=Tryz.zeroValue52
 t85:=Tryz.underlying201
 a85:=Tryz.isAgg201
 z85:=Tryz.sizeOf201
 v85:=Tryz.zeroValue201
 t127:=Tryz.underlying80
 a127:=Tryz.isAgg80
 z127:=Tryz.sizeOf80
 v127:=Tryz.zeroValue80
 t143:=Tryz.underlying246
 a143:=Tryz.isAgg246
 z143:=Tryz.sizeOf246
 v143:=Tryz.zeroValue246
 t145:=Tryz.underlying248
 a145:=Tryz.isAgg248
 z145:=Tryz.sizeOf248
 v145:=Tryz.zeroValue248
 t167:=Tryz.underlying200
 a167:=Tryz.isAgg200
 z167:=Tryz.sizeOf200
 v167:=Tryz.zeroValue200
 t168:=Tryz.underlying203
 a168:=Tryz.isAgg203
 z168:=Tryz.sizeOf203
 v168:=Tryz.zeroValue203
 t171:=Tryz.underlying211
 a171:=Tryz.isAgg211
 z171:=Tryz.sizeOf211
 v171:=Tryz.zeroValue211
 t173:=Tryz.underlying213
 a173:=Tryz.isAgg213
 z173:=Tryz.sizeOf213
 v173:=Tryz.zeroValue213
 t175:=Tryz.underlying227
 a175:=Tryz.isAgg227
 z175:=Tryz.sizeOf227
 v175:=Tryz.zeroValue227
 t210:=Tryz.underlying230
 a210:=Tryz.isAgg230
 z210:=Tryz.sizeOf230
 v210:=Tryz.zeroValue230
 t212:=Tryz.underlying237
 a212:=Tryz.isAgg237
 z212:=Tryz.sizeOf237
 v212:=Tryz.zeroValue237
 t213:=Tryz.underlying238
 a213:=Tryz.isAgg238
 z213:=Tryz.sizeOf238
 t232:=Tryz.underlying225
 a232:=Tryz.isAgg225
 z232:=Tryz.sizeOf225
 v232:=Tryz.zeroValue225
 t233:=Tryz.underlying226
 a233:=Tryz.isAgg226
 z233:=Tryz.sizeOf226
 v233:=Tryz.zeroValue226
 g15:=by kernel_rfl
 g16:=by kernel_rfl
 g17:=by kernel_rfl
 g18:=by kernel_rfl
 g19:=by kernel_rfl
 t80:=Tryz.underlying54
 a80:=Tryz.isAgg54
 z80:=Tryz.sizeOf54
 v80:=Tryz.zeroValue54
 i0:=by kernel_rfl
 i2:=by kernel_rfl
 i3:=by kernel_rfl
 i4:=by kernel_rfl
 i5:=by kernel_rfl
 i9:=by kernel_rfl
 i20:=by kernel_rfl
 i21:=by kernel_rfl
 i37:=by kernel_rfl
 i46:=by kernel_rfl
 i51:=by kernel_rfl
 i53:=by kernel_rfl
 i75:=by kernel_rfl
 i76:=by kernel_rfl
 i80:=by kernel_rfl
 i85:=by kernel_rfl
 i127:=by kernel_rfl
 i143:=by kernel_rfl
 i145:=by kernel_rfl
 i167:=by kernel_rfl
 i168:=by kernel_rfl
 i171:=by kernel_rfl
 i173:=by kernel_rfl
 i175:=by kernel_rfl
 i210:=by kernel_rfl
 i212:=by kernel_rfl
 i232:=by kernel_rfl
 i233:=by kernel_rfl
 m15:=by kernel_rfl
 m16:=by kernel_rfl
 m17:=by kernel_rfl
 m18:=by kernel_rfl
 m19:=by kernel_rfl
 c0:=by kernel_rfl
 c2:=by kernel_rfl
 c3:=by kernel_rfl
 c4:=by kernel_rfl
 c5:=by kernel_rfl
 c9:=by kernel_rfl
 c20:=by kernel_rfl
 c21:=by kernel_rfl
 c37:=by kernel_rfl
 c46:=by kernel_rfl
 c51:=by kernel_rfl
 c53:=by kernel_rfl
 c75:=by kernel_rfl
 c76:=by kernel_rfl
 c80:=by kernel_rfl
 c85:=by kernel_rfl
 c127:=by kernel_rfl
 c143:=by kernel_rfl
 c145:=by kernel_rfl
 c167:=by kernel_rfl
 c168:=by kernel_rfl
 c171:=by kernel_rfl
 c173:=by kernel_rfl
 c175:=by kernel_rfl
 c210:=by kernel_rfl
 c212:=by kernel_rfl
 c213:=by kernel_rfl
 c232:=by kernel_rfl
 c233:=by kernel_rfl }
end Go.Proofs.YtjpnjchpdkogbaaGreatDoor
namespace Go.Proofs.YtjpnjchpdkogbaaGreatDoor
open Go.RowKit Go.Shelf
def ErrAt (w:World)(g:Nat):Prop:=∃ ev,w.cell? ⟨g,0,none⟩=some ev/\(ev = .nilIface \/ ∃ te pe,ev = .iface te pe)
theorem ErrAt.below {w w':World}{g:Nat}(h:ErrAt w g)(hb:Below w.heap.size w w'):ErrAt w' g:=by
 obtain ⟨ev,h1,h2⟩:=h
 exact ⟨ev,(hb.cell (p:=⟨g,0,none⟩) (World.block_lt_of_cell? _ _ h1)).trans h1,h2⟩
def Errs (w:World):Prop:=ErrAt w (Tryz.laysC172_ren.g 15)/\ErrAt w (Tryz.laysC172_ren.g 16)
theorem Errs.below {w w':World}(h:Errs w)(hb:Below w.heap.size w w'):Errs w':=⟨h.1.below hb,h.2.below hb⟩
def zab (s:ByteArray):Option Int:=match Lib.atoiAll s.data.toList with
 | .ok v=>if itoL v=s.data.toList then some v else none
 | _=>none
theorem zq5 {s:ByteArray}{v:Int}(h:Lib.atoiAll s.data.toList = .ok v):zab s=if itoL v=s.data.toList then some v else none:=by unfold zab;rw [h]
theorem zg4 (s:ByteArray)(hs:s.size<=281474976710656)(w:World)(hE:Errs w)(hP:Pow w) :
  Calls Tryz.prog 96 #[.string s] w fun e w'=>e = .returned (.tuple #[.int .i64 ((zab s).getD 0),.bool (zab s).isSome])/\Below w.heap.size w w':=by
 cases ha:Lib.atoiAll s.data.toList with
 | ok v =>
  obtain ⟨vb0,vb1⟩:=Lib.atoiAll_bounds ha
  have hf:Fits v:=⟨by omega,by omega⟩
  have HA:=Zh (Any.strconv_Atoi_ok Tryz.laysC172 s (by omega) v ha w)
  have HF:=Zh (fun V (hV:Pow V)=>zbq v hf V hV)
  have HP:=Zh hP
  have HV:=Zh (zq5 ha)
  generalize zab s=pv at HV ⊢
  clear ha hE hP vb0 vb1 hf
  have HEQ:=Zh (show ((mkS (itoL v)).toList==s.toList)=decide (itoL v=s.data.toList) by
   rw [Lib.toList_data,Lib.toList_data,show (mkS (itoL v)).data.toList=itoL v from za9 _]
   by_cases h:itoL v=s.data.toList
   ·rw [h];simp
   ·rw [decide_eq_false h,beq_eq_false_iff_ne];exact h)
  generalize mkS (itoL v)=X at HF HEQ
  by_cases hc:itoL v=s.data.toList
  ·have hpv:=HV.o
   rw [if_pos hc] at hpv
   subst hpv
   have heq:=HEQ.o
   rw [decide_eq_true hc] at heq
   clear hc
   go_enter Tryz.func96,Tryz.ntmps96
   go_wp2_with fail
   refine HA.o.mono ?_
   rintro e w1 ⟨rfl,hw1⟩
   have hb1:Below w.heap.size w w1:=by
    rcases hw1 with rfl | ⟨t,rfl⟩
    ·exact Below.refl _ _
    ·exact Go.Joins.below_bytesWorld _ _ _ _ (Nat.le_refl _)
   clear hw1
   go_wp2_with fail
   refine (HF.o _ (HP.o.below hb1)).mono ?_
   rintro e w2 ⟨rfl,hb2⟩
   go_wp2_with fail
   go_ret2
   exact ⟨rfl,hb1.trans (hb2.mono hb1.size)⟩
  ·have hpv:=HV.o
   rw [if_neg hc] at hpv
   subst hpv
   have heq:=HEQ.o
   rw [decide_eq_false hc] at heq
   clear hc
   go_enter Tryz.func96,Tryz.ntmps96
   go_wp2_with fail
   refine HA.o.mono ?_
   rintro e w1 ⟨rfl,hw1⟩
   have hb1:Below w.heap.size w w1:=by
    rcases hw1 with rfl | ⟨t,rfl⟩
    ·exact Below.refl _ _
    ·exact Go.Joins.below_bytesWorld _ _ _ _ (Nat.le_refl _)
   clear hw1
   go_wp2_with fail
   refine (HF.o _ (HP.o.below hb1)).mono ?_
   rintro e w2 ⟨rfl,hb2⟩
   go_wp2_with fail
   go_ret2
   exact ⟨rfl,hb1.trans (hb2.mono hb1.size)⟩
 | range =>
  obtain ⟨ev,h1,h2⟩:=hE.2
  have HA:=Zh (Any.strconv_Atoi_range Tryz.laysC172 s hs ha ev w h1 h2)
  have HV:=Zh (show zab s=none by unfold zab;rw [ha])
  clear ha hE hP h1 h2
  go_enter Tryz.func96,Tryz.ntmps96
  go_wp2_with fail
  refine HA.o.mono ?_
  rintro e w1 ⟨N,rfl,_,_,hb1⟩
  go_wp2_with fail
  go_ret2
  exact ⟨by rw [HV.o];rfl,hb1⟩
 | _ =>
  obtain ⟨ev,h1,h2⟩:=hE.1
  have HA:=Zh (Any.strconv_Atoi_syntax Tryz.laysC172 s hs ha ev w h1 h2)
  have HV:=Zh (show zab s=none by unfold zab;rw [ha])
  clear ha hE hP h1 h2
  go_enter Tryz.func96,Tryz.ntmps96
  go_wp2_with fail
  refine HA.o.mono ?_
  rintro e w1 ⟨N,rfl,_,_,hb1⟩
  go_wp2_with fail
  go_ret2
  exact ⟨by rw [HV.o];rfl,hb1⟩
end Go.Proofs.YtjpnjchpdkogbaaGreatDoor
namespace Go.Proofs.YtjpnjchpdkogbaaGreatDoor
open Go.RowKit Go.Shelf
def digB (c:UInt8):Bool:=decide (48<=c.toNat/\c.toNat<=57)
theorem ze7 {c:UInt8} : digB c=true ↔ 48<=c.toNat/\c.toNat<=57:=by unfold digB;simp
def decV (acc:Nat)(l:List UInt8):Nat:=l.foldl (fun a c=>a*10+(c.toNat-48)) acc
theorem zg5 (acc:Nat)(c:UInt8)(l:List UInt8):decV acc (c::l)=decV (acc*10+(c.toNat-48)) l:=by unfold decV;rw [List.foldl_cons]
theorem zq6 (acc:Nat)(l:List UInt8)(c:UInt8):decV acc (l++[c])=decV acc l*10+(c.toNat-48):=by unfold decV;rw [List.foldl_append,List.foldl_cons,List.foldl_nil]
theorem zko : ∀ (l:List UInt8) (acc:Nat),acc<=decV acc l
 | [],acc=>Nat.le_refl _
 | c::l,acc=>by
  have:=zko l (acc*10+(c.toNat-48))
  rw [zg5];omega
theorem zq7 (l:List UInt8) : ∀ (acc:Nat),(∀ c∈l,digB c=true)->decV acc l<18446744073709551616->Lib.parseUint10 acc l = .ok (decV acc l):=by
 induction l with
 | nil=>intro acc _ _;rfl
 | cons c l ih =>
  intro acc hd h
  have h1:=ze7.1 (hd c (by simp))
  rw [zg5] at h
  have h2:=zko l (acc*10+(c.toNat-48))
  simp only [Lib.parseUint10]
  split
  ·split
   ·exfalso;omega
   ·split
    ·exfalso;omega
    ·rw [zg5];exact ih _ (fun c hc=>hd c (by simp [hc])) h
  ·exact absurd h1 (by assumption)
theorem zq8 : ∀ (m k:Nat),k<=m->(∀ c∈Lib.decDigits k,digB c=true)/\decV 0 (Lib.decDigits k)=k/\Lib.decDigits k≠[]:=by
 intro m
 induction m with
 | zero =>
  intro k hk
  have:k=0:=by omega
  subst this
  rw [zdb (by decide)]
  decide
 | succ m ih =>
  intro k hk
  have hv : ∀ r,r<10->(UInt8.ofNat (48+r)).toNat=48+r:=fun r hr=>by rw [UInt8.toNat_ofNat'];omega
  by_cases h:k<10
  ·rw [zdb h]
   refine ⟨fun c hc=>?_,?_,by simp⟩
   ·rw [List.mem_singleton.1 hc,ze7,hv k h];omega
   ·show 0*10+((UInt8.ofNat (48+k)).toNat-48)=k
    rw [hv k h];omega
  ·rw [zg0 h]
   obtain ⟨h1,h2,_⟩:=ih (k / 10) (by omega)
   have hm:k % 10<10:=Nat.mod_lt _ (by decide)
   refine ⟨fun c hc=>?_,?_,by simp⟩
   ·rcases List.mem_append.1 hc with hc | hc
    ·exact h1 c hc
    ·rw [List.mem_singleton.1 hc,ze7,hv _ hm];omega
   ·rw [zq6,h2,hv _ hm];omega
theorem zdq (k:Nat):(∀ c∈Lib.decDigits k,digB c=true)/\decV 0 (Lib.decDigits k)=k/\Lib.decDigits k≠[]:=zq8 k k (Nat.le_refl _)
theorem zkp {l:List UInt8}(hd : ∀ c∈l,digB c=true)(h0:l≠[])(h:decV 0 l<18446744073709551616):Lib.parseMag l = .ok (decV 0 l):=by
 unfold Lib.parseMag
 rw [if_neg h0]
 exact zq7 l 0 hd h
theorem zq9 (N:Nat) : ∃ c r,itoL (N:Int)=c::r/\c.toNat≠43/\c.toNat≠45:=by
 rw [zco]
 obtain ⟨h1,_,h3⟩:=zdq N
 cases h:Lib.decDigits N with
 | nil=>exact absurd h h3
 | cons c r =>
  have:=ze7.1 (h1 c (by rw [h];simp))
  exact ⟨c,r,rfl,by omega,by omega⟩
theorem zg6 (v:Int)(hf:Fits v):Lib.atoiAll (itoL v) = .ok v:=by
 unfold Fits at hf
 by_cases h0:0<=v
 ·obtain ⟨N,rfl⟩:=Int.eq_ofNat_of_zero_le h0
  obtain ⟨c,r,e,h43,h45⟩:=zq9 N
  obtain ⟨h1,h2,h3⟩:=zdq N
  rw [e,Lib.atoiAll_plain c r h43 h45,<- e,zco,zkp h1 h3 (by rw [h2];omega),h2]
  unfold Lib.signless
  simp only
  rw [if_neg (by omega)]
 ·obtain ⟨N,hN⟩:=Int.eq_ofNat_of_zero_le (show 0 <= -v by omega)
  obtain rfl:v = -(N:Int):=by omega
  obtain ⟨h1,h2,h3⟩:=zdq N
  rw [ze5 N (by omega),Lib.atoiAll_minus,zkp h1 h3 (by rw [h2];omega),h2]
  unfold Lib.signed
  simp only
  rw [if_neg (by omega)]
theorem zkq (s:ByteArray)(v:Int):zab s=some v ↔ Fits v/\itoL v=s.data.toList:=by
 constructor
 ·intro h
  unfold zab at h
  cases ha:Lib.atoiAll s.data.toList with
  | ok u =>
   rw [ha] at h
   simp only at h
   by_cases hc:itoL u=s.data.toList
   ·rw [if_pos hc] at h
    injection h with h
    subst h
    exact ⟨Lib.atoiAll_bounds ha,hc⟩
   ·rw [if_neg hc] at h;cases h
  | _=>rw [ha] at h;cases h
 ·rintro ⟨hf,hc⟩
  unfold zab
  rw [<- hc,zg6 v hf]
  simp
end Go.Proofs.YtjpnjchpdkogbaaGreatDoor
namespace Go.Proofs.YtjpnjchpdkogbaaGreatDoor
open Go.RowKit Go.Shelf
end Go.Proofs.YtjpnjchpdkogbaaGreatDoor
namespace Go.Proofs.YtjpnjchpdkogbaaGreatDoor
open Go.RowKit
def numF:List ByteArray->List Int->Option (List Int)
 | [],acc=>some acc
 | u::r,acc=>match zab u with
  | none=>none
  | some v=>if acc.length=64 then none else numF r (acc++[v])
theorem zra {u:ByteArray}(r:List ByteArray)(acc:List Int)(h:zab u=none):numF (u::r) acc=none:=by rw [numF,h]
theorem zrb {u:ByteArray}(r:List ByteArray){acc:List Int}{v:Int}(h:zab u=some v)(hl:acc.length=64):numF (u::r) acc=none:=by rw [numF,h];exact if_pos hl
theorem zrc {u:ByteArray}(r:List ByteArray){acc:List Int}{v:Int}(h:zab u=some v)(hl : ¬ acc.length=64):numF (u::r) acc=numF r (acc++[v]):=by rw [numF,h];exact if_neg hl
def zal (s:ByteArray):Option (List Int):=if s.data.toList=[45] then some [] else numF (splT 44 s) []
theorem zrd {s:ByteArray}(h:s.data.toList=[45]):zal s=some []:=if_pos h
theorem zre {s:ByteArray}(h : ¬ s.data.toList=[45]):zal s=numF (splT 44 s) []:=if_neg h
theorem OwnTx.read {w:World}{base cap:Nat}{A:Option Addr}{us:List ByteArray}(h:OwnTx w base (.slice A us.length cap) us)(h0:0<us.length) : ∃ g,A=some ⟨g,0,none⟩/\base<=g/\g<w.heap.size /\ ∀ i,i<us.length->w.cell? ⟨g,i,none⟩=some (.string (us.getD i ⟨#[]⟩)):=by
 rcases h.2 with ⟨hv,h1⟩ | ⟨g,cap',cur,hv,hg,hh,hnc,hm,hsz,hxs⟩
 ·omega
 ·have hA:A=some ⟨g,0,none⟩:=by injection hv
  subst hA
  refine ⟨g,rfl,hg,(h.lt g rfl).2,fun i hi=>?_⟩
  have:=World.ownsRow.cells h (g:=g) rfl i (.string (us.getD i ⟨#[]⟩)) (by rw [List.getElem?_map,List.getElem?_eq_getElem hi];simp [List.getD_eq_getElem?_getD,hi])
  rwa [Go.WideShapes.add_plain,Nat.zero_add] at this
theorem zkr {w:World}{base base':Nat}{v:Value}{xs:List Int}(h:OwnI w base v xs)(hb:base'<=base):OwnI w base' v xs :=
 ⟨h.1,by
  rcases h.2 with h0 | ⟨g,cap,cur,e,hg,rest⟩
  ·exact .inl h0
  ·exact .inr ⟨g,cap,cur,e,by omega,rest⟩⟩
end Go.Proofs.YtjpnjchpdkogbaaGreatDoor
namespace Go.Proofs.YtjpnjchpdkogbaaGreatDoor
open Go.Shelf
def Tryz.lays156_ren:Go.Shelf.Ren:=⟨fun | 156=>18 | 165=>83 | 166=>16 | 169=>17 | 240=>82 | 241=>145 | 276=>144 | 277=>194 | n=>n,fun | 31=>23 | 9=>9 | 3=>3 | 4=>4 | 0=>0 | 20=>20 | 72=>49 | 76=>52 | 70=>47 | 37=>22 | 75=>51 | 127=>80 | 164=>120 | 5=>5 | 80=>54 | n=>n,fun | n=>n⟩
theorem Tryz.lays156:Go.Proofs.Lays.n156 Tryz.prog Tryz.lays156_ren:={
 mixed:=by kernel_rfl
 f156:=Tryz.func18.trans (congrArg some (by kernel_rfl))
 f165:=Tryz.func83.trans (congrArg some (by kernel_rfl))
 f166:=Tryz.func16.trans (congrArg some (by kernel_rfl))
 f169:=Tryz.func17.trans (congrArg some (by kernel_rfl))
 f240:=Tryz.func82.trans (congrArg some (by kernel_rfl))
 f241:=Tryz.func145.trans (congrArg some (by kernel_rfl))
 f276:=Tryz.func144.trans (congrArg some (by kernel_rfl))
 f277:=Tryz.func194.trans (congrArg some (by kernel_rfl))
 t0:=Tryz.underlying0
 a0:=Tryz.isAgg0
 z0:=Tryz.sizeOf0
 v0:=Tryz.zeroValue0
 t3:=Tryz.underlying3
 a3:=Tryz.isAgg3
 z3:=Tryz.sizeOf3
 v3:=Tryz.zeroValue3
 t4:=Tryz.underlying4
 a4:=Tryz.isAgg4
 z4:=Tryz.sizeOf4
 v4:=Tryz.zeroValue4
 t9:=Tryz.underlying9
 a9:=Tryz.isAgg9
 z9:=Tryz.sizeOf9
 v9:=Tryz.zeroValue9
 t20:=Tryz.underlying20
 a20:=Tryz.isAgg20
 z20:=Tryz.sizeOf20
 v20:=Tryz.zeroValue20
 t31:=Tryz.underlying23
 a31:=Tryz.isAgg23
 z31:=Tryz.sizeOf23
 v31:=Tryz.zeroValue23
 t37:=Tryz.underlying22
 a37:=Tryz.isAgg22
 z37:=Tryz.sizeOf22
 v37:=Tryz.zeroValue22
 t70:=Tryz.underlying47
 a70:=Tryz.isAgg47
 z70:=Tryz.sizeOf47
 v70:=Tryz.zeroValue47
 t72:=Tryz.underlying49
 a72:=Tryz.isAgg49
 z72:=Tryz.sizeOf49
 v72:=Tryz.zeroValue49
 t75:=Tryz.underlying51
 a75:=Tryz.isAgg51
 z75:=Tryz.sizeOf51
 v75:=Tryz.zeroValue51
 t76:=Tryz.underlying52
 a76:=Tryz.isAgg52
 z76:=Tryz.sizeOf52
 v76:=Tryz.zeroValue52
 t127:=Tryz.underlying80
 a127:=Tryz.isAgg80
 z127:=Tryz.sizeOf80
 v127:=Tryz.zeroValue80
 t164:=Tryz.underlying120
 a164:=Tryz.isAgg120
 z164:=Tryz.sizeOf120
 v164:=Tryz.zeroValue120 }
theorem Tryz.bx156:Go.Proofs.Builder.Extra Tryz.prog Tryz.lays156_ren:={
 sizeBuilder:=by kernel_rfl
 liesBuilder:=by kernel_rfl
 t5:=Tryz.underlying5
 a5:=Tryz.isAgg5
 z5:=Tryz.sizeOf5
 v5:=Tryz.zeroValue5
 infoByte:=by kernel_rfl
 cellsByte:=by kernel_rfl
 sizeByte:=by kernel_rfl
 neB5:=by decide }
end Go.Proofs.YtjpnjchpdkogbaaGreatDoor
