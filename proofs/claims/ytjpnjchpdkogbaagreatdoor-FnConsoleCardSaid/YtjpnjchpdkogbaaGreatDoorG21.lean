/- Parts of the proof of the card of the law FnConsole. -/
import Derived.Test.YtjpnjchpdkogbaaGreatDoorText
import Derived.Test.YtjpnjchpdkogbaaGreatDoorG20
import Derived.WalkLawsBesides
import Derived.Test.YtjpnjchpdkogbaaGreatDoorG04
import Derived.Test.YtjpnjchpdkogbaaGreatDoorStrs
import Derived.Test.YtjpnjchpdkogbaaGreatDoorChecked
import Derived.Shelf.Sort.Plain
import Derived.Shelf.Slices.CompactS
import Derived.Shelf.Slices.ReverseS
import Derived.Lib.RowBridge
import Derived.Test.YtjpnjchpdkogbaaGreatDoorG03
import Derived.Test.YtjpnjchpdkogbaaGreatDoorG01
import Derived.Test.YtjpnjchpdkogbaaGreatDoorOwn
import Derived.Deep.LoopGhost
set_option linter.unusedVariables false
set_option linter.unusedSimpArgs false
set_option maxRecDepth 100000
set_option maxHeartbeats 2000000
namespace Go.Proofs.YtjpnjchpdkogbaaGreatDoor
open Go.RowKit Go.Shelf
theorem zzh (s:ByteArray)(c:Nat)(w:World)(hc:c<=9223372036854775807)(hlen:s.size*c<=140737488355328) :
  Calls Tryz.prog 236 #[.string s,.int .i64 c] w fun e w'=>e = .returned (.string ⟨(Lib.repeatL s.data.toList c).toArray⟩)/\Below w.heap.size w w':=Any.strings_Repeat Tryz.lays105 Tryz.bx105 s c w hc hlen
theorem zzi (N:Nat)(A:Option Addr)(cap:Nat)(bs:List Int)(p k:Nat)(w:World)(hA:Ints w w.heap.size A bs)(hok:RhOk N bs)(hp:p<=1000)(hk:k<=1000) :
  Calls Tryz.prog 189 #[.agg #[.int .i64 N,.slice A bs.length cap],.int .i64 p,.int .i64 k] w fun e w'=>e = .returned (.string (mkS (winL N bs p k)))/\Below w.heap.size w w':=by
 have hn1:1<=N:=by have:=hok.1;omega
 have hn2:N<=24:=by have:=hok.2.1;omega
 have HTX:=Zh (fun (V:World) (hV:Ints V V.heap.size A bs)=>zdg N A cap bs V hV hok)
 have HA:=Zh hA
 clear hA hok
 rw [ztx] at HTX
 obtain ⟨q,hq⟩ : ∃ q:Nat,(p+k) / N=q:=⟨_,rfl⟩
 have hq':=hq
 have hq1:q<=2000:=by rw [<- hq];exact Nat.le_trans (Nat.div_le_self _ _) (by omega)
 have hq2:p+k<=(q+1)*N:=by
  have h1:=Nat.div_add_mod (p+k) N
  have h2:=Nat.mod_lt (p+k) (show N > 0 by omega)
  rw [hq] at h1
  rw [Nat.add_mul,Nat.one_mul,Nat.mul_comm q]
  omega
 have hcut:=zzg N bs p k (q+1) (by omega) hq2
 have hTl:(winL N bs 0 N).length=N:=ze8 _ _ _ _
 obtain ⟨T,hT⟩ : ∃ T,winL N bs 0 N=T:=⟨_,rfl⟩
 rw [hT] at HTX hcut hTl
 have hRl:(Lib.repeatL T (q+1)).length=(q+1)*N:=by rw [Lib.repeatL_length,hTl]
 have hprod:(q+1)*N<=2001*24:=Nat.mul_le_mul (by omega) hn2
 have hrp:=fun V:World=>zzh (mkS T) (q+1) V (by omega) (by rw [za2,hTl,Nat.mul_comm];omega)
 rw [za9 T] at hrp
 obtain ⟨S,hS⟩ : ∃ S,mkS (Lib.repeatL T (q+1))=S:=⟨_,rfl⟩
 have hSs:S.size=(q+1)*N:=by rw [<- hS,za2,hRl]
 have hres:S.extract p (p+k)=mkS (winL N bs p k):=by
  refine Str.eq ?_
  unfold Str
  rw [Lib.extract_data,<- hS,za9,Nat.add_sub_cancel_left]
  exact hcut
 rw [show (⟨(Lib.repeatL T (q+1)).toArray⟩:ByteArray)=S from hS,show ((q+1:Nat):Int)=(q:Int)+1 by omega] at hrp
 have HRP:=Zh hrp
 have HRES:=Zh hres
 have hcS:(p:Int)+k<=(S.size:Int):=by omega
 have hSb:S.size<=48024:=by omega
 have hw1:IntKind.i64.wrap ((p:Int)+k)=(p:Int)+k:=i64w (by omega)
 have hw0:(0:Int)<=(p:Int)+k:=by omega
 have hN0:((N:Int)=0)=False:=by simp;omega
 have hN00:(N=0)=False:=by simp;omega
 have hdv:Int.tdiv ((p:Int)+k) N=(q:Int):=by rw [Int.tdiv_eq_ediv_of_nonneg hw0,<- hq',Int.natCast_ediv,Int.natCast_add]
 have hdv2:((p:Int)+k) / N=(q:Int):=by rw [<- hq',Int.natCast_ediv,Int.natCast_add]
 have hw2:IntKind.i64.wrap (q:Int)=q:=i64w (by omega)
 have hw3:IntKind.i64.wrap ((q:Int)+1)=(q:Int)+1:=i64w (by omega)
 have hpk:(p:Int)<=(p:Int)+k:=by omega
 clear hq hq' hq2 hcut hTl hT hRl hprod hrp hS hSs hres
 have HW:=Zh ((Below.refl w.heap.size w).alloc (Nat.le_refl _) (.cells #[.int .i64 N,.slice A bs.length cap] 27))
 obtain ⟨c0,c1⟩:=box2 (Below.refl (w.heap.size+1) (w.alloc (.cells #[.int .i64 N,.slice A bs.length cap] 27)))
 go_enter Tryz.func189,Tryz.ntmps189
 go_wp2_with fail
 (refine wp_region_held_drew (S:=(fun w'=>w'.cell? ⟨w.heap.size,0,none⟩=some (.int .i64 N)/\w'.cell? ⟨w.heap.size,1,none⟩=some (.slice A bs.length cap))) (by kernel_rfl) ?_ (fun hHeld=>?_);(focus ((try dsimp only);exact ⟨c0,c1⟩)))
 (refine Zk 0 ?_;(try simp only [Act.put,Zz]))
 (refine Zk 2 ?_;(try simp only [Act.put,Zz]))
 (refine Zk 3 ?_;(try simp only [Act.put,Zz]))
 (refine Zk 4 ?_;(try simp only [Act.put,Zz]))
 (refine Zk 5 ?_;(try simp only [Act.put,Zz]))
 (refine Zk 6 ?_;(try simp only [Act.put,Zz]))
 (refine Zk 7 ?_;(try simp only [Act.put,Zz]))
 (refine Zk 8 ?_;(try simp only [Act.put,Zz]))
 (refine Zk 10 ?_;(try simp only [Act.put,Zz]))
 (refine Zk 11 ?_;(try simp only [Act.put,Zz]))
 (refine Zk 12 ?_;(try simp only [Act.put,Zz]))
 (refine Zk 13 ?_;(try simp only [Act.put,Zz]))
 clear hw1 hw2 hw3 hdv hdv2
 (refine wpAnyH_ready (rs:=[1]) (by kernel_rfl) (by simp) ?_;refine AllReadyH.cons rfl (fun K hK=>?_) AllReadyH.nil;go_simp)
 go_at_call 112
 refine (HTX.o _ (HA.o.lift HW.o).drew2_).mono ?_
 rintro e w1 ⟨rfl,hb1⟩
 go_wp2_with fail
 have hcc:=(zb3 hb1).1
 (refine hK.out _ _ ?_ fun hHeld2=>?_;(focus ((try dsimp only);exact ⟨(hcc _ _ (by simp)).trans c0,(hcc _ _ (by simp)).trans c1⟩));(clear hK K);(try simp only [Act.put,Zz]))
 (refine wpAnyH_ready (rs:=[9]) (by kernel_rfl) (by simp) ?_;refine AllReadyH.cons rfl (fun K hK=>?_) AllReadyH.nil;go_simp)
 go_at_call 236
 refine (HRP.o _).mono ?_
 rintro e w2 ⟨rfl,hb2⟩
 go_wp2_with fail
 have hcc2:=(zb3 (hb1.trans (hb2.mono hb1.size))).1
 (refine hK.out _ _ ?_ fun hHeld2=>?_;(focus ((try dsimp only);exact ⟨(hcc2 _ _ (by simp)).trans c0,(hcc2 _ _ (by simp)).trans c1⟩));(clear hK K);(try simp only [Act.put,Zz]))
 (refine Zk 14 ?_;(try simp only [Act.put,Zz]))
 (refine Zk 15 ?_;(try simp only [Act.put,Zz]))
 refine wpAnyH_done (by kernel_rfl) ?_ _
 go_wp2_with fail
 go_ret
 refine ⟨zbw HRES.o,(show Below w.heap.size w _ from ⟨HW.o.os,HW.o.tape,HW.o.output,HW.o.size,HW.o.block⟩:Below w.heap.size w (w.alloc (.cells #[.int .i64 N,.slice A bs.length cap] 27)).drew).trans ((hb1.mono (by simp)).trans (hb2.mono (by have:=hb1.size;simp at this;omega)))⟩
end Go.Proofs.YtjpnjchpdkogbaaGreatDoor
namespace Go.Proofs.YtjpnjchpdkogbaaGreatDoor
theorem zzj (a b:List UInt8):(decide (a<=b) || decide (b<=a))=true:=by
 rcases Std.le_total (a:=a) (b:=b) with h | h <;> simp [h]
theorem zzk (a b c:List UInt8):decide (a<=b)=true->decide (b<=c)=true->decide (a<=c)=true:=by
 simp only [decide_eq_true_eq]
 exact fun h h'=>Std.le_trans h h'
theorem zzl {a b:List UInt8}(h:decide (a<=b)=true):a=b\/ltL a b=true:=by
 by_cases e:a=b
 ·exact .inl e
 ·right
  rw [decide_eq_true_eq] at h
  cases hlt:ltL a b
  ·have:=zkx hlt e
   unfold ltL at this
   rw [decide_eq_true_eq] at this
   exact absurd h (List.not_le.2 this)
  ·rfl
theorem zzm (l:List (List UInt8)):DescL (Lib.compact (l.mergeSort fun x y=>decide (x<=y))).reverse /\ ∀ x,x∈(Lib.compact (l.mergeSort fun x y=>decide (x<=y))).reverse ↔ x∈l:=by
 have hs:(l.mergeSort fun x y=>decide (x<=y)).Pairwise (fun a b=>a=b\/ltL a b=true) :=
  List.Pairwise.imp (fun {a b} h=>zzl h) (List.pairwise_mergeSort zzk zzj l)
 obtain ⟨h1,h2⟩:=zk8 ltL (fun a b c=>zhb) _ hs
 refine ⟨?_,fun x=>?_⟩
 ·unfold DescL
  rw [List.pairwise_reverse]
  exact h1
 ·rw [List.mem_reverse,h2,List.mem_mergeSort]
def zbp (n:Int)(bs:List Int)(k m:Nat):List (List UInt8):=(List.range m).map (fun p=>winL n bs p k)
theorem zzn (n:Int)(bs:List Int)(k m:Nat):zbp n bs k (m+1)=zbp n bs k m++[winL n bs m k]:=by simp [zbp,List.range_succ]
theorem zzo (n:Int)(bs:List Int)(k m:Nat):(zbp n bs k m).length=m:=by simp [zbp]
theorem zzp (n:Int)(bs:List Int)(k m:Nat):(Lib.compact ((zbp n bs k m).mergeSort fun x y=>decide (x<=y))).reverse=allD n bs k m:=by
 obtain ⟨h1,h2⟩:=zzm (zbp n bs k m)
 refine DescL.unique h1 (zk1 n bs k m) (fun x=>?_)
 rw [h2,zk0]
 unfold zbp
 rw [List.mem_map]
 simp only [List.mem_range]
end Go.Proofs.YtjpnjchpdkogbaaGreatDoor
namespace Go.Proofs.YtjpnjchpdkogbaaGreatDoor
open Go.RowKit
def zzq (w:World)(L:List Txt)(e:Ending)(w':World):Prop:=∃ v,e = .returned v/\OwnS w' w.heap.size v L/\Below w.heap.size w w'
theorem OwnS.pos {w:World}{base:Nat}{v:Value}{xs:List Txt}(h:OwnS w base v xs)(hp:0<xs.length) : ∃ g c,v = .slice (some ⟨g,0,none⟩) xs.length c/\xs.length<=c/\c<=maxLen/\base<=g/\g<w.heap.size:=by
 rcases h.2 with ⟨rfl,h0⟩ | ⟨g,cap,cur,rfl,hg,hh,hnc,hm,_⟩
 ·omega
 ·exact ⟨g,cap,rfl,hnc,hm,hg,(Array.getElem?_eq_some_iff.1 hh).1⟩
end Go.Proofs.YtjpnjchpdkogbaaGreatDoor
namespace Go.Proofs.YtjpnjchpdkogbaaGreatDoor
open Go.Shelf
def Tryz.lays190_ren:Go.Shelf.Ren:=⟨fun | 190=>190 | 125=>238 | 258=>237 | 128=>284 | 129=>285 | 302=>275 | 303=>276 | 304=>277 | 305=>278 | 306=>279 | 307=>280 | 308=>281 | 309=>282 | 310=>283 | 333=>308 | 329=>309 | 330=>310 | 334=>311 | 335=>312 | 336=>313 | 344=>321 | n=>n,fun | 31=>23 | 9=>9 | 3=>3 | 46=>122 | 0=>0 | 51=>177 | 53=>180 | 4=>4 | 183=>218 | 182=>217 | 131=>92 | 5=>5 | 218=>239 | 222=>243 | 228=>251 | 229=>159 | n=>n,fun | n=>n⟩
theorem Tryz.lays190:Go.Proofs.Lays.n190 Tryz.prog Tryz.lays190_ren:={
 mixed:=by kernel_rfl
 f125:=Tryz.func238.trans (congrArg some (by kernel_rfl))
 f128:=Tryz.func284.trans (congrArg some (by kernel_rfl))
 f129:=Tryz.func285.trans (congrArg some (by kernel_rfl))
 f190:=Tryz.func190.trans (congrArg some (by kernel_rfl))
 f258:=Tryz.func237.trans (congrArg some (by kernel_rfl))
 f302:=Tryz.func275.trans (congrArg some (by kernel_rfl))
 f303:=Tryz.func276.trans (congrArg some (by kernel_rfl))
 f304:=Tryz.func277.trans (congrArg some (by kernel_rfl))
 f305:=Tryz.func278.trans (congrArg some (by kernel_rfl))
 f306:=Tryz.func279.trans (congrArg some (by kernel_rfl))
 f307:=Tryz.func280.trans (congrArg some (by kernel_rfl))
 f308:=Tryz.func281.trans (congrArg some (by kernel_rfl))
 f309:=Tryz.func282.trans (congrArg some (by kernel_rfl))
 f310:=Tryz.func283.trans (congrArg some (by kernel_rfl))
 f329:=Tryz.func309.trans (congrArg some (by kernel_rfl))
 f330:=Tryz.func310.trans (congrArg some (by kernel_rfl))
 f333:=Tryz.func308.trans (congrArg some (by kernel_rfl))
 f334:=Tryz.func311.trans (congrArg some (by kernel_rfl))
 f335:=Tryz.func312.trans (congrArg some (by kernel_rfl))
 f336:=Tryz.func313.trans (congrArg some (by kernel_rfl))
 f344:=Tryz.func321.trans (congrArg some (by kernel_rfl))
 t0:=Tryz.underlying0
 a0:=Tryz.isAgg0
 z0:=Tryz.sizeOf0
 v0:=Tryz.zeroValue0
 t3:=Tryz.underlying3
 a3:=Tryz.isAgg3
 z3:=Tryz.sizeOf3
 v3:=Tryz.zeroValue3
 t4:=Tryz.underlying4
 a4:=Tryz.isAgg4
 z4:=Tryz.sizeOf4
 v4:=Tryz.zeroValue4
 t5:=Tryz.underlying5
 a5:=Tryz.isAgg5
 z5:=Tryz.sizeOf5
 v5:=Tryz.zeroValue5
 t9:=Tryz.underlying9
 a9:=Tryz.isAgg9
 z9:=Tryz.sizeOf9
 v9:=Tryz.zeroValue9
 t31:=Tryz.underlying23
 a31:=Tryz.isAgg23
 z31:=Tryz.sizeOf23
 v31:=Tryz.zeroValue23
 t46:=Tryz.underlying122
 a46:=Tryz.isAgg122
 z46:=Tryz.sizeOf122
 v46:=Tryz.zeroValue122
 t51:=Tryz.underlying177
 a51:=Tryz.isAgg177
 z51:=Tryz.sizeOf177
 v51:=Tryz.zeroValue177
 t53:=Tryz.underlying180
 a53:=Tryz.isAgg180
 z53:=Tryz.sizeOf180
 v53:=Tryz.zeroValue180
 t131:=Tryz.underlying92
 a131:=Tryz.isAgg92
 z131:=Tryz.sizeOf92
 v131:=Tryz.zeroValue92
 t182:=Tryz.underlying217
 a182:=Tryz.isAgg217
 z182:=Tryz.sizeOf217
 v182:=Tryz.zeroValue217
 t183:=Tryz.underlying218
 a183:=Tryz.isAgg218
 z183:=Tryz.sizeOf218
 v183:=Tryz.zeroValue218
 t218:=Tryz.underlying239
 a218:=Tryz.isAgg239
 z218:=Tryz.sizeOf239
 v218:=Tryz.zeroValue239
 t222:=Tryz.underlying243
 a222:=Tryz.isAgg243
 z222:=Tryz.sizeOf243
 v222:=Tryz.zeroValue243
 t228:=Tryz.underlying251
 a228:=Tryz.isAgg251
 z228:=Tryz.sizeOf251
 v228:=Tryz.zeroValue251
 t229:=Tryz.underlying159
 a229:=Tryz.isAgg159
 z229:=Tryz.sizeOf159
 v229:=Tryz.zeroValue159 }
def Tryz.lays194_ren:Go.Shelf.Ren:=⟨fun | 194=>191 | n=>n,fun | 31=>23 | 9=>9 | 3=>3 | 4=>4 | 0=>0 | n=>n,fun | n=>n⟩
theorem Tryz.lays194:Go.Proofs.Lays.n194 Tryz.prog Tryz.lays194_ren:={
 mixed:=by kernel_rfl
 f194:=Tryz.func191.trans (congrArg some (by kernel_rfl))
 t0:=Tryz.underlying0
 a0:=Tryz.isAgg0
 z0:=Tryz.sizeOf0
 v0:=Tryz.zeroValue0
 t3:=Tryz.underlying3
 a3:=Tryz.isAgg3
 z3:=Tryz.sizeOf3
 v3:=Tryz.zeroValue3
 t4:=Tryz.underlying4
 a4:=Tryz.isAgg4
 z4:=Tryz.sizeOf4
 v4:=Tryz.zeroValue4
 t9:=Tryz.underlying9
 a9:=Tryz.isAgg9
 z9:=Tryz.sizeOf9
 v9:=Tryz.zeroValue9
 t31:=Tryz.underlying23
 a31:=Tryz.isAgg23
 z31:=Tryz.sizeOf23
 v31:=Tryz.zeroValue23 }
def Tryz.lays17_ren:Go.Shelf.Ren:=⟨fun | 17=>192 | n=>n,fun | 24=>23 | 9=>9 | 3=>3 | 4=>4 | 0=>0 | n=>n,fun | n=>n⟩
theorem Tryz.lays17:Go.Proofs.Lays2.n17 Tryz.prog Tryz.lays17_ren:={
 mixed:=by kernel_rfl
 f17:=Tryz.func192.trans (congrArg some (by kernel_rfl))
 t0:=Tryz.underlying0
 a0:=Tryz.isAgg0
 z0:=Tryz.sizeOf0
 v0:=Tryz.zeroValue0
 t3:=Tryz.underlying3
 a3:=Tryz.isAgg3
 z3:=Tryz.sizeOf3
 v3:=Tryz.zeroValue3
 t4:=Tryz.underlying4
 a4:=Tryz.isAgg4
 z4:=Tryz.sizeOf4
 v4:=Tryz.zeroValue4
 t9:=Tryz.underlying9
 a9:=Tryz.isAgg9
 z9:=Tryz.sizeOf9
 v9:=Tryz.zeroValue9
 t24:=Tryz.underlying23
 a24:=Tryz.isAgg23
 z24:=Tryz.sizeOf23
 v24:=Tryz.zeroValue23 }
end Go.Proofs.YtjpnjchpdkogbaaGreatDoor
namespace Go.Proofs.YtjpnjchpdkogbaaGreatDoor
open Go.RowKit Go.Shelf Go.Sort
theorem OwnS.row {w:World}{base g cap:Nat}{xs:List Txt}(h:OwnS w base (.slice (some ⟨g,0,none⟩) xs.length cap) xs):RowE encStr 9 w base g cap xs:=by
 rcases h.2 with ⟨hv,h0⟩ | ⟨g',cap',cur,hv,hg,hh,hnc,hm,hs,ht⟩
 ·cases hv
 ·injection hv with h1 h2 h3
  injection h1 with h1
  injection h1 with h1
  subst h1 h3
  exact ⟨hg,hnc,hm,cur,hh,by simpa using hs,by rw [Nat.mul_one] at ht;exact ht⟩
theorem RowE.own {w:World}{base g cap:Nat}{xs:List Txt}(h:RowE encStr 9 w base g cap xs):OwnS w base (.slice (some ⟨g,0,none⟩) xs.length cap) xs:=by
 obtain ⟨hb,hl,hm,cur,hh,hs,ht⟩:=h
 exact ⟨by simp,.inr ⟨g,cap,cur,rfl,hb,hh,hl,hm,by rw [Nat.mul_one];exact hs,by rw [Nat.mul_one];exact ht⟩⟩
theorem zzr (g cap base:Nat)(xs:List Txt)(w:World)(h:RowE encStr 9 w base g cap xs)(hl:xs.length<=1048576) :
  Calls Tryz.prog 190 #[.slice (some ⟨g,0,none⟩) xs.length cap] w fun e w'=>e = .returned (.tuple #[])/\RowE encStr 9 w' base g cap (xs.mergeSort fun x y=>decide (x<=y))/\Below base w w' :=
 (Any.slices_Sort_string Tryz.lays190 g 0 cap xs w h.holds h.lt (by omega)).mono fun e w' ⟨he,n,os,hw⟩=>by
  have:=h.put (ys:=xs.mergeSort fun x y=>decide (x<=y)) (List.length_mergeSort _) hw
  exact ⟨he,this.1,this.2⟩
theorem zzs (g cap base:Nat)(xs:List Txt)(w:World)(h:RowE encStr 9 w base g cap xs)(hl:xs.length<=1048576) :
  Calls Tryz.prog 191 #[.slice (some ⟨g,0,none⟩) xs.length cap] w fun e w'=>e = .returned (.slice (some ⟨g,0,none⟩) (Lib.compact xs).length cap)/\RowE encStr 9 w' base g cap (Lib.compact xs)/\Below base w w' :=
 (Any.slices_Compact_string Tryz.lays194 g 0 cap xs w h.holds (by omega) h.2.1).mono fun e w' ⟨he,q,hw⟩=>by
  have hle:=Lib.compact_length_le xs
  have:=h.put (ys:=Lib.compact xs++List.replicate (xs.length-(Lib.compact xs).length) []) (by simp;omega) (n:=q) (os:=#[]) (hw.trans (grow_empty _).symm)
  exact ⟨he,this.1.cut,this.2⟩
theorem zzt (g cap base:Nat)(xs:List Txt)(w:World)(h:RowE encStr 9 w base g cap xs)(hl:xs.length<=1048576) :
  Calls Tryz.prog 192 #[.slice (some ⟨g,0,none⟩) xs.length cap] w fun e w'=>e = .returned (.tuple #[])/\RowE encStr 9 w' base g cap xs.reverse/\Below base w w' :=
 (Any.slices_Reverse_string Tryz.lays17 g 0 cap xs w h.holds (by omega)).mono fun e w' ⟨he,q,hw⟩=>by
  have:=h.put (ys:=xs.reverse) (by simp) (n:=q) (os:=#[]) (hw.trans (grow_empty _).symm)
  exact ⟨he,this.1,this.2⟩
theorem zzu (N:Nat)(A:Option Addr)(cap:Nat)(bs:List Int)(k:Nat)(w:World)(hA:Ints w w.heap.size A bs)(hok:RhOk N bs)(hk:k<=1000) :
  Calls Tryz.prog 129 #[.agg #[.int .i64 N,.slice A bs.length cap],.int .i64 k] w (zzq w (allD N bs k N)):=by
 have hn1:1<=N:=by have:=hok.1;omega
 have hn2:N<=24:=by have:=hok.2.1;omega
 have HWD:=Zh (fun (p:Nat) (hp:p<=1000) (V:World) (hV:Ints V V.heap.size A bs)=>zzi N A cap bs p k V hV hok hp hk)
 have HA:=Zh hA
 have HALL:=Zh (zzp N bs k N)
 clear hA hok
 have hW0:=(Below.refl w.heap.size w).alloc (Nat.le_refl _) (.cells #[.int .i64 N,.slice A bs.length cap] 27)
 have HW:=Zh hW0
 clear hW0
 obtain ⟨c0,c1⟩:=box2 (Below.refl (w.heap.size+1) (w.alloc (.cells #[.int .i64 N,.slice A bs.length cap] 27)))
 go_enter Tryz.func129,Tryz.ntmps129
 go_wp2_with fail
 go_loopw [5,9] (fun so sp wr=>∃ (q:Nat),q<=N/\sp = .int .i64 q/\OwnS wr (w.heap.size+1) so (zbp N bs k q)/\Below (w.heap.size+1) (w.alloc (.cells #[.int .i64 N,.slice A bs.length cap] 27)) wr) (fun _ sp _=>N-(intOf sp).toNat)
 case atStart=>exact ⟨0,Nat.zero_le _,rfl,OwnS.nil _ _,Below.refl _ _⟩
 case round =>
  obtain ⟨q,hq,rfl,hown,hbel⟩:=hrel
  obtain ⟨wo,rfl⟩ : ∃ wo:World,wo=wr:=⟨_,rfl⟩
  have hll:=zzo (N:Int) bs k q
  have HLL:=Zh hll
  clear hll
  have hws:w.heap.size+1<=wo.heap.size:=by have:=hbel.size;simpa using this
  by_cases hlt:q<N
  ·obtain ⟨d0,d1⟩:=box2 hbel
   have HOW:=Zh hown
   have HBE:=Zh hbel
   have HWW:=Zh (HW.o.trans (hbel.mono (by omega)))
   have HSU:=Zh (zzn (N:Int) bs k q)
   obtain ⟨A5,c5,rfl,_⟩:=hown.form
   clear hown hbel c0 c1
   go_wp2_with fail
   refine (HWD.o q (by omega) _ (HA.o.lift HWW.o)).mono ?_
   rintro e w1 ⟨rfl,hb1⟩
   have HO1:=Zh (HOW.o.grown hb1)
   have hz1:=hb1.size
   have HB1:=Zh (HBE.o.trans (hb1.mono hws))
   obtain ⟨T,hT⟩ : ∃ T,mkS (winL N bs q k)=T:=⟨_,rfl⟩
   rw [hT]
   have HT:=Zh hT
   clear hb1 hT d0 d1
   go_wp2_with (at_builtin;refine zkj rfl (.tmp 12) (.tmp 17) rfl (w.heap.size+1) _ (zbp N bs k q) rfl (HO1.o.alloc _) w1.heap.size (winL N bs q k) (by rfl) (by unfold emS;rw [HT.o];exact zag _ _ _) (by rw [HLL.o];omega) (by simp;omega) ?_;intro v2 w2 hown2 hb2)
   have HO2:=Zh hown2
   have HB2:=Zh ((HB1.o.alloc (by omega) _).trans hb2)
   clear hown2 hb2
   go_wp2_with fail
   go_roundw
   case rel=>exact ⟨q+1,by omega,by go_num,by rw [HSU.o];exact HO2.o,HB2.o⟩
   case measure=>simp [intOf];omega
  ·have hqe:q=N:=by omega
   obtain ⟨g,c,rfl,hlc,hcm,hgb,hgs⟩:=hown.pos (by rw [HLL.o];omega)
   have HRW:=Zh hown.row
   have HBE:=Zh (HW.o.trans (hbel.mono (by omega)))
   have hsrt:=fun V h=>zzr g c (w.heap.size+1) (zbp N bs k q) V h (by rw [HLL.o];omega)
   have hcmp:=fun V h=>zzs g c (w.heap.size+1) ((zbp N bs k q).mergeSort fun x y=>decide (x<=y)) V h (by rw [List.length_mergeSort,HLL.o];omega)
   have hcl:=Lib.compact_length_le ((zbp N bs k q).mergeSort fun x y=>decide (x<=y))
   rw [List.length_mergeSort,HLL.o] at hcl
   have hrev:=fun V h=>zzt g c (w.heap.size+1) (Lib.compact ((zbp N bs k q).mergeSort fun x y=>decide (x<=y))) V h (by omega)
   rw [HLL.o] at hsrt
   rw [List.length_mergeSort,HLL.o] at hcmp
   subst hqe
   have hres:=HALL.o
   generalize hC:Lib.compact ((zbp q bs k q).mergeSort fun x y=>decide (x<=y))=C at hcmp hrev hcl hres
   generalize hM:((zbp q bs k q).mergeSort fun x y=>decide (x<=y))=M at hsrt hcmp
   have HS:=Zh hsrt
   have HC:=Zh hcmp
   have HR:=Zh hrev
   have HRES:=Zh hres
   rw [HLL.o]
   clear hown hbel hsrt hcmp hrev hC hM hres c0 c1
   go_wp2_with fail
   refine (HS.o _ HRW.o).mono ?_
   rintro e w1 ⟨rfl,hr1,hb1⟩
   have HR1:=Zh hr1
   have HB1:=Zh (HBE.o.trans (hb1.mono (by omega)))
   clear hr1 hb1
   go_wp2_with fail
   refine (HC.o _ HR1.o).mono ?_
   rintro e w2 ⟨rfl,hr2,hb2⟩
   have HR2:=Zh hr2
   have HB2:=Zh (HB1.o.trans (hb2.mono (by omega)))
   clear hr2 hb2
   go_wp2_with fail
   refine (HR.o _ HR2.o).mono ?_
   rintro e w3 ⟨rfl,hr3,hb3⟩
   have hfin:=hr3.own
   rw [HRES.o] at hfin
   have hlen:C.length=(allD (q:Int) bs k q).length:=by rw [<- HRES.o,List.length_reverse]
   have HF:=Zh hfin
   have HL:=Zh hlen
   have HB3:=Zh (HB2.o.trans (hb3.mono (by omega)))
   clear hr3 hb3 hfin hlen
   go_wp2_with fail
   go_ret
   exact ⟨_,by rw [HL.o];rfl,HF.o.mono (Nat.le_succ _),HB3.o⟩
end Go.Proofs.YtjpnjchpdkogbaaGreatDoor
namespace Go.Proofs.YtjpnjchpdkogbaaGreatDoor
open Go.RowKit
noncomputable def cntW (n:Int)(bs:List Int)(k:Int):Int:=if rhB n bs=true/\inB k 0 48=true then (allD n bs k.toNat n.toNat).length else -1
theorem zom {n:Int}{bs:List Int}{k:Int}(h1:rhB n bs=true)(h3:inB k 0 48=true):cntW n bs k=(allD n bs k.toNat n.toNat).length:=by unfold cntW;rw [if_pos ⟨h1,h3⟩]
theorem zi5 {n:Int}{bs:List Int}{k:Int}(h : ¬ (rhB n bs=true/\inB k 0 48=true)):cntW n bs k = -1:=by unfold cntW;rw [if_neg h]
theorem zzv (n:Int)(A:Option Addr)(cap:Nat)(bs:List Int)(k:Int)(w:World)(hn:Fits n)(hA:Ints w w.heap.size A bs) :
  Calls Tryz.prog 67 #[.agg #[.int .i64 n,.slice A bs.length cap],.int .i64 k] w fun e w'=>e = .returned (.int .i64 (cntW n bs k))/\Below w.heap.size w w':=by
 have HA:=Zh hA
 have hro:=fun (V:World) (hV:Ints V V.heap.size A bs)=>zav n A cap bs V hn hV
 have HW:=Zh ((Below.refl w.heap.size w).alloc (Nat.le_refl _) (.cells #[.int .i64 n,.slice A bs.length cap] 27))
 obtain ⟨c0,c1⟩:=box2 (Below.refl (w.heap.size+1) (w.alloc (.cells #[.int .i64 n,.slice A bs.length cap] 27)))
 clear hA
 cases h1:rhB n bs
 ·rw [zi5 (fun h=>by rw [h1] at h;cases h.1)]
  rw [h1] at hro
  have HRO:=Zh hro
  clear hro
  go_enter Tryz.func67,Tryz.ntmps67
  go_wp2_with fail
  refine (HRO.o _ (HA.o.lift HW.o)).mono ?_
  rintro e w1 ⟨rfl,hb⟩
  go_wp2_with fail
  go_ret
  exact ⟨rfl,HW.o.trans (hb.mono (by first | exact Nat.le_refl _ | (simp;done) | (simp;omega) | omega))⟩
 have hok:=zao.1 h1
 have hn1:=hok.1
 have hn2:=hok.2.1
 have HOK:=Zh hok
 rw [h1] at hro
 have HRO:=Zh hro
 have H1:=Zh h1
 clear hro hok h1
 cases h3:inB k 0 48
 ·rw [zi5 (fun h=>by rw [h3] at h;cases h.2)]
  go_enter Tryz.func67,Tryz.ntmps67
  go_wp2_with fail
  refine (HRO.o _ (HA.o.lift HW.o)).mono ?_
  rintro e w1 ⟨rfl,hb⟩
  have hcc:=(zb3 hb).1
  have d0:=(hcc w.heap.size 0 (by first | exact Nat.le_refl _ | (simp;done) | (simp;omega) | omega)).trans c0
  have d1:=(hcc w.heap.size 1 (by first | exact Nat.le_refl _ | (simp;done) | (simp;omega) | omega)).trans c1
  clear hcc c0 c1
  go_wp2_with (go_at_call 22;refine (zac _ _ _ _).mono ?_;rintro e w' ⟨rfl,rfl⟩)
  go_ret
  exact ⟨rfl,HW.o.trans (hb.mono (by first | exact Nat.le_refl _ | (simp;done) | (simp;omega) | omega))⟩
 rw [zom H1.o h3]
 obtain ⟨hk0,hk1⟩:=zan.1 h3
 obtain ⟨N,rfl⟩:=Int.eq_ofNat_of_zero_le (show 0<=n by omega)
 obtain ⟨k,rfl⟩:=Int.eq_ofNat_of_zero_le hk0
 rw [Int.toNat_natCast,Int.toNat_natCast]
 have hll:=zhc (N:Int) bs k N
 go_enter Tryz.func67,Tryz.ntmps67
 go_wp2_with fail
 refine (HRO.o _ (HA.o.lift HW.o)).mono ?_
 rintro e w1 ⟨rfl,hb⟩
 have hcc:=(zb3 hb).1
 have d0:=(hcc w.heap.size 0 (by first | exact Nat.le_refl _ | (simp;done) | (simp;omega) | omega)).trans c0
 have d1:=(hcc w.heap.size 1 (by first | exact Nat.le_refl _ | (simp;done) | (simp;omega) | omega)).trans c1
 have HW1:=Zh (HW.o.trans (hb.mono (by first | exact Nat.le_refl _ | (simp;done) | (simp;omega) | omega)))
 clear hcc c0 c1 hb
 go_wp2_with (go_at_call 22;refine (zac _ _ _ _).mono ?_;rintro e w' ⟨rfl,rfl⟩)
 refine (zzu N A cap bs k _ (HA.o.lift HW1.o) HOK.o (by omega)).mono ?_
 rintro e w2 ⟨v,rfl,hown,hb2⟩
 obtain ⟨A2,c2,rfl,_⟩:=hown.form
 clear hown
 go_wp2_with fail
 go_ret
 exact ⟨rfl,HW1.o.trans (hb2.mono HW1.o.size)⟩
end Go.Proofs.YtjpnjchpdkogbaaGreatDoor
namespace Go.Proofs.YtjpnjchpdkogbaaGreatDoor
open Go.RowKit
theorem zzw (N:Nat)(A:Option Addr)(cap:Nat)(bs:List Int)(w:World)(hA:Ints w w.heap.size A bs)(hok:RhOk N bs) :
  Calls Tryz.prog 69 #[.agg #[.int .i64 N,.slice A bs.length cap]] w fun e w'=>e = .returned (.string (mkS (zaj N bs natF)))/\Below w.heap.size w w':=by
 have hlen:=hA.1
 unfold maxLen at hlen
 have HC:=Zh hA.2.2
 have hn1:1<=N:=by have:=hok.1;omega
 have hn2:N<=24:=by have:=hok.2.1;omega
 have HOK:=Zh hok
 have hro:=fun (V:World) (hV:Ints V V.heap.size A bs)=>zav N A cap bs V (by unfold Fits;omega) hV
 rw [zao.2 hok] at hro
 have HRO:=Zh hro
 have HA:=Zh hA
 clear hA hok hro
 have HW:=Zh ((Below.refl w.heap.size w).alloc (Nat.le_refl _) (.cells #[.int .i64 N,.slice A bs.length cap] 27))
 obtain ⟨c0,c1⟩:=box2 (Below.refl (w.heap.size+1) (w.alloc (.cells #[.int .i64 N,.slice A bs.length cap] 27)))
 go_enter Tryz.func69,Tryz.ntmps69
 go_wp2_with fail
 refine (HRO.o _ (HA.o.lift HW.o)).mono ?_
 rintro e w0 ⟨rfl,hb0⟩
 have hb0':=(zb3 hb0).1
 have e0:=(hb0' w.heap.size 0 (by first | exact Nat.le_refl _ | (simp;done) | (simp;omega) | omega)).trans c0
 have e1:=(hb0' w.heap.size 1 (by first | exact Nat.le_refl _ | (simp;done) | (simp;omega) | omega)).trans c1
 have hw0:w.heap.size<w0.heap.size:=by have:=hb0.size;simp at this;omega
 have HW1:=Zh (HW.o.trans (hb0.mono (by first | exact Nat.le_refl _ | (simp;done) | (simp;omega) | omega)))
 have kc:(convert 22 22 (.slice (some ⟨w0.heap.size,0,none⟩) 1 1)).run Tryz.prog (w0.alloc (.cells #[.int .u8 46] 5)) = .ok (.slice (some ⟨w0.heap.size,0,none⟩) 1 1) (w0.alloc (.cells #[.int .u8 46] 5 (1,2))) :=
  Joins.run_convert_bytes_const_at (P:=Tryz.prog) w0 22 5 #[.int .u8 46] 1 1 w0.heap.size rfl Tryz.underlying22 Tryz.underlying5
 clear c0 c1 hb0 hb0'
 have e0':=(((Below.refl w0.heap.size w0).alloc (Nat.le_refl _) (.cells #[.int .u8 46] 5 (1,2))).cell (p:=⟨w.heap.size,0,none⟩) hw0).trans e0
 have e1':=(((Below.refl w0.heap.size w0).alloc (Nat.le_refl _) (.cells #[.int .u8 46] 5 (1,2))).cell (p:=⟨w.heap.size,1,none⟩) hw0).trans e1
 go_wp2_with fail
 clear kc
 refine (zl0 w0.heap.size 1 N 46 _ ?_ ?_ hn1 (by omega)).mono ?_
 ·simp
 ·exact (Joins.cell_alloc_mark_at _ _ _ _ _ 0 (by simp)).trans rfl
 rintro e w1 ⟨rfl,htab0,hb1⟩
 have hb1':=(zb3 hb1).1
 have HB1:=Zh ((HW1.o.alloc (by omega) (.cells #[.int .u8 46] 5 (1,2))).trans (hb1.mono (by simp;omega)))
 have hd0:=(hb1' w.heap.size 0 (by simp;omega)).trans e0'
 have hd1:=(hb1' w.heap.size 1 (by simp;omega)).trans e1'
 clear hb1 hb1' e0 e1 e0' e1'
 obtain ⟨h,hh⟩ : ∃ h,(w0.alloc (.cells #[.int .u8 46] 5 (1,2))).heap.size=h:=⟨_,rfl⟩
 have hwh:w.heap.size<h:=by rw [<- hh];simp;omega
 simp only [hh] at htab0 ⊢
 have HT0:=Zh htab0
 clear htab0 hh
 go_wp2_with fail
 go_loopw [17] (fun i wr=>∃ k:Nat,k<=bs.length/\i = .int .i64 k/\TabU wr h N (txF (bs.take k) natF)/\Below w.heap.size w wr) (fun i _=>bs.length-(intOf i).toNat)
 case atStart=>exact ⟨0,Nat.zero_le _,rfl,HT0.o.congr (fun t _=>by simp [txF,hasB]),HB1.o⟩
 case round =>
  obtain ⟨k,hk,rfl,htab,hbel⟩:=hrel
  by_cases hlt:k<bs.length
  ·obtain ⟨b,off,rfl,hB,hc⟩:=HC.o (by omega)
   have hcell:=(hbel.cell (p:=⟨b,off+k,none⟩) hB).trans (hc k hlt)
   have hx0:=HOK.o.2.2.1 k hlt
   obtain ⟨x,hx⟩ : ∃ x,bs.getD k 0=x:=⟨_,rfl⟩
   rw [hx] at hcell hx0
   obtain ⟨hx1,hx2⟩:=hx0
   obtain ⟨j,rfl⟩:=Int.eq_ofNat_of_zero_le hx1
   have hjN:j<N:=by omega
   have hto:=(htab.2 j hjN).1
   have hfr:=htab.frz hjN
   have HX:=Zh hx
   clear hx hc
   by_cases hpar:j % 2=0
   ·have hp:((j:Nat):Int) % 2=0:=by omega
    have HP:=Zh hpar
    clear hpar
    go_wp2_with fail
    go_roundw
    case rel=>exact ⟨k+1,by omega,by go_num,(htab.set_ j (natF j) hjN _ (by unfold natF;rw [if_pos HP.o];rfl)).congr (fun t _=>zh1 (F:=natF) hlt HX.o t),hbel.setCell (by simp;omega) _⟩
    case measure=>simp [intOf];omega
   ·have hp:((j:Nat):Int) % 2=1:=by omega
    have HP:=Zh hpar
    clear hpar
    go_wp2_with fail
    go_roundw
    case rel=>exact ⟨k+1,by omega,by go_num,(htab.set_ j (natF j) hjN _ (by unfold natF;rw [if_neg HP.o];rfl)).congr (fun t _=>zh1 (F:=natF) hlt HX.o t),hbel.setCell (by simp;omega) _⟩
    case measure=>simp [intOf];omega
  ·have hke:k=bs.length:=by omega
   subst hke
   rw [List.take_length] at htab
   have hcv:=htab.string N
   go_wp2_with fail
   go_ret
   exact ⟨rfl,hbel⟩
end Go.Proofs.YtjpnjchpdkogbaaGreatDoor
namespace Go.Proofs.YtjpnjchpdkogbaaGreatDoor
open Go.RowKit
def zar (xs:List Int)(i:Nat):Bool:=inB (xs.getD i 0) 0 12 && (if i=0 then decide (xs.getD 0 0=0) else decide (xs.getD (i-1) 0<xs.getD i 0))
def patB (xs:List Int):Bool:=decide (0<xs.length) && (List.range xs.length).all (zar xs)
theorem zi6 {xs:List Int}{k:Nat}(hk:k<xs.length)(h:zar xs k=false):patB xs=false:=by
 unfold patB
 rw [Bool.and_eq_false_iff]
 refine .inr ?_
 rw [List.all_eq_false]
 exact ⟨k,List.mem_range.2 hk,by rw [h];decide⟩
theorem zon {xs:List Int}(h : ∀ j,j<xs.length->zar xs j=true):patB xs=decide (0<xs.length):=by
 unfold patB
 rw [List.all_eq_true.2 (fun j hj=>h j (List.mem_range.1 hj)),Bool.and_true]
theorem za6 {xs:List Int}(h:patB xs=true):0<xs.length /\ ∀ j,j<xs.length->zar xs j=true:=by
 unfold patB at h
 rw [Bool.and_eq_true,decide_eq_true_eq,List.all_eq_true] at h
 exact ⟨h.1,fun j hj=>h.2 j (List.mem_range.2 hj)⟩
theorem zbi {xs:List Int}{j:Nat}(h:zar xs j=true):0<=xs.getD j 0/\xs.getD j 0<=12:=by
 unfold zar at h
 rw [Bool.and_eq_true] at h
 exact zan.1 h.1
theorem zzx {xs:List Int}(h:zar xs 0=true):xs.getD 0 0=0:=by
 unfold zar at h
 rw [Bool.and_eq_true,if_pos rfl,decide_eq_true_eq] at h
 exact h.2
theorem zi7 {xs:List Int}{j:Nat}(h0:0<j)(h:zar xs j=true):xs.getD (j-1) 0<xs.getD j 0:=by
 unfold zar at h
 rw [Bool.and_eq_true,if_neg (by omega),decide_eq_true_eq] at h
 exact h.2
def mkN (xs:List Int):Nat->Nat
 | 0=>0
 | k+1=>mkN xs k+2 ^ (xs.getD k 0).toNat
theorem zgd {xs:List Int}(h : ∀ j,j<xs.length->zar xs j=true) : ∀ k,k<xs.length->mkN xs k<2 ^ (xs.getD k 0).toNat
 | 0,_=>Nat.two_pow_pos _
 | k+1,hk=>by
  have ih:=zgd h k (by omega)
  have h1:=zbi (h k (by omega))
  have h2:=zi7 (by omega) (h (k+1) hk)
  rw [Nat.add_sub_cancel] at h2
  have h3:2 ^ ((xs.getD k 0).toNat+1)<=2 ^ (xs.getD (k+1) 0).toNat:=Nat.pow_le_pow_right (by omega) (by omega)
  have h4:2 ^ ((xs.getD k 0).toNat+1)=2 ^ (xs.getD k 0).toNat*2:=Nat.pow_succ ..
  show mkN xs k+2 ^ (xs.getD k 0).toNat<_
  omega
theorem zge {xs:List Int}(h : ∀ j,j<xs.length->zar xs j=true)(k:Nat)(hk:k<xs.length):mkN xs k ||| 2 ^ (xs.getD k 0).toNat=mkN xs (k+1):=by
 have:=Nat.two_pow_add_eq_or_of_lt (zgd h k hk) 1
 rw [Nat.mul_one] at this
 show _=mkN xs k+2 ^ (xs.getD k 0).toNat
 rw [Nat.or_comm,<- this,Nat.add_comm]
theorem zdn {xs:List Int}(h : ∀ j,j<xs.length->zar xs j=true)(k:Nat)(hk:k<=xs.length):mkN xs k<8192:=by
 cases k with
 | zero=>exact (by decide:(0:Nat)<8192)
 | succ k =>
  have ih:=zgd h k (by omega)
  have h1:=zbi (h k (by omega))
  have h3:2 ^ ((xs.getD k 0).toNat+1)<=2 ^ 13:=Nat.pow_le_pow_right (by omega) (by omega)
  have h4:2 ^ ((xs.getD k 0).toNat+1)=2 ^ (xs.getD k 0).toNat*2:=Nat.pow_succ ..
  show mkN xs k+2 ^ (xs.getD k 0).toNat<_
  omega
theorem zex {xs:List Int}(h : ∀ j,j<xs.length->zar xs j=true) : ∀ k,0<k->k<=xs.length->mkN xs k % 2=1
 | 1,_,hk=>by
  have:=zzx (h 0 (by omega))
  show (0+2 ^ (xs.getD 0 0).toNat) % 2=1
  rw [this];rfl
 | k+2,_,hk=>by
  have ih:=zex h (k+1) (by omega) (by omega)
  have h1:=zbi (h k (by omega))
  have h2:=zi7 (by omega) (h (k+1) (by omega))
  rw [Nat.add_sub_cancel] at h2
  obtain ⟨e,he⟩ : ∃ e,(xs.getD (k+1) 0).toNat=e+1:=⟨(xs.getD (k+1) 0).toNat-1,by omega⟩
  show (mkN xs (k+1)+2 ^ (xs.getD (k+1) 0).toNat) % 2=1
  rw [he,Nat.pow_succ]
  omega
def strF:Nat->Nat->Nat × Nat
 | 0,s=>(s,0)
 | f+1,s=>if s % 2=1 then ((strF f (s / 2)).1,(strF f (s / 2)).2+1) else (s,0)
theorem zzy {f s:Nat}(h:s % 2=0):strF f s=(s,0):=by
 cases f with
 | zero=>rfl
 | succ f=>show (if s % 2=1 then _ else _)=_;rw [if_neg (by omega)]
theorem zoo {f s:Nat}(h:s % 2=1):strF (f+1) s=((strF f (s / 2)).1,(strF f (s / 2)).2+1):=by
 show (if s % 2=1 then _ else _)=_;rw [if_pos h]
theorem zey : ∀ (f s:Nat),(strF f s).1<=s/\(strF f s).2<=f
 | 0,s=>⟨Nat.le_refl _,Nat.le_refl _⟩
 | f+1,s=>by
  unfold strF
  by_cases h:s % 2=1
  ·rw [if_pos h]
   have:=zey f (s / 2)
   exact ⟨by show (strF f (s / 2)).1<=s;omega,by show (strF f (s / 2)).2+1<=f+1;omega⟩
  ·rw [if_neg h];exact ⟨Nat.le_refl _,Nat.zero_le _⟩
def runB:Nat->Nat->Nat->Nat->List Nat->Nat × Nat × List Nat
 | 0,_,_,_,_=>(0,0,[])
 | f+1,M,s,t,es=>if s &&& M=0 then (if (strF 14 (s+M)).1=0 then (2,t+(strF 14 (s+M)).2,es++[t]) else runB f M (strF 14 (s+M)).1 (t+(strF 14 (s+M)).2) (es++[t])) else (1,t,[])
theorem zzz {f M s t:Nat}{es:List Nat}(h:s &&& M≠0):runB (f+1) M s t es=(1,t,[]):=by unfold runB;rw [if_neg h]
theorem zz0 {f M s t n:Nat}{es:List Nat}(h:s &&& M=0)(h2:strF 14 (s+M)=(0,n)):runB (f+1) M s t es=(2,t+n,es++[t]):=by unfold runB;rw [if_pos h,h2,if_pos rfl]
theorem zz1 {f M s t s' n:Nat}{es:List Nat}(h:s &&& M=0)(h2:strF 14 (s+M)=(s',n))(h0:s'≠0):runB (f+1) M s t es=runB f M s' (t+n) (es++[t]):=by
 show (if s &&& M=0 then _ else _)=_
 rw [if_pos h,h2,if_neg h0]
def blk (M:Nat):Nat × Nat × List Nat:=runB 13 M 0 0 []
def shB (p:Nat)(es:List Nat)(q:Nat):Bool:=es.all fun t=>decide ((t+q) % p∈es)
def chkB (M:Nat):Bool :=
 ((blk M).1==1 && decide ((blk M).2.1<=24)) ||
 ((blk M).1==2 && decide (1<=(blk M).2.1) && decide ((blk M).2.1<=24) && decide ((blk M).2.2.length<=13) && (blk M).2.2.all (fun t=>decide (t<(blk M).2.1)) &&
  (List.range (blk M).2.1).all fun q=>q==0 || (blk M).2.1 % q != 0 || !(shB (blk M).2.1 (blk M).2.2 q))
theorem zz2:((List.range 4096).all fun h=>chkB (2*h+1))=true:=by decide +kernel
theorem zz3 {M:Nat}(h1:M<8192)(h2:M % 2=1):chkB M=true:=by
 have:=List.all_eq_true.1 zz2 (M / 2) (List.mem_range.2 (by omega))
 rwa [show 2*(M / 2)+1=M by omega] at this
theorem zi8 {M:Nat}(h1:M<8192)(h2:M % 2=1) :
  ((blk M).1=1/\(blk M).2.1<=24) \/
  ((blk M).1=2/\1<=(blk M).2.1/\(blk M).2.1<=24/\(blk M).2.2.length<=13/\(∀ t∈(blk M).2.2,t<(blk M).2.1) /\
   ∀ q,0<q->q<(blk M).2.1->(blk M).2.1 % q=0->shB (blk M).2.1 (blk M).2.2 q=false):=by
 have h:=zz3 h1 h2
 unfold chkB at h
 generalize blk M=r at h ⊢
 simp only [Bool.or_eq_true,Bool.and_eq_true,beq_iff_eq,decide_eq_true_eq,List.all_eq_true,bne_iff_ne,Bool.not_eq_true'] at h
 rcases h with h | ⟨⟨⟨⟨⟨a1,a2⟩,a3⟩,a4⟩,a5⟩,a6⟩
 ·exact .inl h
 ·refine .inr ⟨a1,a2,a3,a4,a5,fun q h0 hq hz=>?_⟩
  rcases a6 q (List.mem_range.2 hq) with (e | e) | e
  ·omega
  ·exact absurd hz e
  ·exact e
theorem zz4 {s M:Nat}(h:s &&& M=0)(hs:s<65536)(hM:M<65536):s ||| M=s+M:=by
 have e:=BitVec.add_eq_or_of_and_eq_zero (BitVec.ofNat 32 s) (BitVec.ofNat 32 M) (by
  apply BitVec.eq_of_toNat_eq
  rw [BitVec.toNat_and,BitVec.toNat_ofNat,BitVec.toNat_ofNat,Nat.mod_eq_of_lt (by omega),Nat.mod_eq_of_lt (by omega),h];rfl)
 have e2:=congrArg BitVec.toNat e
 rw [BitVec.toNat_add,BitVec.toNat_or,BitVec.toNat_ofNat,BitVec.toNat_ofNat,Nat.mod_eq_of_lt (show s<2 ^ 32 by omega),Nat.mod_eq_of_lt (show M<2 ^ 32 by omega),Nat.mod_eq_of_lt (by omega)] at e2
 exact e2.symm
def patM (xs:List Int):Nat:=mkN xs xs.length
def za7 (xs:List Int):Bool:=patB xs && ((blk (patM xs)).1==2)
def zcy (xs:List Int):Nat:=if za7 xs then (blk (patM xs)).2.1 else 0
def zbj (xs:List Int):List Int:=if za7 xs then (blk (patM xs)).2.2.map (fun (t:Nat)=>(t:Int)) else []
def zcn (xs:List Int):Int:=if patB xs && !za7 xs then (blk (patM xs)).2.1 else -1
end Go.Proofs.YtjpnjchpdkogbaaGreatDoor
namespace Go.Proofs.YtjpnjchpdkogbaaGreatDoor
open Go.RowKit
theorem zop {xs:List Int}{k:Nat}(h : ∀ j,j<k->zar xs j=true)(hk:zar xs k=true) : ∀ j,j<k+1->zar xs j=true:=fun j hj=>by
 by_cases e:j=k
 ·subst e;exact hk
 ·exact h j (by omega)
theorem zdo (A:Option Addr)(cap:Nat)(xs:List Int)(w:World)(hA:Ints w w.heap.size A xs) :
  Calls Tryz.prog 131 #[.slice A xs.length cap] w fun e w'=>e = .returned (.bool (patB xs))/\w=w':=by
 obtain ⟨hlen,hfit,hcells⟩:=hA
 unfold maxLen at hlen
 have HC:=Zh hcells
 clear hfit hcells
 go_enter Tryz.func131,Tryz.ntmps131
 go_wp2
 go_loop [7] (fun i=>∃ k:Nat,k<=xs.length/\(∀ j,j<k->zar xs j=true)/\i = .int .i64 k) (fun i=>xs.length-(intOf i).toNat)
 case atStart=>exact ⟨0,Nat.zero_le _,fun j hj=>by omega,rfl⟩
 case round =>
  obtain ⟨k,hk,hall,rfl⟩:=hrel
  have HALL:=Zh hall
  clear hall
  by_cases hlt:k<xs.length
  ·obtain ⟨b,off,rfl,hB,hc⟩:=HC.o (by omega)
   have hcell:=hc k hlt
   have hcell1:=hc (k-1) (by omega)
   obtain ⟨x,hx⟩ : ∃ x,xs.getD k 0=x:=⟨_,rfl⟩
   obtain ⟨y,hy⟩ : ∃ y,xs.getD (k-1) 0=y:=⟨_,rfl⟩
   rw [hx] at hcell
   rw [hy] at hcell1
   have HX:=Zh hx
   have HY:=Zh hy
   clear hx hy hc
   cases hin:inB x 0 12
   ·have HV:=Zh (zi6 hlt (show zar xs k=false by unfold zar;rw [HX.o,hin];rfl))
    go_wp2_with (go_at_call 22;refine (zac _ _ _ _).mono ?_;rintro e w' ⟨rfl,rfl⟩)
    go_ret
    exact ⟨zaq HV.o.symm,rfl⟩
   ·by_cases h0:k=0
    ·subst h0
     simp only [Nat.add_zero] at hcell
     by_cases hx0:x=0
     ·have HV:=Zh (show zar xs 0=true by unfold zar;rw [if_pos rfl,HX.o,hin,decide_eq_true hx0];rfl)
      have hxn:(x != 0)=false:=by simp [hx0]
      clear hx0
      go_wp2_with (go_at_call 22;refine (zac _ _ _ _).mono ?_;rintro e w' ⟨rfl,rfl⟩)
      go_round
      case rel=>exact ⟨1,by omega,zop HALL.o HV.o,by go_num⟩
      case measure=>simp [intOf];omega
     ·have HV:=Zh (zi6 hlt (show zar xs 0=false by unfold zar;rw [if_pos rfl,HX.o,hin,decide_eq_false hx0];rfl))
      have hxn:(x != 0)=true:=by simp [hx0]
      clear hx0
      go_wp2_with (go_at_call 22;refine (zac _ _ _ _).mono ?_;rintro e w' ⟨rfl,rfl⟩)
      go_ret
      exact ⟨zaq HV.o.symm,rfl⟩
    ·have hk0:((k:Int)==0)=false:=beq_eq_false_iff_ne.2 (by omega)
     have hk1:(0:Int)<(k:Int):=by omega
     have hk2:decide ((0:Int)<(k:Int))=true:=decide_eq_true hk1
     have hk3:0<k:=by omega
     by_cases hxy:y<x
     ·have HV:=Zh (show zar xs k=true by unfold zar;rw [if_neg h0,HX.o,HY.o,hin,decide_eq_true hxy];rfl)
      have hle:decide (x<=y)=false:=decide_eq_false (by omega)
      have hle2 : ¬ x<=y:=by omega
      go_wp2_with (go_at_call 22;refine (zac _ _ _ _).mono ?_;rintro e w' ⟨rfl,rfl⟩)
      go_round
      case rel=>exact ⟨k+1,by omega,zop HALL.o HV.o,by go_num⟩
      case measure=>simp [intOf];omega
     ·have HV:=Zh (zi6 hlt (show zar xs k=false by unfold zar;rw [if_neg h0,HX.o,HY.o,hin,decide_eq_false hxy];rfl))
      have hle:decide (x<=y)=true:=decide_eq_true (by omega)
      have hle2:x<=y:=by omega
      go_wp2_with (go_at_call 22;refine (zac _ _ _ _).mono ?_;rintro e w' ⟨rfl,rfl⟩)
      go_ret
      exact ⟨zaq HV.o.symm,rfl⟩
  ·have hke:k=xs.length:=by omega
   subst hke
   have HV:=Zh (show patB xs=decide ((0:Int)<(xs.length:Int)) by rw [zon HALL.o,decide_eq_decide];omega)
   go_wp2_with (go_at_call 22;refine (zac _ _ _ _).mono ?_;rintro e w' ⟨rfl,rfl⟩)
   go_ret
   exact ⟨by rw [HV.o];first | rfl | simp,rfl⟩
def Lin3 (w:World)(g:Nat)(t s M:Int):Prop :=
 g<w.heap.size/\w.cell? ⟨g,0,none⟩=some (.int .i64 t)/\w.cell? ⟨g,1,none⟩=some (.int .i64 s)/\w.cell? ⟨g,2,none⟩=some (.int .i64 M) /\
  w.frozen? ⟨g,0,none⟩=false/\w.frozen? ⟨g,1,none⟩=false
section
variable {w w':World} {g:Nat} {t s M:Int} {S:Nat->Prop}
theorem Lin3.frm (h:Lin3 w g t s M)(hf:Frm S w w')(hS : ¬ S g):Lin3 w' g t s M :=
 ⟨Nat.lt_of_lt_of_le h.1 hf.size,(hf.cell h.1 hS).trans h.2.1,(hf.cell h.1 hS).trans h.2.2.1,(hf.cell h.1 hS).trans h.2.2.2.1,(hf.frozen h.1 hS).trans h.2.2.2.2.1,(hf.frozen h.1 hS).trans h.2.2.2.2.2⟩
theorem Lin3.below {B:Nat}(h:Lin3 w g t s M)(hb:Below B w w')(hg:g<B):Lin3 w' g t s M :=
 h.frm (Frm.of_below (S:=fun c=>B<=c) hb (fun c _ h=>h)) (by omega)
theorem Lin3.set0 (h:Lin3 w g t s M)(u:Int):Lin3 (w.setCell ⟨g,0,none⟩ (.int .i64 u)) g u s M :=
 ⟨by simpa [World.setCell] using h.1,World.cell?_setCell_same w _ _ h.2.1,(World.cell?_setCell_other w ⟨g,0,none⟩ ⟨g,1,none⟩ _ (fun q=>by injection q;omega)).trans h.2.2.1,
  (World.cell?_setCell_other w ⟨g,0,none⟩ ⟨g,2,none⟩ _ (fun q=>by injection q;omega)).trans h.2.2.2.1,(World.frozen?_setCell _ _ _ _).trans h.2.2.2.2.1,(World.frozen?_setCell _ _ _ _).trans h.2.2.2.2.2⟩
theorem Lin3.set1 (h:Lin3 w g t s M)(u:Int):Lin3 (w.setCell ⟨g,1,none⟩ (.int .i64 u)) g t u M :=
 ⟨by simpa [World.setCell] using h.1,(World.cell?_setCell_other w ⟨g,1,none⟩ ⟨g,0,none⟩ _ (fun q=>by injection q;omega)).trans h.2.1,World.cell?_setCell_same w _ _ h.2.2.1,
  (World.cell?_setCell_other w ⟨g,1,none⟩ ⟨g,2,none⟩ _ (fun q=>by injection q;omega)).trans h.2.2.2.1,(World.frozen?_setCell _ _ _ _).trans h.2.2.2.2.1,(World.frozen?_setCell _ _ _ _).trans h.2.2.2.2.2⟩
end
theorem zz5 (w:World)(m:Int):Lin3 (w.alloc (.cells #[.int .i64 0,.int .i64 0,.int .i64 m] 186)) w.heap.size 0 0 m:=by
 have hh:(w.alloc (.cells #[.int .i64 0,.int .i64 0,.int .i64 m] 186)).heap[w.heap.size]? = some (.cells #[.int .i64 0,.int .i64 0,.int .i64 m] 186 (0,0)):=heap_alloc_new w _
 exact ⟨by simp,by rw [cell_of_row _ _ _ _ _ _ hh];rfl,by rw [cell_of_row _ _ _ _ _ _ hh];rfl,by rw [cell_of_row _ _ _ _ _ _ hh];rfl,frozen_of_row _ _ _ _ _ hh,frozen_of_row _ _ _ _ _ hh⟩
theorem zz6 (A:Option Addr)(cap:Nat)(xs:List Int)(w:World)(hA:Ints w w.heap.size A xs)(hp:patB xs=true) :
  Calls Tryz.prog 241 #[.slice A xs.length cap] w fun e w'=>e = .returned (.pointer (some ⟨w.heap.size,0,none⟩))/\Lin3 w' w.heap.size 0 0 (patM xs)/\Below w.heap.size w w':=by
 obtain ⟨hpos,hpat⟩:=za6 hp
 obtain ⟨hlen,hfit,hcells⟩:=hA
 unfold maxLen at hlen
 have HC:=Zh hcells
 have HP:=Zh hpat
 clear hfit hcells hpat hp
 go_enter Tryz.func241,Tryz.ntmps241
 go_wp2
 go_loop [3,8] (fun m i=>∃ k:Nat,k<=xs.length/\m = .int .i64 (mkN xs k)/\i = .int .i64 k) (fun _ i=>xs.length-(intOf i).toNat)
 case atStart=>exact ⟨0,Nat.zero_le _,rfl,rfl⟩
 case round =>
  obtain ⟨k,hk,rfl,rfl⟩:=hrel
  by_cases hlt:k<xs.length
  ·obtain ⟨b,off,rfl,hB,hc⟩:=HC.o (by omega)
   have hcell:=hc k hlt
   have hin:=zbi (HP.o k hlt)
   have hor0:=zge HP.o k hlt
   have hsm:=zdn HP.o k (by omega)
   obtain ⟨v,hv⟩:=Int.eq_ofNat_of_zero_le hin.1
   rw [hv] at hcell hor0 hin
   have hor:=zkw (mkN xs k) v (by omega) (by omega)
   rw [show mkN xs k ||| 2 ^ v=mkN xs (k+1) from hor0] at hor
   obtain ⟨m',hm'⟩ : ∃ x,mkN xs (k+1)=x:=⟨_,rfl⟩
   rw [hm'] at hor
   have HM:=Zh hm'
   generalize mkN xs k=m at hor ⊢
   have hv16:v<16:=by omega
   have hv0:(0:Int)<=(v:Int):=Int.natCast_nonneg _
   clear hc hv hin hor0 hsm hm'
   go_wp2
   go_round
   case rel=>exact ⟨k+1,by omega,by rw [HM.o],by go_num⟩
   case measure=>simp [intOf];omega
  ·have hke:k=xs.length:=by omega
   subst hke
   have HL:=Zh (zz5 w (mkN xs xs.length))
   go_wp2
   go_ret
   exact ⟨rfl,HL.o,(Below.refl _ _).alloc (Nat.le_refl _) _⟩
theorem zz7 (g t s M:Nat)(w:World)(hL:Lin3 w g t s M)(hs:s<8192)(hM:M<8192)(h:s &&& M≠0) :
  Calls Tryz.prog 242 #[.pointer (some ⟨g,0,none⟩)] w fun e w'=>e = .returned (.bool false)/\Below w.heap.size w w':=by
 obtain ⟨hg,c0,c1,c2,f0,f1⟩:=hL
 have hand:=zcp s M (by omega) (by omega)
 obtain ⟨a,ha⟩ : ∃ a,s &&& M=a:=⟨_,rfl⟩
 rw [ha] at hand h
 have han:((a:Int) != 0)=true:=by rw [bne_iff_ne];omega
 have han2 : ¬ (a:Int)=0:=by omega
 clear ha
 go_enter Tryz.func242,Tryz.ntmps242
 go_wp2_with fail
 go_quiet (fail)
 go_wp2_with fail
 go_ret
 exact ⟨rfl,by first | exact Below.drewN_ (Below.refl _ _) _ | exact Below.refl _ _⟩
theorem zz8 (g t s M s' n:Nat)(w:World)(hL:Lin3 w g t s M)(hs:s<8192)(hM:M<8192)(h:s &&& M=0)(ht:t<=1000)(hn:strF 14 (s+M)=(s',n)) :
  Calls Tryz.prog 242 #[.pointer (some ⟨g,0,none⟩)] w fun e w'=>e = .returned (.bool true)/\Lin3 w' g (t+n:Nat) s' M/\Frm (fun c=>c=g) w w':=by
 have HL:=Zh hL
 obtain ⟨hg,c0,c1,c2,f0,f1⟩:=hL
 have hand:=zcp s M (by omega) (by omega)
 rw [h] at hand
 have hor:=zc1 s M (by omega) (by omega)
 rw [zz4 h (by omega) (by omega)] at hor
 obtain ⟨z,hz⟩ : ∃ z,s+M=z:=⟨_,rfl⟩
 rw [hz] at hor hn
 have hzs:z<16384:=by omega
 have HN:=Zh hn
 have hn14:n<=14:=by have:=(zey 14 z).2;rw [hn] at this;exact this
 clear hz hn h
 go_enter Tryz.func242,Tryz.ntmps242
 go_wp2_with fail
 go_quiet (fail)
 go_wp2_with fail
 have HF:=Zh (Frm.drewN (Frm.refl (fun c=>c=g) w) nq)
 have HL1:=Zh (show Lin3 (w.drewN nq) g t s M from HL.o)
 clear c0 c1 c2 f0 f1 hg hand
 generalize w.drewN nq=W at *
 obtain ⟨hg,c0,c1,c2,f0,f1⟩:=HL1.o
 go_still_tail 11,(by kernel_rfl)
 change wpList _ _ _ _ _ W.drew
 have HF2:=Zh (Frm.drew HF.o)
 have HL2:=Zh (show Lin3 W.drew g t s M from HL1.o)
 clear c0 c1 c2 f0 f1 hg
 generalize W.drew=W2 at *
 obtain ⟨hg,c0,c1,c2,f0,f1⟩:=HL2.o
 have HF3:=Zh (Frm.setCell (p:=⟨g,1,none⟩) HF2.o rfl (.int .i64 z))
 have HL3:=Zh (HL2.o.set1 z)
 go_wp2_with fail
 generalize W2.setCell ⟨g,1,none⟩ (.int .i64 z)=W3 at *
 clear c0 c1 c2 f0 f1 hg
 go_loopg [] z (fun k wr=>∃ (u T r f:Nat),u=k/\u<2 ^ f/\f<=14/\strF f u=(s',r)/\T+r=t+n/\r<=14/\Lin3 wr g T u M/\Frm (fun c=>c=g) w wr)
 case atStart=>exact ⟨z,t,n,14,rfl,hzs,Nat.le_refl _,HN.o,rfl,by have:=(zey 14 z).2;rw [HN.o] at this;exact this,HL3.o,HF3.o⟩
 case round =>
  obtain ⟨u,T,r,f,rfl,hu,hf,hst,hT,hr,hlin,hfr⟩:=hrel
  obtain ⟨wo,rfl⟩ : ∃ wo:World,wo=wr:=⟨_,rfl⟩
  have HL:=Zh hlin
  have HFR:=Zh hfr
  obtain ⟨hg,c0,c1,c2,f0,f1⟩:=hlin
  have hul:u<16384:=Nat.lt_of_lt_of_le hu (Nat.pow_le_pow_right (by omega) hf)
  have hand:=zcp u 1 (by omega) (by omega)
  rw [Nat.and_one_is_mod] at hand
  by_cases hodd:u % 2=1
  ·rw [hodd] at hand
   have hand:bits .and .i64 (u:Int) 1=1:=hand
   obtain ⟨f',rfl⟩ : ∃ f',f=f'+1:=by
    cases f with
    | zero=>rw [Nat.pow_zero] at hu;omega
    | succ f=>exact ⟨f,rfl⟩
   rw [zoo hodd] at hst
   have e1:=congrArg Prod.fst hst
   have e2:=congrArg Prod.snd hst
   obtain ⟨q,hq⟩ : ∃ q,u / 2=q:=⟨_,rfl⟩
   rw [hq] at e1 e2
   have HE:=Zh (And.intro e1 e2)
   have hqi:(u:Int) / 2=(q:Int):=by rw [<- hq];rfl
   have hqu:q<u:=by omega
   have hqf:q<2 ^ f':=by rw [Nat.pow_succ] at hu;omega
   have hwT:IntKind.i64.wrap ((T:Int)+1)=(T:Int)+1:=i64w (by omega)
   have hL1:=HL.o.set1 (q:Int)
   have d0:=hL1.2.1
   have d1:=hL1.2.2.2.2.1
   have HL2:=Zh (hL1.set0 ((T:Int)+1))
   have HF2:=Zh (Frm.setCell (p:=⟨g,0,none⟩) (Frm.setCell (p:=⟨g,1,none⟩) HFR.o rfl (.int .i64 (q:Int))) rfl (.int .i64 ((T:Int)+1)))
   clear hfr hst e1 e2 hq hL1 hodd
   go_wp2_with fail
   go_roundg q
   case measure=>exact hqu
   case rel=>exact ⟨q,T+1,r-1,f',rfl,hqf,by omega,Prod.ext HE.o.1 (by have:=HE.o.2;show (strF f' q).2=r-1;omega),by have:=HE.o.2;omega,by omega,HL2.o,HF2.o⟩
  ·have h0:u % 2=0:=by omega
   rw [h0] at hand
   have hand:bits .and .i64 (u:Int) 1=0:=hand
   rw [zzy h0] at hst
   have e1:u=s':=congrArg Prod.fst hst
   have e2:0=r:=congrArg Prod.snd hst
   have hTe:T=t+n:=by omega
   subst e1
   subst hTe
   clear hst hodd h0 e2 hT hr
   go_wp2_with fail
   go_ret
   exact ⟨rfl,HL.o,HFR.o⟩
end Go.Proofs.YtjpnjchpdkogbaaGreatDoor
