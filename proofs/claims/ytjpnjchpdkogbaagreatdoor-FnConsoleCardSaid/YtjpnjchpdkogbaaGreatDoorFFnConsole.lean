/- Parts of the proof of the card of the law FnConsole. -/
import Derived.Test.YtjpnjchpdkogbaaGreatDoorLFnConsole
import Derived.Test.YtjpnjchpdkogbaaGreatDoorRows
import Derived.Test.YtjpnjchpdkogbaaGreatDoorG08
import Derived.Test.YtjpnjchpdkogbaaGreatDoorHead
import Derived.Test.YtjpnjchpdkogbaaGreatDoorCards
import Derived.Test.YtjpnjchpdkogbaaGreatDoorG32
import Derived.Test.YtjpnjchpdkogbaaGreatDoorG22
import Derived.Test.YtjpnjchpdkogbaaGreatDoorTie
import Derived.LaidMore
import Derived.Lay
import Derived.SevenTiedAt
import Derived.Stop.Joined
import Derived.Test.YtjpnjchpdkogbaaGreatDoorG31
set_option linter.unusedVariables false
set_option maxRecDepth 100000
set_option maxHeartbeats 4000000
namespace Go.Proofs.YtjpnjchpdkogbaaGreatDoor.fnConsole
open Go.ChangeShapes Go.WideShapes Go.ChangeAt Go.RowKit Go.Joins
open Go.ChangeMaps (open_string shut_string)
theorem z5w (os:Os)(started:os.Started)(H:Type)(enc:TypeId × Value->H) :
  ReturnsInHanded {} Tryz.checked os 3 .any (fun w args=>(Rows.fnConsoleSpec.pre enc Tryz.prog Tryz.f3 Rows.fnConsoleRow.domain false w args/\laidMetH Tryz.prog Rows.fnConsoleRow.laid w)/\sizedMet enc Tryz.prog Tryz.f3 (OpenSpec.ofChange Rows.fnConsoleSpec) false w args) (Rows.fnConsoleSpec.post enc Tryz.prog Tryz.f3 false true false false):=by
 refine z5r (C:=Tryz.checked) (X:=fun w _=>laidMetH Tryz.prog Rows.fnConsoleRow.laid w) (fun _ _ _ hh h=>h.of_heap hh) own started (by kernel_rfl) Tryz.func3
  (ChangeSpec.witness_shaped (enc:=enc) (C:=Tryz.checked) (os:=os) (X:=fun w _=>laidMetH Tryz.prog Rows.fnConsoleRow.laid w) false (World.laidAll Tryz.prog os Rows.fnConsoleRow.laid) #[.slice none 0 0] 8 (World.laidAll_os _ _ _)
   (World.shaped_of_ZipB (by kernel_rfl) (by kernel_rfl)) (by kernel_rfl) (by kernel_rfl) (by kernel_rfl)
   (by rw [MakeChecks.laidMetH_plain _ _ _ (by kernel_rfl)];exact laidMet_laidAll _ (by kernel_rfl) (by kernel_rfl))) ?_
 intro W base args ds gs before hval0 hW hsh hL
 have hval : ∀ (j:Nat) t v,Tryz.f3.params[j]? = some t->args[j]? = some v->Value.okWide Tryz.prog W .any base t v:=hval0
 have hW':=hW
 obtain ⟨p,q,hA0,hV,rfl,hfz,hnd⟩:=hW
 have hA:DataW.TrodAll enc Tryz.prog W 0 (fun _=>true) true Tryz.f3.params.toList args.toList ds p:=hA0
 rw [Tryz.params3] at hA hval
 obtain ⟨v0,vs0,d0,ds0,p0,q0,hargs,rfl,rfl,h0,r0⟩:=trodAll_cons hA
 obtain ⟨rfl,rfl,rfl⟩:=trodAll_nil r0
 obtain rfl:args = #[v0]:=by cases args;simp_all
 obtain ⟨rfl,rfl⟩:=trodVars_none hV
 have k0:=h0
 have lt0 : ∀ x∈p0,x.block<W.heap.size:=by obtain ⟨m,hm⟩:=k0;exact DataW.trod_lt m _ _ _ hm
 obtain ⟨A0,cap0,bs0,rfl,w0⟩:=z45 (hval 0 22 v0 rfl rfl) h0
 clear hA0 hval0
 refine (z49 (w:=W) A0 cap0 bs0 w0 (z5v (laid:=Rows.fnConsoleRow.laid) 5 4 hL (by kernel_rfl) rfl rfl) (z0h (laid:=Rows.fnConsoleRow.laid) 2 hL (by kernel_rfl) rfl) (z5t (laid:=Rows.fnConsoleRow.laid) 1 hL (by kernel_rfl) rfl) (cell_of_shapedOpen_int (P:=Tryz.prog) (g:=0) (t:=3) (zero:=#[.int .i64 0]) hsh (of_decide_eq_true (by kernel_rfl)) (by kernel_rfl) rfl (by kernel_rfl) (by kernel_rfl) Tryz.underlying3)).mono fun e W' ⟨he,bel⟩=>?_
 subst he
 exact ⟨_,rfl,_,_,_,[],_,[],hW',trodAll_mk1 (shut_bool Tryz.underlying4 _),(trodAll_cons_mk (Below.trod zqs (by kernel_rfl) (of_decide_eq_true (by kernel_rfl)) k0 bel lt0) trodAll_mk0),rfl,bel.frame _,fun h=>by cases h⟩
theorem z5x:joinedFacts Tryz.prog 3 Tryz.f3 Rows.fnConsoleSpec Rows.fnConsoleRow=true:=by
 unfold joinedFacts
 simp only [Bool.and_eq_true]
 repeat' apply And.intro
 all_goals first
  | with_reducible exact z5i
  | ((with_reducible refine z5j _ ?_);rfl)
  | ((with_reducible refine z5k _ ?_);rfl)
  | with_reducible exact zqs
  | with_reducible exact z5l
  | with_reducible exact z5m
  | with_reducible exact z5n
  | ((with_reducible refine z5p _ ?_);rfl)
  | with_reducible exact z5q
  | (as_aux_lemma=>kernel_rfl)
theorem over:Rows.fnConsoleRow.holds Tryz.pinned (OpenSpec.ofChange Rows.fnConsoleSpec) :=
 OpenClaim.holds_of_wide 3 Tryz.f3 rfl rfl rfl rfl rfl rfl rfl ⟨rfl,rfl,rfl,rfl,rfl⟩ rfl rfl rfl rfl rfl (by as_aux_lemma=>kernel_rfl) Tryz.func3 z5x
  (of_decide_eq_true (by as_aux_lemma=>kernel_rfl)) (by as_aux_lemma=>unfold Func.isWrapper;rw [if_neg (by decide +kernel)];exact ⟨rfl,rfl⟩)
  (fun os started H enc _=>z5w os started H enc)
theorem proved:Rows.FnConsoleCardSaid :=
 Claim7.holds_tied_plain_at .later [] [.data,.data,.data,.data,.sentinel,.sentinel,.pinned] true (true, "631fdd24cb01de76cf4e51c354bee15f6b65c4fcc7223b55d34c538ace3a84d7") true over (fun _ h=>by cases h) (by kernel_rfl) (fun _ h=>by cases h) fnConsole_row_tie rfl ⟨rfl,rfl⟩ (by kernel_rfl) rfl
  (fun f fn hf hfn=>by
   obtain rfl:f=3:=Option.some.inj ((show Tryz.prog.funcNamed "loop.example/g03204/laws.FnConsole" = some 3 by kernel_rfl).symm.trans hf) |>.symm
   obtain rfl:fn=Tryz.f3:=(Option.some.inj (Tryz.func3.symm.trans hfn)).symm
   exact ⟨by kernel_rfl,fun j t ht=>by
    rw [Tryz.params3] at ht
    have hm:t∈([22]:List Nat):=by simpa using Array.mem_of_getElem? ht
    have hall:(([22]:List Nat).all fun u=>!Tryz.prog.wantsStandIn u)=true:=by kernel_rfl
    exact (show Tryz.prog.wantsStandIn t=false by simpa using List.all_eq_true.1 hall t hm)⟩)
  (by kernel_rfl)
#print axioms proved
end Go.Proofs.YtjpnjchpdkogbaaGreatDoor.fnConsole
