/- Parts of the proof of the card of the law FnConsole. -/
import Derived.Test.YtjpnjchpdkogbaaGreatDoorChecked
import Derived.Handed
import Derived.HandedShaped
import Derived.LaidMore
import Derived.Shelf.Vars
import Derived.Test.YtjpnjchpdkogbaaGreatDoorG23
import Derived.Lib.LaidTab
import Derived.Stop.LaidErr
import Derived.MakeChecks
import Derived.Test.YtjpnjchpdkogbaaGreatDoorG02
set_option linter.unusedVariables false
set_option linter.unusedSimpArgs false
namespace Go.Proofs.YtjpnjchpdkogbaaGreatDoor
open Go
theorem z5r {H:Type}{enc:TypeId × Value->H}{C:Checked}{os:Os}{f:FuncId}{fn:Func}{s:ChangeSpec}{conds:List PathCond}{apart fresh handsOn again:Bool}{X:World->Array Value->Prop}{a:Assume}
  (hX : ∀ (w w':World)(args:Array Value),w.heap=w'.heap->X w args->X w' args)
  (own:ownKnob C.prog.godebug=none)(started:os.Started)(noInit:C.prog.inits.idxOf? f=none)(hfn:C.prog.funcs[f]? = some fn)
  (witness : ∃ (w:World)(tape:Tape)(i:Input),w.os=os/\(w.forCall tape i).Shaped C.prog/\i.vars=[]/\Input.okWide C.prog (w.forCall tape i) .any w.heap.size f i /\
   ((s.pre enc C.prog fn conds apart (w.forCall tape i).memory i.args/\X (w.forCall tape i).memory i.args)/\sizedMet enc C.prog fn (OpenSpec.ofChange s) apart (w.forCall tape i).memory i.args)/\a.holds C.prog (lone (Frame.enter C.prog f i.args .normal) [] (w.forCall tape i)))
  (contract : ∀ (W:World)(base:Nat)(args:Array Value)(ds gs:List (DataW H))(before:List MemPlace),
   (∀ (j:Nat) t v,fn.params[j]? = some t->args[j]? = some v->Value.okWide C.prog W .any base t v) ->
   DataW.Whole enc C.prog fn.params.toList s.vars apart W args.toList ds gs before->W.ShapedOpen C.prog->X W args ->
   Calls C.prog f args W fun e W'=>∃ v,e = .returned v/\s.post enc C.prog fn apart fresh handsOn again W args v W') :
  ReturnsInHanded a C os f .any (fun w args=>(s.pre enc C.prog fn conds apart w args/\X w args)/\sizedMet enc C.prog fn (OpenSpec.ofChange s) apart w args) (s.post enc C.prog fn apart fresh handsOn again):=by
 refine returnsInHanded_of_calls own started noInit witness fun w tape i _ hsh _ hok hpre _=>?_
 obtain ⟨_,_,_,fn',hfn',_,_,_,_,hval⟩:=hok
 obtain rfl:fn'=fn:=Option.some.inj (hfn'.symm.trans hfn)
 obtain ⟨⟨⟨ds,gs,before,hw,hc⟩,hx⟩,hz⟩:=hpre
 have hw':=DataW.Whole.of_heap (w':=w.forCall tape i) (by rfl) hw
 refine (contract _ w.heap.size i.args ds gs before hval hw' hsh (hX _ _ _ (by rfl) hx)).mono ?_
 rintro e W' ⟨v,rfl,hp⟩
 exact ChangeSpec.post_blind hp
end Go.Proofs.YtjpnjchpdkogbaaGreatDoor
namespace Go.Proofs.YtjpnjchpdkogbaaGreatDoor
open Go.RowKit Go.Shelf
theorem z5s {W:World}(h:Lib.TabIs Tryz.prog W "math/bits.deBruijn64tab" .u8 (Lib.deBruijn64tab.map Int.ofNat)):DeB W:=by
 have hg:Tryz.prog.globalNamed "math/bits.deBruijn64tab" = some 4:=by kernel_rfl
 have hc : ∀ j,j<Lib.deBruijn64tab.length->W.cell? ⟨4,j,none⟩=some (.int .u8 (Lib.deBruijn64tab.getD j 0)):=fun j hj=>by
  rw [World.var?_cell hg h j,List.getElem?_toArray,List.getElem?_map,List.getElem?_map,List.getElem?_eq_getElem hj,List.getD_eq_getElem?_getD,List.getElem?_eq_getElem hj]
  rfl
 exact ⟨World.block_lt_of_cell? W _ (hc 0 (by decide)),hc⟩
theorem zqt {W:World} : ∀ (laid:List (String × DataW Unit)) (i:Nat),laidMet Tryz.prog laid W->laid[i]? = some ("math/bits.deBruijn64tab", Lib.tabData .u8 (Lib.deBruijn64tab.map Int.ofNat))->DeB W
 | [],i,_,h=>by simp at h
 | x::r,0,h,hi=>by
  obtain rfl:x=_:=by simpa using hi
  exact z5s (Lib.tabIs_of_head (g:=4) (t:=226) (e:=5) (n:=64) (by kernel_rfl) (by kernel_rfl) Tryz.underlying226 Tryz.underlying5 (by kernel_rfl) (by kernel_rfl) h)
 | x::r,i+1,h,hi=>zqt r i h.tail (by simpa using hi)
theorem z5t {W:World}{laid:List (String × DataW Unit)}(i:Nat)(h:laidMetH Tryz.prog laid W)(hp:(laid.all fun x=>x.2.handleName?.isNone)=true)(hi:laid[i]? = some ("math/bits.deBruijn64tab", Lib.tabData .u8 (Lib.deBruijn64tab.map Int.ofNat))):DeB W:=by
 rw [MakeChecks.laidMetH_plain _ _ _ hp] at h
 exact zqt laid i h hi
end Go.Proofs.YtjpnjchpdkogbaaGreatDoor
namespace Go.Proofs.YtjpnjchpdkogbaaGreatDoor
open Go.RowKit
theorem zqu : "*" ++ "errors.errorString" = "*errors.errorString":=by decide
theorem z5u (u:TypeId)(h:Tryz.prog.typeName? 3 u=some "*errors.errorString"):u=246 :=
 typeName_ptr_named (nm:= "errors.errorString") (by rw [zqu];kernel_rfl) (by kernel_rfl) (by decide) u (by rw [zqu];exact h)
theorem zke {W:World}{n:String}{text:List UInt8}{g:Nat}(hg:Tryz.prog.globalNamed n=some g)(ht:(Tryz.prog.globals[g]?).map (·.type)=some 51) : ∀ (laid:List (String × DataW Unit)) (i:Nat),laidMet Tryz.prog laid W->laid[i]? = some (n,.iface "*errors.errorString" (.ptr (.agg [.lit (.string text)])))->ErrAt W g
 | [],i,_,h=>by simp at h
 | x::r,0,h,hi=>by
  obtain rfl:x=_:=by simpa using hi
  obtain ⟨a,s,hv,_⟩:=laid_sentinel h hg ht Tryz.underlying51 z5u Tryz.underlying246 Tryz.underlying248 rfl rfl Tryz.underlying9 (by kernel_rfl) (by kernel_rfl)
  exact ⟨_,by simpa using World.var?_cell hg hv 0,.inr ⟨_,_,rfl⟩⟩
 | x::r,i+1,h,hi=>zke hg ht r i h.tail (by simpa using hi)
theorem z5v {W:World}{laid:List (String × DataW Unit)}{t1 t2:List UInt8}(i j:Nat)(h:laidMetH Tryz.prog laid W)(hp:(laid.all fun x=>x.2.handleName?.isNone)=true)
  (hi:laid[i]? = some ("strconv.ErrSyntax", .iface "*errors.errorString" (.ptr (.agg [.lit (.string t1)]))))(hj:laid[j]? = some ("strconv.ErrRange", .iface "*errors.errorString" (.ptr (.agg [.lit (.string t2)])))):Errs W:=by
 rw [MakeChecks.laidMetH_plain _ _ _ hp] at h
 exact ⟨zke (by kernel_rfl) (by kernel_rfl) laid i h hi,zke (by kernel_rfl) (by kernel_rfl) laid j h hj⟩
end Go.Proofs.YtjpnjchpdkogbaaGreatDoor
