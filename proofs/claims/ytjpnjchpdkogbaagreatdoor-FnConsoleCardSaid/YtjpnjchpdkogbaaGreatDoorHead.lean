/- Parts of the proof of the card of the law FnConsole. -/
import Derived.Test.YtjpnjchpdkogbaaGreatDoorChecked
import Derived.ProofKit
import Derived.KernelRfl
namespace Go.Proofs.YtjpnjchpdkogbaaGreatDoor
def headNums:List Nat:=[104,97,114,110,101,115,115,32,54,51,49,102,100,100,50,52,99,98,48,49,100,101,55,54,99,102,52,101,53,49,99,51,53,52,98,101,101,49,53,102,54,98,54,53,99,52,102,99,99,55,50,50,51,98,53,53,100,51,52,99,53,51,56,97,99,101,51,97,56,52,100,55,32,99,117,116,32,97,116,32,108,111,111,112,46,101,120,97,109,112,108,101,47,103,48,51,50,48,52,47,108,97,119,115,46,70,110,67,111,110,115,111,108,101]
theorem z5a:Tryz.prog.initOrder=String.ofList (headNums.map Char.ofNat):=by kernel_rfl
theorem z5b:Tryz.prog.initOrder.toList=headNums.map Char.ofNat:=by rw [z5a,String.toList_ofList]
def zec:List Nat->List (List Nat)
 | []=>[[]]
 | x::r=>if x=32 then []::zec r else match zec r with
  | w::ws=>(x::w)::ws
  | []=>[[x]]
theorem z5c : ∀ x:Nat,x<128->x≠32->Char.ofNat x≠Char.ofNat 32:=by decide
theorem zqr : ∀ l:List Nat,(∀ x∈l,x<128)->wordsSigns (l.map Char.ofNat)=(zec l).map (List.map Char.ofNat)
 | [],_=>rfl
 | x::r,h=>by
  have ih:=zqr r (fun y hy=>h y (List.mem_cons_of_mem _ hy))
  unfold zec
  by_cases hx:x=32
  ·subst hx
   rw [if_pos rfl,List.map_cons]
   show []::wordsSigns (r.map Char.ofNat)=_
   rw [ih]
   rfl
  ·rw [if_neg hx,List.map_cons,wordsSigns.eq_3 _ _ (fun e=>z5c x (h x List.mem_cons_self) hx e),ih]
   cases zec r <;> rfl
theorem z5d : ∀ x∈headNums,x<128:=by decide +kernel
def headWords:List (List Nat):=zec headNums
theorem zkd:wordsSigns (Tryz.prog.initOrder.toList)=headWords.map (List.map Char.ofNat):=by rw [z5b,zqr _ z5d,headWords]
theorem z5e (P:Program)(h:wordsSigns P.initOrder.toList=headWords.map (List.map Char.ofNat)):P.headLifts=[]:=by
 unfold Program.headLifts
 rw [h]
 kernel_rfl
theorem z5f (P:Program)(h:wordsSigns P.initOrder.toList=headWords.map (List.map Char.ofNat)):P.make=some Make.cut:=by
 unfold Program.make
 rw [h]
 kernel_rfl
theorem z5g (P:Program)(h:wordsSigns P.initOrder.toList=headWords.map (List.map Char.ofNat)):P.liftsFinal=false:=by
 unfold Program.liftsFinal
 rw [z5e P h,h]
 kernel_rfl
theorem z5h (P:Program)(h:wordsSigns P.initOrder.toList=headWords.map (List.map Char.ofNat))(h1:P.laysLater=false)(h2:P.bearsReflect=false)(h3:P.doorFits []=true):P.mayEnter=true:=by
 unfold Program.mayEnter
 rw [h,h1,h2]
 exact h3
theorem z5i:Tryz.prog.mayEnter=true:=z5h _ zkd (by kernel_rfl) (by kernel_rfl) (by kernel_rfl)
theorem z5j (b:Bool)(h:b=false):(b==Tryz.prog.liftsFinal)=true:=by subst h;rw [z5g _ zkd];rfl
theorem z5k (m:Make)(h:m=Make.cut):(Tryz.prog.make==some m)=true:=by subst h;rw [z5f _ zkd];rfl
theorem own:ownKnob Tryz.prog.godebug=none:=by kernel_rfl
theorem zqs:laidOutB Tryz.prog=true:=by kernel_rfl
theorem z5l:mapsRowed Tryz.prog=true:=by kernel_rfl
theorem z5m:(Tryz.prog.stops==[])=true:=by kernel_rfl
theorem z5n:(Tryz.prog.stopKnobs==[])=true:=by kernel_rfl
theorem z5o:Tryz.prog.plainKeys=true:=by kernel_rfl
theorem z5p (b:Bool)(h:b=true):(b==Tryz.prog.plainKeys)=true:=by subst h;rw [z5o];rfl
theorem z5q:Tryz.prog.stopsHeard=true:=by kernel_rfl
end Go.Proofs.YtjpnjchpdkogbaaGreatDoor
