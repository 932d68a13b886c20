/- Parts of the proof of the card of the law FnConfirms. -/
import Derived.Test.YtjgbidnebnggoaaGreatDoorChecked
import Derived.ProofKit
import Derived.KernelRfl
namespace Go.Proofs.YtjgbidnebnggoaaGreatDoor
def headNums:List Nat:=[104,97,114,110,101,115,115,32,49,98,50,101,102,49,52,98,48,99,57,97,48,50,100,53,56,49,99,101,48,53,55,54,99,48,102,49,56,51,54,48,54,51,53,48,51,97,99,51,101,98,102,52,50,56,51,56,50,55,100,101,49,97,50,100,97,55,51,54,98,56,101,56,32,99,117,116,32,97,116,32,108,111,111,112,46,101,120,97,109,112,108,101,47,103,48,51,50,48,52,47,108,97,119,115,46,70,110,67,111,110,102,105,114,109,115]
theorem z6t:Tryz.prog.initOrder=String.ofList (headNums.map Char.ofNat):=by kernel_rfl
theorem z6u:Tryz.prog.initOrder.toList=headNums.map Char.ofNat:=by rw [z6t,String.toList_ofList]
def ze2:List Nat->List (List Nat)
 | []=>[[]]
 | x::r=>if x=32 then []::ze2 r else match ze2 r with
  | w::ws=>(x::w)::ws
  | []=>[[x]]
theorem z6v : ∀ x:Nat,x<128->x≠32->Char.ofNat x≠Char.ofNat 32:=by decide
theorem zre : ∀ l:List Nat,(∀ x∈l,x<128)->wordsSigns (l.map Char.ofNat)=(ze2 l).map (List.map Char.ofNat)
 | [],_=>rfl
 | x::r,h=>by
  have ih:=zre r (fun y hy=>h y (List.mem_cons_of_mem _ hy))
  unfold ze2
  by_cases hx:x=32
  ·subst hx
   rw [if_pos rfl,List.map_cons]
   show []::wordsSigns (r.map Char.ofNat)=_
   rw [ih]
   rfl
  ·rw [if_neg hx,List.map_cons,wordsSigns.eq_3 _ _ (fun e=>z6v x (h x List.mem_cons_self) hx e),ih]
   cases ze2 r <;> rfl
theorem z6w : ∀ x∈headNums,x<128:=by decide +kernel
def headWords:List (List Nat):=ze2 headNums
theorem zkc:wordsSigns (Tryz.prog.initOrder.toList)=headWords.map (List.map Char.ofNat):=by rw [z6u,zre _ z6w,headWords]
theorem z6x (P:Program)(h:wordsSigns P.initOrder.toList=headWords.map (List.map Char.ofNat)):P.headLifts=[]:=by
 unfold Program.headLifts
 rw [h]
 kernel_rfl
theorem z6y (P:Program)(h:wordsSigns P.initOrder.toList=headWords.map (List.map Char.ofNat)):P.make=some Make.cut:=by
 unfold Program.make
 rw [h]
 kernel_rfl
theorem z6z (P:Program)(h:wordsSigns P.initOrder.toList=headWords.map (List.map Char.ofNat)):P.liftsFinal=false:=by
 unfold Program.liftsFinal
 rw [z6x P h,h]
 kernel_rfl
theorem z60 (P:Program)(h:wordsSigns P.initOrder.toList=headWords.map (List.map Char.ofNat))(h1:P.laysLater=false)(h2:P.bearsReflect=false)(h3:P.doorFits []=true):P.mayEnter=true:=by
 unfold Program.mayEnter
 rw [h,h1,h2]
 exact h3
theorem z61:Tryz.prog.mayEnter=true:=z60 _ zkc (by kernel_rfl) (by kernel_rfl) (by kernel_rfl)
theorem z62 (b:Bool)(h:b=false):(b==Tryz.prog.liftsFinal)=true:=by subst h;rw [z6z _ zkc];rfl
theorem z63 (m:Make)(h:m=Make.cut):(Tryz.prog.make==some m)=true:=by subst h;rw [z6y _ zkc];rfl
theorem own:ownKnob Tryz.prog.godebug=none:=by kernel_rfl
theorem zrf:laidOutB Tryz.prog=true:=by kernel_rfl
theorem z64:mapsRowed Tryz.prog=true:=by kernel_rfl
theorem z65:(Tryz.prog.stops==[])=true:=by kernel_rfl
theorem z66:(Tryz.prog.stopKnobs==[])=true:=by kernel_rfl
theorem z67:Tryz.prog.plainKeys=true:=by kernel_rfl
theorem z68 (b:Bool)(h:b=true):(b==Tryz.prog.plainKeys)=true:=by subst h;rw [z67];rfl
theorem z69:Tryz.prog.stopsHeard=true:=by kernel_rfl
end Go.Proofs.YtjgbidnebnggoaaGreatDoor
