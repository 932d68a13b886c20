/- Parts of the proof of the card of the law FnConsole. -/
import Derived.Test.YtjpnjchpdkogbaaGreatDoorG02
import Derived.Test.YtjpnjchpdkogbaaGreatDoorStrs
import Derived.Lib.Join
set_option linter.unusedVariables false
set_option linter.unusedSimpArgs false
set_option maxRecDepth 100000
namespace Go.Proofs.YtjpnjchpdkogbaaGreatDoor
open Go.RowKit Go.Shelf
def zaf (xs:List Txt)(sep:Txt):Txt:=Lib.join xs sep
theorem zrf (sep:Txt):zaf [] sep=[]:=rfl
theorem zb4 (sep:Txt)(M:Nat) : ∀ xs:List Txt,(∀ x∈xs,x.length<=M)->(zaf xs sep).length<=xs.length*(M+sep.length)
 | [],_=>by simp [zrf]
 | x::r,h=>by
  have hr : ∀ r:List Txt,(∀ x∈r,x.length<=M)->(Lib.joinTail sep r).length<=r.length*(M+sep.length):=by
   intro r
   induction r with
   | nil=>intro _;simp [Lib.joinTail]
   | cons y r ih =>
    intro h
    have h1:=ih (fun x hx=>h x (List.mem_cons_of_mem _ hx))
    have h2:=h y List.mem_cons_self
    have:Lib.joinTail sep (y::r)=(sep++y)++Lib.joinTail sep r:=by unfold Lib.joinTail;simp
    rw [this,List.length_append,List.length_append,List.length_cons,Nat.succ_mul]
    generalize r.length*(M+sep.length)=q at h1 ⊢
    omega
  have h1:=hr r (fun y hy=>h y (List.mem_cons_of_mem _ hy))
  have h2:=h x List.mem_cons_self
  unfold zaf
  rw [Lib.join_cons,List.length_append,List.length_cons,Nat.succ_mul]
  generalize r.length*(M+sep.length)=q at h1 ⊢
  omega
theorem zdr (A:Option Addr)(c:Nat)(xs:List Txt)(sep:Txt)(M:Nat)(w:World)(hI:Strs w w.heap.size A xs)(hc:xs.length<=c)(hM : ∀ x∈xs,x.length<=M)(hM2:M+sep.length<=134217728) :
  Calls Tryz.prog 8 #[.slice A xs.length c,.string (mkS sep)] w fun e w'=>e = .returned (.string (mkS (zaf xs sep)))/\Below w.heap.size w w':=by
 have hl:=zb4 sep M xs hM
 have hx:=hI.1
 have hJ:Calls Tryz.prog 18 #[.slice A xs.length c,.string (mkS sep)] w fun e w'=>e = .returned (.string (mkS (zaf xs sep)))/\Below w.heap.size w w':=by
  cases xs with
  | nil =>
   refine (Any.strings_Join_none Tryz.lays156 Tryz.bx156 A c (mkS sep) w).mono ?_
   rintro e w' ⟨rfl,rfl⟩
   exact ⟨rfl,Below.refl _ _⟩
  | cons x r =>
   obtain ⟨b,off,rfl,hb,hcell⟩:=hI.2 (by simp)
   have e1:((x::r).map mkS).map (fun t=>t.data.toList)=x::r:=by
    rw [List.map_map]
    conv=>rhs;rw [<- List.map_id (x::r)]
    exact List.map_congr_left fun t _=>za9 t
   have hbig:(zaf (x::r) sep).length<=140737488355328:=by
    have:(x::r).length*(M+sep.length)<=1048576*134217728:=Nat.mul_le_mul hx hM2
    omega
   have:=Any.strings_Join Tryz.lays156 Tryz.bx156 b off c ((x::r).map mkS) (mkS sep) w (fun j t ht=>by
     rw [List.getElem?_map] at ht
     have hj:j<(x::r).length:=by
      apply Classical.byContradiction
      intro hh
      rw [List.getElem?_eq_none (by omega)] at ht
      cases ht
     rw [hcell j hj]
     rw [List.getElem?_eq_getElem hj] at ht
     injection ht with ht
     rw [<- ht,List.getD_eq_getElem?_getD,List.getElem?_eq_getElem hj]
     rfl) hb (by rw [List.length_map];omega) (by rw [List.length_map];exact hc) (by rw [e1,show (mkS sep).data.toList=sep from za9 sep];exact hbig)
   rw [e1,List.length_map,show (mkS sep).data.toList=sep from za9 sep] at this
   exact this
 have HJ:=Zh hJ
 generalize mkS (zaf xs sep)=X at HJ ⊢
 generalize mkS sep=SP at HJ ⊢
 clear hJ hl hx hI
 go_enter Tryz.func8,Tryz.ntmps8
 go_wp2_with fail
 refine HJ.o.mono ?_
 rintro e w1 ⟨rfl,hb⟩
 go_wp2_with fail
 go_ret
 exact ⟨rfl,hb⟩
end Go.Proofs.YtjpnjchpdkogbaaGreatDoor
