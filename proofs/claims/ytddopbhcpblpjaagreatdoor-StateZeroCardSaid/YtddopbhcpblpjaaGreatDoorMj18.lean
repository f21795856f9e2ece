/- StateZero holds. No conditions beside the three tables as the program lays them. -/
import Derived.Test.YtddopbhcpblpjaaGreatDoorMj17
import Derived.Test.YtddopbhcpblpjaaGreatDoorTie
import Derived.Test.YtddopbhcpblpjaaGreatDoorCards
namespace Go.Proofs.YtddopbhcpblpjaaGreatDoor
open Go.RowKit
open List hiding and get max min or set
open Go.Proofs.Tryz
open World
set_option maxRecDepth 100000
set_option maxHeartbeats 8000000
section
open Go.ChangeShapes Go.WideShapes Go.ChangeAt Go.RowKit Go.WideMaps Go.WideElems
open Go.ChangeMaps (setBlock shut_map_nil open_string shut_string)
theorem iJ(os:Os)(d:os.Started)(H:Type)(enc:TypeId×Value->H) :
  ReturnsInHanded {} checked os 3 .any (λw args=>(Rows.stateZeroSpec.pre enc prog Tryz.f3 Rows.stateZeroRow.domain false w args/\laidMetH prog p4 w)/\sizedMet enc prog Tryz.f3 (OpenSpec.ofChange Rows.stateZeroSpec) false w args) (Rows.stateZeroSpec.post enc prog Tryz.f3 false true false false):=by
 refine returnsInHanded_of_change_and (C:=checked) (X:=λw _=>laidMetH prog p4 w) (λ_ _ _ hh h=>h.of_heap hh) Tryz.own d kR func3
  (ChangeSpec.witness_at (enc:=enc) (C:=checked) (os:=os) (X:=λw _=>laidMetH prog p4 w) false (Q5 prog os) #[.agg (vW ⟨0,⟨#[]⟩,⟨#[]⟩,id0⟩),.agg (idC id0),.string ⟨#[]⟩] 8 rfl kR kR kR kR kR (Q4 os _)) ?_
 intro W base args ds gs k g hW s r hL _;have f:∀(j:Nat) t v,Tryz.f3.params[j]?=some t->args[j]?=some v->Value.okWide prog W .any base t v:=g;have y:=hW;have hg:=ZZ hL;obtain⟨p,q,m,hV,rfl,B,A⟩:=hW;have hA:DataW.TrodAll enc prog W 0 (λ_=>true) true Tryz.f3.params.toList args.toList ds p:=m;rw[params3]at hA f;have hp:=XJ hL;obtain⟨v0,v1,v2,d0,d1,d2,p0,p1,p2,rfl,rfl,rfl,h0,h1,h2⟩:=JB hA;obtain⟨rfl,rfl⟩:=KY hV;obtain⟨x,rfl,_,_⟩:=qf underlying25 rfl opensEnt (f 0 25 v0 rfl rfl) h0;obtain⟨i,rfl,_⟩:=qf underlying23 rfl opensId (f 1 23 v1 rfl rfl) h1;obtain⟨t,rfl,_,_,ht⟩:=open_string underlying9 (f 2 9 v2 rfl rfl) h2;clear m g;refine(JE x i t W ⟨hp,hg⟩).mono λe W' ⟨he,hb⟩=>?_;subst he;exact⟨_,rfl,law_post (tb:=4) Tryz.laidOut kR underlying4 rfl rfl kR y hb⟩
theorem ZX:joinedFacts Tryz.pinned.checked.prog 3 Tryz.f3 Rows.stateZeroSpec Rows.stateZeroRow=true:=kR
theorem ZW:Tryz.pinned.checked.prog.funcNamed Rows.stateZeroRow.func=some 3:=kR
theorem YY:Tryz.f3.isInstance Tryz.pinned.checked.prog Rows.stateZeroRow.origin Rows.stateZeroRow.targs:=of_decide_eq_true kR
theorem YX:Tryz.f3.isWrapper Tryz.pinned.checked.prog Rows.stateZeroRow.wrapper Rows.stateZeroRow.mainSum:=by unfold Func.isWrapper;first | (rw[if_pos (by decide +kernel)];kernel_rfl) | (rw[if_neg (by decide +kernel)];exact⟨rfl,rfl⟩)
theorem stateZero_holds:Rows.StateZeroSaid :=
 OpenClaim.holds_of_wide 3 Tryz.f3 rfl rfl rfl rfl rfl rfl rfl ⟨rfl,rfl,rfl,rfl,rfl⟩ rfl rfl rfl rfl rfl ZW func3 ZX YY YX
  (λos d H enc _=>iJ os d H enc)
theorem stateZeroCard_holds:Rows.StateZeroCardSaid :=
 Claim7.holds_tied_plain_at .later [] [.data,.data,.data] true (true, "ee2daf89f4141042e7c287148041bab1e6288daa23ba2dbc1e1eae44cf8b4564") true
  stateZero_holds (λ_ h=>by cases h) kR (λ_ h=>by cases h) stateZero_row_tie rfl ⟨rfl,rfl⟩ kR rfl
  (λf fn hf d=>by
   obtain rfl:f=3:=Option.some.inj ((kR:prog.funcNamed "petrel/petrellaw28.StateZero" = some 3).symm.trans hf) |>.symm
   obtain rfl:fn=Tryz.f3:=(Option.some.inj (func3.symm.trans d)).symm;exact⟨kR,λj t ht=>by
    rw[params3]at ht;rcases j with _ | _ | _ | j
    ·have h3:t=25:=by simpa using ht.symm
     subst h3;exact(kR:prog.wantsStandIn 25=false)
    ·have h3:t=23:=by simpa using ht.symm
     subst h3;exact(kR:prog.wantsStandIn 23=false)
    ·have h3:t=9:=by simpa using ht.symm
     subst h3;exact(kR:prog.wantsStandIn 9=false)
    ·simp at ht⟩)
  kR
end
end Go.Proofs.YtddopbhcpblpjaaGreatDoor
