/- StateEvicts holds. No conditions beside the three tables as the program lays them. -/
import Derived.Test.YtdjiaickicgdlaaGreatDoorMg17
import Derived.Test.YtdjiaickicgdlaaGreatDoorTie
import Derived.Test.YtdjiaickicgdlaaGreatDoorCards
namespace Go.Proofs.YtdjiaickicgdlaaGreatDoor
open Go.RowKit
open List hiding and get max min or set
open Go.Proofs.Tryz
open World
set_option maxRecDepth 100000
set_option maxHeartbeats 8000000
section
open Go.ChangeShapes Go.WideShapes Go.ChangeAt Go.RowKit Go.WideMaps Go.WideElems
open Go.ChangeMaps (setBlock shut_map_nil open_string shut_string)
theorem u8_bdE{k:Int}(h:(Lit.int .u8 k).wf=true):0<=k/\k<=255:=by
 simpa[Lit.wf,IntKind.min,IntKind.max,IntKind.signed,IntKind.bits]using h
theorem sH(os:Os)(d:os.Started)(H:Type)(enc:TypeId×Value->H) :
  ReturnsInHanded {} checked os 3 .any (λw args=>(Rows.stateEvictsSpec.pre enc prog Tryz.f3 Rows.stateEvictsRow.domain false w args/\laidMetH prog pH w)/\sizedMet enc prog Tryz.f3 (OpenSpec.ofChange Rows.stateEvictsSpec) false w args) (Rows.stateEvictsSpec.post enc prog Tryz.f3 false true false false):=by
 refine returnsInHanded_of_change_and (C:=checked) (X:=λw _=>laidMetH prog pH w) (λ_ _ _ hh h=>h.of_heap hh) Tryz.own d kR func3
  (ChangeSpec.witness_at (enc:=enc) (C:=checked) (os:=os) (X:=λw _=>laidMetH prog pH w) false (QT prog os) #[.int .i64 0,.slice none 0 0,.int .u8 0] 8 rfl kR kR kR kR kR (QS os _)) ?_
 intro W base args ds gs m g hW D s hL _;have f:∀(j:Nat) t v,Tryz.f3.params[j]?=some t->args[j]?=some v->Value.okWide prog W .any base t v:=g;have E:=hW;have hg:=YN hL;obtain⟨p,q,r,hV,rfl,J,F⟩:=hW;have hA:DataW.TrodAll enc prog W 0 (λ_=>true) true Tryz.f3.params.toList args.toList ds p:=r;rw[params3]at hA f;have hp:=Q5 hL;obtain⟨v0,v1,v2,d0,d1,d2,p0,p1,p2,rfl,rfl,rfl,h0,h1,h2⟩:=JZ hA;obtain⟨rfl,rfl⟩:=BW hV;obtain⟨q,rfl,_,_,_⟩:=open_int underlying3 (f 0 3 v0 rfl rfl) h0;obtain⟨A,n,cap,R,rfl,hR,L,y,hn,_⟩:=open_rows (k:=35) underlying22 opensEnt kR oM (f 1 22 v1 rfl rfl) h1;obtain⟨k,rfl,_,_,wk⟩:=open_int underlying5 (f 2 5 v2 rfl rfl) h2;have G:=QK;obtain⟨B,I⟩:=u8_bdE wk;obtain⟨a,rfl⟩:=Int.eq_ofNat_of_zero_le B;clear r g;refine(YL q a oM W A n cap R ⟨hR,oM,y⟩ ⟨hp,hg⟩).mono λe W' ⟨he,hb⟩=>?_;subst he;exact⟨_,rfl,law_post (tb:=4) Tryz.laidOut kR underlying4 rfl rfl kR E hb⟩
theorem eU:joinedFacts Tryz.pinned.checked.prog 3 Tryz.f3 Rows.stateEvictsSpec Rows.stateEvictsRow=true:=kR
theorem eT:Tryz.pinned.checked.prog.funcNamed Rows.stateEvictsRow.func=some 3:=kR
theorem aH:Tryz.f3.isInstance Tryz.pinned.checked.prog Rows.stateEvictsRow.origin Rows.stateEvictsRow.targs:=of_decide_eq_true kR
theorem aF:Tryz.f3.isWrapper Tryz.pinned.checked.prog Rows.stateEvictsRow.wrapper Rows.stateEvictsRow.mainSum:=by unfold Func.isWrapper;first | (rw[if_pos (by decide +kernel)];kernel_rfl) | (rw[if_neg (by decide +kernel)];exact⟨rfl,rfl⟩)
theorem stateEvicts_holds:Rows.StateEvictsSaid :=
 OpenClaim.holds_of_wide 3 Tryz.f3 rfl rfl rfl rfl rfl rfl rfl ⟨rfl,rfl,rfl,rfl,rfl⟩ rfl rfl rfl rfl rfl eT func3 eU aH aF
  (λos d H enc _=>sH os d H enc)
theorem stateEvictsCard_holds:Rows.StateEvictsCardSaid :=
 Claim7.holds_tied_plain_at .later [] [.data,.data,.data] true (true, "549fe3fdd43b7c6a43b0da2314cedae92d563890f014adbe99ec9f118090a9a7") true
  stateEvicts_holds (λ_ h=>by cases h) kR (λ_ h=>by cases h) stateEvicts_row_tie rfl ⟨rfl,rfl⟩ kR rfl
  (λf fn hf d=>by
   obtain rfl:f=3:=Option.some.inj ((kR:prog.funcNamed "petrel/petrellaw28.StateEvicts" = some 3).symm.trans hf) |>.symm
   obtain rfl:fn=Tryz.f3:=(Option.some.inj (func3.symm.trans d)).symm;exact⟨kR,λj t ht=>by
    rw[params3]at ht;rcases j with _ | _ | _ | j
    ·have h3:t=3:=by simpa using ht.symm
     subst h3;exact(kR:prog.wantsStandIn 3=false)
    ·have h3:t=22:=by simpa using ht.symm
     subst h3;exact(kR:prog.wantsStandIn 22=false)
    ·have h3:t=5:=by simpa using ht.symm
     subst h3;exact(kR:prog.wantsStandIn 5=false)
    ·simp at ht⟩)
  kR
end
end Go.Proofs.YtdjiaickicgdlaaGreatDoor
