/- KeeperZero holds: the row. No conditions beside the four tables as the program lays them. -/
import Derived.Test.YtplpiicfkbpkaaaGreatDoorMk14
import Derived.Test.YtplpiicfkbpkaaaGreatDoorMk16
import Derived.Test.YtplpiicfkbpkaaaGreatDoorMk15
import Derived.Test.YtplpiicfkbpkaaaGreatDoorTie
import Derived.Test.YtplpiicfkbpkaaaGreatDoorCards
import Derived.SevenTiedAt
namespace Go.Proofs.YtplpiicfkbpkaaaGreatDoor
open Go.RowKit
open List hiding and get max min or set
open Go.Proofs.Tryz
open World
set_option maxRecDepth 100000
set_option maxHeartbeats 8000000
section
open Go.ChangeShapes Go.WideShapes Go.ChangeAt Go.RowKit Go.WideMaps Go.WideElems
open Go.ChangeMaps (setBlock shut_map_nil open_string shut_string)
theorem keeperZero_lifted(os:Os)(d:os.Started)(H:Type)(enc:TypeId×Value->H) :
  ReturnsInHanded {} Tryz.checked os 3 .any (λw args=>(Rows.keeperZeroSpec.pre enc Tryz.prog Tryz.f3 Rows.keeperZeroRow.domain false w args/\laidMetH Tryz.prog laid4 w)/\sizedMet enc Tryz.prog Tryz.f3 (OpenSpec.ofChange Rows.keeperZeroSpec) false w args) (Rows.keeperZeroSpec.post enc Tryz.prog Tryz.f3 false true false false):=by
 refine returnsInHanded_of_change_and (C:=Tryz.checked) (X:=λw _=>laidMetH Tryz.prog laid4 w) (λ_ _ _ hh h=>h.of_heap hh) Tryz.own d (by kernel_rfl) Tryz.func3
  (ChangeSpec.witness_at (enc:=enc) (C:=Tryz.checked) (os:=os) (X:=λw _=>laidMetH Tryz.prog laid4 w) false (laidWorld4 Tryz.prog os) #[.agg (entC ⟨0,⟨#[]⟩,⟨#[]⟩,id0⟩),.string ⟨#[]⟩,.agg (opPC ⟨0,0,⟨#[]⟩,⟨#[]⟩,id0,.slice none 0 0⟩)] 8 rfl (by kernel_rfl) (by kernel_rfl) (by kernel_rfl) (by kernel_rfl) (by kernel_rfl) (laidWorld4_met os _)) ?_
 intro W base args ds gs y g hW F E hL _;have f:∀(j:Nat) t v,Tryz.f3.params[j]? = some t->args[j]? = some v->Value.okWide Tryz.prog W .any base t v:=g;have G:=hW;obtain⟨p,q,D,hV,rfl,J,I⟩:=hW;have hA:DataW.TrodAll enc Tryz.prog W 0 (λ_=>true) true Tryz.f3.params.toList args.toList ds p:=D;rw[Tryz.params3]at hA f;have hc:=crcVar_of_laid hL;have B:=laid3_of_laid4 hL;have hg:=shaVars_of_laid B;have hp:=parts_of_laid3 B;obtain⟨v0,v1,v2,d0,d1,d2,p0,p1,p2,rfl,rfl,rfl,h0,h1,h2⟩:=trodAll_three hA;obtain⟨rfl,rfl⟩:=trodVars_nil hV;obtain⟨x,rfl,_,_⟩:=open_agg Tryz.underlying25 rfl opensEnt (f 0 25 v0 rfl rfl) h0;obtain⟨t,rfl,_,_,ht⟩:=open_string Tryz.underlying9 (f 1 9 v1 rfl rfl) h1;obtain⟨⟨ok,on,s,k,r,A,m,c⟩,rfl,_⟩:=open_agg Tryz.underlying28 rfl opensOp (f 2 28 v2 rfl rfl) h2;clear D g;refine(keeperZero_any x t ok on s k r A m c W ⟨hp,hg⟩ hc).mono λe W' ⟨he,hb⟩=>?_;subst he;exact⟨_,rfl,law_post (tb:=4) Tryz.laidOut (by kernel_rfl) Tryz.underlying4 rfl rfl (by kernel_rfl) G hb⟩
theorem keeperZero_holds:Rows.KeeperZeroSaid :=
 OpenClaim.holds_of_wide 3 Tryz.f3 rfl rfl rfl rfl rfl rfl rfl ⟨rfl,rfl,rfl,rfl,rfl⟩ rfl rfl rfl rfl rfl keeperZero_named Tryz.func3 keeperZero_facts keeperZero_inst keeperZero_wrap
  (λos d H enc _=>keeperZero_lifted os d H enc)
end
end Go.Proofs.YtplpiicfkbpkaaaGreatDoor
