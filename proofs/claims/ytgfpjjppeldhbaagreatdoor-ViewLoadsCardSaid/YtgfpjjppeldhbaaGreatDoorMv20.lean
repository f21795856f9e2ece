/- ViewLoads holds: any bytes are a view of any topic or none as the document has it; what is loaded is put as its bytes, and goes on. No conditions beside the table of operations as the program lays it. -/
import Derived.Test.YtgfpjjppeldhbaaGreatDoorMv19
import Derived.Test.YtgfpjjppeldhbaaGreatDoorMv18
import Derived.Test.YtgfpjjppeldhbaaGreatDoorTie
import Derived.Test.YtgfpjjppeldhbaaGreatDoorCards
import Derived.SevenTiedAt
namespace Go.Proofs.YtgfpjjppeldhbaaGreatDoor
open Go.RowKit
set_option maxRecDepth 100000
set_option maxHeartbeats 8000000
section
open Go.ChangeShapes Go.WideShapes Go.ChangeAt Go.RowKit Go.WideMaps Go.WideElems
open Go.ChangeMaps (setBlock shut_map_nil open_string shut_string)
theorem V4:maxLen<=9223372036854775807:=by decide
theorem s9(os:Os)(d:os.Started)(H:Type)(enc:TypeId×Value->H) :
  ReturnsInHanded {} Tryz.checked os 9 .any (λw args=>(Rows.viewLoadsSpec.pre enc Tryz.prog Tryz.f9 Rows.viewLoadsRow.domain false w args/\laidMetH Tryz.prog [("petrel/op.parts",Rows.laid_petrel_op_parts)] w)/\sizedMet enc Tryz.prog Tryz.f9 (OpenSpec.ofChange Rows.viewLoadsSpec) false w args) (Rows.viewLoadsSpec.post enc Tryz.prog Tryz.f9 false true false false):=by
 refine returnsInHanded_of_change_and (C:=Tryz.checked) (X:=λw _=>laidMetH Tryz.prog [("petrel/op.parts",Rows.laid_petrel_op_parts)] w) (λ_ _ _ hh h=>h.of_heap hh) Tryz.own d (by kernel_rfl) Tryz.func9
  (ChangeSpec.witness_at (enc:=enc) (C:=Tryz.checked) (os:=os) (X:=λw _=>laidMetH Tryz.prog [("petrel/op.parts",Rows.laid_petrel_op_parts)] w) false (YV Tryz.prog os) #[.string ⟨#[]⟩,.string ⟨#[]⟩,.slice none 0 0] 8 rfl (by kernel_rfl) (by kernel_rfl) (by kernel_rfl) (by kernel_rfl) (by kernel_rfl) (ZX os _)) ?_
 intro W base args ds gs m g hW D y hL _;have f:∀(j:Nat) t v,Tryz.f9.params[j]? = some t->args[j]? = some v->Value.okWide Tryz.prog W .any base t v:=g;have E:=hW;have hg:=ZT hL;obtain⟨p,q,r,hV,rfl,I,F⟩:=hW;have hA:DataW.TrodAll enc Tryz.prog W 0 (λ_=>true) true Tryz.f9.params.toList args.toList ds p:=r;rw[Tryz.params9]at hA f;obtain⟨v0,v1,v2,d0,d1,d2,p0,p1,p2,rfl,rfl,rfl,h0,h1,h2⟩:=trodAll_three hA;obtain⟨rfl,rfl⟩:=XS hV;obtain⟨t,rfl,_,_,ht⟩:=open_string Tryz.underlying9 (f 0 9 v0 rfl rfl) h0;obtain⟨s,rfl,_,_,hs⟩:=open_string Tryz.underlying9 (f 1 9 v1 rfl rfl) h1;obtain⟨A,n,cap,R,rfl,hR,J,B,hn,_⟩:=qv (k:=34) Tryz.underlying22 BF (by kernel_rfl) (by omega) (f 2 22 v2 rfl rfl) h2;clear r g;have G:=V4;refine(ZM t s A n cap R W hg (by omega) (by omega) ⟨hR,by omega,λa ha=>by have:=(B a ha).2;omega⟩).mono λe W' ⟨he,hb⟩=>?_;subst he;exact⟨_,rfl,law_post (tb:=4) Tryz.laidOut (by kernel_rfl) Tryz.underlying4 rfl rfl (by kernel_rfl) E hb⟩
theorem viewLoads_holds:Rows.ViewLoadsSaid :=
 OpenClaim.holds_of_wide 9 Tryz.f9 rfl rfl rfl rfl rfl rfl rfl ⟨rfl,rfl,rfl,rfl,rfl⟩ rfl rfl rfl rfl rfl eD Tryz.func9 eF eZ eW
  (λos d H enc _=>s9 os d H enc)
end
end Go.Proofs.YtgfpjjppeldhbaaGreatDoor
