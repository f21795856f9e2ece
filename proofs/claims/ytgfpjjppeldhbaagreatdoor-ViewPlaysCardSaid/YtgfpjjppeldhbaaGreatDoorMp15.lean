/- ViewPlays holds: whatever is folded into a view of any topic has the document's value, ids and bytes. No conditions beside the table of operations as the program lays it. -/
import Derived.Test.YtgfpjjppeldhbaaGreatDoorMp14
import Derived.Test.YtgfpjjppeldhbaaGreatDoorTie
import Derived.Test.YtgfpjjppeldhbaaGreatDoorCards
import Derived.SevenTiedAt
namespace Go.Proofs.YtgfpjjppeldhbaaGreatDoor
section
open Go.ChangeShapes Go.WideShapes Go.ChangeAt Go.RowKit Go.WideMaps Go.WideElems
open Go.ChangeMaps (setBlock shut_map_nil open_string shut_string)
theorem iQ : maxLen ≤ 9223372036854775807:=by decide
set_option maxRecDepth 100000 in
theorem l8 (os : Os) (started : os.Started) (H : Type) (enc : TypeId × Value → H) :
    ReturnsInHanded {} Tryz.checked os 7 .any (fun w args=>(Rows.viewPlaysSpec.pre enc Tryz.prog Tryz.f7 Rows.viewPlaysRow.domain false w args ∧ laidMetH Tryz.prog [("petrel/op.parts",Rows.laid_petrel_op_parts)] w) ∧ sizedMet enc Tryz.prog Tryz.f7 (OpenSpec.ofChange Rows.viewPlaysSpec) false w args) (Rows.viewPlaysSpec.post enc Tryz.prog Tryz.f7 false true false false):=by
  refine returnsInHanded_of_change_and (C:=Tryz.checked) (X:=fun w _=>laidMetH Tryz.prog [("petrel/op.parts",Rows.laid_petrel_op_parts)] w) (fun _ _ _ hh h=>h.of_heap hh) Tryz.own started (by kernel_rfl) Tryz.func7
    (ChangeSpec.witness_at (enc:=enc) (C:=Tryz.checked) (os:=os) (X:=fun w _=>laidMetH Tryz.prog [("petrel/op.parts",Rows.laid_petrel_op_parts)] w) false (rV Tryz.prog os) #[.string ⟨#[]⟩,.slice none 0 0,.agg (idC id0)] 8 rfl (by kernel_rfl) (by kernel_rfl) (by kernel_rfl) (by kernel_rfl) (by kernel_rfl) (r4 os _)) ?_
  intro W base args ds gs before hval0 hW hcnd hsz0 hL _;have hval : ∀ (j : Nat) t v,Tryz.f7.params[j]? = some t → args[j]? = some v → Value.okWide Tryz.prog W .any base t v:=hval0;have hW':=hW;have hg:=pZ hL;obtain ⟨p,q,hA0,hV,rfl,hfz,hnd⟩:=hW;have hA : DataW.TrodAll enc Tryz.prog W 0 (fun _=>true) true Tryz.f7.params.toList args.toList ds p:=hA0;rw [Tryz.params7] at hA hval;obtain ⟨v0,v1,v2,d0,d1,d2,p0,p1,p2,rfl,rfl,rfl,h0,h1,h2⟩:=trodAll_three hA;obtain ⟨rfl,rfl⟩:=sW hV;obtain ⟨t,rfl,_,_,ht⟩:=open_string Tryz.underlying9 (hval 0 9 v0 rfl rfl) h0;obtain ⟨A,n,cap,R,rfl,hR,hRl,hok,hn,_⟩:=Q2 (k:=34) Tryz.underlying22 ZX (by kernel_rfl) (by omega) (hval 1 22 v1 rfl rfl) h1;obtain ⟨x,rfl,_⟩:=VY Tryz.underlying39 rfl YT (hval 2 39 v2 rfl rfl) h2;clear hA0 hval0;have hml:=iQ;refine (pR t A n cap R x W hg (by omega) ⟨hR,by omega,fun a ha=>by have:=(hok a ha).2;omega⟩).mono fun e W' ⟨he,hb⟩=>?_;subst he;exact ⟨_,rfl,KC (tb:=4) Tryz.laidOut (by kernel_rfl) Tryz.underlying4 rfl rfl (by kernel_rfl) hW' hb⟩
theorem mG : joinedFacts Tryz.pinned.checked.prog 7 Tryz.f7 Rows.viewPlaysSpec Rows.viewPlaysRow = true:=by kernel_rfl
theorem mF : Tryz.pinned.checked.prog.funcNamed Rows.viewPlaysRow.func = some 7:=by kernel_rfl
theorem mQ : Tryz.f7.isInstance Tryz.pinned.checked.prog Rows.viewPlaysRow.origin Rows.viewPlaysRow.targs:=of_decide_eq_true (by kernel_rfl)
theorem mP : Tryz.f7.isWrapper Tryz.pinned.checked.prog Rows.viewPlaysRow.wrapper Rows.viewPlaysRow.mainSum:=by unfold Func.isWrapper;first | (rw [if_pos (by decide +kernel)];kernel_rfl) | (rw [if_neg (by decide +kernel)];exact ⟨rfl,rfl⟩)
theorem viewPlays_holds : Rows.ViewPlaysSaid :=
  OpenClaim.holds_of_wide 7 Tryz.f7 rfl rfl rfl rfl rfl rfl rfl ⟨rfl,rfl,rfl,rfl,rfl⟩ rfl rfl rfl rfl rfl mF Tryz.func7 mG mQ mP
    (fun os started H enc _=>l8 os started H enc)
theorem viewPlaysCard_holds : Rows.ViewPlaysCardSaid :=
  Claim7.holds_tied_plain_at .later [] [.data] true (true, "f245672c1a817d2508774d6a3a2bceb9efc48028e5509a509eb3e4f8d9835711") true
    viewPlays_holds (fun _ h=>by cases h) (by kernel_rfl) (fun _ h=>by cases h) viewPlays_row_tie rfl ⟨rfl,rfl⟩ (by kernel_rfl) rfl
    (fun f fn hf hfn=>by
      obtain rfl : f = 7:=Option.some.inj ((show Tryz.prog.funcNamed "petrel/petrellaw26.ViewPlays" = some 7 by kernel_rfl).symm.trans hf) |>.symm
      obtain rfl : fn = Tryz.f7:=(Option.some.inj (Tryz.func7.symm.trans hfn)).symm;exact ⟨by kernel_rfl,fun j t ht=>by
        rw [Tryz.params7] at ht;rcases j with _ | _ | _ | j
        · have h3 : t = 9:=by simpa using ht.symm
          subst h3;exact (show Tryz.prog.wantsStandIn 9 = false by kernel_rfl)
        · have h3 : t = 22:=by simpa using ht.symm
          subst h3;exact (show Tryz.prog.wantsStandIn 22 = false by kernel_rfl)
        · have h3 : t = 39:=by simpa using ht.symm
          subst h3;exact (show Tryz.prog.wantsStandIn 39 = false by kernel_rfl)
        · simp at ht⟩)
    (by kernel_rfl)
end
end Go.Proofs.YtgfpjjppeldhbaaGreatDoor
