/- ViewOrder holds: the same marks from the last to the first, some of them twice, put and loaded in between, make the same value and the same bytes. No conditions beside the table of operations as the program lays it. -/
import Derived.Test.YtgfpjjppeldhbaaGreatDoorMq12
import Derived.Test.YtgfpjjppeldhbaaGreatDoorTie
import Derived.Test.YtgfpjjppeldhbaaGreatDoorCards
import Derived.SevenTiedAt
namespace Go.Proofs.YtgfpjjppeldhbaaGreatDoor
section
open Go.ChangeShapes Go.WideShapes Go.ChangeAt Go.RowKit Go.WideMaps Go.WideElems
open Go.ChangeMaps (setBlock shut_map_nil open_string shut_string)
theorem maxLen_leV4 : maxLen ≤ 9223372036854775807:=by decide
theorem u8_bdV {k : Int} (h : (Lit.int .u8 k).wf = true) : 0 ≤ k ∧ k ≤ 255:=by
  simpa [Lit.wf,IntKind.min,IntKind.max,IntKind.signed,IntKind.bits] using h
set_option maxRecDepth 100000 in
theorem viewOrder_lifted (os : Os) (started : os.Started) (H : Type) (enc : TypeId × Value → H) :
    ReturnsInHanded {} Tryz.checked os 10 .any (fun w args=>(Rows.viewOrderSpec.pre enc Tryz.prog Tryz.f10 Rows.viewOrderRow.domain false w args ∧ laidMetH Tryz.prog [("petrel/op.parts",Rows.laid_petrel_op_parts)] w) ∧ sizedMet enc Tryz.prog Tryz.f10 (OpenSpec.ofChange Rows.viewOrderSpec) false w args) (Rows.viewOrderSpec.post enc Tryz.prog Tryz.f10 false true false false):=by
  refine returnsInHanded_of_change_and (C:=Tryz.checked) (X:=fun w _=>laidMetH Tryz.prog [("petrel/op.parts",Rows.laid_petrel_op_parts)] w) (fun _ _ _ hh h=>h.of_heap hh) Tryz.own started (by kernel_rfl) Tryz.func10
    (ChangeSpec.witness_at (enc:=enc) (C:=Tryz.checked) (os:=os) (X:=fun w _=>laidMetH Tryz.prog [("petrel/op.parts",Rows.laid_petrel_op_parts)] w) false (laidWorld Tryz.prog os) #[.string ⟨#[]⟩,.slice none 0 0,.slice none 0 0,.int .u8 0] 8 rfl (by kernel_rfl) (by kernel_rfl) (by kernel_rfl) (by kernel_rfl) (by kernel_rfl) (laidWorld_met os _)) ?_
  intro W base args ds gs before hval0 hW hcnd hsz0 hL _;have hval : ∀ (j : Nat) t v,Tryz.f10.params[j]? = some t → args[j]? = some v → Value.okWide Tryz.prog W .any base t v:=hval0;have hW':=hW;have hg:=parts_of_laid hL;obtain ⟨p,q,hA0,hV,rfl,hfz,hnd⟩:=hW;have hA : DataW.TrodAll enc Tryz.prog W 0 (fun _=>true) true Tryz.f10.params.toList args.toList ds p:=hA0;rw [Tryz.params10] at hA hval;obtain ⟨v0,v1,v2,v3,d0,d1,d2,d3,p0,p1,p2,p3,rfl,rfl,rfl,h0,h1,h2,h3⟩:=trodAll_four hA;obtain ⟨rfl,rfl⟩:=trodVars_nil hV;obtain ⟨t,rfl,_,_,ht⟩:=open_string Tryz.underlying9 (hval 0 9 v0 rfl rfl) h0;obtain ⟨A,n,cap,R,rfl,hR,hRl,hok,hn,_⟩:=open_rows (k:=34) Tryz.underlying22 opensMarkV (by kernel_rfl) (by omega) (hval 1 22 v1 rfl rfl) h1;obtain ⟨A2,n2,cap2,B,rfl,hB,hBl,_,hn2,_⟩:=open_rows (k:=1) Tryz.underlying84 (opens_bool Tryz.underlying4) (by kernel_rfl) (by omega) (hval 2 84 v2 rfl rfl) h2;obtain ⟨k,rfl,_,_,wk⟩:=open_int Tryz.underlying5 (hval 3 5 v3 rfl rfl) h3;obtain ⟨a,rfl⟩ : ∃ a : Nat,k = a:=⟨k.toNat,by have:=u8_bdV wk;omega⟩
  clear hA0 hval0;have hml:=maxLen_leV4;refine (viewOrder_any t A n cap R A2 n2 cap2 B a W hg (by omega) ⟨hR,by omega,fun a ha=>by have:=(hok a ha).2;omega⟩ hB (by omega) (by have:=u8_bdV wk;omega)).mono fun e W' ⟨he,hb⟩=>?_;subst he;exact ⟨_,rfl,law_post (tb:=4) Tryz.laidOut (by kernel_rfl) Tryz.underlying4 rfl rfl (by kernel_rfl) hW' hb⟩
theorem viewOrder_facts : joinedFacts Tryz.pinned.checked.prog 10 Tryz.f10 Rows.viewOrderSpec Rows.viewOrderRow = true:=by kernel_rfl
theorem viewOrder_named : Tryz.pinned.checked.prog.funcNamed Rows.viewOrderRow.func = some 10:=by kernel_rfl
theorem viewOrder_inst : Tryz.f10.isInstance Tryz.pinned.checked.prog Rows.viewOrderRow.origin Rows.viewOrderRow.targs:=of_decide_eq_true (by kernel_rfl)
theorem viewOrder_wrap : Tryz.f10.isWrapper Tryz.pinned.checked.prog Rows.viewOrderRow.wrapper Rows.viewOrderRow.mainSum:=by unfold Func.isWrapper;first | (rw [if_pos (by decide +kernel)];kernel_rfl) | (rw [if_neg (by decide +kernel)];exact ⟨rfl,rfl⟩)
theorem viewOrder_holds : Rows.ViewOrderSaid :=
  OpenClaim.holds_of_wide 10 Tryz.f10 rfl rfl rfl rfl rfl rfl rfl ⟨rfl,rfl,rfl,rfl,rfl⟩ rfl rfl rfl rfl rfl viewOrder_named Tryz.func10 viewOrder_facts viewOrder_inst viewOrder_wrap
    (fun os started H enc _=>viewOrder_lifted os started H enc)
theorem viewOrderCard_holds : Rows.ViewOrderCardSaid :=
  Claim7.holds_tied_plain_at .later [] [.data] true (true, "f245672c1a817d2508774d6a3a2bceb9efc48028e5509a509eb3e4f8d9835711") true
    viewOrder_holds (fun _ h=>by cases h) (by kernel_rfl) (fun _ h=>by cases h) viewOrder_row_tie rfl ⟨rfl,rfl⟩ (by kernel_rfl) rfl
    (fun f fn hf hfn=>by
      obtain rfl : f = 10:=Option.some.inj ((show Tryz.prog.funcNamed "petrel/petrellaw26.ViewOrder" = some 10 by kernel_rfl).symm.trans hf) |>.symm
      obtain rfl : fn = Tryz.f10:=(Option.some.inj (Tryz.func10.symm.trans hfn)).symm;exact ⟨by kernel_rfl,fun j t ht=>by
        rw [Tryz.params10] at ht;rcases j with _ | _ | _ | _ | j
        · have h3 : t = 9:=by simpa using ht.symm
          subst h3;exact (show Tryz.prog.wantsStandIn 9 = false by kernel_rfl)
        · have h3 : t = 22:=by simpa using ht.symm
          subst h3;exact (show Tryz.prog.wantsStandIn 22 = false by kernel_rfl)
        · have h3 : t = 84:=by simpa using ht.symm
          subst h3;exact (show Tryz.prog.wantsStandIn 84 = false by kernel_rfl)
        · have h3 : t = 5:=by simpa using ht.symm
          subst h3;exact (show Tryz.prog.wantsStandIn 5 = false by kernel_rfl)
        · simp at ht⟩)
    (by kernel_rfl)
end
end Go.Proofs.YtgfpjjppeldhbaaGreatDoor
