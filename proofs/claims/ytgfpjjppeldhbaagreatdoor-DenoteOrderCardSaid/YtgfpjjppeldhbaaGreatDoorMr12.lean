/- DenoteOrder and DenoteViews: row -/
import Derived.Test.YtgfpjjppeldhbaaGreatDoorMr11
namespace Go.Proofs.YtgfpjjppeldhbaaGreatDoor
section
open Go.ChangeShapes Go.WideShapes Go.ChangeAt Go.RowKit Go.WideMaps Go.WideElems
open Go.ChangeMaps (setBlock shut_map_nil open_string shut_string)
theorem maxLen_leV7 : maxLen ≤ 9223372036854775807:=by decide
theorem u8_bdV7 {k : Int} (h : (Lit.int .u8 k).wf = true) : 0 ≤ k ∧ k ≤ 255:=by
  simpa [Lit.wf,IntKind.min,IntKind.max,IntKind.signed,IntKind.bits] using h
theorem none_cap {H : Type} {enc : TypeId × Value → H} {base : Nat} {spare : Nat → Bool} {held : Bool} {P : Program} {w : World} {T E : TypeId} {A : Option Addr} {n cap : Nat} {d : DataW H} {p : List MemPlace} (u : P.underlying T = some (.slice E)) (h : DataW.Trod enc P w base spare held T (.slice A n cap) d p) : A = none → cap = 0:=by
  intro hA;subst hA;obtain ⟨fuel,hf⟩:=h;rcases Go.Deep.open_slice u hf with ⟨h0,hx⟩ | ⟨a,len,cap',m,f,D,Pl,hcs,hb,hlc,hcm,hm,hx,hel⟩
  · have e0 : (Value.slice none n cap).cells.toList = [Value.slice none n cap]:=rfl;rw [e0] at h0;injection h0 with h0 _
    injection h0
  · have e0 : (Value.slice none n cap).cells.toList = [Value.slice none n cap]:=rfl;rw [e0] at hcs;injection hcs with h0 _
    injection h0 with h1 _ _
    cases h1
set_option maxRecDepth 100000 in
theorem denoteOrder_lifted (os : Os) (started : os.Started) (H : Type) (enc : TypeId × Value → H) :
    ReturnsInHanded {} Tryz.checked os 4 .any (fun w args=>(Rows.denoteOrderSpec.pre enc Tryz.prog Tryz.f4 Rows.denoteOrderRow.domain false w args ∧ laidMetH Tryz.prog [("petrel/op.parts",Rows.laid_petrel_op_parts)] w) ∧ sizedMet enc Tryz.prog Tryz.f4 (OpenSpec.ofChange Rows.denoteOrderSpec) false w args) (Rows.denoteOrderSpec.post enc Tryz.prog Tryz.f4 false true false false):=by
  refine returnsInHanded_of_change_and (C:=Tryz.checked) (X:=fun w _=>laidMetH Tryz.prog [("petrel/op.parts",Rows.laid_petrel_op_parts)] w) (fun _ _ _ hh h=>h.of_heap hh) Tryz.own started (by kernel_rfl) Tryz.func4
    (ChangeSpec.witness_at (enc:=enc) (C:=Tryz.checked) (os:=os) (X:=fun w _=>laidMetH Tryz.prog [("petrel/op.parts",Rows.laid_petrel_op_parts)] w) false (laidWorld Tryz.prog os) #[.string ⟨#[]⟩,.slice none 0 0,.slice none 0 0] 8 rfl (by kernel_rfl) (by kernel_rfl) (by kernel_rfl) (by kernel_rfl) (by kernel_rfl) (laidWorld_met os _)) ?_
  intro W base args ds gs before hval0 hW hcnd hsz0 hL _;have hval : ∀ (j : Nat) t v,Tryz.f4.params[j]? = some t → args[j]? = some v → Value.okWide Tryz.prog W .any base t v:=hval0;have hW':=hW;have hg:=parts_of_laid hL;obtain ⟨p,q,hA0,hV,rfl,hfz,hnd⟩:=hW;have hA : DataW.TrodAll enc Tryz.prog W 0 (fun _=>true) true Tryz.f4.params.toList args.toList ds p:=hA0;rw [Tryz.params4] at hA hval;obtain ⟨v0,v1,v2,d0,d1,d2,p0,p1,p2,rfl,rfl,rfl,h0,h1,h2⟩:=trodAll_three hA;obtain ⟨rfl,rfl⟩:=trodVars_nil hV;obtain ⟨t,rfl,_,_,ht⟩:=open_string Tryz.underlying9 (hval 0 9 v0 rfl rfl) h0;obtain ⟨A,n,cap,R,rfl,hR,hRl,hok,hn,_⟩:=open_rows (k:=34) Tryz.underlying22 opensMarkV (by kernel_rfl) (by omega) (hval 1 22 v1 rfl rfl) h1;have hcap:=none_cap Tryz.underlying22 h1;obtain ⟨A2,n2,cap2,B,rfl,hB,hBl,hbk,hn2,_⟩:=open_rows (k:=1) Tryz.underlying37 (opens_int Tryz.underlying5) (by kernel_rfl) (by omega) (hval 2 37 v2 rfl rfl) h2;clear hA0 hval0;have hml:=maxLen_leV7;refine (denoteOrder_any t A n cap R A2 n2 cap2 B W hg (by omega) ⟨hR,by omega,fun a ha=>by have:=(hok a ha).2;omega⟩ hcap hB (fun b hb=>u8_bdV7 (hbk b hb)) (by omega)).mono fun e W' ⟨he,hb⟩=>?_;subst he;exact ⟨_,rfl,law_post (tb:=4) Tryz.laidOut (by kernel_rfl) Tryz.underlying4 rfl rfl (by kernel_rfl) hW' hb⟩
theorem denoteOrder_facts : joinedFacts Tryz.pinned.checked.prog 4 Tryz.f4 Rows.denoteOrderSpec Rows.denoteOrderRow = true:=by kernel_rfl
theorem denoteOrder_named : Tryz.pinned.checked.prog.funcNamed Rows.denoteOrderRow.func = some 4:=by kernel_rfl
theorem denoteOrder_inst : Tryz.f4.isInstance Tryz.pinned.checked.prog Rows.denoteOrderRow.origin Rows.denoteOrderRow.targs:=of_decide_eq_true (by kernel_rfl)
theorem denoteOrder_wrap : Tryz.f4.isWrapper Tryz.pinned.checked.prog Rows.denoteOrderRow.wrapper Rows.denoteOrderRow.mainSum:=by unfold Func.isWrapper;first | (rw [if_pos (by decide +kernel)];kernel_rfl) | (rw [if_neg (by decide +kernel)];exact ⟨rfl,rfl⟩)
theorem denoteOrder_holds : Rows.DenoteOrderSaid :=
  OpenClaim.holds_of_wide 4 Tryz.f4 rfl rfl rfl rfl rfl rfl rfl ⟨rfl,rfl,rfl,rfl,rfl⟩ rfl rfl rfl rfl rfl denoteOrder_named Tryz.func4 denoteOrder_facts denoteOrder_inst denoteOrder_wrap
    (fun os started H enc _=>denoteOrder_lifted os started H enc)
theorem denoteOrderCard_holds : Rows.DenoteOrderCardSaid :=
  Claim7.holds_tied_plain_at .later [] [.data] true (true, "f245672c1a817d2508774d6a3a2bceb9efc48028e5509a509eb3e4f8d9835711") true
    denoteOrder_holds (fun _ h=>by cases h) (by kernel_rfl) (fun _ h=>by cases h) denoteOrder_row_tie rfl ⟨rfl,rfl⟩ (by kernel_rfl) rfl
    (fun f fn hf hfn=>by
      obtain rfl : f = 4:=Option.some.inj ((show Tryz.prog.funcNamed "petrel/petrellaw27.DenoteOrder" = some 4 by kernel_rfl).symm.trans hf) |>.symm
      obtain rfl : fn = Tryz.f4:=(Option.some.inj (Tryz.func4.symm.trans hfn)).symm;exact ⟨by kernel_rfl,fun j t ht=>by
        rw [Tryz.params4] at ht;rcases j with _ | _ | _ | j
        · have h3 : t = 9:=by simpa using ht.symm
          subst h3;exact (show Tryz.prog.wantsStandIn 9 = false by kernel_rfl)
        · have h3 : t = 22:=by simpa using ht.symm
          subst h3;exact (show Tryz.prog.wantsStandIn 22 = false by kernel_rfl)
        · have h3 : t = 37:=by simpa using ht.symm
          subst h3;exact (show Tryz.prog.wantsStandIn 37 = false by kernel_rfl)
        · simp at ht⟩)
    (by kernel_rfl)
end
end Go.Proofs.YtgfpjjppeldhbaaGreatDoor
