/- AuditPayloads holds. No conditions beside the three tables as the program lays them. -/
import Derived.Test.YtgedpfebepdcmaaGreatDoorMb14
import Derived.Test.YtgedpfebepdcmaaGreatDoorTie
import Derived.Test.YtgedpfebepdcmaaGreatDoorCards
import Derived.SevenTiedAt
namespace Go.Proofs.YtgedpfebepdcmaaGreatDoor
open Go.RowKit
set_option maxRecDepth 100000
set_option maxHeartbeats 8000000
section
open Go.ChangeShapes Go.WideShapes Go.ChangeAt Go.RowKit Go.WideMaps Go.WideElems
open Go.ChangeMaps (setBlock shut_map_nil open_string shut_string)
theorem eD {W:World} (h:laidMetH Tryz.prog tO W):yZ W:=by
  have h0:laidMet Tryz.prog tO W:=h;unfold tO at h0;have h':laidMet Tryz.prog [("petrel/op.parts",Lib.tabData .i64 [0,1,4,20,7,22,12,8])] W:=wV (wV h0);have hT:=Lib.tabIs_of_head (P:=Tryz.prog) (g:=2) (t:=233) (e:=3) (n:=8) (by kernel_rfl) (by kernel_rfl) Tryz.underlying233 Tryz.underlying3 (by kernel_rfl) (by kernel_rfl) h';intro k hk;have hc:=hT.cell (g:=2) (by kernel_rfl) k (by simpa using hk);rw[hc];have h8:k=0\/k=1\/k=2\/k=3\/k=4\/k=5\/k=6\/k=7:=by omega
  rcases h8 with rfl | rfl | rfl | rfl | rfl | rfl | rfl | rfl <;> rfl
theorem X9 {H:Type} {enc:TypeId×Value->H} {P:Program} {w:World} {base:Nat} {spare:Nat->Bool} {held:Bool} {t0 t1 t2 t3 t4 t5:TypeId} {args:Array Value} {ds:List (DataW H)} {ps:List MemPlace} (h:DataW.TrodAll enc P w base spare held [t0,t1,t2,t3,t4,t5] args.toList ds ps) :
    ∃(v0 v1 v2 v3 v4 v5:Value) (d0 d1 d2 d3 d4 d5:DataW H) (p0 p1 p2 p3 p4 p5:List MemPlace),args = #[v0,v1,v2,v3,v4,v5]/\ds = [d0,d1,d2,d3,d4,d5]/\ps=p0++(p1++(p2++(p3++(p4++p5))))/\DataW.Trod enc P w base spare held t0 v0 d0 p0/\DataW.Trod enc P w base spare held t1 v1 d1 p1/\DataW.Trod enc P w base spare held t2 v2 d2 p2/\DataW.Trod enc P w base spare held t3 v3 d3 p3/\DataW.Trod enc P w base spare held t4 v4 d4 p4/\DataW.Trod enc P w base spare held t5 v5 d5 p5:=by
  obtain⟨v0,vs0,d0,ds0,p0,q0,hargs,rfl,rfl,h0,r0⟩:=Go.ChangeShapes.trodAll_cons h;obtain⟨v1,vs1,d1,ds1,p1,q1,rfl,rfl,rfl,h1,r1⟩:=Go.ChangeShapes.trodAll_cons r0;obtain⟨v2,vs2,d2,ds2,p2,q2,rfl,rfl,rfl,h2,r2⟩:=Go.ChangeShapes.trodAll_cons r1;obtain⟨v3,vs3,d3,ds3,p3,q3,rfl,rfl,rfl,h3,r3⟩:=Go.ChangeShapes.trodAll_cons r2;obtain⟨v4,vs4,d4,ds4,p4,q4,rfl,rfl,rfl,h4,r4⟩:=Go.ChangeShapes.trodAll_cons r3;obtain⟨v5,vs5,d5,ds5,p5,q5,rfl,rfl,rfl,h5,r5⟩:=Go.ChangeShapes.trodAll_cons r4;obtain⟨rfl,rfl,rfl⟩:=Go.ChangeShapes.trodAll_nil r5;exact⟨v0,v1,v2,v3,v4,v5,d0,d1,d2,d3,d4,d5,p0,p1,p2,p3,p4,p5,by cases args;simp_all,rfl,by simp,h0,h1,h2,h3,h4,h5⟩
theorem lA (os:Os) (started:os.Started) (H:Type) (enc:TypeId×Value->H) :
    ReturnsInHanded {} Tryz.checked os 4 .any (fun w args=>(Rows.auditPayloadsSpec.pre enc Tryz.prog Tryz.f4 Rows.auditPayloadsRow.domain false w args/\laidMetH Tryz.prog tO w)/\sizedMet enc Tryz.prog Tryz.f4 (OpenSpec.ofChange Rows.auditPayloadsSpec) false w args) (Rows.auditPayloadsSpec.post enc Tryz.prog Tryz.f4 false true false false):=by
  refine returnsInHanded_of_change_and (C:=Tryz.checked) (X:=fun w _=>laidMetH Tryz.prog tO w) (fun _ _ _ hh h=>h.of_heap hh) Tryz.own started (by kernel_rfl) Tryz.func4
    (ChangeSpec.witness_at (enc:=enc) (C:=Tryz.checked) (os:=os) (X:=fun w _=>laidMetH Tryz.prog tO w) false (eQ Tryz.prog os) #[.int .i64 0,.slice none 0 0,.slice none 0 0,.string ⟨#[]⟩,.slice none 0 0,.agg (zF yM)] 8 rfl (by kernel_rfl) (by kernel_rfl) (by kernel_rfl) (by kernel_rfl) (by kernel_rfl) (eP os _)) ?_
  intro W base args ds gs before hval0 hW hcnd hsz0 hL _;have hval:∀(j:Nat) t v,Tryz.f4.params[j]? = some t->args[j]? = some v->Value.okWide Tryz.prog W .any base t v:=hval0;have hW':=hW;have hg:=sH hL;obtain⟨p,q,hA0,hV,rfl,hfz,hnd⟩:=hW;have hA:DataW.TrodAll enc Tryz.prog W 0 (fun _=>true) true Tryz.f4.params.toList args.toList ds p:=hA0;rw[Tryz.params4]at hA hval;have hp:=eD hL;obtain⟨v0,v1,v2,v3,v4,v5,d0,d1,d2,d3,d4,d5,p0,p1,p2,p3,p4,p5,rfl,rfl,rfl,h0,h1,h2,h3,h4,h5⟩:=X9 hA;obtain⟨rfl,rfl⟩:=ZX hV;obtain⟨k,rfl,_,_,_⟩:=open_int Tryz.underlying3 (hval 0 3 v0 rfl rfl) h0;obtain⟨A1,n1,c1,S,rfl,hS,hSl,_,hn1,_⟩:=pW (k:=32) Tryz.underlying26 B6 (by kernel_rfl) (by omega) (hval 1 26 v1 rfl rfl) h1;obtain⟨A2,n2,c2,B,rfl,hB,hBl,hBs,hn2,_⟩:=pW (k:=1) Tryz.underlying39 (gC Tryz.underlying9) (by kernel_rfl) (by omega) (hval 2 39 v2 rfl rfl) h2;obtain⟨t,rfl,_,_,ht⟩:=open_string Tryz.underlying9 (hval 3 9 v3 rfl rfl) h3;obtain⟨A,n,cap,R,rfl,hR,hRl,hok,hn,_⟩:=pW (k:=34) Tryz.underlying40 VJ (by kernel_rfl) (by omega) (hval 4 40 v4 rfl rfl) h4;obtain⟨x,rfl,hx,hxm⟩:=kq Tryz.underlying43 rfl yt (hval 5 43 v5 rfl rfl) h5;clear hA0 hval0;have hml:=rY;have e1:S.length=n1:=by simpa using hS.1
  have e2:B.length=n2:=by simpa using hB.1
  have e3:R.length=n:=by simpa using hR.1
  subst e1;subst e2;subst e3;refine(pM k A1 A2 A x.A c1 c2 cap x.c x.m S B t R x.k x.n x.Y W hS (by omega) hB (by omega) (fun b hb=>by have:=hBs b hb;omega) (by omega) hR (by omega) (fun a ha=>by have:=(hok a ha).2;omega) hx hxm hg hp).mono fun e W' ⟨he,hb⟩=>?_;subst he;exact⟨_,rfl,law_post (tb:=4) Tryz.laidOut (by kernel_rfl) Tryz.underlying4 rfl rfl (by kernel_rfl) hW' hb⟩
theorem m6:joinedFacts Tryz.pinned.checked.prog 4 Tryz.f4 Rows.auditPayloadsSpec Rows.auditPayloadsRow=true:=by kernel_rfl
theorem m5:Tryz.pinned.checked.prog.funcNamed Rows.auditPayloadsRow.func=some 4:=by kernel_rfl
theorem nB:Tryz.f4.isInstance Tryz.pinned.checked.prog Rows.auditPayloadsRow.origin Rows.auditPayloadsRow.targs:=of_decide_eq_true (by kernel_rfl)
theorem nA:Tryz.f4.isWrapper Tryz.pinned.checked.prog Rows.auditPayloadsRow.wrapper Rows.auditPayloadsRow.mainSum:=by unfold Func.isWrapper;first | (rw[if_pos (by decide +kernel)];kernel_rfl) | (rw[if_neg (by decide +kernel)];exact⟨rfl,rfl⟩)
theorem auditPayloads_holds:Rows.AuditPayloadsSaid :=
  OpenClaim.holds_of_wide 4 Tryz.f4 rfl rfl rfl rfl rfl rfl rfl ⟨rfl,rfl,rfl,rfl,rfl⟩ rfl rfl rfl rfl rfl m5 Tryz.func4 m6 nB nA
    (fun os started H enc _=>lA os started H enc)
theorem auditPayloadsCard_holds:Rows.AuditPayloadsCardSaid :=
  Claim7.holds_tied_plain_at .later [] [.data,.data,.data] true (true, "5e2a8e9e73b40d0215eaf3d79a29b0726411c486ff2ce8d5d8fd83bb4065abc8") false
    auditPayloads_holds (fun _ h=>by cases h) (by kernel_rfl) (fun _ h=>by cases h) auditPayloads_row_tie rfl ⟨rfl,rfl⟩ (by kernel_rfl) rfl
    (fun f fn hf hfn=>by
      obtain rfl:f=4:=Option.some.inj ((show Tryz.prog.funcNamed "petrel/petrellaw40.AuditPayloads" = some 4 by kernel_rfl).symm.trans hf) |>.symm
      obtain rfl:fn=Tryz.f4:=(Option.some.inj (Tryz.func4.symm.trans hfn)).symm;exact⟨by kernel_rfl,fun j t ht=>by
        rw[Tryz.params4]at ht;rcases j with _ | _ | _ | _ | _ | _ | j
        · have h3:t=3:=by simpa using ht.symm
          subst h3;exact(show Tryz.prog.wantsStandIn 3=false by kernel_rfl)
        · have h3:t=26:=by simpa using ht.symm
          subst h3;exact(show Tryz.prog.wantsStandIn 26=false by kernel_rfl)
        · have h3:t=39:=by simpa using ht.symm
          subst h3;exact(show Tryz.prog.wantsStandIn 39=false by kernel_rfl)
        · have h3:t=9:=by simpa using ht.symm
          subst h3;exact(show Tryz.prog.wantsStandIn 9=false by kernel_rfl)
        · have h3:t=40:=by simpa using ht.symm
          subst h3;exact(show Tryz.prog.wantsStandIn 40=false by kernel_rfl)
        · have h3:t=43:=by simpa using ht.symm
          subst h3;exact(show Tryz.prog.wantsStandIn 43=false by kernel_rfl)
        · simp at ht⟩)
    (by kernel_rfl)
end
end Go.Proofs.YtgedpfebepdcmaaGreatDoor
