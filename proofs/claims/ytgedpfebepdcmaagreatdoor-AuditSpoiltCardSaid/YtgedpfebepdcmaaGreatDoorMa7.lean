/- AuditSpoilt holds. No conditions beside the three tables as the program lays them. -/
import Derived.Test.YtgedpfebepdcmaaGreatDoorMa6
import Derived.Test.YtgedpfebepdcmaaGreatDoorTie
import Derived.Test.YtgedpfebepdcmaaGreatDoorCards
import Derived.SevenTiedAt
namespace Go.Proofs.YtgedpfebepdcmaaGreatDoor
section
open Go.ChangeShapes Go.WideShapes Go.ChangeAt Go.RowKit Go.WideMaps Go.WideElems
open Go.ChangeMaps (setBlock shut_map_nil open_string shut_string)
theorem u8_bdA {k : Int} (h : (Lit.int .u8 k).wf = true) : 0 ≤ k ∧ k ≤ 255:=by
  simpa [Lit.wf,IntKind.min,IntKind.max,IntKind.signed,IntKind.bits] using h
theorem i64_bdA {k : Int} (h : (Lit.int .i64 k).wf = true) : -9223372036854775808 ≤ k ∧ k ≤ 9223372036854775807:=by
  simpa [Lit.wf,IntKind.min,IntKind.max,IntKind.signed,IntKind.bits] using h
theorem none_capA {H : Type} {enc : TypeId × Value → H} {base : Nat} {spare : Nat → Bool} {held : Bool} {P : Program} {w : World} {T E : TypeId} {A : Option Addr} {n cap : Nat} {d : DataW H} {p : List MemPlace} (u : P.underlying T = some (.slice E)) (h : DataW.Trod enc P w base spare held T (.slice A n cap) d p) : A = none → cap = 0:=by
  intro hA;subst hA;obtain ⟨fuel,hf⟩:=h;rcases Go.Deep.open_slice u hf with ⟨h0,hx⟩ | ⟨a,len,cap',m,f,D,Pl,hcs,hb,hlc,hcm,hm,hx,hel⟩
  · have e0 : (Value.slice none n cap).cells.toList = [Value.slice none n cap]:=rfl;rw [e0] at h0;injection h0 with h0 _
    injection h0
  · have e0 : (Value.slice none n cap).cells.toList = [Value.slice none n cap]:=rfl;rw [e0] at hcs;injection hcs with h0 _
    injection h0 with h1 _ _
    cases h1
set_option maxRecDepth 100000 in
theorem auditSpoilt_lifted (os : Os) (started : os.Started) (H : Type) (enc : TypeId × Value → H) :
    ReturnsInHanded {} Tryz.checked os 3 .any (fun w args=>(Rows.auditSpoiltSpec.pre enc Tryz.prog Tryz.f3 Rows.auditSpoiltRow.domain false w args ∧ laidMetH Tryz.prog laid3 w) ∧ sizedMet enc Tryz.prog Tryz.f3 (OpenSpec.ofChange Rows.auditSpoiltSpec) false w args) (Rows.auditSpoiltSpec.post enc Tryz.prog Tryz.f3 false true false false):=by
  refine returnsInHanded_of_change_and (C:=Tryz.checked) (X:=fun w _=>laidMetH Tryz.prog laid3 w) (fun _ _ _ hh h=>h.of_heap hh) Tryz.own started (by kernel_rfl) Tryz.func3
    (ChangeSpec.witness_at (enc:=enc) (C:=Tryz.checked) (os:=os) (X:=fun w _=>laidMetH Tryz.prog laid3 w) false (laidWorld3 Tryz.prog os) #[.slice none 0 0,.int .u8 0,.agg (idC id0),.int .i64 0] 8 rfl (by kernel_rfl) (by kernel_rfl) (by kernel_rfl) (by kernel_rfl) (by kernel_rfl) (laidWorld3_met os _)) ?_
  intro W base args ds gs before hval0 hW hcnd hsz0 hL _;have hval : ∀ (j : Nat) t v,Tryz.f3.params[j]? = some t → args[j]? = some v → Value.okWide Tryz.prog W .any base t v:=hval0;have hW':=hW;have hg:=shaVars_of_laid hL;obtain ⟨p,q,hA0,hV,rfl,hfz,hnd⟩:=hW;have hA : DataW.TrodAll enc Tryz.prog W 0 (fun _=>true) true Tryz.f3.params.toList args.toList ds p:=hA0;rw [Tryz.params3] at hA hval;obtain ⟨v0,v1,v2,v3,d0,d1,d2,d3,p0,p1,p2,p3,rfl,rfl,rfl,h0,h1,h2,h3⟩:=trodAll_four hA;obtain ⟨rfl,rfl⟩:=trodVars_nil hV;obtain ⟨A,n,cap,R,rfl,hR,hRl,hok,hn,_⟩:=open_rows (k:=38) Tryz.underlying22 opensHd (by kernel_rfl) (by omega) (hval 0 22 v0 rfl rfl) h0;obtain ⟨k,rfl,_,_,wk⟩:=open_int Tryz.underlying5 (hval 1 5 v1 rfl rfl) h1;obtain ⟨i,rfl,_,_⟩:=open_agg Tryz.underlying24 rfl opensId (hval 2 24 v2 rfl rfl) h2;obtain ⟨d,rfl,_,_,wd⟩:=open_int Tryz.underlying3 (hval 3 3 v3 rfl rfl) h3;have hcap:=none_capA Tryz.underlying22 h0;have hml:=maxLen_leA;obtain ⟨hk1,hk2⟩:=u8_bdA wk;have hd:=i64_bdA wd;obtain ⟨a,rfl⟩:=Int.eq_ofNat_of_zero_le hk1;have hRn : R.length = n:=by simpa using hR.1
  subst hRn;clear hA0 hval0;refine (auditSpoilt_any A cap R a i d W hR hcap hd (by omega) (by omega) hg (fun x hx=>⟨(hok x hx).1,(hok x hx).2.1,(hok x hx).2.2⟩)).mono fun e W' ⟨he,hb⟩=>?_;subst he;exact ⟨_,rfl,law_post (tb:=4) Tryz.laidOut (by kernel_rfl) Tryz.underlying4 rfl rfl (by kernel_rfl) hW' hb⟩
theorem auditSpoilt_facts : joinedFacts Tryz.pinned.checked.prog 3 Tryz.f3 Rows.auditSpoiltSpec Rows.auditSpoiltRow = true:=by kernel_rfl
theorem auditSpoilt_named : Tryz.pinned.checked.prog.funcNamed Rows.auditSpoiltRow.func = some 3:=by kernel_rfl
theorem auditSpoilt_inst : Tryz.f3.isInstance Tryz.pinned.checked.prog Rows.auditSpoiltRow.origin Rows.auditSpoiltRow.targs:=of_decide_eq_true (by kernel_rfl)
theorem auditSpoilt_wrap : Tryz.f3.isWrapper Tryz.pinned.checked.prog Rows.auditSpoiltRow.wrapper Rows.auditSpoiltRow.mainSum:=by unfold Func.isWrapper;first | (rw [if_pos (by decide +kernel)];kernel_rfl) | (rw [if_neg (by decide +kernel)];exact ⟨rfl,rfl⟩)
theorem auditSpoilt_holds : Rows.AuditSpoiltSaid :=
  OpenClaim.holds_of_wide 3 Tryz.f3 rfl rfl rfl rfl rfl rfl rfl ⟨rfl,rfl,rfl,rfl,rfl⟩ rfl rfl rfl rfl rfl auditSpoilt_named Tryz.func3 auditSpoilt_facts auditSpoilt_inst auditSpoilt_wrap
    (fun os started H enc _=>auditSpoilt_lifted os started H enc)
theorem auditSpoiltCard_holds : Rows.AuditSpoiltCardSaid :=
  Claim7.holds_tied_plain_at .later [] [.data,.data,.data] true (true, "5e2a8e9e73b40d0215eaf3d79a29b0726411c486ff2ce8d5d8fd83bb4065abc8") false
    auditSpoilt_holds (fun _ h=>by cases h) (by kernel_rfl) (fun _ h=>by cases h) auditSpoilt_row_tie rfl ⟨rfl,rfl⟩ (by kernel_rfl) rfl
    (fun f fn hf hfn=>by
      obtain rfl : f = 3:=Option.some.inj ((show Tryz.prog.funcNamed "petrel/petrellaw40.AuditSpoilt" = some 3 by kernel_rfl).symm.trans hf) |>.symm
      obtain rfl : fn = Tryz.f3:=(Option.some.inj (Tryz.func3.symm.trans hfn)).symm;exact ⟨by kernel_rfl,fun j t ht=>by
        rw [Tryz.params3] at ht;rcases j with _ | _ | _ | _ | j
        · have h3 : t = 22:=by simpa using ht.symm
          subst h3;exact (show Tryz.prog.wantsStandIn 22 = false by kernel_rfl)
        · have h3 : t = 5:=by simpa using ht.symm
          subst h3;exact (show Tryz.prog.wantsStandIn 5 = false by kernel_rfl)
        · have h3 : t = 24:=by simpa using ht.symm
          subst h3;exact (show Tryz.prog.wantsStandIn 24 = false by kernel_rfl)
        · have h3 : t = 3:=by simpa using ht.symm
          subst h3;exact (show Tryz.prog.wantsStandIn 3 = false by kernel_rfl)
        · simp at ht⟩)
    (by kernel_rfl)
end
end Go.Proofs.YtgedpfebepdcmaaGreatDoor
