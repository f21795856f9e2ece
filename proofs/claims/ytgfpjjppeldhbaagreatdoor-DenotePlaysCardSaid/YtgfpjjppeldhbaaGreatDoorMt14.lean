/- DenotePlays holds: what any marks mean in any topic, marks in order, whether two values are one. No conditions beside the table of operations as the program lays it. -/
import Derived.Test.YtgfpjjppeldhbaaGreatDoorMt13
import Derived.Test.YtgfpjjppeldhbaaGreatDoorTie
import Derived.Test.YtgfpjjppeldhbaaGreatDoorCards
import Derived.SevenTiedAt
namespace Go.Proofs.YtgfpjjppeldhbaaGreatDoor
section
open Go.ChangeShapes Go.WideShapes Go.ChangeAt Go.RowKit Go.WideMaps Go.WideElems
open Go.ChangeMaps (setBlock shut_map_nil open_string shut_string)
theorem maxLen_leV9 : maxLen ≤ 9223372036854775807:=by decide
theorem opensPair9 {w : World} : Opens Tryz.prog w 98 pairC (fun _=>True):=by
  intro H enc base spare held fuel cs x h;obtain ⟨xs,n,rfl,_,hlen,hxl,hel⟩:=DataW.trod_struct Tryz.underlying98 h;have hc : Tryz.prog.cellsOf 98 = 2:=by kernel_rfl
  rw [hc] at hlen;obtain ⟨a0,h0,_⟩:=opens_field hxl hel (opens_string Tryz.underlying9) 0 0 1 _ rfl rfl rfl (by kernel_rfl);obtain ⟨a1,h1,_⟩:=opens_field hxl hel (opens_string Tryz.underlying9) 1 1 1 _ rfl rfl rfl (by kernel_rfl);refine ⟨⟨a0,a1⟩,?_,trivial⟩;have e0 : cs.drop 0 = (cs.drop 0).take 1 ++ cs.drop 1:=take_seg;have e1 : cs.drop 1 = (cs.drop 1).take 1 ++ cs.drop 2:=take_seg;have en : cs.drop 2 = []:=List.drop_eq_nil_of_le (by omega);refine e0.trans ?_;rw [h0,e1,h1,en];rfl
structure ValIn where
  k : Int
  n : Int
  A : Option Addr
  m : Nat
  c : Nat
  Y : List Pair
theorem opensVal9 {w : World} : Opens Tryz.prog w 25 (fun x : ValIn=>valVC ⟨x.k,x.n,.slice x.A x.m x.c⟩) (fun x=>SlR w x.A x.m 2 (x.Y.map pairC) ∧ x.m ≤ 9223372036854775807):=by
  intro H enc base spare held fuel cs x h;obtain ⟨xs,n,rfl,_,hlen,hxl,hel⟩:=DataW.trod_struct Tryz.underlying25 h;have hc : Tryz.prog.cellsOf 25 = 3:=by kernel_rfl
  rw [hc] at hlen;obtain ⟨a0,h0,_⟩:=opens_field hxl hel (opens_int Tryz.underlying3) 0 0 1 _ rfl rfl rfl (by kernel_rfl);obtain ⟨a1,h1,_⟩:=opens_field hxl hel (opens_int Tryz.underlying3) 1 1 1 _ rfl rfl rfl (by kernel_rfl);obtain ⟨a2,h2,k2⟩:=opens_field hxl hel (opens_slice (k:=2) Tryz.underlying23 opensPair9 (by kernel_rfl) (by omega)) 2 2 1 _ rfl rfl rfl (by kernel_rfl);obtain ⟨A,m,c,Y⟩:=a2;obtain ⟨r1,r2,r3⟩:=k2;have hml:=maxLen_leV9;simp only at r1 r2 r3;refine ⟨⟨a0,a1,A,m,c,Y⟩,?_,r1,(by simp only;omega)⟩;have e0 : cs.drop 0 = (cs.drop 0).take 1 ++ cs.drop 1:=take_seg;have e1 : cs.drop 1 = (cs.drop 1).take 1 ++ cs.drop 2:=take_seg;have e2 : cs.drop 2 = (cs.drop 2).take 1 ++ cs.drop 3:=take_seg;have en : cs.drop 3 = []:=List.drop_eq_nil_of_le (by omega);refine e0.trans ?_;rw [h0,e1,h1,e2,h2,en];rfl
set_option maxRecDepth 100000 in
theorem denotePlays_lifted (os : Os) (started : os.Started) (H : Type) (enc : TypeId × Value → H) :
    ReturnsInHanded {} Tryz.checked os 3 .any (fun w args=>(Rows.denotePlaysSpec.pre enc Tryz.prog Tryz.f3 Rows.denotePlaysRow.domain false w args ∧ laidMetH Tryz.prog [("petrel/op.parts",Rows.laid_petrel_op_parts)] w) ∧ sizedMet enc Tryz.prog Tryz.f3 (OpenSpec.ofChange Rows.denotePlaysSpec) false w args) (Rows.denotePlaysSpec.post enc Tryz.prog Tryz.f3 false true false false):=by
  refine returnsInHanded_of_change_and (C:=Tryz.checked) (X:=fun w _=>laidMetH Tryz.prog [("petrel/op.parts",Rows.laid_petrel_op_parts)] w) (fun _ _ _ hh h=>h.of_heap hh) Tryz.own started (by kernel_rfl) Tryz.func3
    (ChangeSpec.witness_at (enc:=enc) (C:=Tryz.checked) (os:=os) (X:=fun w _=>laidMetH Tryz.prog [("petrel/op.parts",Rows.laid_petrel_op_parts)] w) false (laidWorld Tryz.prog os) #[.string ⟨#[]⟩,.slice none 0 0,.agg (valVC valV0)] 8 rfl (by kernel_rfl) (by kernel_rfl) (by kernel_rfl) (by kernel_rfl) (by kernel_rfl) (laidWorld_met os _)) ?_
  intro W base args ds gs before hval0 hW hcnd hsz0 hL _;have hval : ∀ (j : Nat) t v,Tryz.f3.params[j]? = some t → args[j]? = some v → Value.okWide Tryz.prog W .any base t v:=hval0;have hW':=hW;have hg:=parts_of_laid hL;obtain ⟨p,q,hA0,hV,rfl,hfz,hnd⟩:=hW;have hA : DataW.TrodAll enc Tryz.prog W 0 (fun _=>true) true Tryz.f3.params.toList args.toList ds p:=hA0;rw [Tryz.params3] at hA hval;obtain ⟨v0,v1,v2,d0,d1,d2,p0,p1,p2,rfl,rfl,rfl,h0,h1,h2⟩:=trodAll_three hA;obtain ⟨rfl,rfl⟩:=trodVars_nil hV;obtain ⟨t,rfl,_,_,ht⟩:=open_string Tryz.underlying9 (hval 0 9 v0 rfl rfl) h0;obtain ⟨A,n,cap,R,rfl,hR,hRl,hok,hn,_⟩:=open_rows (k:=34) Tryz.underlying22 opensMarkV (by kernel_rfl) (by omega) (hval 1 22 v1 rfl rfl) h1;obtain ⟨x,rfl,hx,hxm⟩:=open_agg Tryz.underlying25 rfl opensVal9 (hval 2 25 v2 rfl rfl) h2;clear hA0 hval0;have hml:=maxLen_leV9;refine (denotePlays_any t A n cap R x.k x.n x.A x.m x.c x.Y W hg (by omega) ⟨hR,by omega,fun a ha=>by have:=(hok a ha).2;omega⟩ hx hxm).mono fun e W' ⟨he,hb⟩=>?_;subst he;exact ⟨_,rfl,law_post (tb:=4) Tryz.laidOut (by kernel_rfl) Tryz.underlying4 rfl rfl (by kernel_rfl) hW' hb⟩
theorem denotePlays_facts : joinedFacts Tryz.pinned.checked.prog 3 Tryz.f3 Rows.denotePlaysSpec Rows.denotePlaysRow = true:=by kernel_rfl
theorem denotePlays_named : Tryz.pinned.checked.prog.funcNamed Rows.denotePlaysRow.func = some 3:=by kernel_rfl
theorem denotePlays_inst : Tryz.f3.isInstance Tryz.pinned.checked.prog Rows.denotePlaysRow.origin Rows.denotePlaysRow.targs:=of_decide_eq_true (by kernel_rfl)
theorem denotePlays_wrap : Tryz.f3.isWrapper Tryz.pinned.checked.prog Rows.denotePlaysRow.wrapper Rows.denotePlaysRow.mainSum:=by unfold Func.isWrapper;first | (rw [if_pos (by decide +kernel)];kernel_rfl) | (rw [if_neg (by decide +kernel)];exact ⟨rfl,rfl⟩)
theorem denotePlays_holds : Rows.DenotePlaysSaid :=
  OpenClaim.holds_of_wide 3 Tryz.f3 rfl rfl rfl rfl rfl rfl rfl ⟨rfl,rfl,rfl,rfl,rfl⟩ rfl rfl rfl rfl rfl denotePlays_named Tryz.func3 denotePlays_facts denotePlays_inst denotePlays_wrap
    (fun os started H enc _=>denotePlays_lifted os started H enc)
theorem denotePlaysCard_holds : Rows.DenotePlaysCardSaid :=
  Claim7.holds_tied_plain_at .later [] [.data] true (true, "f245672c1a817d2508774d6a3a2bceb9efc48028e5509a509eb3e4f8d9835711") true
    denotePlays_holds (fun _ h=>by cases h) (by kernel_rfl) (fun _ h=>by cases h) denotePlays_row_tie rfl ⟨rfl,rfl⟩ (by kernel_rfl) rfl
    (fun f fn hf hfn=>by
      obtain rfl : f = 3:=Option.some.inj ((show Tryz.prog.funcNamed "petrel/petrellaw27.DenotePlays" = some 3 by kernel_rfl).symm.trans hf) |>.symm
      obtain rfl : fn = Tryz.f3:=(Option.some.inj (Tryz.func3.symm.trans hfn)).symm;exact ⟨by kernel_rfl,fun j t ht=>by
        rw [Tryz.params3] at ht;rcases j with _ | _ | _ | j
        · have h3 : t = 9:=by simpa using ht.symm
          subst h3;exact (show Tryz.prog.wantsStandIn 9 = false by kernel_rfl)
        · have h3 : t = 22:=by simpa using ht.symm
          subst h3;exact (show Tryz.prog.wantsStandIn 22 = false by kernel_rfl)
        · have h3 : t = 25:=by simpa using ht.symm
          subst h3;exact (show Tryz.prog.wantsStandIn 25 = false by kernel_rfl)
        · simp at ht⟩)
    (by kernel_rfl)
end
end Go.Proofs.YtgfpjjppeldhbaaGreatDoor
