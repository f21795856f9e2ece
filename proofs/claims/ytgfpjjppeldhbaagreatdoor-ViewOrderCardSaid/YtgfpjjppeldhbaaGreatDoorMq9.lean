/- Part 9 of the texts that lead to this claim: the walks of the functions and the plain law, in order. -/
import Derived.Test.YtgfpjjppeldhbaaGreatDoorMq8
import Derived.LoopN
import Derived.Laws.StructEq
import Derived.IntWalk
namespace Go.Proofs.YtgfpjjppeldhbaaGreatDoor
section
open Go.RowKit
def rowB (x : BRow) : List UInt8:=x.tag.l ++ (beL 1 x.val.size ++ x.val.data.toList)
def rowsB (L : List BRow) : List UInt8:=beL 4 L.length ++ L.flatMap rowB
def putB (L G : List BRow) : List UInt8:=rowsB L ++ rowsB G
theorem rowB_len (x : BRow) : (rowB x).length = 33 + x.val.size:=by
  have e : x.val.data.toList.length = x.val.size:=Array.length_toList;simp [rowB,beL_length,x.tag.h];omega
theorem rowsB_len {L : List BRow} (h : ∀ x ∈ L,small x) : (rowsB L).length ≤ 49 * L.length + 4:=by
  have:=flatMap_len rowB 49 L (fun x hx=>by rw [rowB_len];have:=h x hx;unfold small at this;omega);unfold rowsB;rw [List.length_append,beL_length];omega
abbrev RowsAt (w : World) (A : Option Addr) (n : Nat) (R : List BRow) : Prop:=SlR w A n 33 (R.map bRowC)
set_option maxRecDepth 100000 in
set_option maxHeartbeats 4000000 in
theorem blay (w : World) (B gw : Nat) (A : Option Addr) (cap : Nat) (bs : List UInt8) (h : WrAt w B gw A cap bs) (SA : Option Addr) (sc : Nat) (L : List BRow) (hL : RowsAt w SA L.length L) (hsm : ∀ x ∈ L,small x) (hd : ∀ x ∈ blk SA,x ∉ gw :: blk A) (hn : L.length ≤ 1000000) (hbs : bs.length ≤ 100000000) :
    Calls Tryz.prog 326 #[.pointer (some ⟨gw,0,none⟩),.slice SA L.length sc] w fun e w'=>e = .returned (.tuple #[]) ∧ WStep w B gw A (bs ++ rowsB L) w':=by
  have c1:=wnum w B gw A cap bs h L.length 4 (by omega) (by omega) (by omega);go_enter Tryz.func326,Tryz.ntmps326
  (go_wp2_with fail);refine c1.mono ?_;rintro e w1 ⟨rfl,hst1⟩;clear c1;have hst1' : WStep w B gw A (bs ++ beL 4 L.length ++ (L.take 0).flatMap rowB) w1:=by simpa using hst1
  clear hst1;(go_wp2_with fail);go_loopw [12] (fun i wr=>∃ k : Nat,k ≤ L.length ∧ i = .int .i64 (k : Nat) ∧ WStep w B gw A (bs ++ beL 4 L.length ++ (L.take k).flatMap rowB) wr) (fun i _=>L.length - (intOf i).toNat)
  case atStart=>exact ⟨0,Nat.zero_le _,rfl,hst1'⟩
  case round =>
    obtain ⟨k,hk,rfl,A4,cap4,hw4,hk4,hsub4⟩:=hrel;have hbl:=flatMap_len rowB 49 (L.take k) (fun x hx=>by rw [rowB_len];have:=hsm x (List.mem_of_mem_take hx);unfold small at this;omega);have htl : (L.take k).length = k:=by simp;omega
    rw [htl] at hbl;by_cases hlt : k < L.length
    · have hLr:=hL.kept hk4 hd;obtain ⟨q,o,rfl,hr⟩:=hLr.at_ hlt;rw [List.getElem_map] at hr;have hsx:=hsm L[k] (List.getElem_mem hlt);have htk : (L.take (k + 1)).flatMap rowB = (L.take k).flatMap rowB ++ rowB L[k]:=by rw [List.take_add_one,List.getElem?_eq_getElem hlt,List.flatMap_append];simp only [Option.toList_some,List.flatMap_cons,List.flatMap_nil,List.append_nil]
      obtain ⟨x,hx⟩ : ∃ x,L[k]'hlt = x:=⟨_,rfl⟩
      rw [hx] at hr hsx htk;have Htk:=Lib.hid htk;unfold small at hsx;clear hx htk hLr;have hbl0 : (bs ++ beL 4 L.length ++ (L.take k).flatMap rowB).length ≤ 200000000:=by rw [List.length_append,List.length_append,beL_length];omega
      obtain ⟨bs0,hbs0⟩ : ∃ bs0,bs ++ beL 4 L.length ++ (L.take k).flatMap rowB = bs0:=⟨_,rfl⟩
      have Hbs0:=Lib.hid hbs0;rw [hbs0] at hw4 hbl0;have e1 : x.val.data.toList.length = x.val.size:=Array.length_toList;have e3 : (⟨x.tag.l.toArray⟩ : ByteArray).size = 32:=by show x.tag.l.toArray.size = 32;simp [x.tag.h]
      have e4 : (⟨x.tag.l.toArray⟩ : ByteArray).data.toList = x.tag.l:=by simp
      have e5 : x.tag.l.length = 32:=x.tag.h;have E1:=Lib.hid e1;have E3:=Lib.hid e3;have E4:=Lib.hid e4;have E5:=Lib.hid e5;clear hbs0 e1 e3 e4 e5;go_upto_region 4 with fail
      have hw5:=hw4.below (w':=wr.alloc (.cells (bRowC x) 171)) ((Below.refl _ _).alloc (Nat.le_refl _) _);have hbox : rowAt (wr.alloc (.cells (bRowC x) 171)) wr.heap.size 0 33 = some (bRowC x):=by simp [go_sem]
      have hk5 : Keep [] wr (wr.alloc (.cells (bRowC x) 171)):=Keep.alloc _ _;have hbS : wr.heap.size ∉ gw :: blk A4:=by
        simp only [List.mem_cons,not_or];exact ⟨by have:=hw4.lt;omega,fun hx=>by have:=(hw4.own.at_base hx).2;omega⟩
      generalize wr.alloc (.cells (bRowC x) 171) = W at *;have hx0 : W.cell? ⟨wr.heap.size,32,none⟩ = some (.string x.val):=by have:=rowAt_cell hbox (j:=32) (by omega);rwa [bRowC_g32,Nat.zero_add] at this
      have hx2 : rowAt W wr.heap.size 0 32 = some (idC x.tag):=by have:=rowAt_sub hbox (j:=0) (m:=32) (by omega);rwa [bRowC_e0] at this
      have hconv : ∀ (y : Subtype (Kp (gw :: blk A4) W)) c,(convert 37 9 (.slice (some ⟨wr.heap.size,0,none⟩) 32 c)).run Tryz.prog y.1 = .ok (.string ⟨x.tag.l.toArray⟩) y.1:=fun y c=>id_string (ksub_row hx2 hbS y);have hst : WStep W B gw A4 bs0 W.drew:=⟨A4,cap4,hw5.kept (Keep.drew W) (by simp) (by simp),(Keep.drew W).mono (by simp),fun x hx=>.inl hx⟩
      refine wp_region_lex (Kp (gw :: blk A4) W) false (by kernel_rfl) (by kernel_rfl) (by kernel_rfl) (kp_drew (gw :: blk A4) W) ?_;have hne:=kp_some (gw :: blk A4) W;have hS:=kp_drew (gw :: blk A4) W;have b1:=ksub_cell hx0 hbS;clear hx0 hx2 hbox hr;repeat (refine wpLx_loose ?_ ?_;(focus (simp only [chainOp];done));intro K hK;go_simp;refine hK _ ?_;clear hK K)
      refine wpLx_chain ?_ ?_ ?_;(focus (exact hS));(focus (simp only [chainOp];done));intro K hK;go_simp;obtain ⟨Ai,capi,hwi,hki,hsubi⟩:=hst;refine (wraw _ _ _ _ _ _ hwi ⟨x.tag.l.toArray⟩ (by rw [E3.out];omega)).mono ?_;rintro e w' ⟨rfl,hst'⟩;replace hst:=wstep_trans hwi hki hsubi hst';have hS:=hst.choose_spec.choose_spec.2.1;refine ⟨_,rfl,hS,hK _ _ ?_⟩;clear hK K hwi hki hsubi hst';repeat (refine wpLx_loose ?_ ?_;(focus (simp only [chainOp];done));intro K hK;go_simp;refine hK _ ?_;clear hK K)
      refine wpLx_chain ?_ ?_ ?_;(focus (exact hS));(focus (simp only [chainOp];done));intro K hK;go_simp;obtain ⟨Ai,capi,hwi,hki,hsubi⟩:=hst;refine (wnum _ _ _ _ _ _ hwi x.val.size 1 (by omega) (by omega) (by rw [E4.out,List.length_append,E5.out];omega)).mono ?_;rintro e w' ⟨rfl,hst'⟩;replace hst:=wstep_trans hwi hki hsubi hst';have hS:=hst.choose_spec.choose_spec.2.1;refine ⟨_,rfl,hS,hK _ _ ?_⟩;clear hK K hwi hki hsubi hst';repeat (refine wpLx_loose ?_ ?_;(focus (simp only [chainOp];done));intro K hK;go_simp;refine hK _ ?_;clear hK K)
      refine wpLx_chain ?_ ?_ ?_;(focus (exact hS));(focus (simp only [chainOp];done));intro K hK;go_simp;obtain ⟨Ai,capi,hwi,hki,hsubi⟩:=hst;refine (wraw _ _ _ _ _ _ hwi x.val (by rw [E4.out,List.length_append,List.length_append,E5.out,beL_length];omega)).mono ?_;rintro e w' ⟨rfl,hst'⟩;replace hst:=wstep_trans hwi hki hsubi hst';have hS:=hst.choose_spec.choose_spec.2.1;refine ⟨_,rfl,hS,hK _ _ ?_⟩;clear hK K hwi hki hsubi hst';repeat (refine wpLx_loose ?_ ?_;(focus (simp only [chainOp];done));intro K hK;go_simp;refine hK _ ?_;clear hK K)
      refine wpLx_nil ?_;intro hS;have heq : bs0 ++ (⟨x.tag.l.toArray⟩ : ByteArray).data.toList ++ beL 1 x.val.size ++ x.val.data.toList = bs ++ beL 4 L.length ++ (L.take (k + 1)).flatMap rowB:=by
        rw [Htk.out,E4.out,← List.append_assoc,Hbs0.out];simp [rowB,List.append_assoc]
      rw [heq] at hst;have hst2:=wstep_trans hw4 hk4 hsub4 (wstep_trans hw5 (hk5.mono (S':=gw :: blk A4) (by simp)) (fun x hx=>.inl hx) hst);have Hst:=Lib.hid hst2;clear hst hst2 heq hconv hne b1 hS;(go_wp2_with fail);go_roundw
      case rel=>exact ⟨k + 1,by omega,by go_num,Hst.out⟩
      case measure=>simp [intOf];omega
    · have hkL : L.take k = L:=List.take_of_length_le (by omega);rw [hkL] at hw4;(go_wp2_with fail);go_end0;exact ⟨rfl,A4,cap4,by unfold rowsB;rw [← List.append_assoc];exact hw4,hk4,hsub4⟩
set_option maxRecDepth 100000 in
set_option maxHeartbeats 2000000 in
theorem bput (w : World) (g bl bg : Nat) (L G : List BRow) (h : BagAt w g bl bg L G) (hn : L.length ≤ 1000000) (hg : G.length ≤ 1000000) :
    Calls Tryz.prog 325 #[.pointer (some ⟨g,0,none⟩)] w fun e w'=>e = .returned (.string ⟨(putB L G).toArray⟩) ∧ Below w.heap.size w w':=by
  have hc:=h.cell0;go_enter Tryz.func325,Tryz.ntmps325
  (go_wp2_with fail);refine (bnone_live _ _ _ hc).mono ?_;rintro e w' ⟨rfl,rfl⟩;(go_wp2_with fail);refine (wnew _).mono ?_;rintro e w1 ⟨rfl,hw1,hb1⟩;have h1:=h.below hb1;have hc1:=h1.cell0;clear hc;(go_wp2_with fail);refine (bsorted _ _ _ h1.live h1.risL hn).mono ?_;rintro e w2 ⟨RA,rc,rfl,hrow,hb2⟩;have h2:=h1.below hb2;have hw2:=hw1.below hb2;have hb02:=bel2 hb1 hb2;have hl:=hw1.lt;(go_wp2_with fail);refine (blay w2 _ _ _ _ _ hw2 RA rc L hrow.slr h2.smL (fun x hx=>by have:=(hrow.at_base hx).1;simp [blk];omega) hn (by simp)).mono ?_;rintro e w3 ⟨rfl,A3,cap3,hw3,hk3,hsub3⟩;have hglt:=h.lt;have h3:=h2.kept hk3 (by simp [blk];omega) (by simp [blk];omega) (by simp [blk];omega);have hb03 : Below w.heap.size w w3:=hb02.trans (hk3.below (by have:=hb02.size;omega) (by simp [blk]));have hc3:=h3.cell1;have hlen3:=rowsB_len h.smL;simp only [List.nil_append] at hw3;clear hrow hw1 hw2 h1 h2 hk3 hb1 hb2 hc1;(go_wp2_with fail);refine (bsorted _ _ _ h3.gone h3.risG hg).mono ?_;rintro e w4 ⟨RA2,rc2,rfl,hrow2,hb4⟩;have h4:=h3.below hb4;have hw4:=hw3.below hb4;have hb04:=bel2 hb03 hb4;(go_wp2_with fail);refine (blay w4 _ _ _ _ _ hw4 RA2 rc2 G hrow2.slr h4.smG (fun x hx=>by
    have h1:=(hrow2.at_base hx).1;simp only [List.mem_cons,not_or];exact ⟨by have:=hw3.lt;omega,fun hx'=>by have:=(hw3.own.at_base hx').2;omega⟩) hg (by omega)).mono ?_;rintro e w5 ⟨rfl,A5,cap5,hw5,hk5,hsub5⟩
  have hb05 : Below w.heap.size w w5:=hb04.trans (hk5.below (by have:=hb04.size;omega) (fun x hx=>by
    rcases List.mem_cons.1 hx with rfl | hx
    · omega
    · have:=(hw3.own.at_base hx).1;omega))
  clear hrow2 hw4 h4 hk5 hc3 hb4;(go_wp2_with fail);refine (wdone _ _ _ _ _ _ hw5).mono ?_;rintro e w' ⟨rfl,rfl⟩;(go_wp2_with fail);go_ret;exact ⟨rfl,hb05⟩
end
section
open Go.RowKit Go.Sort Go.Shelf
set_option maxRecDepth 100000 in
set_option maxHeartbeats 1000000 in
theorem vids (wS : World) (g : Nat) (t : ByteArray) (b : Nat) (L : List Id32) (sv : Value) (h : ViewAt wS g t b L sv) (hr : Ris cmpId L) (hn : L.length ≤ 1000000) :
    Calls Tryz.prog 33 #[.pointer (some ⟨g,0,none⟩)] wS fun e w'=>∃ A cap,e = .returned (.slice A L.length cap) ∧ Own w' wS.heap.size 39 32 A L.length cap (L.map idC) ∧ Below wS.heap.size wS w':=by
  have hbl:=h.ids.lt;have hc:=h.cell1;obtain ⟨w0,hrun,hR,hb0,hs0⟩:=SetAt.range (P:=Tryz.prog) (kv:=idV) (ok:=okId) h.ids Tryz.underlying75;go_enter Tryz.func33,Tryz.ntmps33
  (go_wp2_with fail);refine (vnone_live wS g b hc).mono ?_;rintro e w1 ⟨rfl,rfl⟩;(go_wp2_with fail);clear hrun hc h;go_loopw [3] (fun out wr=>∃ S A cap,out = .slice A S.length cap ∧ SetRange wr b wS.heap.size idV okId L S ∧ Own wr w0.heap.size 39 32 A S.length cap (S.map idC) ∧ Below wS.heap.size wS wr ∧ w0.heap.size ≤ wr.heap.size) (fun _ wr=>wr.rangeLeft b wS.heap.size)
  case atStart=>exact ⟨[],none,0,rfl,hR,Own.nil _ _ _ _,hb0,Nat.le_refl _⟩
  case round =>
    obtain ⟨S,A,cap,rfl,hR,hown,hb,hsz⟩:=hrel;rcases hR.next (P:=Tryz.prog) 0 with ⟨hall,hnd,hrun⟩ | ⟨x,w1,hxL,hxS,hrun,hR1,hk1,hs1,hl1,hen⟩
    focus
      have hp : S.Perm L:=(List.perm_ext_iff_of_nodup hnd (hr.nodup totId)).2 hall;have hSL:=hp.length_eq;have Hall:=Lib.hid hall;have HSL:=Lib.hid hSL;clear hall hSL;have hset:=ident_set wr A S.length cap S L hown.slr hp hr (by rw [HSL.out];omega) (fun e=>(hown.cap_le.2 e).2);(go_wp2_with fail);refine hset.mono ?_;rintro e w2 ⟨A2,cap2,rfl,hown2,hb2⟩;clear hset hrun;(go_wp2_with fail);go_ret;exact ⟨A2,cap2,rfl,hown2.mono (by have:=hb.size;omega),hb.trans (hb2.mono hb.size)⟩
    have hSn : S.length + 1 ≤ 1000000:=by
      obtain ⟨M,Z,hZ,hks,_,hZS,hnd⟩:=hR1;have h1:=hZ.length;have h2 : (Z.map (·.1)).length = (S ++ [x]).length:=by rw [hZS]
      have h3 : (M.map (·.1)).length ≤ L.length:=nodup_len hnd (fun y hy=>(hks y).1 hy);simp at h2 h3;omega
    have hownr : Own w1 w0.heap.size 39 32 A S.length cap (S.map idC):=hown.kept hk1 (fun y hy=>by have:=(hown.at_base hy).1;simp;omega);have hb1 : Below wS.heap.size wS w1:=hb.trans (hk1.below (B:=wS.heap.size) (by omega) (by simp));have hbx : Below w1.heap.size w1 ((w1.alloc (.cells (idC x) 39)).alloc (.cells (idC x) 39)):=((Below.refl _ _).alloc (Nat.le_refl _) _).alloc (by simp) _;have hown2:=hownr.below hbx;have hrow2 : rowAt ((w1.alloc (.cells (idC x) 39)).alloc (.cells (idC x) 39)) (w1.heap.size + 1) 0 32 = some (idC x):=by simp [go_sem]
    change (Instr.next _ _ _).run Tryz.prog wr = .ok (.tuple #[.bool true,.agg (idC x),.bool true]) w1 at hrun;change (Instr.entry _).run Tryz.prog w1 = .ok (.tuple #[.agg (idC x),.bool true]) w1 at hen;have Hs1:=Lib.hid hs1;clear hs1;go_wp2_with (at_builtin;refine L_append einfoId rfl hown2 rfl hrow2 (idC_one _) (by omega) (by omega) (by simp;have:=Hs1.out;omega) ?_;intro A' cap' w2 hownA hkA hsubA)
    have hbA : b ∉ blk A:=fun hx=>(by have:=(hown.at_base hx).1;omega);have hrA : wS.heap.size ∉ blk A:=fun hx=>(by have:=(hown.at_base hx).1;omega);have hR1x:=hR1.kept (Keep.of_below hbx) (by simp) (by simp);have hR2:=hR1x.kept hkA hbA hrA;have hl2 : w2.rangeLeft b wS.heap.size = w1.rangeLeft b wS.heap.size :=
      (rangeLeft_kept hkA hbA hrA hR1x.lt.2 hR1x.lt.1).trans (rangeLeft_kept (Keep.of_below hbx) (by simp) (by simp) hR1.lt.2 hR1.lt.1)
    have hsz2 : w0.heap.size ≤ w2.heap.size:=by
      have e1:=hbx.size;have e2:=hkA.size;have e3:=Hs1.out;omega
    have hb2 : Below wS.heap.size wS w2:=hb1.trans ((hbx.mono (by have:=Hs1.out;omega)).trans (hkA.below (B:=wS.heap.size) (by simp;have:=Hs1.out;omega) fun y hy=>by have:=(hown.at_base hy).1;omega));clear hrun hen;(go_wp2_with fail);go_roundw
    case rel=>exact ⟨S ++ [x],A',cap',by simp,hR2,by simpa using hownA,hb2,hsz2⟩
    case measure=>omega
end
section
open Go.RowKit
set_option maxRecDepth 100000 in
set_option maxHeartbeats 4000000 in
theorem vput_t (w : World) (g : Nat) (t : ByteArray) (b : Nat) (I : List Id32) (gs : Nat) (sb : List UInt8) (h0 : ViewAt w g t b I (.iface 100 (.pointer (some ⟨gs,0,none⟩)))) (hn : I.length ≤ 1000000) (hsb : sb.length ≤ 100000000)
    (c : ∀ w',Below w.heap.size w w' → Calls Tryz.prog 324 #[.pointer (some ⟨gs,0,none⟩)] w' fun e w''=>e = .returned (.string ⟨sb.toArray⟩) ∧ Below w'.heap.size w' w'') :
    Calls Tryz.prog 34 #[.pointer (some ⟨g,0,none⟩)] w fun e w'=>e = .returned (.string ⟨(idsB (sortC cmpId I) ++ sb).toArray⟩) ∧ Below w.heap.size w w':=by
  have h : ViewAt w g t b (sortC cmpId I) (.iface 100 (.pointer (some ⟨gs,0,none⟩))):=⟨h0.blk,SetAt.congr h0.ids (fun x=>(mem_sortC totId).symm)⟩
  have hr : Ris cmpId (sortC cmpId I):=ris_sortC totId _;have hO : (sortC cmpId I).length ≤ 1000000:=Nat.le_trans (sortC_length I) hn;obtain ⟨O,hOe⟩ : ∃ O,sortC cmpId I = O:=⟨_,rfl⟩
  rw [hOe] at h hr hO;rw [hOe];clear hOe h0 hn;have hc1:=h.cell1;go_enter Tryz.func34,Tryz.ntmps34
  (go_wp2_with fail);refine (vnone_live w g b hc1).mono ?_;rintro e w1 ⟨rfl,rfl⟩;(go_wp2_with fail);refine (vids w g t b O _ h hr hO).mono ?_;rintro e w2 ⟨IA,ic,rfl,hIo,hb02⟩;have hIs : SlR w2 IA O.length 32 (O.map idC):=hIo.slr;have hIb : ∀ x ∈ blk IA,x < w2.heap.size:=fun x hx=>(hIo.at_base hx).2;clear hc1 hIo;(go_wp2_with fail);refine (wnew w2).mono ?_;rintro e w3 ⟨rfl,hw3,hb3⟩;have hIs3:=hIs.below hb3;obtain ⟨gw,hgw⟩ : ∃ gw,w2.heap.size = gw:=⟨_,rfl⟩
  have hb03:=bel2 hb02 hb3;rw [hgw] at hw3 hIb ⊢;have hg3:=hw3.lt;have hszw : w.heap.size ≤ gw:=by have:=hb02.size;omega
  clear hIs hb3 hgw;(go_wp2_with fail);refine (wnum _ _ _ _ _ _ hw3 O.length 4 (by omega) (by omega) (by simp)).mono ?_;rintro e W3 ⟨rfl,AW,capW,hwW,hkW,hsubW⟩;simp only [List.nil_append] at hwW;have hid : SlR W3 IA O.length 32 (O.map idC):=hIs3.kept hkW (fun x hx=>by have:=hIb x hx;simp [blk];omega);have hbF : Below w.heap.size w W3:=hb03.trans (hkW.below (by have:=hb03.size;omega) (by simp [blk];omega));have hAbW : ∀ x ∈ blk AW,gw < x:=fun x hx=>(by have:=(hwW.own.at_base hx).1;omega);have hdis : ∀ x ∈ blk IA,x ∉ gw :: blk AW:=fun x hx hm=>by
    have:=hIb x hx;rcases List.mem_cons.1 hm with e | hm
    · omega
    · have:=hAbW x hm;omega
  have hbF2 : ∀ w',Keep (gw :: blk AW) W3 w' → Below w.heap.size w w':=fun w' hk=>hbF.trans (hk.below (by have:=hbF.size;omega) (fun x hx=>by
    rcases List.mem_cons.1 hx with rfl | hx
    · omega
    · have:=hAbW x hx;omega))
  have HbF:=Lib.hid hbF2;have hpl : (beL 4 O.length).length ≤ 200000000:=by rw [beL_length];omega
  obtain ⟨pre,hpre⟩ : ∃ pre,beL 4 O.length = pre:=⟨_,rfl⟩
  rw [hpre] at hwW hpl;have Hpre:=Lib.hid hpre;obtain ⟨S,hS⟩ : ∃ S,S = O:=⟨_,rfl⟩
  obtain ⟨Bw,hBw⟩ : ∃ Bw,Bw = gw + 1:=⟨_,rfl⟩
  have hBw2 : gw < Bw:=by omega
  rw [← hS] at hid hO Hpre;have hI2 : (Value.slice IA O.length ic) = .slice IA S.length ic:=by rw [hS]
  rw [← hBw] at hwW;have HS:=Lib.hid hS;rw [hI2];clear hpre hbF hbF2 hS hBw hkW hsubW hAbW hIs3 hb03 hb02 hw3 hg3 hIb hr hI2;(go_wp2_with fail);go_loopw [19] (fun i wr=>∃ k : Nat,k ≤ S.length ∧ i = .int .i64 (k : Nat) ∧ WStep W3 Bw gw AW (pre ++ (S.take k).flatMap Id32.l) wr) (fun i _=>S.length - (intOf i).toNat)
  case atStart=>exact ⟨0,Nat.zero_le _,rfl,AW,capW,by simpa using hwW,Keep.refl _ _,fun x hx=>.inl hx⟩
  case round =>
    obtain ⟨k,hk,rfl,A4,cap4,hw4,hk4,hsub4⟩:=hrel;by_cases hlt : k < S.length
    · have hLr:=(show SlR W3 IA S.length 32 (S.map idC) from hid).kept hk4 hdis;obtain ⟨q,o,rfl,hr⟩:=TagsIn.get hLr hlt hlt;have htk : (S.take (k + 1)).flatMap Id32.l = (S.take k).flatMap Id32.l ++ (S[k]).l:=by rw [List.take_add_one,List.getElem?_eq_getElem hlt,List.flatMap_append];simp only [Option.toList_some,List.flatMap_cons,List.flatMap_nil,List.append_nil]
      have hbl:=flatMap_len Id32.l 32 (S.take k) (fun x hx=>by rw [x.h];exact Nat.le_refl _);have htl : (S.take k).length = k:=by simp;omega
      rw [htl] at hbl;obtain ⟨x,hx⟩ : ∃ x,S[k]'hlt = x:=⟨_,rfl⟩
      rw [hx] at hr htk;have Htk:=Lib.hid htk;clear hx htk hLr htl;have hbl0 : (pre ++ (S.take k).flatMap Id32.l).length ≤ 300000000:=by rw [List.length_append];omega
      obtain ⟨bs0,hbs0⟩ : ∃ bs0,pre ++ (S.take k).flatMap Id32.l = bs0:=⟨_,rfl⟩
      have Hbs0:=Lib.hid hbs0;rw [hbs0] at hw4 hbl0;clear hbs0 hbl;have hb5 : Below wr.heap.size wr (wr.alloc (.cells (idC x) 39)):=(Below.refl _ _).alloc (Nat.le_refl _) _;have hw5:=hw4.below hb5;have hk5 : Keep [] wr (wr.alloc (.cells (idC x) 39)):=Keep.alloc _ _;have hbox : rowAt (wr.alloc (.cells (idC x) 39)) wr.heap.size 0 32 = some (idC x):=by simp [go_sem]
      have hconv : ∀ c,(convert 37 9 (.slice (some ⟨wr.heap.size,0,none⟩) 32 c)).run Tryz.prog (wr.alloc (.cells (idC x) 39)) = .ok (.string ⟨x.l.toArray⟩) (wr.alloc (.cells (idC x) 39)):=fun c=>id_string hbox;have e3 : (⟨x.l.toArray⟩ : ByteArray).size = 32:=by show x.l.toArray.size = 32;simp [x.h]
      have e4 : (⟨x.l.toArray⟩ : ByteArray).data.toList = x.l:=by simp
      have cw:=wraw _ Bw gw A4 cap4 bs0 hw5 ⟨x.l.toArray⟩ (by rw [e3];omega);rw [e4] at cw;clear e3 e4 hbox;(go_wp2_with fail);refine cw.mono ?_;rintro e w6 ⟨rfl,hst⟩;have hst2:=wstep_trans hw4 hk4 hsub4 (wstep_trans hw5 (hk5.mono (S':=gw :: blk A4) (by simp)) (fun x hx=>.inl hx) hst);rw [← Hbs0.out,List.append_assoc,← Htk.out] at hst2;have Hst:=Lib.hid hst2;clear hst hst2 hconv cw hb5 hw5 hk5 hw4 hk4 hsub4;(go_wp2_with fail);go_roundw
      case rel=>exact ⟨k + 1,by omega,by go_num,Hst.out⟩
      case measure=>simp [intOf];omega
    · have hkL : S.take k = S:=List.take_of_length_le (by omega);rw [hkL] at hw4;clear hkL;have hbr : Below w.heap.size w wr:=HbF.out _ hk4;have hV5:=h.below hbr;have hc2:=hV5.cell2;have cs:=c wr hbr;have hpl2 : (pre ++ S.flatMap Id32.l).length ≤ 300000000:=by
        have:=flatMap_len Id32.l 32 S (fun x _=>by rw [x.h];exact Nat.le_refl _);rw [List.length_append];omega
      obtain ⟨p1,hp1⟩ : ∃ p1,pre ++ S.flatMap Id32.l = p1:=⟨_,rfl⟩
      have Hp1:=Lib.hid hp1;rw [hp1] at hw4 hpl2;clear hp1 hk4 hsub4;(go_wp2_with fail);refine cs.mono ?_;rintro e w6 ⟨rfl,hb6⟩;have hw6:=hw4.below hb6;have es : (⟨sb.toArray⟩ : ByteArray).size = sb.length:=by show sb.toArray.size = _;simp
      have es2 : (⟨sb.toArray⟩ : ByteArray).data.toList = sb:=by simp
      have cw:=wraw _ _ _ _ _ _ hw6 ⟨sb.toArray⟩ (by rw [es];omega);rw [es2] at cw;have hb06:=bel2 hbr hb6;have hAb6 : ∀ x ∈ blk A4,gw < x:=fun x hx=>(by have:=(hw4.own.at_base hx).1;omega);clear es es2 hw4 hb6 hc2 hV5 cs;(go_wp2_with fail);refine cw.mono ?_;rintro e w7 ⟨rfl,A7,cap7,hw7,hk7,hsub7⟩;have hb07 : Below w.heap.size w w7:=hb06.trans (hk7.below (by have:=hb06.size;omega) (fun x hx=>by
        rcases List.mem_cons.1 hx with rfl | hx
        · omega
        · have:=hAb6 x hx;omega))
      clear hk7 hsub7;(go_wp2_with fail);refine (wdone _ _ _ _ _ _ hw7).mono ?_;rintro e w' ⟨rfl,rfl⟩;(go_wp2_with fail);go_ret;exact ⟨ret_strL (by rw [← Hp1.out,← Hpre.out,HS.out];simp [idsB,List.append_assoc]),hb07⟩
set_option maxRecDepth 100000 in
set_option maxHeartbeats 4000000 in
theorem vput_b (w : World) (g : Nat) (t : ByteArray) (b : Nat) (I : List Id32) (gs : Nat) (sb : List UInt8) (h0 : ViewAt w g t b I (.iface 102 (.pointer (some ⟨gs,0,none⟩)))) (hn : I.length ≤ 1000000) (hsb : sb.length ≤ 100000000)
    (c : ∀ w',Below w.heap.size w w' → Calls Tryz.prog 325 #[.pointer (some ⟨gs,0,none⟩)] w' fun e w''=>e = .returned (.string ⟨sb.toArray⟩) ∧ Below w'.heap.size w' w'') :
    Calls Tryz.prog 34 #[.pointer (some ⟨g,0,none⟩)] w fun e w'=>e = .returned (.string ⟨(idsB (sortC cmpId I) ++ sb).toArray⟩) ∧ Below w.heap.size w w':=by
  have h : ViewAt w g t b (sortC cmpId I) (.iface 102 (.pointer (some ⟨gs,0,none⟩))):=⟨h0.blk,SetAt.congr h0.ids (fun x=>(mem_sortC totId).symm)⟩
  have hr : Ris cmpId (sortC cmpId I):=ris_sortC totId _;have hO : (sortC cmpId I).length ≤ 1000000:=Nat.le_trans (sortC_length I) hn;obtain ⟨O,hOe⟩ : ∃ O,sortC cmpId I = O:=⟨_,rfl⟩
  rw [hOe] at h hr hO;rw [hOe];clear hOe h0 hn;have hc1:=h.cell1;go_enter Tryz.func34,Tryz.ntmps34
  (go_wp2_with fail);refine (vnone_live w g b hc1).mono ?_;rintro e w1 ⟨rfl,rfl⟩;(go_wp2_with fail);refine (vids w g t b O _ h hr hO).mono ?_;rintro e w2 ⟨IA,ic,rfl,hIo,hb02⟩;have hIs : SlR w2 IA O.length 32 (O.map idC):=hIo.slr;have hIb : ∀ x ∈ blk IA,x < w2.heap.size:=fun x hx=>(hIo.at_base hx).2;clear hc1 hIo;(go_wp2_with fail);refine (wnew w2).mono ?_;rintro e w3 ⟨rfl,hw3,hb3⟩;have hIs3:=hIs.below hb3;obtain ⟨gw,hgw⟩ : ∃ gw,w2.heap.size = gw:=⟨_,rfl⟩
  have hb03:=bel2 hb02 hb3;rw [hgw] at hw3 hIb ⊢;have hg3:=hw3.lt;have hszw : w.heap.size ≤ gw:=by have:=hb02.size;omega
  clear hIs hb3 hgw;(go_wp2_with fail);refine (wnum _ _ _ _ _ _ hw3 O.length 4 (by omega) (by omega) (by simp)).mono ?_;rintro e W3 ⟨rfl,AW,capW,hwW,hkW,hsubW⟩;simp only [List.nil_append] at hwW;have hid : SlR W3 IA O.length 32 (O.map idC):=hIs3.kept hkW (fun x hx=>by have:=hIb x hx;simp [blk];omega);have hbF : Below w.heap.size w W3:=hb03.trans (hkW.below (by have:=hb03.size;omega) (by simp [blk];omega));have hAbW : ∀ x ∈ blk AW,gw < x:=fun x hx=>(by have:=(hwW.own.at_base hx).1;omega);have hdis : ∀ x ∈ blk IA,x ∉ gw :: blk AW:=fun x hx hm=>by
    have:=hIb x hx;rcases List.mem_cons.1 hm with e | hm
    · omega
    · have:=hAbW x hm;omega
  have hbF2 : ∀ w',Keep (gw :: blk AW) W3 w' → Below w.heap.size w w':=fun w' hk=>hbF.trans (hk.below (by have:=hbF.size;omega) (fun x hx=>by
    rcases List.mem_cons.1 hx with rfl | hx
    · omega
    · have:=hAbW x hx;omega))
  have HbF:=Lib.hid hbF2;have hpl : (beL 4 O.length).length ≤ 200000000:=by rw [beL_length];omega
  obtain ⟨pre,hpre⟩ : ∃ pre,beL 4 O.length = pre:=⟨_,rfl⟩
  rw [hpre] at hwW hpl;have Hpre:=Lib.hid hpre;obtain ⟨S,hS⟩ : ∃ S,S = O:=⟨_,rfl⟩
  obtain ⟨Bw,hBw⟩ : ∃ Bw,Bw = gw + 1:=⟨_,rfl⟩
  have hBw2 : gw < Bw:=by omega
  rw [← hS] at hid hO Hpre;have hI2 : (Value.slice IA O.length ic) = .slice IA S.length ic:=by rw [hS]
  rw [← hBw] at hwW;have HS:=Lib.hid hS;rw [hI2];clear hpre hbF hbF2 hS hBw hkW hsubW hAbW hIs3 hb03 hb02 hw3 hg3 hIb hr hI2;(go_wp2_with fail);go_loopw [19] (fun i wr=>∃ k : Nat,k ≤ S.length ∧ i = .int .i64 (k : Nat) ∧ WStep W3 Bw gw AW (pre ++ (S.take k).flatMap Id32.l) wr) (fun i _=>S.length - (intOf i).toNat)
  case atStart=>exact ⟨0,Nat.zero_le _,rfl,AW,capW,by simpa using hwW,Keep.refl _ _,fun x hx=>.inl hx⟩
  case round =>
    obtain ⟨k,hk,rfl,A4,cap4,hw4,hk4,hsub4⟩:=hrel;by_cases hlt : k < S.length
    · have hLr:=(show SlR W3 IA S.length 32 (S.map idC) from hid).kept hk4 hdis;obtain ⟨q,o,rfl,hr⟩:=TagsIn.get hLr hlt hlt;have htk : (S.take (k + 1)).flatMap Id32.l = (S.take k).flatMap Id32.l ++ (S[k]).l:=by rw [List.take_add_one,List.getElem?_eq_getElem hlt,List.flatMap_append];simp only [Option.toList_some,List.flatMap_cons,List.flatMap_nil,List.append_nil]
      have hbl:=flatMap_len Id32.l 32 (S.take k) (fun x hx=>by rw [x.h];exact Nat.le_refl _);have htl : (S.take k).length = k:=by simp;omega
      rw [htl] at hbl;obtain ⟨x,hx⟩ : ∃ x,S[k]'hlt = x:=⟨_,rfl⟩
      rw [hx] at hr htk;have Htk:=Lib.hid htk;clear hx htk hLr htl;have hbl0 : (pre ++ (S.take k).flatMap Id32.l).length ≤ 300000000:=by rw [List.length_append];omega
      obtain ⟨bs0,hbs0⟩ : ∃ bs0,pre ++ (S.take k).flatMap Id32.l = bs0:=⟨_,rfl⟩
      have Hbs0:=Lib.hid hbs0;rw [hbs0] at hw4 hbl0;clear hbs0 hbl;have hb5 : Below wr.heap.size wr (wr.alloc (.cells (idC x) 39)):=(Below.refl _ _).alloc (Nat.le_refl _) _;have hw5:=hw4.below hb5;have hk5 : Keep [] wr (wr.alloc (.cells (idC x) 39)):=Keep.alloc _ _;have hbox : rowAt (wr.alloc (.cells (idC x) 39)) wr.heap.size 0 32 = some (idC x):=by simp [go_sem]
      have hconv : ∀ c,(convert 37 9 (.slice (some ⟨wr.heap.size,0,none⟩) 32 c)).run Tryz.prog (wr.alloc (.cells (idC x) 39)) = .ok (.string ⟨x.l.toArray⟩) (wr.alloc (.cells (idC x) 39)):=fun c=>id_string hbox;have e3 : (⟨x.l.toArray⟩ : ByteArray).size = 32:=by show x.l.toArray.size = 32;simp [x.h]
      have e4 : (⟨x.l.toArray⟩ : ByteArray).data.toList = x.l:=by simp
      have cw:=wraw _ Bw gw A4 cap4 bs0 hw5 ⟨x.l.toArray⟩ (by rw [e3];omega);rw [e4] at cw;clear e3 e4 hbox;(go_wp2_with fail);refine cw.mono ?_;rintro e w6 ⟨rfl,hst⟩;have hst2:=wstep_trans hw4 hk4 hsub4 (wstep_trans hw5 (hk5.mono (S':=gw :: blk A4) (by simp)) (fun x hx=>.inl hx) hst);rw [← Hbs0.out,List.append_assoc,← Htk.out] at hst2;have Hst:=Lib.hid hst2;clear hst hst2 hconv cw hb5 hw5 hk5 hw4 hk4 hsub4;(go_wp2_with fail);go_roundw
      case rel=>exact ⟨k + 1,by omega,by go_num,Hst.out⟩
      case measure=>simp [intOf];omega
    · have hkL : S.take k = S:=List.take_of_length_le (by omega);rw [hkL] at hw4;clear hkL;have hbr : Below w.heap.size w wr:=HbF.out _ hk4;have hV5:=h.below hbr;have hc2:=hV5.cell2;have cs:=c wr hbr;have hpl2 : (pre ++ S.flatMap Id32.l).length ≤ 300000000:=by
        have:=flatMap_len Id32.l 32 S (fun x _=>by rw [x.h];exact Nat.le_refl _);rw [List.length_append];omega
      obtain ⟨p1,hp1⟩ : ∃ p1,pre ++ S.flatMap Id32.l = p1:=⟨_,rfl⟩
      have Hp1:=Lib.hid hp1;rw [hp1] at hw4 hpl2;clear hp1 hk4 hsub4;(go_wp2_with fail);refine cs.mono ?_;rintro e w6 ⟨rfl,hb6⟩;have hw6:=hw4.below hb6;have es : (⟨sb.toArray⟩ : ByteArray).size = sb.length:=by show sb.toArray.size = _;simp
      have es2 : (⟨sb.toArray⟩ : ByteArray).data.toList = sb:=by simp
      have cw:=wraw _ _ _ _ _ _ hw6 ⟨sb.toArray⟩ (by rw [es];omega);rw [es2] at cw;have hb06:=bel2 hbr hb6;have hAb6 : ∀ x ∈ blk A4,gw < x:=fun x hx=>(by have:=(hw4.own.at_base hx).1;omega);clear es es2 hw4 hb6 hc2 hV5 cs;(go_wp2_with fail);refine cw.mono ?_;rintro e w7 ⟨rfl,A7,cap7,hw7,hk7,hsub7⟩;have hb07 : Below w.heap.size w w7:=hb06.trans (hk7.below (by have:=hb06.size;omega) (fun x hx=>by
        rcases List.mem_cons.1 hx with rfl | hx
        · omega
        · have:=hAb6 x hx;omega))
      clear hk7 hsub7;(go_wp2_with fail);refine (wdone _ _ _ _ _ _ hw7).mono ?_;rintro e w' ⟨rfl,rfl⟩;(go_wp2_with fail);go_ret;exact ⟨ret_strL (by rw [← Hp1.out,← Hpre.out,HS.out];simp [idsB,List.append_assoc]),hb07⟩
set_option maxRecDepth 100000 in
set_option maxHeartbeats 4000000 in
theorem vput_l (w : World) (g : Nat) (t : ByteArray) (b : Nat) (I : List Id32) (gs : Nat) (sb : List UInt8) (h0 : ViewAt w g t b I (.iface 104 (.pointer (some ⟨gs,0,none⟩)))) (hn : I.length ≤ 1000000) (hsb : sb.length ≤ 100000000)
    (c : ∀ w',Below w.heap.size w w' → Calls Tryz.prog 342 #[.pointer (some ⟨gs,0,none⟩)] w' fun e w''=>e = .returned (.string ⟨sb.toArray⟩) ∧ Below w'.heap.size w' w'') :
    Calls Tryz.prog 34 #[.pointer (some ⟨g,0,none⟩)] w fun e w'=>e = .returned (.string ⟨(idsB (sortC cmpId I) ++ sb).toArray⟩) ∧ Below w.heap.size w w':=by
  have h : ViewAt w g t b (sortC cmpId I) (.iface 104 (.pointer (some ⟨gs,0,none⟩))):=⟨h0.blk,SetAt.congr h0.ids (fun x=>(mem_sortC totId).symm)⟩
  have hr : Ris cmpId (sortC cmpId I):=ris_sortC totId _;have hO : (sortC cmpId I).length ≤ 1000000:=Nat.le_trans (sortC_length I) hn;obtain ⟨O,hOe⟩ : ∃ O,sortC cmpId I = O:=⟨_,rfl⟩
  rw [hOe] at h hr hO;rw [hOe];clear hOe h0 hn;have hc1:=h.cell1;go_enter Tryz.func34,Tryz.ntmps34
  (go_wp2_with fail);refine (vnone_live w g b hc1).mono ?_;rintro e w1 ⟨rfl,rfl⟩;(go_wp2_with fail);refine (vids w g t b O _ h hr hO).mono ?_;rintro e w2 ⟨IA,ic,rfl,hIo,hb02⟩;have hIs : SlR w2 IA O.length 32 (O.map idC):=hIo.slr;have hIb : ∀ x ∈ blk IA,x < w2.heap.size:=fun x hx=>(hIo.at_base hx).2;clear hc1 hIo;(go_wp2_with fail);refine (wnew w2).mono ?_;rintro e w3 ⟨rfl,hw3,hb3⟩;have hIs3:=hIs.below hb3;obtain ⟨gw,hgw⟩ : ∃ gw,w2.heap.size = gw:=⟨_,rfl⟩
  have hb03:=bel2 hb02 hb3;rw [hgw] at hw3 hIb ⊢;have hg3:=hw3.lt;have hszw : w.heap.size ≤ gw:=by have:=hb02.size;omega
  clear hIs hb3 hgw;(go_wp2_with fail);refine (wnum _ _ _ _ _ _ hw3 O.length 4 (by omega) (by omega) (by simp)).mono ?_;rintro e W3 ⟨rfl,AW,capW,hwW,hkW,hsubW⟩;simp only [List.nil_append] at hwW;have hid : SlR W3 IA O.length 32 (O.map idC):=hIs3.kept hkW (fun x hx=>by have:=hIb x hx;simp [blk];omega);have hbF : Below w.heap.size w W3:=hb03.trans (hkW.below (by have:=hb03.size;omega) (by simp [blk];omega));have hAbW : ∀ x ∈ blk AW,gw < x:=fun x hx=>(by have:=(hwW.own.at_base hx).1;omega);have hdis : ∀ x ∈ blk IA,x ∉ gw :: blk AW:=fun x hx hm=>by
    have:=hIb x hx;rcases List.mem_cons.1 hm with e | hm
    · omega
    · have:=hAbW x hm;omega
  have hbF2 : ∀ w',Keep (gw :: blk AW) W3 w' → Below w.heap.size w w':=fun w' hk=>hbF.trans (hk.below (by have:=hbF.size;omega) (fun x hx=>by
    rcases List.mem_cons.1 hx with rfl | hx
    · omega
    · have:=hAbW x hx;omega))
  have HbF:=Lib.hid hbF2;have hpl : (beL 4 O.length).length ≤ 200000000:=by rw [beL_length];omega
  obtain ⟨pre,hpre⟩ : ∃ pre,beL 4 O.length = pre:=⟨_,rfl⟩
  rw [hpre] at hwW hpl;have Hpre:=Lib.hid hpre;obtain ⟨S,hS⟩ : ∃ S,S = O:=⟨_,rfl⟩
  obtain ⟨Bw,hBw⟩ : ∃ Bw,Bw = gw + 1:=⟨_,rfl⟩
  have hBw2 : gw < Bw:=by omega
  rw [← hS] at hid hO Hpre;have hI2 : (Value.slice IA O.length ic) = .slice IA S.length ic:=by rw [hS]
  rw [← hBw] at hwW;have HS:=Lib.hid hS;rw [hI2];clear hpre hbF hbF2 hS hBw hkW hsubW hAbW hIs3 hb03 hb02 hw3 hg3 hIb hr hI2;(go_wp2_with fail);go_loopw [19] (fun i wr=>∃ k : Nat,k ≤ S.length ∧ i = .int .i64 (k : Nat) ∧ WStep W3 Bw gw AW (pre ++ (S.take k).flatMap Id32.l) wr) (fun i _=>S.length - (intOf i).toNat)
  case atStart=>exact ⟨0,Nat.zero_le _,rfl,AW,capW,by simpa using hwW,Keep.refl _ _,fun x hx=>.inl hx⟩
  case round =>
    obtain ⟨k,hk,rfl,A4,cap4,hw4,hk4,hsub4⟩:=hrel;by_cases hlt : k < S.length
    · have hLr:=(show SlR W3 IA S.length 32 (S.map idC) from hid).kept hk4 hdis;obtain ⟨q,o,rfl,hr⟩:=TagsIn.get hLr hlt hlt;have htk : (S.take (k + 1)).flatMap Id32.l = (S.take k).flatMap Id32.l ++ (S[k]).l:=by rw [List.take_add_one,List.getElem?_eq_getElem hlt,List.flatMap_append];simp only [Option.toList_some,List.flatMap_cons,List.flatMap_nil,List.append_nil]
      have hbl:=flatMap_len Id32.l 32 (S.take k) (fun x hx=>by rw [x.h];exact Nat.le_refl _);have htl : (S.take k).length = k:=by simp;omega
      rw [htl] at hbl;obtain ⟨x,hx⟩ : ∃ x,S[k]'hlt = x:=⟨_,rfl⟩
      rw [hx] at hr htk;have Htk:=Lib.hid htk;clear hx htk hLr htl;have hbl0 : (pre ++ (S.take k).flatMap Id32.l).length ≤ 300000000:=by rw [List.length_append];omega
      obtain ⟨bs0,hbs0⟩ : ∃ bs0,pre ++ (S.take k).flatMap Id32.l = bs0:=⟨_,rfl⟩
      have Hbs0:=Lib.hid hbs0;rw [hbs0] at hw4 hbl0;clear hbs0 hbl;have hb5 : Below wr.heap.size wr (wr.alloc (.cells (idC x) 39)):=(Below.refl _ _).alloc (Nat.le_refl _) _;have hw5:=hw4.below hb5;have hk5 : Keep [] wr (wr.alloc (.cells (idC x) 39)):=Keep.alloc _ _;have hbox : rowAt (wr.alloc (.cells (idC x) 39)) wr.heap.size 0 32 = some (idC x):=by simp [go_sem]
      have hconv : ∀ c,(convert 37 9 (.slice (some ⟨wr.heap.size,0,none⟩) 32 c)).run Tryz.prog (wr.alloc (.cells (idC x) 39)) = .ok (.string ⟨x.l.toArray⟩) (wr.alloc (.cells (idC x) 39)):=fun c=>id_string hbox;have e3 : (⟨x.l.toArray⟩ : ByteArray).size = 32:=by show x.l.toArray.size = 32;simp [x.h]
      have e4 : (⟨x.l.toArray⟩ : ByteArray).data.toList = x.l:=by simp
      have cw:=wraw _ Bw gw A4 cap4 bs0 hw5 ⟨x.l.toArray⟩ (by rw [e3];omega);rw [e4] at cw;clear e3 e4 hbox;(go_wp2_with fail);refine cw.mono ?_;rintro e w6 ⟨rfl,hst⟩;have hst2:=wstep_trans hw4 hk4 hsub4 (wstep_trans hw5 (hk5.mono (S':=gw :: blk A4) (by simp)) (fun x hx=>.inl hx) hst);rw [← Hbs0.out,List.append_assoc,← Htk.out] at hst2;have Hst:=Lib.hid hst2;clear hst hst2 hconv cw hb5 hw5 hk5 hw4 hk4 hsub4;(go_wp2_with fail);go_roundw
      case rel=>exact ⟨k + 1,by omega,by go_num,Hst.out⟩
      case measure=>simp [intOf];omega
    · have hkL : S.take k = S:=List.take_of_length_le (by omega);rw [hkL] at hw4;clear hkL;have hbr : Below w.heap.size w wr:=HbF.out _ hk4;have hV5:=h.below hbr;have hc2:=hV5.cell2;have cs:=c wr hbr;have hpl2 : (pre ++ S.flatMap Id32.l).length ≤ 300000000:=by
        have:=flatMap_len Id32.l 32 S (fun x _=>by rw [x.h];exact Nat.le_refl _);rw [List.length_append];omega
      obtain ⟨p1,hp1⟩ : ∃ p1,pre ++ S.flatMap Id32.l = p1:=⟨_,rfl⟩
      have Hp1:=Lib.hid hp1;rw [hp1] at hw4 hpl2;clear hp1 hk4 hsub4;(go_wp2_with fail);refine cs.mono ?_;rintro e w6 ⟨rfl,hb6⟩;have hw6:=hw4.below hb6;have es : (⟨sb.toArray⟩ : ByteArray).size = sb.length:=by show sb.toArray.size = _;simp
      have es2 : (⟨sb.toArray⟩ : ByteArray).data.toList = sb:=by simp
      have cw:=wraw _ _ _ _ _ _ hw6 ⟨sb.toArray⟩ (by rw [es];omega);rw [es2] at cw;have hb06:=bel2 hbr hb6;have hAb6 : ∀ x ∈ blk A4,gw < x:=fun x hx=>(by have:=(hw4.own.at_base hx).1;omega);clear es es2 hw4 hb6 hc2 hV5 cs;(go_wp2_with fail);refine cw.mono ?_;rintro e w7 ⟨rfl,A7,cap7,hw7,hk7,hsub7⟩;have hb07 : Below w.heap.size w w7:=hb06.trans (hk7.below (by have:=hb06.size;omega) (fun x hx=>by
        rcases List.mem_cons.1 hx with rfl | hx
        · omega
        · have:=hAb6 x hx;omega))
      clear hk7 hsub7;(go_wp2_with fail);refine (wdone _ _ _ _ _ _ hw7).mono ?_;rintro e w' ⟨rfl,rfl⟩;(go_wp2_with fail);go_ret;exact ⟨ret_strL (by rw [← Hp1.out,← Hpre.out,HS.out];simp [idsB,List.append_assoc]),hb07⟩
set_option maxRecDepth 100000 in
set_option maxHeartbeats 4000000 in
theorem vput_m (w : World) (g : Nat) (t : ByteArray) (b : Nat) (I : List Id32) (gs : Nat) (sb : List UInt8) (h0 : ViewAt w g t b I (.iface 105 (.pointer (some ⟨gs,0,none⟩)))) (hn : I.length ≤ 1000000) (hsb : sb.length ≤ 100000000)
    (c : ∀ w',Below w.heap.size w w' → Calls Tryz.prog 343 #[.pointer (some ⟨gs,0,none⟩)] w' fun e w''=>e = .returned (.string ⟨sb.toArray⟩) ∧ Below w'.heap.size w' w'') :
    Calls Tryz.prog 34 #[.pointer (some ⟨g,0,none⟩)] w fun e w'=>e = .returned (.string ⟨(idsB (sortC cmpId I) ++ sb).toArray⟩) ∧ Below w.heap.size w w':=by
  have h : ViewAt w g t b (sortC cmpId I) (.iface 105 (.pointer (some ⟨gs,0,none⟩))):=⟨h0.blk,SetAt.congr h0.ids (fun x=>(mem_sortC totId).symm)⟩
  have hr : Ris cmpId (sortC cmpId I):=ris_sortC totId _;have hO : (sortC cmpId I).length ≤ 1000000:=Nat.le_trans (sortC_length I) hn;obtain ⟨O,hOe⟩ : ∃ O,sortC cmpId I = O:=⟨_,rfl⟩
  rw [hOe] at h hr hO;rw [hOe];clear hOe h0 hn;have hc1:=h.cell1;go_enter Tryz.func34,Tryz.ntmps34
  (go_wp2_with fail);refine (vnone_live w g b hc1).mono ?_;rintro e w1 ⟨rfl,rfl⟩;(go_wp2_with fail);refine (vids w g t b O _ h hr hO).mono ?_;rintro e w2 ⟨IA,ic,rfl,hIo,hb02⟩;have hIs : SlR w2 IA O.length 32 (O.map idC):=hIo.slr;have hIb : ∀ x ∈ blk IA,x < w2.heap.size:=fun x hx=>(hIo.at_base hx).2;clear hc1 hIo;(go_wp2_with fail);refine (wnew w2).mono ?_;rintro e w3 ⟨rfl,hw3,hb3⟩;have hIs3:=hIs.below hb3;obtain ⟨gw,hgw⟩ : ∃ gw,w2.heap.size = gw:=⟨_,rfl⟩
  have hb03:=bel2 hb02 hb3;rw [hgw] at hw3 hIb ⊢;have hg3:=hw3.lt;have hszw : w.heap.size ≤ gw:=by have:=hb02.size;omega
  clear hIs hb3 hgw;(go_wp2_with fail);refine (wnum _ _ _ _ _ _ hw3 O.length 4 (by omega) (by omega) (by simp)).mono ?_;rintro e W3 ⟨rfl,AW,capW,hwW,hkW,hsubW⟩;simp only [List.nil_append] at hwW;have hid : SlR W3 IA O.length 32 (O.map idC):=hIs3.kept hkW (fun x hx=>by have:=hIb x hx;simp [blk];omega);have hbF : Below w.heap.size w W3:=hb03.trans (hkW.below (by have:=hb03.size;omega) (by simp [blk];omega));have hAbW : ∀ x ∈ blk AW,gw < x:=fun x hx=>(by have:=(hwW.own.at_base hx).1;omega);have hdis : ∀ x ∈ blk IA,x ∉ gw :: blk AW:=fun x hx hm=>by
    have:=hIb x hx;rcases List.mem_cons.1 hm with e | hm
    · omega
    · have:=hAbW x hm;omega
  have hbF2 : ∀ w',Keep (gw :: blk AW) W3 w' → Below w.heap.size w w':=fun w' hk=>hbF.trans (hk.below (by have:=hbF.size;omega) (fun x hx=>by
    rcases List.mem_cons.1 hx with rfl | hx
    · omega
    · have:=hAbW x hx;omega))
  have HbF:=Lib.hid hbF2;have hpl : (beL 4 O.length).length ≤ 200000000:=by rw [beL_length];omega
  obtain ⟨pre,hpre⟩ : ∃ pre,beL 4 O.length = pre:=⟨_,rfl⟩
  rw [hpre] at hwW hpl;have Hpre:=Lib.hid hpre;obtain ⟨S,hS⟩ : ∃ S,S = O:=⟨_,rfl⟩
  obtain ⟨Bw,hBw⟩ : ∃ Bw,Bw = gw + 1:=⟨_,rfl⟩
  have hBw2 : gw < Bw:=by omega
  rw [← hS] at hid hO Hpre;have hI2 : (Value.slice IA O.length ic) = .slice IA S.length ic:=by rw [hS]
  rw [← hBw] at hwW;have HS:=Lib.hid hS;rw [hI2];clear hpre hbF hbF2 hS hBw hkW hsubW hAbW hIs3 hb03 hb02 hw3 hg3 hIb hr hI2;(go_wp2_with fail);go_loopw [19] (fun i wr=>∃ k : Nat,k ≤ S.length ∧ i = .int .i64 (k : Nat) ∧ WStep W3 Bw gw AW (pre ++ (S.take k).flatMap Id32.l) wr) (fun i _=>S.length - (intOf i).toNat)
  case atStart=>exact ⟨0,Nat.zero_le _,rfl,AW,capW,by simpa using hwW,Keep.refl _ _,fun x hx=>.inl hx⟩
  case round =>
    obtain ⟨k,hk,rfl,A4,cap4,hw4,hk4,hsub4⟩:=hrel;by_cases hlt : k < S.length
    · have hLr:=(show SlR W3 IA S.length 32 (S.map idC) from hid).kept hk4 hdis;obtain ⟨q,o,rfl,hr⟩:=TagsIn.get hLr hlt hlt;have htk : (S.take (k + 1)).flatMap Id32.l = (S.take k).flatMap Id32.l ++ (S[k]).l:=by rw [List.take_add_one,List.getElem?_eq_getElem hlt,List.flatMap_append];simp only [Option.toList_some,List.flatMap_cons,List.flatMap_nil,List.append_nil]
      have hbl:=flatMap_len Id32.l 32 (S.take k) (fun x hx=>by rw [x.h];exact Nat.le_refl _);have htl : (S.take k).length = k:=by simp;omega
      rw [htl] at hbl;obtain ⟨x,hx⟩ : ∃ x,S[k]'hlt = x:=⟨_,rfl⟩
      rw [hx] at hr htk;have Htk:=Lib.hid htk;clear hx htk hLr htl;have hbl0 : (pre ++ (S.take k).flatMap Id32.l).length ≤ 300000000:=by rw [List.length_append];omega
      obtain ⟨bs0,hbs0⟩ : ∃ bs0,pre ++ (S.take k).flatMap Id32.l = bs0:=⟨_,rfl⟩
      have Hbs0:=Lib.hid hbs0;rw [hbs0] at hw4 hbl0;clear hbs0 hbl;have hb5 : Below wr.heap.size wr (wr.alloc (.cells (idC x) 39)):=(Below.refl _ _).alloc (Nat.le_refl _) _;have hw5:=hw4.below hb5;have hk5 : Keep [] wr (wr.alloc (.cells (idC x) 39)):=Keep.alloc _ _;have hbox : rowAt (wr.alloc (.cells (idC x) 39)) wr.heap.size 0 32 = some (idC x):=by simp [go_sem]
      have hconv : ∀ c,(convert 37 9 (.slice (some ⟨wr.heap.size,0,none⟩) 32 c)).run Tryz.prog (wr.alloc (.cells (idC x) 39)) = .ok (.string ⟨x.l.toArray⟩) (wr.alloc (.cells (idC x) 39)):=fun c=>id_string hbox;have e3 : (⟨x.l.toArray⟩ : ByteArray).size = 32:=by show x.l.toArray.size = 32;simp [x.h]
      have e4 : (⟨x.l.toArray⟩ : ByteArray).data.toList = x.l:=by simp
      have cw:=wraw _ Bw gw A4 cap4 bs0 hw5 ⟨x.l.toArray⟩ (by rw [e3];omega);rw [e4] at cw;clear e3 e4 hbox;(go_wp2_with fail);refine cw.mono ?_;rintro e w6 ⟨rfl,hst⟩;have hst2:=wstep_trans hw4 hk4 hsub4 (wstep_trans hw5 (hk5.mono (S':=gw :: blk A4) (by simp)) (fun x hx=>.inl hx) hst);rw [← Hbs0.out,List.append_assoc,← Htk.out] at hst2;have Hst:=Lib.hid hst2;clear hst hst2 hconv cw hb5 hw5 hk5 hw4 hk4 hsub4;(go_wp2_with fail);go_roundw
      case rel=>exact ⟨k + 1,by omega,by go_num,Hst.out⟩
      case measure=>simp [intOf];omega
    · have hkL : S.take k = S:=List.take_of_length_le (by omega);rw [hkL] at hw4;clear hkL;have hbr : Below w.heap.size w wr:=HbF.out _ hk4;have hV5:=h.below hbr;have hc2:=hV5.cell2;have cs:=c wr hbr;have hpl2 : (pre ++ S.flatMap Id32.l).length ≤ 300000000:=by
        have:=flatMap_len Id32.l 32 S (fun x _=>by rw [x.h];exact Nat.le_refl _);rw [List.length_append];omega
      obtain ⟨p1,hp1⟩ : ∃ p1,pre ++ S.flatMap Id32.l = p1:=⟨_,rfl⟩
      have Hp1:=Lib.hid hp1;rw [hp1] at hw4 hpl2;clear hp1 hk4 hsub4;(go_wp2_with fail);refine cs.mono ?_;rintro e w6 ⟨rfl,hb6⟩;have hw6:=hw4.below hb6;have es : (⟨sb.toArray⟩ : ByteArray).size = sb.length:=by show sb.toArray.size = _;simp
      have es2 : (⟨sb.toArray⟩ : ByteArray).data.toList = sb:=by simp
      have cw:=wraw _ _ _ _ _ _ hw6 ⟨sb.toArray⟩ (by rw [es];omega);rw [es2] at cw;have hb06:=bel2 hbr hb6;have hAb6 : ∀ x ∈ blk A4,gw < x:=fun x hx=>(by have:=(hw4.own.at_base hx).1;omega);clear es es2 hw4 hb6 hc2 hV5 cs;(go_wp2_with fail);refine cw.mono ?_;rintro e w7 ⟨rfl,A7,cap7,hw7,hk7,hsub7⟩;have hb07 : Below w.heap.size w w7:=hb06.trans (hk7.below (by have:=hb06.size;omega) (fun x hx=>by
        rcases List.mem_cons.1 hx with rfl | hx
        · omega
        · have:=hAb6 x hx;omega))
      clear hk7 hsub7;(go_wp2_with fail);refine (wdone _ _ _ _ _ _ hw7).mono ?_;rintro e w' ⟨rfl,rfl⟩;(go_wp2_with fail);go_ret;exact ⟨ret_strL (by rw [← Hp1.out,← Hpre.out,HS.out];simp [idsB,List.append_assoc]),hb07⟩
set_option maxRecDepth 100000 in
set_option maxHeartbeats 4000000 in
theorem vput_s (w : World) (g : Nat) (t : ByteArray) (b : Nat) (I : List Id32) (gs : Nat) (sb : List UInt8) (h0 : ViewAt w g t b I (.iface 106 (.pointer (some ⟨gs,0,none⟩)))) (hn : I.length ≤ 1000000) (hsb : sb.length ≤ 100000000)
    (c : ∀ w',Below w.heap.size w w' → Calls Tryz.prog 346 #[.pointer (some ⟨gs,0,none⟩)] w' fun e w''=>e = .returned (.string ⟨sb.toArray⟩) ∧ Below w'.heap.size w' w'') :
    Calls Tryz.prog 34 #[.pointer (some ⟨g,0,none⟩)] w fun e w'=>e = .returned (.string ⟨(idsB (sortC cmpId I) ++ sb).toArray⟩) ∧ Below w.heap.size w w':=by
  have h : ViewAt w g t b (sortC cmpId I) (.iface 106 (.pointer (some ⟨gs,0,none⟩))):=⟨h0.blk,SetAt.congr h0.ids (fun x=>(mem_sortC totId).symm)⟩
  have hr : Ris cmpId (sortC cmpId I):=ris_sortC totId _;have hO : (sortC cmpId I).length ≤ 1000000:=Nat.le_trans (sortC_length I) hn;obtain ⟨O,hOe⟩ : ∃ O,sortC cmpId I = O:=⟨_,rfl⟩
  rw [hOe] at h hr hO;rw [hOe];clear hOe h0 hn;have hc1:=h.cell1;go_enter Tryz.func34,Tryz.ntmps34
  (go_wp2_with fail);refine (vnone_live w g b hc1).mono ?_;rintro e w1 ⟨rfl,rfl⟩;(go_wp2_with fail);refine (vids w g t b O _ h hr hO).mono ?_;rintro e w2 ⟨IA,ic,rfl,hIo,hb02⟩;have hIs : SlR w2 IA O.length 32 (O.map idC):=hIo.slr;have hIb : ∀ x ∈ blk IA,x < w2.heap.size:=fun x hx=>(hIo.at_base hx).2;clear hc1 hIo;(go_wp2_with fail);refine (wnew w2).mono ?_;rintro e w3 ⟨rfl,hw3,hb3⟩;have hIs3:=hIs.below hb3;obtain ⟨gw,hgw⟩ : ∃ gw,w2.heap.size = gw:=⟨_,rfl⟩
  have hb03:=bel2 hb02 hb3;rw [hgw] at hw3 hIb ⊢;have hg3:=hw3.lt;have hszw : w.heap.size ≤ gw:=by have:=hb02.size;omega
  clear hIs hb3 hgw;(go_wp2_with fail);refine (wnum _ _ _ _ _ _ hw3 O.length 4 (by omega) (by omega) (by simp)).mono ?_;rintro e W3 ⟨rfl,AW,capW,hwW,hkW,hsubW⟩;simp only [List.nil_append] at hwW;have hid : SlR W3 IA O.length 32 (O.map idC):=hIs3.kept hkW (fun x hx=>by have:=hIb x hx;simp [blk];omega);have hbF : Below w.heap.size w W3:=hb03.trans (hkW.below (by have:=hb03.size;omega) (by simp [blk];omega));have hAbW : ∀ x ∈ blk AW,gw < x:=fun x hx=>(by have:=(hwW.own.at_base hx).1;omega);have hdis : ∀ x ∈ blk IA,x ∉ gw :: blk AW:=fun x hx hm=>by
    have:=hIb x hx;rcases List.mem_cons.1 hm with e | hm
    · omega
    · have:=hAbW x hm;omega
  have hbF2 : ∀ w',Keep (gw :: blk AW) W3 w' → Below w.heap.size w w':=fun w' hk=>hbF.trans (hk.below (by have:=hbF.size;omega) (fun x hx=>by
    rcases List.mem_cons.1 hx with rfl | hx
    · omega
    · have:=hAbW x hx;omega))
  have HbF:=Lib.hid hbF2;have hpl : (beL 4 O.length).length ≤ 200000000:=by rw [beL_length];omega
  obtain ⟨pre,hpre⟩ : ∃ pre,beL 4 O.length = pre:=⟨_,rfl⟩
  rw [hpre] at hwW hpl;have Hpre:=Lib.hid hpre;obtain ⟨S,hS⟩ : ∃ S,S = O:=⟨_,rfl⟩
  obtain ⟨Bw,hBw⟩ : ∃ Bw,Bw = gw + 1:=⟨_,rfl⟩
  have hBw2 : gw < Bw:=by omega
  rw [← hS] at hid hO Hpre;have hI2 : (Value.slice IA O.length ic) = .slice IA S.length ic:=by rw [hS]
  rw [← hBw] at hwW;have HS:=Lib.hid hS;rw [hI2];clear hpre hbF hbF2 hS hBw hkW hsubW hAbW hIs3 hb03 hb02 hw3 hg3 hIb hr hI2;(go_wp2_with fail);go_loopw [19] (fun i wr=>∃ k : Nat,k ≤ S.length ∧ i = .int .i64 (k : Nat) ∧ WStep W3 Bw gw AW (pre ++ (S.take k).flatMap Id32.l) wr) (fun i _=>S.length - (intOf i).toNat)
  case atStart=>exact ⟨0,Nat.zero_le _,rfl,AW,capW,by simpa using hwW,Keep.refl _ _,fun x hx=>.inl hx⟩
  case round =>
    obtain ⟨k,hk,rfl,A4,cap4,hw4,hk4,hsub4⟩:=hrel;by_cases hlt : k < S.length
    · have hLr:=(show SlR W3 IA S.length 32 (S.map idC) from hid).kept hk4 hdis;obtain ⟨q,o,rfl,hr⟩:=TagsIn.get hLr hlt hlt;have htk : (S.take (k + 1)).flatMap Id32.l = (S.take k).flatMap Id32.l ++ (S[k]).l:=by rw [List.take_add_one,List.getElem?_eq_getElem hlt,List.flatMap_append];simp only [Option.toList_some,List.flatMap_cons,List.flatMap_nil,List.append_nil]
      have hbl:=flatMap_len Id32.l 32 (S.take k) (fun x hx=>by rw [x.h];exact Nat.le_refl _);have htl : (S.take k).length = k:=by simp;omega
      rw [htl] at hbl;obtain ⟨x,hx⟩ : ∃ x,S[k]'hlt = x:=⟨_,rfl⟩
      rw [hx] at hr htk;have Htk:=Lib.hid htk;clear hx htk hLr htl;have hbl0 : (pre ++ (S.take k).flatMap Id32.l).length ≤ 300000000:=by rw [List.length_append];omega
      obtain ⟨bs0,hbs0⟩ : ∃ bs0,pre ++ (S.take k).flatMap Id32.l = bs0:=⟨_,rfl⟩
      have Hbs0:=Lib.hid hbs0;rw [hbs0] at hw4 hbl0;clear hbs0 hbl;have hb5 : Below wr.heap.size wr (wr.alloc (.cells (idC x) 39)):=(Below.refl _ _).alloc (Nat.le_refl _) _;have hw5:=hw4.below hb5;have hk5 : Keep [] wr (wr.alloc (.cells (idC x) 39)):=Keep.alloc _ _;have hbox : rowAt (wr.alloc (.cells (idC x) 39)) wr.heap.size 0 32 = some (idC x):=by simp [go_sem]
      have hconv : ∀ c,(convert 37 9 (.slice (some ⟨wr.heap.size,0,none⟩) 32 c)).run Tryz.prog (wr.alloc (.cells (idC x) 39)) = .ok (.string ⟨x.l.toArray⟩) (wr.alloc (.cells (idC x) 39)):=fun c=>id_string hbox;have e3 : (⟨x.l.toArray⟩ : ByteArray).size = 32:=by show x.l.toArray.size = 32;simp [x.h]
      have e4 : (⟨x.l.toArray⟩ : ByteArray).data.toList = x.l:=by simp
      have cw:=wraw _ Bw gw A4 cap4 bs0 hw5 ⟨x.l.toArray⟩ (by rw [e3];omega);rw [e4] at cw;clear e3 e4 hbox;(go_wp2_with fail);refine cw.mono ?_;rintro e w6 ⟨rfl,hst⟩;have hst2:=wstep_trans hw4 hk4 hsub4 (wstep_trans hw5 (hk5.mono (S':=gw :: blk A4) (by simp)) (fun x hx=>.inl hx) hst);rw [← Hbs0.out,List.append_assoc,← Htk.out] at hst2;have Hst:=Lib.hid hst2;clear hst hst2 hconv cw hb5 hw5 hk5 hw4 hk4 hsub4;(go_wp2_with fail);go_roundw
      case rel=>exact ⟨k + 1,by omega,by go_num,Hst.out⟩
      case measure=>simp [intOf];omega
    · have hkL : S.take k = S:=List.take_of_length_le (by omega);rw [hkL] at hw4;clear hkL;have hbr : Below w.heap.size w wr:=HbF.out _ hk4;have hV5:=h.below hbr;have hc2:=hV5.cell2;have cs:=c wr hbr;have hpl2 : (pre ++ S.flatMap Id32.l).length ≤ 300000000:=by
        have:=flatMap_len Id32.l 32 S (fun x _=>by rw [x.h];exact Nat.le_refl _);rw [List.length_append];omega
      obtain ⟨p1,hp1⟩ : ∃ p1,pre ++ S.flatMap Id32.l = p1:=⟨_,rfl⟩
      have Hp1:=Lib.hid hp1;rw [hp1] at hw4 hpl2;clear hp1 hk4 hsub4;(go_wp2_with fail);refine cs.mono ?_;rintro e w6 ⟨rfl,hb6⟩;have hw6:=hw4.below hb6;have es : (⟨sb.toArray⟩ : ByteArray).size = sb.length:=by show sb.toArray.size = _;simp
      have es2 : (⟨sb.toArray⟩ : ByteArray).data.toList = sb:=by simp
      have cw:=wraw _ _ _ _ _ _ hw6 ⟨sb.toArray⟩ (by rw [es];omega);rw [es2] at cw;have hb06:=bel2 hbr hb6;have hAb6 : ∀ x ∈ blk A4,gw < x:=fun x hx=>(by have:=(hw4.own.at_base hx).1;omega);clear es es2 hw4 hb6 hc2 hV5 cs;(go_wp2_with fail);refine cw.mono ?_;rintro e w7 ⟨rfl,A7,cap7,hw7,hk7,hsub7⟩;have hb07 : Below w.heap.size w w7:=hb06.trans (hk7.below (by have:=hb06.size;omega) (fun x hx=>by
        rcases List.mem_cons.1 hx with rfl | hx
        · omega
        · have:=hAb6 x hx;omega))
      clear hk7 hsub7;(go_wp2_with fail);refine (wdone _ _ _ _ _ _ hw7).mono ?_;rintro e w' ⟨rfl,rfl⟩;(go_wp2_with fail);go_ret;exact ⟨ret_strL (by rw [← Hp1.out,← Hpre.out,HS.out];simp [idsB,List.append_assoc]),hb07⟩
def stB : VSt → List UInt8
  | .t n=>putTB n
  | .b L G=>putB L G
  | .l L=>putLB L
  | .m X O=>putMB X O
  | .s N G=>putSB N G
def putVB (I : List Id32) (s : VSt) : List UInt8:=idsB (sortC cmpId I) ++ stB s
def VSt.big : VSt → Nat
  | .t _=>0
  | .b L G=>L.length + G.length
  | .l L=>L.length
  | .m X O=>X.length + O.length
  | .s N G=>N.length + G.length
theorem idsB_len (O : List Id32) : (idsB O).length ≤ 4 + 32 * O.length:=by
  have:=flatMap_len Id32.l 32 O (fun x _=>by rw [x.h];exact Nat.le_refl _);unfold idsB;rw [List.length_append,beL_length];omega
def VSt.ris : VSt → Prop
  | .s _ G=>Ris cmpId G
  | _=>True
theorem vput_any (w : World) (g : Nat) (t : ByteArray) (b : Nat) (O : List Nat) (I : List Id32) (v : Value) (s : VSt) (h : VAt w g t b O I v s) (hn : I.length ≤ 1000000) (hs : s.big ≤ 500000) (hr : s.ris) :
    Calls Tryz.prog 34 #[.pointer (some ⟨g,0,none⟩)] w fun e w'=>e = .returned (.string ⟨(putVB I s).toArray⟩) ∧ Below w.heap.size w w':=by
  have hv:=h.view;have hst:=fun w' (hb : Below w.heap.size w w')=>h.st.below hb;cases s with
  | t n =>
    obtain ⟨gs,rfl,h1,_⟩:=h.st;exact vput_t w g t b I gs (putTB n) hv hn (by unfold putTB;rw [List.length_append,beL_length,beL_length];omega) (fun w' hb=>tput w' gs n (h1.kept (Keep.of_below hb) (by simp)))
  | b L G =>
    obtain ⟨gs,bl,bg,rfl,h1,_⟩:=h.st;have hb1 : L.length + G.length ≤ 500000:=hs;have z1:=rowsB_len h1.smL;have z2:=rowsB_len h1.smG;exact vput_b w g t b I gs (putB L G) hv hn (by unfold putB;rw [List.length_append];omega) (fun w' hb=>bput w' gs bl bg L G (h1.below hb) (by omega) (by omega))
  | l L =>
    obtain ⟨gs,bl,rfl,h1,_⟩:=h.st;have hb1 : L.length ≤ 500000:=hs;have z1:=rows_length L h1.rows.2;exact vput_l w g t b I gs (putLB L) hv hn (by unfold putLB;rw [List.length_append,beL_length];omega) (fun w' hb=>lput w' gs bl L (h1.below hb) (by omega))
  | m X Ov =>
    obtain ⟨gs,bl,bo,rfl,h1,_⟩:=h.st;have hb1 : X.length + Ov.length ≤ 500000:=hs;have z1:=flatMap_len rowMB 66 X (fun x hx=>by rw [rowMB_len];have:=h1.sm x hx;unfold msmall at this;omega);have z2:=idsB_len Ov;exact vput_m w g t b I gs (putMB X Ov) hv hn (by unfold putMB;rw [List.length_append,List.length_append,beL_length];omega) (fun w' hb=>mput_any w' gs bl bo X Ov (h1.below hb) (by omega) (by omega))
  | s N G =>
    obtain ⟨gs,bn,bb,bg,rfl,h1,_⟩:=h.st;have hb1 : N.length + G.length ≤ 500000:=hs;have z0:=sortN_length N;have z1:=flatMap_len nodeB 85 (sortN N) (fun x hx=>by rw [nodeB_len];have:=nodeE_id (h1.ok x (mem_sortN.1 hx));omega);have z2:=idsB_len G;exact vput_s w g t b I gs (putSB N G) hv hn (by unfold putSB;rw [List.length_append,List.length_append,beL_length];omega) (fun w' hb=>sqput w' _ gs bn bb bg N G (h1.below hb) hr (by omega) (by omega))
theorem doS_big (m : MarkV) (o : OpV) (s : VSt) (ho : o.refs.length ≤ 8) : (doS m o s).big ≤ s.big + 9:=by
  cases s with
  | t n=>exact Nat.zero_le _
  | b L G =>
    by_cases h : o.k = 2
    · rw [doS_b2 m o L G h];show (addB L G ⟨m.id,o.val⟩).length + G.length ≤ L.length + G.length + 9;unfold addB;have:=insC_length (c:=cmpRow) L ⟨m.id,o.val⟩
      repeat' split
      all_goals omega
    · rw [doS_b3 m o L G h];show (remL L o.val o.refs).length + (remG G o.val o.refs).length ≤ L.length + G.length + 9;have h1:=remL_len o.val o.refs L;have h2 : ∀ (T : List Id32) (G : List BRow),(remG G o.val T).length ≤ G.length + T.length:=by
        intro T;induction T with
        | nil=>intro G;exact Nat.le_refl _
        | cons x T ih=>intro G;have h3:=ih (insC cmpRow G ⟨x,o.val⟩);have h4:=insC_length (c:=cmpRow) G ⟨x,o.val⟩;unfold remG at h3 ⊢;simp only [List.foldl_cons,List.length_cons];omega
      have h3:=h2 o.refs G;omega
  | l L=>exact Nat.le_trans (setL_length _ _ _) (by show L.length + 1 ≤ L.length + 9;omega)
  | m X Ov =>
    show (setX X Ov ⟨m.id,o.key,o.val⟩ o.refs).length + (putO Ov o.refs).length ≤ X.length + Ov.length + 9;have h1 : (setX X Ov ⟨m.id,o.key,o.val⟩ o.refs).length ≤ X.length + 1:=by
      unfold setX livR;exact Nat.le_trans (List.length_filter_le _ _) (insC_length (c:=cmpMR) X _)
    have h2 : ∀ (T G : List Id32),(putO G T).length ≤ G.length + T.length:=by
      intro T;induction T with
      | nil=>intro G;exact Nat.le_refl _
      | cons x T ih=>intro G;have h3:=ih (insC cmpId G x);have h4:=insC_length (c:=cmpId) G x;unfold putO at h3 ⊢;simp only [List.foldl_cons,List.length_cons];omega
    have h3:=h2 o.refs Ov;omega
  | s N G =>
    by_cases h : o.k = 6
    · rw [doS_s6 m o N G h];show (addN N ⟨m.id,m.h,o.ref,o.val⟩).length + G.length ≤ N.length + G.length + 9;unfold addN;repeat' split
      all_goals simp
      all_goals omega
    · rw [doS_s7 m o N G h];have:=insC_length (c:=cmpId) G o.ref;show N.length + (insC cmpId G o.ref).length ≤ N.length + G.length + 9;omega
theorem foldS_big (t : ByteArray) (m : MarkV) (s : VSt) : (foldS t m s).big ≤ s.big + 9:=by
  unfold foldS;split
  · rename_i h;exact doS_big _ _ _ (opO_ok _ h.1).2.2.2.2.2.1
  · omega
theorem doS_ris (m : MarkV) (o : OpV) (s : VSt) (h : s.ris) : (doS m o s).ris:=by
  cases s with
  | s N G =>
    by_cases hk : o.k = 6
    · rw [doS_s6 m o N G hk];exact h
    · rw [doS_s7 m o N G hk];exact ris_insC totId h
  | b L G =>
    by_cases hk : o.k = 2
    · rw [doS_b2 m o L G hk];trivial
    · rw [doS_b3 m o L G hk];trivial
  | t n=>trivial
  | l L=>trivial
  | m X Ov=>trivial
theorem foldS_ris (t : ByteArray) (m : MarkV) (s : VSt) (h : s.ris) : (foldS t m s).ris:=by
  unfold foldS;split
  · exact doS_ris _ _ _ h
  · exact h
end
section
open Go.RowKit
end
section
open Go.RowKit
def pairR (x : Row) : Pair:=⟨x.key,x.val⟩
abbrev OwnP (w : World) (B : Nat) (A : Option Addr) (cap : Nat) (L : List Pair) : Prop:=Own w B 98 2 A L.length cap (L.map pairC)
end
section
open Go.RowKit
def numR (k : Int) (x : RV) : Int:=if k = 1 then x.tal else 0
def pairsR (k : Int) (x : RV) : List Pair :=
  if k = 1 then [] else if k = 2 then (listB (liveR x.adds x.gone)).map pairV else if k = 3 then (latestR x.last).map pairR
  else if k = 4 then listM (lvM x.mL x.mO) else listS x.sL x.sG
def bytesRV (k : Int) (x : RV) : List UInt8 :=
  if k = 1 then putTB x.tal else if k = 2 then putB (liveR x.adds x.gone) (sortC cmpRow x.gone) else if k = 3 then putLB ((latestR x.last).map rowL)
  else if k = 4 then putMB (lvM x.mL x.mO) (sortC cmpId x.mO) else putSB x.sL x.sG
end
section
open Go.RowKit
end
section
open Go.RowKit
end
section
open Go.RowKit
def valC (k n : Int) (A : Option Addr) (m c : Nat) : Array Value:=valVC ⟨k,n,.slice A m c⟩
set_option maxRecDepth 100000 in
set_option maxHeartbeats 1000000 in
theorem rsame26 (w : World) (k n k' n' : Int) (A B : Option Addr) (m m' c c' : Nat) (X Y : List Pair) (hx : PairsIn w A m X) (hy : PairsIn w B m' Y) (hm : m ≤ 1000000) (hm' : m' ≤ 1000000) :
    Calls Tryz.prog 15 #[.agg (valC k n A m c),.agg (valC k' n' B m' c')] w fun e w'=>e = .returned (.bool (decide (k = k' ∧ n = n' ∧ X = Y))) ∧ Below w.heap.size w w':=by
  have hB : Below w.heap.size w ((w.alloc (.cells (valC k n A m c) 25)).alloc (.cells (valC k' n' B m' c') 25)):=((Below.refl _ _).alloc (Nat.le_refl _) _).alloc (by simp) _;have hx1:=SlR.below hx hB;have hy1:=SlR.below hy hB;have cp:=rpairs _ A B m m' c c' X Y hx1 hy1 hm hm';unfold valC at hB cp ⊢;have hd : decide (k = k' ∧ n = n' ∧ X = Y) = ((k == k') && (n == n') && decide (X = Y)):=by
    rw [Bool.eq_iff_iff];simp [and_assoc]
  obtain ⟨b,hb⟩ : ∃ b,decide (X = Y) = b:=⟨_,rfl⟩
  rw [hb] at cp hd;have Hd:=Lib.hid hd;clear hd hx1 hy1 hb hx hy;obtain ⟨b1,h1⟩ : ∃ b1,(k == k') = b1:=⟨_,rfl⟩
  obtain ⟨b2,h2⟩ : ∃ b2,(n == n') = b2:=⟨_,rfl⟩
  have Hd2 : Hid (decide (k = k' ∧ n = n' ∧ X = Y) = (b1 && b2 && b)):=by show _ = _;rw [Hd.out,h1,h2]
  clear Hd;cases b1 <;> cases b2
  all_goals
    go_enter Tryz.func15,Tryz.ntmps15
    go_wp2_with fail
    first
    | (go_ret;exact ⟨ret_bool (by rw [Hd2.out];rfl),hB⟩)
    | (refine cp.mono ?_;rintro e w1 ⟨rfl,hb1⟩
       have hBB:=bel2 hB hb1;clear cp hb1 hB;(go_wp2_with fail);go_ret;exact ⟨ret_bool (by rw [Hd2.out];rfl),hBB⟩)
end
section
open Go.RowKit
@[go_sem] theorem buildValV_kn (k n : Int) (w : World) : (bdS 25 #[(0,.int .i64 k),(1,.int .i64 n)]).run Tryz.prog w = .ok (.agg (valVC ⟨k,n,.slice none 0 0⟩)) w:=by kernel_rfl
@[go_sem] theorem buildValV_kl (k : Int) (A : Option Addr) (n c : Nat) (w : World) : (bdS 25 #[(0,.int .i64 k),(2,.slice A n c)]).run Tryz.prog w = .ok (.agg (valVC ⟨k,0,.slice A n c⟩)) w:=by kernel_rfl
end
section
open Go.RowKit
def pow256 : Nat → Int | 0=>1 | k + 1=>256 * pow256 k
theorem beL_snoc (k n : Nat) : beL (k + 1) n = beL k (n / 256) ++ [UInt8.ofNat n]:=by
  induction k generalizing n with
  | zero=>simp [beL]
  | succ k ih =>
    have h1:=ih n;show UInt8.ofNat (n / 256 ^ (k + 1)) :: beL (k + 1) n = (UInt8.ofNat (n / 256 / 256 ^ k) :: beL k (n / 256)) ++ [UInt8.ofNat n];rw [h1,Nat.pow_succ,Nat.mul_comm,← Nat.div_div_eq_div_mul];rfl
theorem mk1 (w : World) : (Instr.makeSlice 37 (.int .i64 1) (.int .i64 1)).run Tryz.prog w = .ok (.slice (some ⟨w.heap.size,0,none⟩) 1 1) (w.alloc (.cells #[.int .u8 0] 5)):=by kernel_rfl
theorem mk4 (w : World) : (Instr.makeSlice 37 (.int .i64 4) (.int .i64 4)).run Tryz.prog w = .ok (.slice (some ⟨w.heap.size,0,none⟩) 4 4) (w.alloc (.cells #[.int .u8 0,.int .u8 0,.int .u8 0,.int .u8 0] 5)):=by kernel_rfl
theorem conv_bytes (w : World) (bs : List UInt8) (n : Nat) (hn : n = bs.length) (cs : Array Value) (hc : cs = (bs.map byteC).toArray) :
    (convert 37 9 (.slice (some ⟨w.heap.size,0,none⟩) n n)).run Tryz.prog (w.alloc (.cells cs 5)) = .ok (.string ⟨bs.toArray⟩) (w.alloc (.cells cs 5)):=by
  subst hn;subst hc;exact run_convert_bytes_back (P:=Tryz.prog) _ 37 9 5 ⟨w.heap.size,0,none⟩ bs.length bs Tryz.underlying37 Tryz.underlying5 Tryz.underlying9 (fun j hj=>by simp [go_sem,byteC,hj])
theorem u8n (n : Nat) : ((n : Int) % 256) = ((UInt8.ofNat n).toNat : Int):=by simp
set_option maxHeartbeats 1000000 in
set_option maxRecDepth 100000 in
theorem rnum1 (n : Nat) (w : World) (h : n < 256) :
    Calls Tryz.prog 83 #[.int .i64 n,.int .i64 1] w fun e w'=>e = .returned (.tuple #[.string ⟨(beL 1 n).toArray⟩,.int .i64 0]) ∧ Below w.heap.size w w':=by
  have hd1 : decide ((n : Int) < 0) = false:=by simp
  have hd2 : decide (256 ≤ (n : Int)) = false:=by simp;omega
  have hcv:=conv_bytes w (beL 1 n) 1 rfl #[.int .u8 ((n : Int) % 256)] (by rw [u8n];simp [beL,byteC]);obtain ⟨bs,hbs⟩ : ∃ bs,beL 1 n = bs:=⟨_,rfl⟩
  rw [hbs] at hcv ⊢;clear hbs;have hmk:=mk1;go_enter Tryz.func83,Tryz.ntmps83
  (go_wp2_with fail);refine wp_loop_rounds 1 ?_;rw [rounds_succ];(go_wp2_with fail);refine wp_loop_rounds 2 ?_;rw [rounds_succ];(go_wp2_with fail);rw [rounds_succ];(go_wp2_with fail);go_ret2;exact ⟨rfl,(Below.refl _ _).alloc (Nat.le_refl _) _⟩
set_option maxHeartbeats 1000000 in
set_option maxRecDepth 100000 in
theorem rnum4 (n : Nat) (w : World) (h : n < 4294967296) :
    Calls Tryz.prog 83 #[.int .i64 n,.int .i64 4] w fun e w'=>e = .returned (.tuple #[.string ⟨(beL 4 n).toArray⟩,.int .i64 0]) ∧ Below w.heap.size w w':=by
  have hd1 : decide ((n : Int) < 0) = false:=by simp
  have hd2 : decide (4294967296 ≤ (n : Int)) = false:=by simp;omega
  have hcv:=conv_bytes w (beL 4 n) 4 rfl #[.int .u8 ((n : Int) / 256 / 256 / 256 % 256),.int .u8 ((n : Int) / 256 / 256 % 256),.int .u8 ((n : Int) / 256 % 256),.int .u8 ((n : Int) % 256)] (by
    have e1 : (n : Int) / 256 = ((n / 256 : Nat) : Int):=by simp
    have e2 : ((n / 256 : Nat) : Int) / 256 = ((n / 256 / 256 : Nat) : Int):=by simp
    have e3 : ((n / 256 / 256 : Nat) : Int) / 256 = ((n / 256 / 256 / 256 : Nat) : Int):=by simp
    rw [e1,e2,e3,u8n,u8n,u8n,u8n,beL_snoc,beL_snoc,beL_snoc];simp [beL,byteC])
  obtain ⟨bs,hbs⟩ : ∃ bs,beL 4 n = bs:=⟨_,rfl⟩
  rw [hbs] at hcv ⊢;clear hbs;have hmk:=mk4;go_enter Tryz.func83,Tryz.ntmps83
  (go_wp2_with fail);refine wp_loop_rounds 4 ?_;rw [rounds_succ];(go_wp2_with fail);rw [rounds_succ];(go_wp2_with fail);rw [rounds_succ];(go_wp2_with fail);rw [rounds_succ];(go_wp2_with fail);refine wp_loop_rounds 5 ?_;rw [rounds_succ];(go_wp2_with fail);rw [rounds_succ];(go_wp2_with fail);rw [rounds_succ];(go_wp2_with fail);rw [rounds_succ];(go_wp2_with fail);rw [rounds_succ];(go_wp2_with fail);go_ret2;exact ⟨rfl,(Below.refl _ _).alloc (Nat.le_refl _) _⟩
theorem rnumP (n M : Nat) (w : World) (hM : M = 1 ∨ M = 4) (h : n < 256 ^ M) :
    Calls Tryz.prog 83 #[.int .i64 n,.int .i64 M] w fun e w'=>∃ s : ByteArray,e = .returned (.tuple #[.string s,.int .i64 0]) ∧ s.size = M ∧ s.data.toList = beL M n ∧ Below w.heap.size w w':=by
  have c : Calls Tryz.prog 83 #[.int .i64 n,.int .i64 M] w fun e w'=>e = .returned (.tuple #[.string ⟨(beL M n).toArray⟩,.int .i64 0]) ∧ Below w.heap.size w w':=by
    rcases hM with rfl | rfl
    · exact rnum1 n w h
    · exact rnum4 n w h
  exact c.mono fun _ _ ⟨he,hb⟩=>⟨_,he,(by show (beL M n).toArray.size = M;simp [beL_length]),by simp,hb⟩
end
section
open Go.RowKit
end
section
open Go.RowKit
end
section
open Go.RowKit
end
section
open Go.RowKit
end
section
open Go.RowKit
end
section
open Go.RowKit
end
section
open Go.RowKit
end
section
open Go.RowKit
end
section
open Go.RowKit
end
section
open Go.RowKit
end
section
open Go.RowKit
end
section
open Go.RowKit
end
section
open Go.RowKit
def Small (w : World) (x : Nat) : Prop:=∀ o k cs,32 ≤ k → rowAt w x o k = some cs → False
theorem small_map {w : World} {x : Nat} {es : Array MapEntry} {clk : Nat} (h : w.heap[x]? = some (.map es clk)) : Small w x:=fun o k cs _ hr=>by
  unfold rowAt at hr;rw [h] at hr;cases hr
theorem small_cells {w : World} {x : Nat} {cs : Array Value} {t : TypeId} {f : Nat × Nat} (h : w.heap[x]? = some (.cells cs t f)) (hs : cs.size < 32) : Small w x:=fun o k c hk hr=>by
  unfold rowAt at hr;rw [h] at hr;dsimp only at hr;rw [if_neg (by omega)] at hr;cases hr
theorem SlR.kept_small {w w' : World} {A : Option Addr} {n k : Nat} {R : List (Array Value)} {S : List Nat} (h : SlR w A n k R) (hk : 32 ≤ k) (hw : Keep S w w') (hs : ∀ x ∈ S,Small w x) : SlR w' A n k R:=by
  refine ⟨h.1,fun h0=>?_⟩;obtain ⟨q,o,e,hc⟩:=h.2 h0;refine ⟨q,o,e,fun i hi=>?_⟩;have hql:=rowAt_lt (hc i hi);rw [hw.row hql (fun hm=>hs q hm _ _ _ hk (hc i hi)) _ _];exact hc i hi
section
variable {w w' : World} {M S : List Nat}
theorem SeqAt.kept_small {g bn bb bg : Nat} {N : List NodeV} {G : List Id32} (h : SeqAt w M g bn bb bg N G) (k : Keep S w w') (hS : ∀ x ∈ S,Small w x) (hg : g ∉ S) (h1 : bn ∉ S) (h2 : bb ∉ S) (h3 : bg ∉ S) : SeqAt w' M g bn bb bg N G:=by
  obtain ⟨es,clk,hn⟩:=h.nodes;obtain ⟨BM,es',clk',hb,hsl,hno⟩:=h.behind;refine ⟨(k.block g h.ltg hg).trans h.blk,⟨es,clk,hn.kept k h1⟩,⟨BM,es',clk',hb.kept k h2,fun p hp=>?_,hno⟩,h.gone.kept k h3,h.inM,h.ne,h.one,h.ok⟩;obtain ⟨s1,s2⟩:=hsl p hp;exact ⟨⟨s1.rd.kept_small (by omega) k hS,s1.le,s1.nil,s1.plain⟩,fun x hx=>⟨(s2 x hx).1,Nat.lt_of_lt_of_le (s2 x hx).2 k.size⟩⟩
theorem StAt.kept_small {O : List Nat} {v : Value} {s : VSt} (h : StAt w O M v s) (k : Keep S w w') (hS : ∀ x ∈ S,Small w x) (hO : ∀ x ∈ O,x ∉ S) : StAt w' O M v s:=by
  cases s with
  | t n=>obtain ⟨g,e,h1,rfl⟩:=h;exact ⟨g,e,h1.kept k (hO g (by simp)),rfl⟩
  | b L G=>obtain ⟨g,bl,bg,e,h1,rfl⟩:=h;exact ⟨g,bl,bg,e,h1.kept k (hO g (by simp)) (hO bl (by simp)) (hO bg (by simp)),rfl⟩
  | l L=>obtain ⟨g,b,e,h1,rfl⟩:=h;exact ⟨g,b,e,h1.kept k (hO g (by simp)) (hO b (by simp)),rfl⟩
  | m X Ov=>obtain ⟨g,bl,bo,e,h1,rfl⟩:=h;exact ⟨g,bl,bo,e,h1.kept k (hO g (by simp)) (hO bl (by simp)) (hO bo (by simp)),rfl⟩
  | s N G=>obtain ⟨g,bn,bb,bg,e,h1,rfl⟩:=h;exact ⟨g,bn,bb,bg,e,h1.kept_small k hS (hO g (by simp)) (hO bn (by simp)) (hO bb (by simp)) (hO bg (by simp)),rfl⟩
theorem setAt_small {κ : Type} {kv : κ → Value} {ok : κ → Prop} {b : Nat} {X : List κ} (h : SetAt w b kv ok X) : Small w b:=by
  obtain ⟨M,es,clk,hm,_⟩:=h;exact small_map hm.heap
theorem StAt.small {O : List Nat} {v : Value} {s : VSt} (h : StAt w O M v s) : ∀ x ∈ O,Small w x:=by
  cases s with
  | t n =>
    obtain ⟨g,e,h1,rfl⟩:=h;intro x hx;simp at hx;subst hx;exact small_cells h1 (by simp)
  | b L G =>
    obtain ⟨g,bl,bg,e,h1,rfl⟩:=h;intro x hx;simp at hx;rcases hx with rfl | rfl | rfl
    · exact small_cells h1.blk (by simp)
    · exact setAt_small h1.live
    · exact setAt_small h1.gone
  | l L =>
    obtain ⟨g,b,e,h1,rfl⟩:=h;obtain ⟨M',es,clk,hm,_⟩:=h1.map;intro x hx;simp at hx;rcases hx with rfl | rfl
    · exact small_cells h1.blk (by simp)
    · exact small_map hm.heap
  | m X Ov =>
    obtain ⟨g,bl,bo,e,h1,rfl⟩:=h;intro x hx;simp at hx;rcases hx with rfl | rfl | rfl
    · exact small_cells h1.blk (by simp)
    · exact setAt_small h1.live
    · exact setAt_small h1.over
  | s N G =>
    obtain ⟨g,bn,bb,bg,e,h1,rfl⟩:=h;obtain ⟨es,clk,hn⟩:=h1.nodes;obtain ⟨BM,es',clk',hb,_,_⟩:=h1.behind;intro x hx;simp at hx;rcases hx with rfl | rfl | rfl | rfl
    · exact small_cells h1.blk (by simp)
    · exact small_map hn.heap
    · exact small_map hb.heap
    · exact setAt_small h1.gone
end
theorem VAt.small {w : World} {g : Nat} {t : ByteArray} {b : Nat} {O : List Nat} {I : List Id32} {v : Value} {s : VSt} (h : VAt w g t b O I v s) : ∀ x ∈ b :: O,Small w x:=by
  intro x hx;rcases List.mem_cons.1 hx with rfl | hx
  · exact setAt_small h.view.ids
  · exact h.st.small x hx
theorem VAt.kept_small {w w' : World} {g : Nat} {t : ByteArray} {b : Nat} {O S : List Nat} {I : List Id32} {v : Value} {s : VSt} (h : VAt w g t b O I v s) (k : Keep S w w') (hS : ∀ x ∈ S,Small w x) (hd : ∀ x ∈ g :: b :: O,x ∉ S) : VAt w' g t b O I v s :=
  ⟨h.view.kept k (hd g (by simp)) (hd b (by simp)),h.st.kept_small k hS (fun x hx=>hd x (by simp [hx])),h.gM,h.bO,fun x hx=>Nat.lt_of_lt_of_le (h.lt x hx) k.size,h.b0⟩
def stepI (m : MarkV) (I : List Id32) : List Id32:=if m.id ∈ I then I else m.id :: I
def stepS (t : ByteArray) (m : MarkV) (I : List Id32) (s : VSt) : VSt:=if m.id ∈ I then s else foldS t m s
def stepX (t : ByteArray) (m : MarkV) (I : List Id32) (x : RV) : RV:=if m.id ∈ I then x else rfoldS t m x
structure Told (t : ByteArray) (i : Nat) (I : List Id32) (s : VSt) : Prop where
  kind : s.kind = kindB t
  len : s.len ≤ i
  big : s.big ≤ 9 * i
  ris : s.ris
  ids : I.length ≤ i
structure ToldR (t : ByteArray) (i : Nat) (I : List Id32) (s : VSt) (x : RV) : Prop extends Told t i I s where
  rel : RelS x s
  ok : RVOk x
  xlen : x.len ≤ 9 * i
theorem Told.step {t : ByteArray} {i : Nat} {I : List Id32} {s : VSt} (h : Told t i I s) (m : MarkV) : Told t (i + 1) (stepI m I) (stepS t m I s):=by
  have h1:=h.len;have h2:=h.big;have h3:=h.ids;unfold stepI stepS;by_cases hm : m.id ∈ I
  · rw [if_pos hm,if_pos hm];exact ⟨h.kind,by omega,by omega,h.ris,by omega⟩
  · rw [if_neg hm,if_neg hm];have h4:=foldS_len t m s;have h5:=foldS_big t m s;exact ⟨(foldS_kind t m s).trans h.kind,by omega,by omega,foldS_ris t m s h.ris,by simp;omega⟩
theorem ToldR.new (t : ByteArray) (hk : kindB t ≠ 0) : ToldR t 0 [] (VSt.new (kindB t)) rv0:=by
  refine ⟨⟨?_,?_,?_,?_,by simp⟩,rel_new _,rvOk0,by simp [rv0,RV.len]⟩
  all_goals
    rcases kindB_range t with e | e | e | e | e | e
    · exact absurd e hk
    all_goals (rw [e];first | rfl | trivial | exact Nat.le_refl _ | exact Ris.nil)
theorem vfold_step (m : MarkV) (w : World) (g : Nat) (t : ByteArray) (b : Nat) (O : List Nat) (I : List Id32) (v : Value) (s : VSt) (h : VAt w g t b O I v s) (hp : PartsVar w) (hs : m.body.size ≤ 9223372036854775807) (ht : t.size ≤ 9223372036854775807) (hk : kindB t = s.kind) (hl : s.len ≤ 1000) :
    Calls Tryz.prog 26 #[.pointer (some ⟨g,0,none⟩),.agg (markVC m)] w fun e w'=>e = .returned (.bool (!decide (m.id ∈ I))) ∧ VAt w' g t b O (stepI m I) v (stepS t m I s) ∧ Keep (b :: O) w w':=by
  by_cases hm : m.id ∈ I
  · refine (vfold_old m w g t b I v h.view hm).mono ?_;rintro e w' ⟨rfl,hb⟩;rw [decide_eq_true hm];unfold stepI stepS;rw [if_pos hm,if_pos hm];exact ⟨rfl,h.below hb,(Keep.of_below hb).mono (by simp)⟩
  · refine (vfold_vat m w g t b O I v s h hm hp hs ht hk hl).mono ?_;rintro e w' ⟨rfl,h1,h2⟩;rw [decide_eq_false hm];unfold stepI stepS;rw [if_neg hm,if_neg hm];exact ⟨rfl,h1,h2⟩
theorem pairs_lenQ {w : World} {O M : List Nat} {v : Value} (s : VSt) (hs : StAt w O M v s) : s.pairs.length ≤ s.len:=by
  cases s with
  | t n=>exact Nat.le_refl _
  | b L G=>show ((listB L).map pairV).length ≤ L.length;rw [List.length_map];exact listB_len L
  | l L=>show (L.map pairOf).length ≤ L.length;rw [List.length_map];exact Nat.le_refl _
  | m X O=>exact listM_len X
  | s N G =>
    obtain ⟨g,bn,bb,bg,rfl,h1,rfl⟩:=hs;exact listS_len (N:=N) (G:=G) ⟨h1.one,fun a ha=>(nodeE_id (h1.ok a ha)).1⟩
section
variable {t : ByteArray} {i : Nat} {I : List Id32} {s : VSt} {x : RV}
theorem vval_t (T : Told t i I s) (ht : t.size ≤ 9223372036854775807) (hi : i ≤ 30) (w : World) (g b : Nat) (O : List Nat) (v : Value) (h : VAt w g t b O I v s) :
    Calls Tryz.prog 24 #[.pointer (some ⟨g,0,none⟩)] w fun e w'=>∃ A m c,e = .returned (.agg (valVC ⟨s.kind,s.num,.slice A m c⟩)) ∧ (PairsIn w' A m s.pairs ∧ m ≤ 1000000) ∧ Below w.heap.size w w':=by
  have h1:=T.len;have h2:=pairs_lenQ s h.st;refine (vvalue w g t b I v O (b :: O) s h.view h.st ht T.kind.symm (by omega)).mono ?_;rintro e w' ⟨A,c,rfl,ho,hb⟩;exact ⟨A,_,c,rfl,⟨ho.slr,by omega⟩,hb⟩
theorem same_t (w : World) (k n : Int) (A B : Option Addr) (m m' c c' : Nat) (L : List Pair) (hx : PairsIn w A m L ∧ m ≤ 1000000) (hy : PairsIn w B m' L ∧ m' ≤ 1000000) :
    Calls Tryz.prog 15 #[.agg (valVC ⟨k,n,.slice A m c⟩),.agg (valVC ⟨k,n,.slice B m' c'⟩)] w fun e w'=>e = .returned (.bool true) ∧ Below w.heap.size w w':=by
  have cs:=rsame26 w k n k n A B m m' c c' L L hx.1 hy.1 hx.2 hy.2;rw [decide_eq_true ⟨rfl,rfl,rfl⟩] at cs;exact cs
theorem vputT (T : Told t i I s) (hi : i ≤ 30) (w : World) (g b : Nat) (O : List Nat) (v : Value) (h : VAt w g t b O I v s) :
    Calls Tryz.prog 34 #[.pointer (some ⟨g,0,none⟩)] w fun e w'=>e = .returned (.string ⟨(putVB I s).toArray⟩) ∧ Below w.heap.size w w' :=
  vput_any w g t b O I v s h (by have:=T.ids;omega) (by have:=T.big;omega) T.ris
end
end
section
open Go.RowKit
structure RdsG (α : Type) where
  rows : List α
  l : List UInt8
  e : Int
structure RowP (α : Type) where
  one : List UInt8 → Int → α
  oL : List UInt8 → Int → List UInt8
  oE : List UInt8 → Int → Int
  put : α → List UInt8
  ok : α → Prop
section
variable {α : Type} (p : RowP α)
structure RowLaw : Prop where
  split : ∀ l e,p.oE l e = 0 → e = 0 ∧ p.put (p.one l e) ++ p.oL l e = l
  back : ∀ x t,p.ok x → p.one (p.put x ++ t) 0 = x ∧ p.oL (p.put x ++ t) 0 = t ∧ p.oE (p.put x ++ t) 0 = 0
  some_ : ∀ x,1 ≤ (p.put x).length
def stepG (s : RdsG α) : RdsG α:=⟨s.rows ++ [p.one s.l s.e],p.oL s.l s.e,p.oE s.l s.e⟩
def loopG : Nat → RdsG α → RdsG α
  | 0,s=>s
  | k + 1,s=>if s.e = 0 then loopG k (stepG p s) else s
def readG (l : List UInt8) (e : Int) : RdsG α:=loopG p (numV 4 l e) ⟨[],rawL 4 l e,rawE 4 l e⟩
def putG (X : List α) : List UInt8:=beL 4 X.length ++ X.flatMap p.put
variable {p}
theorem loopG_stop (k : Nat) (s : RdsG α) (h : s.e ≠ 0) : loopG p k s = s:=by
  cases k with
  | zero=>rfl
  | succ k=>unfold loopG;rw [if_neg h]
theorem loopG_step (k : Nat) (s : RdsG α) (h : s.e = 0) : loopG p (k + 1) s = loopG p k (stepG p s):=by rw [loopG,if_pos h]
theorem loopG_len : ∀ (k : Nat) (s : RdsG α),(loopG p k s).rows.length ≤ s.rows.length + k
  | 0,s=>Nat.le_refl _
  | k + 1,s=>by
    unfold loopG;split
    · have:=loopG_len k (stepG p s);unfold stepG at this ⊢;simp only [List.length_append,List.length_cons,List.length_nil] at this;omega
    · omega
theorem readG_len (l : List UInt8) (e : Int) : (readG p l e).rows.length < 4294967296:=by
  have h1:=loopG_len (p:=p) (numV 4 l e) ⟨[],rawL 4 l e,rawE 4 l e⟩;have h2:=numV_lt 4 l e;unfold readG;simp only [List.length_nil] at h1;omega
theorem loopG_split (L : RowLaw p) : ∀ (k : Nat) (s : RdsG α),(loopG p k s).e = 0 → ∃ X : List α,X.length = k ∧ (loopG p k s).rows = s.rows ++ X ∧ X.flatMap p.put ++ (loopG p k s).l = s.l ∧ s.e = 0
  | 0,s,h=>⟨[],rfl,by simp [loopG],by simp [loopG],h⟩
  | k + 1,s,h=>by
    by_cases he : s.e = 0
    · rw [loopG_step k s he] at h ⊢;obtain ⟨X,h1,h2,h3,h0⟩:=loopG_split L k (stepG p s) h;obtain ⟨_,h5⟩:=L.split s.l s.e h0;refine ⟨p.one s.l s.e :: X,by simp [h1],by rw [h2];simp [stepG],?_,he⟩;rw [List.flatMap_cons,List.append_assoc,h3];exact h5
    · rw [loopG_stop _ _ he] at h;exact absurd h he
theorem readG_split (L : RowLaw p) {l : List UInt8} {e : Int} (h : (readG p l e).e = 0) : e = 0 ∧ putG p (readG p l e).rows ++ (readG p l e).l = l:=by
  obtain ⟨X,h1,h2,h3,h4⟩:=loopG_split L _ _ h;obtain ⟨h6,h5⟩:=num_split (show rawE 4 l e = 0 from h4);refine ⟨h6,?_⟩;unfold readG;rw [h2];unfold putG;simp only [List.nil_append,List.append_assoc];rw [h1,h3,h5]
theorem loopG_put (L : RowLaw p) : ∀ (X R : List α) (t : List UInt8),(∀ x ∈ X,p.ok x) → loopG p X.length ⟨R,X.flatMap p.put ++ t,0⟩ = ⟨R ++ X,t,0⟩
  | [],R,t,_=>by simp [loopG]
  | x :: X,R,t,h=>by
    rw [List.length_cons,loopG_step _ _ rfl];obtain ⟨h1,h2,h3⟩:=L.back x (X.flatMap p.put ++ t) (h x (by simp));have e : stepG p ⟨R,(x :: X).flatMap p.put ++ t,0⟩ = ⟨R ++ [x],X.flatMap p.put ++ t,0⟩:=by
      unfold stepG;simp only [List.flatMap_cons,List.append_assoc];rw [h1,h2,h3]
    rw [e,loopG_put L X (R ++ [x]) t (fun p hp=>h p (by simp [hp]))]
    simp
theorem readG_put (L : RowLaw p) {X : List α} (t : List UInt8) (h : ∀ x ∈ X,p.ok x) (hn : X.length < 4294967296) : readG p (putG p X ++ t) 0 = ⟨X,t,0⟩:=by
  unfold readG putG;obtain ⟨h1,h2,h3⟩:=num_put (M:=4) (n:=X.length) (by omega) (X.flatMap p.put ++ t);rw [List.append_assoc,h1,h2,h3];have:=loopG_put L X [] t h;simpa using this
theorem putG_len (L : RowLaw p) : ∀ X : List α,X.length ≤ (putG p X).length:=by
  intro X;have h : ∀ Y : List α,Y.length ≤ (Y.flatMap p.put).length:=by
    intro Y;induction Y with
    | nil=>exact Nat.le_refl _
    | cons y Y ih=>have:=L.some_ y;simp only [List.flatMap_cons,List.length_append,List.length_cons];omega
  have:=h X;unfold putG;rw [List.length_append];omega
theorem readG_bound (L : RowLaw p) {l : List UInt8} {e : Int} (h : (readG p l e).e = 0) : (readG p l e).rows.length + (readG p l e).l.length ≤ l.length:=by
  obtain ⟨_,h2⟩:=readG_split L h;have h3:=putG_len L (readG p l e).rows;have h4:=congrArg List.length h2;rw [List.length_append] at h4;omega
end
def idP : RowP Id32:=⟨fun l e=>idOf (rawV 32 l e),fun l e=>rawL 32 l e,fun l e=>rawE 32 l e,Id32.l,fun _=>True⟩
theorem id_back {d : Id32} (t : List UInt8) : idOf (rawV 32 (d.l ++ t) 0) = d ∧ rawL 32 (d.l ++ t) 0 = t ∧ rawE 32 (d.l ++ t) 0 = 0:=by
  have hd:=raw_put d.l t;rw [d.h] at hd;obtain ⟨d1,d2,d3⟩:=hd;rw [d1,d2,d3];exact ⟨by unfold idOf;rw [dif_pos d.h],rfl,rfl⟩
theorem id_split {l : List UInt8} {e : Int} (h : rawE 32 l e = 0) : e = 0 ∧ (idOf (rawV 32 l e)).l ++ rawL 32 l e = l:=by
  obtain ⟨h1,h2,h3⟩:=raw_split h;have e1 : (idOf (rawV 32 l e)).l = rawV 32 l e:=by unfold idOf;rw [dif_pos h3]
  exact ⟨h1,by rw [e1,h2]⟩
theorem idLaw : RowLaw idP:=⟨fun l e h=>id_split h,fun x t _=>id_back t,fun x=>by show 1 ≤ x.l.length;rw [x.h];omega⟩
end
section
open Go.RowKit
structure NNode where
  id : Id32
  node : SNode
def nNodeC (x : NNode) : Array Value:=idC x.id ++ sNodeC x.node
@[simp] theorem nNodeC_size (x : NNode) : (nNodeC x).size = 66:=by simp [nNodeC]
@[go_sem] theorem nNodeC_e0 (x : NNode) : (nNodeC x).extract 0 32 = idC x.id:=by
  have h : nNodeC x = ((#[] : Array Value)) ++ idC x.id ++ (sNodeC x.node):=by first | (simp [nNodeC,Array.append_assoc];done) | (apply Array.ext';simp [nNodeC];done)
  rw [h];exact arr_mid _ _ _ _ _ (by simp) (by simp)
@[go_sem] theorem nNodeC_e32 (x : NNode) : (nNodeC x).extract 32 66 = sNodeC x.node:=by
  have h : nNodeC x = (idC x.id) ++ sNodeC x.node ++ ((#[] : Array Value)):=by first | (simp [nNodeC,Array.append_assoc];done) | (apply Array.ext';simp [nNodeC];done)
  rw [h];exact arr_mid _ _ _ _ _ (by simp) (by simp)
@[go_sem] theorem nNodeC_all (x : NNode) : (nNodeC x).extract 0 66 = nNodeC x:=by have:=Array.extract_size (xs:=nNodeC x);rwa [nNodeC_size] at this
theorem nNodeC_one (x : NNode) : ∀ u ∈ (nNodeC x).toList,u.oneCell' = true:=by
  intro u hu;simp only [nNodeC,Array.toList_append,List.mem_append] at hu;rcases hu with hu | hu
  · exact idC_one _ u hu
  · exact sNodeC_one _ u hu
def nNode0 : NNode:=⟨id0,sNode0⟩
theorem NNode_ext {x y : NNode} (h : x.id = y.id ∧ x.node = y.node) : x = y:=by cases x;cases y;simp_all
instance : DecidableEq NNode:=fun x y=>if h : x.id = y.id ∧ x.node = y.node then isTrue (NNode_ext h) else isFalse (fun e=>h (by subst e;simp))
theorem infoNNode : (Tryz.prog.info? 319).map (·.size) = some 66:=by kernel_rfl
@[go_sem ↓] theorem zeroNNode_run (w : World) : (zeroValue 319).run Tryz.prog w = .ok (.agg (nNodeC nNode0)) w:=by
  have h : (Tryz.prog.info? 319).bind (·.zero) = some (.agg (nNodeC nNode0)):=by kernel_rfl
  cases hi : Tryz.prog.info? 319 with
  | none=>rw [hi] at h;cases h
  | some i =>
    rw [hi] at h;have hz : i.zero = some (.agg (nNodeC nNode0)):=h;simp [zeroValue,typeInfo,hi,hz]
@[go_sem ↓] theorem loadNNode_rw (a : Addr) : loadVar 319 a = ldS 319 a:=rfl
@[go_sem ↓] theorem storeNNode_rw (a : Addr) (v : Value) : storeVar 319 a v = stS 319 a v:=rfl
@[go_sem] theorem loadNNode_run (w : World) (g o : Nat) : (ldS 319 ⟨g,o,none⟩).run Tryz.prog w = match rowAt w g o 66 with | some cs=>.ok (.agg cs) w | none=>(loadVar 319 ⟨g,o,none⟩).run Tryz.prog w :=
  run_ldS Tryz.underlying319 rfl infoNNode w g o
@[go_sem] theorem storeNNode_run (w : World) (g : Nat) (hg : g = w.heap.size) (z : Array Value) (hz : z.size = 66) (x : NNode) (e : TypeId) : (stS 319 ⟨g,0,none⟩ (.agg (nNodeC x))).run Tryz.prog (w.alloc (.cells z e)) = .ok () (w.alloc (.cells (nNodeC x) e)) :=
  hg ▸ run_stS_new infoNNode w z (nNodeC x) hz (nNodeC_size x) (nNodeC_one x)
theorem fieldsNNode : Tryz.prog.underlying 319 = some (.struct (Tryz.prog.fieldsOf 319)):=by kernel_rfl
theorem placesNNode (w : World) : ((Tryz.prog.fieldsOf 319).mapM fun (f : Field)=>do pure (f.offset,← sizeOf f.type)).run Tryz.prog w = .ok #[(0,32),(32,34)] w:=by kernel_rfl
@[go_sem ↓] theorem buildNNode_rw (parts : Array (Nat × Value)) : Instr.build 319 parts = bdS 319 parts:=rfl
@[go_sem] theorem buildNNode_0 (a0 : Id32) (w : World) : (bdS 319 #[(0,.agg (idC a0))]).run Tryz.prog w = .ok (.agg (nNodeC ⟨a0,sNode0⟩)) w:=by
  refine run_build w fieldsNNode _ (zeroNNode_run w) _ (placesNNode w) [(0,.agg (idC a0))] _ ?_;rw [show nNodeC nNode0 = (#[] : Array Value) ++ idC id0 ++ (sNodeC sNode0) from by first | (simp [nNodeC,nNode0,Array.append_assoc];done) | (apply Array.ext';simp [nNodeC,nNode0])];rw [fill_step (off:=0) (size:=32) rfl (by simp) (by simp) (by simp [Value.cells])];first | (simp [Instr.fill,nNodeC,Array.append_assoc,Value.cells];done) | (simp only [Instr.fill,nNodeC];congr 1;apply Array.ext';simp [Value.cells];done) | (simp only [Instr.fill,nNodeC];congr 1;done) | (simp only [Instr.fill,nNodeC];done)
abbrev nnC (n : NodeV) : Array Value:=nNodeC ⟨n.id,snode n⟩
theorem nnC_one (n : NodeV) : ∀ u ∈ (nnC n).toList,u.oneCell' = true:=nNodeC_one _
theorem einfoNN : ElemInfo Tryz.prog 315 319 66 88 :=
  .of (z:=.agg (nNodeC nNode0)) Tryz.underlying315 (by kernel_rfl) (by kernel_rfl) (by kernel_rfl) (nNodeC_size _) (by omega)
@[go_sem ↓] theorem bsNN_rw (n : Nat) (parts : Array (Nat × Value)) : Instr.buildSlice 315 n parts = bsS 315 n parts:=rfl
@[go_sem] theorem bsNN_run (w : World) (x : NNode) : (bsS 315 1 #[(0,.agg (nNodeC x))]).run Tryz.prog w = .ok (.slice (some ⟨w.heap.size,0,none⟩) 1 1) (w.alloc (.cells (nNodeC x) 319)) :=
  run_bsS1 einfoNN (by omega) w (nNodeC x) (nNodeC_size x)
def nP : RowP NodeV :=
  ⟨fun l e=>⟨idOf (rawV 32 l e),((numV 4 (rawL 32 l e) (rawE 32 l e) : Nat) : Int),idOf (rawV 32 (rawL 4 (rawL 32 l e) (rawE 32 l e)) (rawE 4 (rawL 32 l e) (rawE 32 l e))),txV (rawL 32 (rawL 4 (rawL 32 l e) (rawE 32 l e)) (rawE 4 (rawL 32 l e) (rawE 32 l e))) (rawE 32 (rawL 4 (rawL 32 l e) (rawE 32 l e)) (rawE 4 (rawL 32 l e) (rawE 32 l e)))⟩,
   fun l e=>txL (rawL 32 (rawL 4 (rawL 32 l e) (rawE 32 l e)) (rawE 4 (rawL 32 l e) (rawE 32 l e))) (rawE 32 (rawL 4 (rawL 32 l e) (rawE 32 l e)) (rawE 4 (rawL 32 l e) (rawE 32 l e))),
   fun l e=>txE (rawL 32 (rawL 4 (rawL 32 l e) (rawE 32 l e)) (rawE 4 (rawL 32 l e) (rawE 32 l e))) (rawE 32 (rawL 4 (rawL 32 l e) (rawE 32 l e)) (rawE 4 (rawL 32 l e) (rawE 32 l e))),nodeB,
   fun x=>0 ≤ x.h ∧ x.h < 4294967296 ∧ x.val.size ≤ 255⟩
theorem nP_eq {l : List UInt8} {e : Int} {l1 l2 l3 : List UInt8} {e1 e2 e3 : Int} (h1 : rawL 32 l e = l1) (k1 : rawE 32 l e = e1) (h2 : rawL 4 l1 e1 = l2) (k2 : rawE 4 l1 e1 = e2) (h3 : rawL 32 l2 e2 = l3) (k3 : rawE 32 l2 e2 = e3) :
    nP.one l e = ⟨idOf (rawV 32 l e),((numV 4 l1 e1 : Nat) : Int),idOf (rawV 32 l2 e2),txV l3 e3⟩ ∧ nP.oL l e = txL l3 e3 ∧ nP.oE l e = txE l3 e3:=by
  subst h1;subst k1;subst h2;subst k2;subst h3;subst k3;exact ⟨rfl,rfl,rfl⟩
theorem nLaw : RowLaw nP where
  split l e h:=by
    obtain ⟨h1,h2⟩:=tx_split (show txE _ _ = 0 from h);obtain ⟨h3,h4⟩:=id_split h1;obtain ⟨h5,h6⟩:=num_split h3;obtain ⟨h7,h8⟩:=id_split h5;refine ⟨h7,?_⟩;obtain ⟨a1,a2,a3⟩:=nP_eq (l:=l) (e:=e) rfl rfl rfl rfl rfl rfl;rw [a1,a2];show nodeB _ ++ _ = l;unfold nodeB;simp only [List.append_assoc,Int.toNat_natCast];rw [h2,h4,h6,h8]
  back x t hx:=by
    obtain ⟨d,h,r,v⟩:=x;obtain ⟨hx0,hx1,hv⟩:=hx;simp only at hx0 hx1 hv;obtain ⟨m,rfl⟩ : ∃ m : Nat,h = m:=⟨h.toNat,by omega⟩
    have e0 : nP.put ⟨d,m,r,v⟩ ++ t = d.l ++ (beL 4 m ++ (r.l ++ (beL 1 v.size ++ (v.data.toList ++ t)))):=by show nodeB _ ++ t = _;simp [nodeB]
    rw [e0];obtain ⟨a1,a2,a3⟩:=id_back (d:=d) (beL 4 m ++ (r.l ++ (beL 1 v.size ++ (v.data.toList ++ t))));obtain ⟨b1,b2,b3⟩:=num_put (M:=4) (n:=m) (by omega) (r.l ++ (beL 1 v.size ++ (v.data.toList ++ t)));obtain ⟨c1,c2,c3⟩:=id_back (d:=r) (beL 1 v.size ++ (v.data.toList ++ t));obtain ⟨d1,d2,d3⟩:=tx_put (s:=v) (by omega) t;obtain ⟨f1,f2,f3⟩:=nP_eq a2 a3 b2 b3 c2 c3;rw [f1,f2,f3,a1,b1,c1,d1,d2,d3];exact ⟨rfl,rfl,rfl⟩
  some_ x:=by show 1 ≤ (nodeB x).length;rw [nodeB_len];omega
def partSA (l : List UInt8) : RdsG NodeV:=readG nP l 0
def partSG (l : List UInt8) : RdsG Id32:=readG idP (partSA l).l (partSA l).e
def FitsN (R : List NodeV) : Prop:=∀ x ∈ R,0 ≤ x.h ∧ x.h < 4294967296 ∧ x.val.size ≤ 255
theorem fitsN_step {R : List NodeV} (h : FitsN R) (l : List UInt8) (e : Int) : FitsN (R ++ [nP.one l e]):=fun x hx=>by
  rcases List.mem_append.1 hx with h' | h'
  · exact h x h'
  · simp only [List.mem_singleton] at h';subst h';have:=numV_lt 4 (rawL 32 l e) (rawE 32 l e);obtain ⟨a1,_,_⟩:=nP_eq (l:=l) (e:=e) rfl rfl rfl rfl rfl rfl;rw [a1];exact ⟨by simp only;omega,by simp only;omega,txV_size _ _⟩
set_option maxHeartbeats 1000000 in
theorem sq_id (w : World) (g : Nat) (l : List UInt8) (e : Int) (h : RdAt w g l e) :
    Calls Tryz.prog 277 #[.pointer (some ⟨g,0,none⟩)] w fun en w'=>en = .returned (.agg (idC (idOf (rawV 32 l e)))) ∧ RdStep w g (rawL 32 l e) (rawE 32 l e) w':=by
  have hb0 : Below w.heap.size w ((w.alloc (.cells (idC id0) 39)).alloc (.cells (idC id0) 39)):=((Below.refl _ _).alloc (Nat.le_refl _) _).alloc (by simp) _;have hg2 : ((w.alloc (.cells (idC id0) 39)).alloc (.cells (idC id0) 39)).heap[w.heap.size]? = some (.cells (idC id0) 39 (0,0)):=by
    rw [Below.heap_alloc _ _ _ (by simp)];exact heap_alloc_new w _
  have hg3 : ((w.alloc (.cells (idC id0) 39)).alloc (.cells (idC id0) 39)).heap[w.heap.size + 1]? = some (.cells (idC id0) 39 (0,0)):=by
    have:=heap_alloc_new (w.alloc (.cells (idC id0) 39)) (.cells (idC id0) 39);simpa using this
  have hgl:=h.lt;have hr0:=h.below hb0;have hsz0 : ((w.alloc (.cells (idC id0) 39)).alloc (.cells (idC id0) 39)).heap.size = w.heap.size + 2:=by simp
  have Hsz0:=Lib.hid hsz0;clear hsz0 h;go_enter Tryz.func277,Tryz.ntmps277
  go_upto_region 2 with fail
  obtain ⟨ga,hga⟩ : ∃ ga,w.heap.size = ga:=⟨_,rfl⟩
  have Hga:=Lib.hid hga;obtain ⟨W,hW⟩ : ∃ W,W = ((w.alloc (.cells (idC id0) 39)).alloc (.cells (idC id0) 39)):=⟨_,rfl⟩
  rw [← hW] at hb0 hg2 hg3 hr0 Hsz0 ⊢;rw [hga] at hg2 hg3 hgl ⊢;clear hW;have hgal : ga + 1 < W.heap.size:=(Array.getElem?_eq_some_iff.1 hg3).1;have c1:=rd_raw32 W.drew g l e (hr0.kept (Keep.drew W) (by simp));refine wp_region_lex (Kp [g,ga + 1] W) false (by kernel_rfl) (by kernel_rfl) (by kernel_rfl) (kp_drew [g,ga + 1] W) ?_;have hne:=kp_some [g,ga + 1] W;have hS:=kp_drew [g,ga + 1] W;repeat (refine wpLx_loose ?_ ?_;(focus (simp only [chainOp];done));intro K hK;go_simp;refine hK _ ?_;clear hK K)
  refine wpLx_chain ?_ ?_ ?_;(focus (exact hS));(focus (simp only [chainOp];done));intro K hK;go_simp;refine c1.mono ?_;rintro en w1 ⟨rfl,hr1,hk1⟩;replace hS:=kp_next hS hk1 (by simp);have hg31 : w1.heap[ga + 1]? = _:=(hk1.block (ga + 1) (by show _ < W.drew.heap.size;exact hgal) (by simp;omega)).trans hg3;refine ⟨_,rfl,hS,hK _ _ ?_⟩;clear hK K c1;obtain ⟨w2,m2,hcp,hg32,hk2⟩:=copy_idb (rawV 32 l e) (rawV_32 _ _) 3 32 hg31;refine wpLx_chain ?_ ?_ ?_;(focus (exact hS));(focus (simp only [chainOp];done));intro K hK;go_simp;refine step_keep (kp_next hS hk2 (by simp)) (fun hS2=>?_);refine hK _ _ ?_;clear hK K;refine wpLx_nil ?_;intro hS;have hkk : Keep [g,ga + 1] W w2:=hS2;have hr2:=hr1.kept hk2 (by simp;omega);have hg22:=(hkk.block ga (by omega) (by simp;omega)).trans hg2;clear hcp hS hS2 hne hk1 hk2 hr1 hr0 hg31;obtain ⟨d,hd⟩ : ∃ d,idOf (rawV 32 l e) = d:=⟨_,rfl⟩
  rw [hd] at hg32;have Hd:=Lib.hid hd;clear hd;have hrow : rowAt w2 (ga + 1) 0 32 = some (idC d):=by unfold rowAt;rw [hg32];simp [go_sem]
  have hsto:=run_stS_at (P:=Tryz.prog) infoId w2 ga (idC id0) (idC d) _ hg22 (by simp) (by simp) (idC_one _);have hkf : Keep [ga] w2 (w2.setRow ga (idC d)):=⟨rfl,rfl,rfl,by simp [World.setRow],fun x _ hx=>setRow_other w2 ga x _ (by simpa using hx)⟩
  have Hfin:=Lib.hid (setRow_heap w2 ga _ (idC d) _ _ hg22);have hr3:=hr2.kept hkf (by simp;omega);have hkw : Keep [g,ga,ga + 1] w (w2.setRow ga (idC d)):=Keep.trans (Keep.trans ((Keep.of_below hb0).mono (S':=[g,ga,ga + 1]) (by simp)) (hkk.mono (S':=[g,ga,ga + 1]) (by simp)) (fun x hx=>.inl hx)) (hkf.mono (S':=[g,ga,ga + 1]) (by simp)) (fun x hx=>.inl hx);have hkz : Keep [g] w (w2.setRow ga (idC d)):=hkw.narrow (fun x hx=>by have:=Hga.out;simp at hx ⊢;omega);have Hr3:=Lib.hid hr3;have Hkz:=Lib.hid hkz;clear hr3 hr2 hkw hkz hkf hg22 hg32 hb0 hkk;(go_wp2_with fail);exact bodyPost_ret (results_cell_row Tryz.results277 _ _ ga 39 (idC d) (0,0) _ rfl Hfin.out Tryz.underlying39 rfl (by rw [idC_size];exact infoId)) rfl ⟨by rw [Hd.out],Hr3.out,Hkz.out⟩
@[go_sem] theorem nnode_g32 (d : Id32) (h : Int) (r : Id32) (v : ByteArray) : (nNodeC ⟨d,⟨h,r,v⟩⟩)[32]? = some (.int .i64 h):=by
  have e : nNodeC ⟨d,⟨h,r,v⟩⟩ = idC d ++ #[Value.int .i64 h] ++ (idC r ++ #[Value.string v]):=by simp [nNodeC,sNodeC]
  rw [e];exact arr_at _ _ _ _ (by simp)
@[go_sem] theorem nnode_g65 (d : Id32) (h : Int) (r : Id32) (v : ByteArray) : (nNodeC ⟨d,⟨h,r,v⟩⟩)[65]? = some (.string v):=by
  have e : nNodeC ⟨d,⟨h,r,v⟩⟩ = (idC d ++ #[Value.int .i64 h] ++ idC r) ++ #[Value.string v]:=by simp [nNodeC,sNodeC]
  rw [e];have hs : (idC d ++ #[Value.int .i64 h] ++ idC r).size = 65:=by simp
  rw [Array.getElem?_append,if_neg (by omega),hs];rfl
theorem nnode_set32 (d : Id32) (h h' : Int) (r : Id32) (v : ByteArray) : (nNodeC ⟨d,⟨h,r,v⟩⟩).setIfInBounds 32 (.int .i64 h') = nNodeC ⟨d,⟨h',r,v⟩⟩:=by
  apply Array.ext';simp [nNodeC,sNodeC]
theorem nnode_set65 (d : Id32) (h : Int) (r : Id32) (v v' : ByteArray) : (nNodeC ⟨d,⟨h,r,v⟩⟩).setIfInBounds 65 (.string v') = nNodeC ⟨d,⟨h,r,v'⟩⟩:=by
  apply Array.ext';simp [nNodeC,sNodeC]
theorem nnode_set33 (d : Id32) (h : Int) (r r' : Id32) (v : ByteArray) : ((nNodeC ⟨d,⟨h,r,v⟩⟩).toList.take (33 + 0) ++ (idC r').toList ++ (nNodeC ⟨d,⟨h,r,v⟩⟩).toList.drop (33 + 0 + (idC r').toList.length)).toArray = nNodeC ⟨d,⟨h,r',v⟩⟩:=by
  apply Array.ext';have h1 : (idC r').toList.length = 32:=by simp
  have h2 : (idC r).toList.length = 32:=by simp
  have h3 : (idC d).toList.length = 32:=by simp
  rw [h1];have e : ∀ x,(nNodeC ⟨d,⟨h,x,v⟩⟩).toList = (idC d).toList ++ ([.int .i64 h] ++ ((idC x).toList ++ [.string v])):=fun x=>(by simp [nNodeC,sNodeC]);rw [e,e];simp [List.take_append,List.drop_append,h2,h3];rw [List.take_of_length_le (by omega),List.drop_eq_nil_of_le (by omega)]
  simp
theorem store_refN {w : World} {g : Nat} {d r : Id32} {h : Int} {v : ByteArray} (r' : Id32) (hg : w.heap[g]? = some (.cells (nNodeC ⟨d,⟨h,r,v⟩⟩) 319 (0,0))) :
    (stS 39 ⟨g,33,none⟩ (.agg (idC r'))).run Tryz.prog w = .ok () (w.setRow g (nNodeC ⟨d,⟨h,r',v⟩⟩)):=by
  have hst:=run_storeCells_at Tryz.prog g 33 319 (idC r').toList 0 (nNodeC ⟨d,⟨h,r,v⟩⟩) w hg (by simp) (idC_one r');rw [nnode_set33] at hst;unfold stS storeVar;have hi:=infoId;cases hinfo : Tryz.prog.info? 39 with
  | none=>rw [hinfo] at hi;cases hi
  | some i =>
    rw [hinfo] at hi;have hk : i.size = 32:=by simpa using hi
    simp [Value.cells,sizeOf,typeInfo,hinfo,hk];simpa using hst
set_option maxRecDepth 100000 in
set_option maxHeartbeats 4000000 in
theorem sqread (w : World) (g : Nat) (l : List UInt8) (hr0 : RdAt w g l 0) :
    Calls Tryz.prog 231 #[.pointer (some ⟨g,0,none⟩)] w fun e w'=>∃ A cap B cap',e = .returned (.tuple #[.slice A (partSA l).rows.length cap,.slice B (partSG l).rows.length cap']) ∧ Own w' w.heap.size 319 66 A (partSA l).rows.length cap ((partSA l).rows.map nnC) ∧ Own w' w.heap.size 39 32 B (partSG l).rows.length cap' ((partSG l).rows.map idC) ∧ RdAt w' g (partSG l).l (partSG l).e ∧ Keep [g] w w' ∧ FitsN (partSA l).rows:=by
  have c0:=rd_num4 _ _ l 0 hr0;have hN:=numV_lt 4 l 0;obtain ⟨N,hNe⟩ : ∃ N,numV 4 l 0 = N:=⟨_,rfl⟩
  have hrd : Hid (partSA l = loopG nP N ⟨[],rawL 4 l 0,rawE 4 l 0⟩):=by show _ = _;rw [← hNe];rfl
  rw [hNe] at c0 hN;clear hNe;have hgl:=hr0.lt;go_enter Tryz.func231,Tryz.ntmps231
  (go_wp2_with fail);refine c0.mono ?_;rintro e w1 ⟨rfl,hr1,hk1⟩;have Hk1:=Lib.hid hk1;have hs01:=hk1.size;clear c0 hr0 hk1;(go_wp2_with fail);go_loopw [2,5,6] (fun out i _ wr=>∃ (k : Nat) (R : List NodeV) (l1 : List UInt8) (e1 : Int) (A1 : Option Addr) (cap1 : Nat),k ≤ N ∧ i = .int .i64 k ∧ out = .slice A1 R.length cap1 ∧ R.length = k ∧ Own wr w1.heap.size 319 66 A1 R.length cap1 (R.map nnC) ∧ RdAt wr g l1 e1 ∧ Hid (loopG nP N ⟨[],rawL 4 l 0,rawE 4 l 0⟩ = loopG nP (N - k) ⟨R,l1,e1⟩) ∧ Hid (FitsN R) ∧ Keep [g] w1 wr) (fun _ i _ _=>N - (intOf i).toNat)
  case atStart=>exact ⟨0,[],_,_,none,0,Nat.zero_le _,rfl,rfl,rfl,Own.nil _ _ _ _,hr1,(show _ = _ from rfl),(show FitsN [] by intro x hx;cases hx),Keep.refl _ _⟩
  case round =>
    clear hr1;obtain ⟨k,R,l1,e1,A1,cap1,hkN,rfl,rfl,hRk,hown,hr,hlp,hft,hk⟩:=hrel;have HRk:=Lib.hid hRk;have hRN : R.length ≤ N:=by omega
    clear hRk;have hsz:=hk.size;by_cases hgo : k < N ∧ e1 = 0
    · obtain ⟨hlt,rfl⟩:=hgo;have hlp2:=hlp.out;rw [show N - k = (N - (k + 1)) + 1 by omega,loopG_step _ _ rfl] at hlp2;have Hlp:=Lib.hid hlp2;have hft2:=fitsN_step hft.out l1 0;have Hft:=Lib.hid hft2;clear hlp hlp2 hft hft2;have hgw:=hr.lt;have hgS : g ∉ blk A1:=fun hx=>(by have:=(hown.at_base hx).1;omega);(go_wp2_with fail);refine (rd_err _ g l1 0 hr).mono ?_;rintro e w5 ⟨rfl,rfl⟩;(go_wp2_with fail);refine (sq_id _ g l1 0 hr).mono ?_;rintro e w6 ⟨rfl,hE6,hk6⟩;obtain ⟨d,hd⟩ : ∃ d,idOf (rawV 32 l1 0) = d:=⟨_,rfl⟩
      obtain ⟨m1,hm1⟩ : ∃ m1,rawL 32 l1 0 = m1:=⟨_,rfl⟩
      obtain ⟨x1,hx1⟩ : ∃ x1,rawE 32 l1 0 = x1:=⟨_,rfl⟩
      have hE6' : RdAt w6 g m1 x1:=by rw [← hm1,← hx1];exact hE6
      have hk6' : Keep [g] wr w6:=hk6;rw [hd];have Hd:=Lib.hid hd;have Hm1:=Lib.hid hm1;have Hx1:=Lib.hid hx1;have h8:=heap_alloc_new w6 (.cells (nNodeC ⟨d,sNode0⟩) 319);have hE7:=hE6'.kept (Keep.alloc w6 (.cells (nNodeC ⟨d,sNode0⟩) 319)) (by simp);have hk7 : Keep [g] wr (w6.alloc (.cells (nNodeC ⟨d,sNode0⟩) 319)):=Keep.trans hk6' (Keep.alloc w6 _) (by simp);have hs6:=hk6'.size;have hgl6:=hE6.lt;clear hd hE6 hE6' hk6' hk6 hr hm1 hx1;go_upto_region 6 with fail
      obtain ⟨g8,hg8⟩ : ∃ g8,w6.heap.size = g8:=⟨_,rfl⟩
      obtain ⟨W,hW⟩ : ∃ W,w6.alloc (.cells (nNodeC ⟨d,sNode0⟩) 319) = W:=⟨_,rfl⟩
      rw [hW] at h8 hE7 hk7;rw [hW];rw [hg8] at h8 hs6 hgl6 ⊢;have hne8 : g8 ∉ [g]:=by simp;omega
      have hng : g ∉ [g8]:=by simp;omega
      clear hW hg8;(go_wp2_with fail);refine (rd_num4 _ g m1 x1 hE7).mono ?_;rintro e w2 ⟨rfl,hr2,hk2⟩;obtain ⟨nv,hnv⟩ : ∃ nv,numV 4 m1 x1 = nv:=⟨_,rfl⟩
      obtain ⟨m2,hm2⟩ : ∃ m2,rawL 4 m1 x1 = m2:=⟨_,rfl⟩
      obtain ⟨x2,hx2⟩ : ∃ x2,rawE 4 m1 x1 = x2:=⟨_,rfl⟩
      have hr2' : RdAt w2 g m2 x2:=by rw [← hm2,← hx2];exact hr2
      have Hnv:=Lib.hid hnv;have Hm2:=Lib.hid hm2;have Hx2:=Lib.hid hx2;rw [hnv];have h82:=(hk2.block g8 (Array.getElem?_eq_some_iff.1 h8).1 hne8).trans h8;have x0 : w2.cell? ⟨g8,32,none⟩ = some (.int .i64 0):=by rw [cell_of_row w2 g8 _ _ _ _ h82];exact nnode_g32 _ _ _ _
      have f0 : w2.frozen? ⟨g8,32,none⟩ = false:=by simp [World.frozen?,h82]
      have h83:=heap_setCell_same h82 32 (.int .i64 (nv : Int));have hz83 : (nNodeC ⟨d,sNode0⟩).setIfInBounds 32 (.int .i64 (nv : Int)) = nNodeC ⟨d,⟨nv,id0,⟨#[]⟩⟩⟩:=nnode_set32 _ _ _ _ _;rw [hz83] at h83;have hks:=Keep.setCell w2 ⟨g8,32,none⟩ (.int .i64 (nv : Int));have hr4:=hr2'.kept hks hng;have hk14 : Keep [g,g8] wr (w2.setCell ⟨g8,32,none⟩ (.int .i64 (nv : Int))):=Keep.trans (Keep.trans (hk7.mono (S':=[g,g8]) (by simp)) (hk2.mono (S':=[g,g8]) (by simp)) (fun x hx=>.inl hx)) (hks.mono (S':=[g,g8]) (by simp)) (fun x hx=>.inl hx);clear hnv hm2 hx2 hr2 hr2' hk2 h8 hE7 hk7 h82 hks hz83;go_upto_region 7 with fail
      obtain ⟨V,hV⟩ : ∃ V,w2.setCell ⟨g8,32,none⟩ (.int .i64 (nv : Int)) = V:=⟨_,rfl⟩
      rw [hV] at h83 hr4 hk14;rw [hV];clear hV f0 x0;(go_wp2_with fail);refine (sq_id _ g m2 x2 hr4).mono ?_;rintro e w3 ⟨rfl,hr3,hk3⟩;obtain ⟨rv,hrv⟩ : ∃ rv,idOf (rawV 32 m2 x2) = rv:=⟨_,rfl⟩
      obtain ⟨m3,hm3⟩ : ∃ m3,rawL 32 m2 x2 = m3:=⟨_,rfl⟩
      obtain ⟨x3,hx3⟩ : ∃ x3,rawE 32 m2 x2 = x3:=⟨_,rfl⟩
      have hr3' : RdAt w3 g m3 x3:=by rw [← hm3,← hx3];exact hr3
      have Hrv:=Lib.hid hrv;have Hm3:=Lib.hid hm3;have Hx3:=Lib.hid hx3;rw [hrv];have h84:=(hk3.block g8 (Array.getElem?_eq_some_iff.1 h83).1 hne8).trans h83;have hsto:=store_refN rv h84;have h85:=setRow_heap w3 g8 _ (nNodeC ⟨d,⟨(nv : Int),rv,⟨#[]⟩⟩⟩) _ _ h84;have hks : Keep [g8] w3 (w3.setRow g8 (nNodeC ⟨d,⟨(nv : Int),rv,⟨#[]⟩⟩⟩)):=⟨rfl,rfl,rfl,by simp [World.setRow],fun x _ hx=>setRow_other w3 g8 x _ (by simpa using hx)⟩
      have hr5:=hr3'.kept hks hng;have hk15 : Keep [g,g8] wr (w3.setRow g8 (nNodeC ⟨d,⟨(nv : Int),rv,⟨#[]⟩⟩⟩)):=Keep.trans (Keep.trans hk14 (hk3.mono (S':=[g,g8]) (by simp)) (fun x hx=>.inl hx)) (hks.mono (S':=[g,g8]) (by simp)) (fun x hx=>.inl hx);clear hrv hm3 hx3 hr3 hr3' hk3 h83 h84 hr4 hk14 hks;go_upto_region 8 with fail
      obtain ⟨V2,hV⟩ : ∃ V2,w3.setRow g8 (nNodeC ⟨d,⟨(nv : Int),rv,⟨#[]⟩⟩⟩) = V2:=⟨_,rfl⟩
      rw [hV] at h85 hr5 hk15;rw [hV];clear hV hsto;have hn2:=numV_lt 1 (m3) (x3);(go_wp2_with fail);refine (rd_num1 _ g _ _ hr5).mono ?_;rintro e w2 ⟨rfl,hr2,hk2⟩;(go_wp2_with fail);refine (rd_raw _ g _ _ _ hr2 (by omega)).mono ?_;rintro e w3 ⟨rfl,hr3,hk3⟩;have hE2 : RdAt w3 g (txL (m3) (x3)) (txE (m3) (x3)):=hr3;have hk23 : Keep [g] V2 w3:=Keep.trans hk2 hk3 (fun x hx=>.inl hx);have h83:=(hk23.block g8 (Array.getElem?_eq_some_iff.1 h85).1 hne8).trans h85;obtain ⟨vv,hkv⟩ : ∃ kv,mkB (rawV (numV 1 (m3) (x3)) (rawL 1 (m3) (x3)) (rawE 1 (m3) (x3))) = kv:=⟨_,rfl⟩
      have Hvv:=Lib.hid (show txV (m3) (x3) = vv from hkv);rw [hkv];have x0 : w3.cell? ⟨g8,65,none⟩ = some (.string ⟨#[]⟩):=by rw [cell_of_row w3 g8 _ _ _ _ h83];first | exact nnode_g65 _ _ _ _ | (simp [go_sem];done)
      have f0 : w3.frozen? ⟨g8,65,none⟩ = false:=by simp [World.frozen?,h83]
      have h84:=heap_setCell_same h83 65 (.string vv);rw [nnode_set65] at h84;have hks:=Keep.setCell w3 ⟨g8,65,none⟩ (.string vv);have hE4:=hE2.kept hks hng;have hk14 : Keep [g,g8] V2 (w3.setCell ⟨g8,65,none⟩ (.string vv)):=Keep.trans (hk23.mono (S':=[g,g8]) (by simp)) (hks.mono (S':=[g,g8]) (by simp)) (fun x hx=>.inl hx);clear hr2 hr3 hk2 hk3 hkv hE2 hn2 h83 hks hk23 hr5 h85;go_upto_region 9 with fail
      obtain ⟨Z,hZ⟩ : ∃ Z,w3.setCell ⟨g8,65,none⟩ (.string vv) = Z:=⟨_,rfl⟩
      rw [hZ] at h84 hE4 hk14;rw [hZ];have hkZ : Keep [g,g8] wr Z:=Keep.trans hk15 hk14 (fun x hx=>.inl hx);clear hZ x0 f0 hk14 hk15;have hA1 : ∀ x ∈ blk A1,x ∉ [g,g8]:=fun x hx=>(by have:=hown.at_base hx;simp;omega);have hownZ:=hown.kept hkZ hA1;have hk1Z : Keep [g] wr Z:=hkZ.mono (by intro x hx;simp at hx;rcases hx with rfl | rfl <;> simp;omega);obtain ⟨y1,y2,y3⟩:=nP_eq Hm1.out Hx1.out Hm2.out Hx2.out Hm3.out Hx3.out;have hx : nP.one l1 0 = ⟨d,(nv : Int),rv,vv⟩:=by rw [y1,Hd.out,Hnv.out,Hrv.out,Hvv.out]
      have hst : stepG nP ⟨R,l1,0⟩ = ⟨R ++ [⟨d,(nv : Int),rv,vv⟩],txL m3 x3,txE m3 x3⟩:=by unfold stepG;simp only;rw [hx,y2,y3]
      rw [hst] at Hlp;rw [hx] at Hft;obtain ⟨xx,hxx⟩ : ∃ xx : NodeV,⟨d,(nv : Int),rv,vv⟩ = xx:=⟨_,rfl⟩
      have hxc : nNodeC ⟨d,⟨(nv : Int),rv,vv⟩⟩ = nnC xx:=by rw [← hxx];rfl
      rw [hxc] at h84;rw [hxx] at Hft Hlp;clear hxx hxc hx hown hA1 hst Hd Hvv y1 y2 y3 Hnv Hrv Hm1 Hx1 Hm2 Hx2 Hm3 Hx3;have hrowZ : rowAt Z g8 0 66 = some (nnC xx):=by unfold rowAt;rw [h84];simp [go_sem]
      have hbx : Below Z.heap.size Z (Z.alloc (.cells (nnC xx) 319)):=(Below.refl _ _).alloc (Nat.le_refl _) _;have hown12:=hownZ.below hbx;have hrow12 : rowAt (Z.alloc (.cells (nnC xx) 319)) Z.heap.size 0 66 = some (nnC xx):=by simp [go_sem]
      have hszZ : w1.heap.size ≤ Z.heap.size:=by have:=hkZ.size;omega
      clear hownZ h84 hkZ;go_wp2_with (at_builtin;refine L_append einfoNN rfl hown12 rfl hrow12 (nnC_one _) (by omega) (by omega) (by simp;omega) ?_;intro A13 cap13 w13 hown13 hk13' hsub13)
      have hk0 : Keep (blk A1) Z w13:=Keep.trans ((Keep.of_below hbx).mono (S':=blk A1) (by simp)) hk13' (fun x hx=>.inl hx);have hE13:=hE4.kept hk0 hgS;have hkf : Keep [g] w1 w13:=Keep.trans (Keep.trans hk hk1Z (fun x hx=>.inl hx)) hk0 (fun x hx=>.inr (by have:=(hown12.at_base hx).1;omega));rw [show R.map nnC ++ [nnC xx] = (R ++ [xx]).map nnC by simp] at hown13;have hlen13 : (R ++ [xx]).length = R.length + 1:=by simp
      have Hlen13:=Lib.hid hlen13;clear hlen13 hk0 hk13' hsub13 hown12 hrow12 hbx hrowZ hE4;(go_wp2_with fail);go_roundw
      case rel=>exact ⟨k + 1,R ++ [xx],_,_,A13,cap13,by omega,by go_num,(by rw [Hlen13.out]),(by rw [Hlen13.out,HRk.out]),(by rw [Hlen13.out];exact hown13),hE13,Hlp,Hft,hkf⟩
      case measure=>simp [intOf];omega
    · have hfin : partSA l = ⟨R,l1,e1⟩:=by
        rw [hrd.out,hlp.out];by_cases he : e1 = 0
        · rw [show N - k = 0 by omega];rfl
        · exact loopG_stop _ _ he
      have Hfin:=Lib.hid hfin;have hfA:=hft.out;have HfA:=Lib.hid hfA;clear hfin hlp hrd hft hfA;have hkA : Keep [g] w wr:=Keep.trans Hk1.out hk (fun x hx=>.inl hx);have HkA:=Lib.hid hkA;have hszA:=hkA.size;clear hkA;obtain ⟨wA,rfl⟩ : ∃ wA,wA = wr:=⟨wr,rfl⟩
      by_cases hlt : k < N
      · have he : e1 ≠ 0:=by omega
        have heb : (e1 == 0) = false:=by simpa using he
        clear hgo;(go_wp2_with fail);refine (rd_err _ g l1 e1 hr).mono ?_;rintro e w5 ⟨rfl,rfl⟩;(go_wp2_with fail);refine (rd_num4 _ g l1 e1 hr).mono ?_;rintro e w9 ⟨rfl,hr9,hk9⟩;have hN2:=numV_lt 4 l1 e1;obtain ⟨N2,hN2e⟩ : ∃ N2,numV 4 l1 e1 = N2:=⟨_,rfl⟩
        have hrd2 : Hid (partSG l = loopG idP N2 ⟨[],rawL 4 l1 e1,rawE 4 l1 e1⟩):=by show _ = _;rw [← hN2e];unfold partSG;rw [Hfin.out];rfl
        rw [hN2e] at hN2 ⊢;have hown9:=hown.kept hk9 (fun x hx=>by have:=(hown.at_base hx).1;simp;omega);have HkA9:=Lib.hid (Keep.trans HkA.out hk9 (fun x hx=>.inl hx));have hs9 : w.heap.size ≤ w9.heap.size:=HkA9.out.size;have Hown9:=Lib.hid (hown9.mono (B':=w.heap.size) (by omega));have HA9:=Lib.hid (fun x (hx : x ∈ blk A1)=>hown9.at_base hx);have hg9:=hr9.lt;clear hN2e hown hown9 hk9 hr hk hsz hszA;(go_wp2_with fail);go_loopw [3,7] (fun out i wq=>∃ (k : Nat) (G : List Id32) (l2 : List UInt8) (e2 : Int) (B1 : Option Addr) (capB : Nat),k ≤ N2 ∧ i = .int .i64 k ∧ out = .slice B1 G.length capB ∧ G.length = k ∧ Own wq w9.heap.size 39 32 B1 G.length capB (G.map idC) ∧ RdAt wq g l2 e2 ∧ Hid (loopG idP N2 ⟨[],rawL 4 l1 e1,rawE 4 l1 e1⟩ = loopG idP (N2 - k) ⟨G,l2,e2⟩) ∧ Keep [g] w9 wq) (fun _ i _=>N2 - (intOf i).toNat)
        case atStart=>exact ⟨0,[],_,_,none,0,Nat.zero_le _,rfl,rfl,rfl,Own.nil _ _ _ _,hr9,(show _ = _ from rfl),Keep.refl _ _⟩
        case round =>
          clear hr9;obtain ⟨k2,G,l2,e2,B1,capB,hkN2,rfl,rfl,hGk,hownB,hr2,hlp2,hkB⟩:=hrel;have HGk:=Lib.hid hGk;have hGN : G.length ≤ N2:=by omega
          clear hGk;have hszB:=hkB.size;by_cases hgo2 : k2 < N2 ∧ e2 = 0
          · obtain ⟨hlt2,rfl⟩:=hgo2;have hlp3:=hlp2.out;rw [show N2 - k2 = (N2 - (k2 + 1)) + 1 by omega,loopG_step _ _ rfl] at hlp3;have Hlp:=Lib.hid hlp3;clear hlp3 hlp2;have hgB : g ∉ blk B1:=fun hx=>(by have:=(hownB.at_base hx).1;omega);(go_wp2_with fail);refine (rd_err _ g l2 0 hr2).mono ?_;rintro e w5 ⟨rfl,rfl⟩;(go_wp2_with fail);refine (sq_id _ g l2 0 hr2).mono ?_;rintro e w6 ⟨rfl,hE6,hk6⟩;have hst : stepG idP ⟨G,l2,0⟩ = ⟨G ++ [idOf (rawV 32 l2 0)],rawL 32 l2 0,rawE 32 l2 0⟩:=rfl;rw [hst] at Hlp;obtain ⟨d,hd⟩ : ∃ d,idOf (rawV 32 l2 0) = d:=⟨_,rfl⟩
            rw [hd] at Hlp ⊢;have hownB6:=hownB.kept hk6 (fun x hx=>by have:=(hownB.at_base hx).1;simp;omega);have hbx : Below w6.heap.size w6 (w6.alloc (.cells (idC d) 39)):=(Below.refl _ _).alloc (Nat.le_refl _) _;have hown12:=hownB6.below hbx;have hrow12 : rowAt (w6.alloc (.cells (idC d) 39)) w6.heap.size 0 32 = some (idC d):=by simp [go_sem]
            have hszZ : w9.heap.size ≤ w6.heap.size:=by have:=hk6.size;omega
            clear hd hst hownB hownB6 hr2;go_wp2_with (at_builtin;refine L_append einfoId rfl hown12 rfl hrow12 (idC_one _) (by omega) (by omega) (by simp;omega) ?_;intro A13 cap13 w13 hown13 hk13' hsub13)
            have hk0 : Keep (blk B1) w6 w13:=Keep.trans ((Keep.of_below hbx).mono (S':=blk B1) (by simp)) hk13' (fun x hx=>.inl hx);have hE13:=RdAt.kept hE6 hk0 hgB;have hkf : Keep [g] w9 w13:=Keep.trans (Keep.trans hkB hk6 (fun x hx=>.inl hx)) hk0 (fun x hx=>.inr (by have:=(hown12.at_base hx).1;omega));rw [show G.map idC ++ [idC d] = (G ++ [d]).map idC by simp] at hown13;have hlen13 : (G ++ [d]).length = G.length + 1:=by simp
            have Hlen13:=Lib.hid hlen13;clear hlen13 hk0 hk13' hsub13 hown12 hrow12 hbx hE6;(go_wp2_with fail);go_roundw
            case rel=>exact ⟨k2 + 1,G ++ [d],_,_,A13,cap13,by omega,by go_num,(by rw [Hlen13.out]),(by rw [Hlen13.out,HGk.out]),(by rw [Hlen13.out];exact hown13),hE13,Hlp,hkf⟩
            case measure=>simp [intOf];omega
          · have hfin2 : partSG l = ⟨G,l2,e2⟩:=by
              rw [hrd2.out,hlp2.out];by_cases he : e2 = 0
              · rw [show N2 - k2 = 0 by omega];rfl
              · exact loopG_stop _ _ he
            have Hfin2:=Lib.hid hfin2;clear hfin2 hlp2 hrd2;have HkZ:=Lib.hid (Keep.trans HkA9.out hkB (fun x hx=>.inl hx));have HownA:=Lib.hid (Hown9.out.kept hkB (fun x hx=>by have:=(HA9.out x hx).1;simp;omega));have HownB:=Lib.hid (hownB.mono (B':=w.heap.size) hs9);clear hownB hkB;by_cases hlt2 : k2 < N2
            · have he2 : e2 ≠ 0:=by omega
              have heb2 : (e2 == 0) = false:=by simpa using he2
              clear hgo2;(go_wp2_with fail);refine (rd_err _ g l2 e2 hr2).mono ?_;rintro e w5 ⟨rfl,rfl⟩;(go_wp2_with fail);go_ret2;exact ⟨_,_,_,_,(by rw [Hfin.out,Hfin2.out];rfl),by rw [Hfin.out];exact HownA.out,by rw [Hfin2.out];exact HownB.out,by rw [Hfin2.out];exact hr2,HkZ.out,by rw [Hfin.out];exact HfA.out⟩
            · (go_wp2_with fail);go_ret2;exact ⟨_,_,_,_,(by rw [Hfin.out,Hfin2.out];rfl),by rw [Hfin.out];exact HownA.out,by rw [Hfin2.out];exact HownB.out,by rw [Hfin2.out];exact hr2,HkZ.out,by rw [Hfin.out];exact HfA.out⟩
      · (go_wp2_with fail);refine (rd_num4 _ g l1 e1 hr).mono ?_;rintro e w9 ⟨rfl,hr9,hk9⟩;have hN2:=numV_lt 4 l1 e1;obtain ⟨N2,hN2e⟩ : ∃ N2,numV 4 l1 e1 = N2:=⟨_,rfl⟩
        have hrd2 : Hid (partSG l = loopG idP N2 ⟨[],rawL 4 l1 e1,rawE 4 l1 e1⟩):=by show _ = _;rw [← hN2e];unfold partSG;rw [Hfin.out];rfl
        rw [hN2e] at hN2 ⊢;have hown9:=hown.kept hk9 (fun x hx=>by have:=(hown.at_base hx).1;simp;omega);have HkA9:=Lib.hid (Keep.trans HkA.out hk9 (fun x hx=>.inl hx));have hs9 : w.heap.size ≤ w9.heap.size:=HkA9.out.size;have Hown9:=Lib.hid (hown9.mono (B':=w.heap.size) (by omega));have HA9:=Lib.hid (fun x (hx : x ∈ blk A1)=>hown9.at_base hx);have hg9:=hr9.lt;clear hN2e hown hown9 hk9 hr hk hsz hszA;(go_wp2_with fail);go_loopw [3,7] (fun out i wq=>∃ (k : Nat) (G : List Id32) (l2 : List UInt8) (e2 : Int) (B1 : Option Addr) (capB : Nat),k ≤ N2 ∧ i = .int .i64 k ∧ out = .slice B1 G.length capB ∧ G.length = k ∧ Own wq w9.heap.size 39 32 B1 G.length capB (G.map idC) ∧ RdAt wq g l2 e2 ∧ Hid (loopG idP N2 ⟨[],rawL 4 l1 e1,rawE 4 l1 e1⟩ = loopG idP (N2 - k) ⟨G,l2,e2⟩) ∧ Keep [g] w9 wq) (fun _ i _=>N2 - (intOf i).toNat)
        case atStart=>exact ⟨0,[],_,_,none,0,Nat.zero_le _,rfl,rfl,rfl,Own.nil _ _ _ _,hr9,(show _ = _ from rfl),Keep.refl _ _⟩
        case round =>
          clear hr9;obtain ⟨k2,G,l2,e2,B1,capB,hkN2,rfl,rfl,hGk,hownB,hr2,hlp2,hkB⟩:=hrel;have HGk:=Lib.hid hGk;have hGN : G.length ≤ N2:=by omega
          clear hGk;have hszB:=hkB.size;by_cases hgo2 : k2 < N2 ∧ e2 = 0
          · obtain ⟨hlt2,rfl⟩:=hgo2;have hlp3:=hlp2.out;rw [show N2 - k2 = (N2 - (k2 + 1)) + 1 by omega,loopG_step _ _ rfl] at hlp3;have Hlp:=Lib.hid hlp3;clear hlp3 hlp2;have hgB : g ∉ blk B1:=fun hx=>(by have:=(hownB.at_base hx).1;omega);(go_wp2_with fail);refine (rd_err _ g l2 0 hr2).mono ?_;rintro e w5 ⟨rfl,rfl⟩;(go_wp2_with fail);refine (sq_id _ g l2 0 hr2).mono ?_;rintro e w6 ⟨rfl,hE6,hk6⟩;have hst : stepG idP ⟨G,l2,0⟩ = ⟨G ++ [idOf (rawV 32 l2 0)],rawL 32 l2 0,rawE 32 l2 0⟩:=rfl;rw [hst] at Hlp;obtain ⟨d,hd⟩ : ∃ d,idOf (rawV 32 l2 0) = d:=⟨_,rfl⟩
            rw [hd] at Hlp ⊢;have hownB6:=hownB.kept hk6 (fun x hx=>by have:=(hownB.at_base hx).1;simp;omega);have hbx : Below w6.heap.size w6 (w6.alloc (.cells (idC d) 39)):=(Below.refl _ _).alloc (Nat.le_refl _) _;have hown12:=hownB6.below hbx;have hrow12 : rowAt (w6.alloc (.cells (idC d) 39)) w6.heap.size 0 32 = some (idC d):=by simp [go_sem]
            have hszZ : w9.heap.size ≤ w6.heap.size:=by have:=hk6.size;omega
            clear hd hst hownB hownB6 hr2;go_wp2_with (at_builtin;refine L_append einfoId rfl hown12 rfl hrow12 (idC_one _) (by omega) (by omega) (by simp;omega) ?_;intro A13 cap13 w13 hown13 hk13' hsub13)
            have hk0 : Keep (blk B1) w6 w13:=Keep.trans ((Keep.of_below hbx).mono (S':=blk B1) (by simp)) hk13' (fun x hx=>.inl hx);have hE13:=RdAt.kept hE6 hk0 hgB;have hkf : Keep [g] w9 w13:=Keep.trans (Keep.trans hkB hk6 (fun x hx=>.inl hx)) hk0 (fun x hx=>.inr (by have:=(hown12.at_base hx).1;omega));rw [show G.map idC ++ [idC d] = (G ++ [d]).map idC by simp] at hown13;have hlen13 : (G ++ [d]).length = G.length + 1:=by simp
            have Hlen13:=Lib.hid hlen13;clear hlen13 hk0 hk13' hsub13 hown12 hrow12 hbx hE6;(go_wp2_with fail);go_roundw
            case rel=>exact ⟨k2 + 1,G ++ [d],_,_,A13,cap13,by omega,by go_num,(by rw [Hlen13.out]),(by rw [Hlen13.out,HGk.out]),(by rw [Hlen13.out];exact hown13),hE13,Hlp,hkf⟩
            case measure=>simp [intOf];omega
          · have hfin2 : partSG l = ⟨G,l2,e2⟩:=by
              rw [hrd2.out,hlp2.out];by_cases he : e2 = 0
              · rw [show N2 - k2 = 0 by omega];rfl
              · exact loopG_stop _ _ he
            have Hfin2:=Lib.hid hfin2;clear hfin2 hlp2 hrd2;have HkZ:=Lib.hid (Keep.trans HkA9.out hkB (fun x hx=>.inl hx));have HownA:=Lib.hid (Hown9.out.kept hkB (fun x hx=>by have:=(HA9.out x hx).1;simp;omega));have HownB:=Lib.hid (hownB.mono (B':=w.heap.size) hs9);clear hownB hkB;by_cases hlt2 : k2 < N2
            · have he2 : e2 ≠ 0:=by omega
              have heb2 : (e2 == 0) = false:=by simpa using he2
              clear hgo2;(go_wp2_with fail);refine (rd_err _ g l2 e2 hr2).mono ?_;rintro e w5 ⟨rfl,rfl⟩;(go_wp2_with fail);go_ret2;exact ⟨_,_,_,_,(by rw [Hfin.out,Hfin2.out];rfl),by rw [Hfin.out];exact HownA.out,by rw [Hfin2.out];exact HownB.out,by rw [Hfin2.out];exact hr2,HkZ.out,by rw [Hfin.out];exact HfA.out⟩
            · (go_wp2_with fail);go_ret2;exact ⟨_,_,_,_,(by rw [Hfin.out,Hfin2.out];rfl),by rw [Hfin.out];exact HownA.out,by rw [Hfin2.out];exact HownB.out,by rw [Hfin2.out];exact hr2,HkZ.out,by rw [Hfin.out];exact HfA.out⟩
end
end Go.Proofs.YtgfpjjppeldhbaaGreatDoor
