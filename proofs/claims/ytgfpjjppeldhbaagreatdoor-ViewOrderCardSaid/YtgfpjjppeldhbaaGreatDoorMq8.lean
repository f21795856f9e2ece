/- Part 8 of the texts that lead to this claim: the walks of the functions and the plain law, in order. -/
import Derived.Test.YtgfpjjppeldhbaaGreatDoorMq7
import Derived.Laws.StructEq
import Derived.IntWalk
import Derived.Laws.Bits64b
namespace Go.Proofs.YtgfpjjppeldhbaaGreatDoor
section
open Go.RowKit Go.Sort Go.Shelf
def rowMB (x : MRow) : List UInt8:=x.id.l ++ (beL 1 x.key.size ++ (x.key.data.toList ++ (beL 1 x.val.size ++ x.val.data.toList)))
def idsB (O : List Id32) : List UInt8:=beL 4 O.length ++ O.flatMap Id32.l
def putMB (X : List MRow) (O : List Id32) : List UInt8:=beL 4 X.length ++ X.flatMap rowMB ++ idsB O
theorem rowMB_len (x : MRow) : (rowMB x).length = 34 + x.key.size + x.val.size:=by
  have e : x.val.data.toList.length = x.val.size:=Array.length_toList;have e2 : x.key.data.toList.length = x.key.size:=Array.length_toList;simp only [rowMB,List.length_append,beL_length,x.id.h,e,e2];omega
set_option maxRecDepth 100000 in
set_option maxHeartbeats 1000000 in
theorem mgone (wS : World) (g bl b : Nat) (X : List MRow) (L : List Id32) (h : MultiAt wS g bl b X L) (hn : L.length ≤ 1000000) :
    Calls Tryz.prog 344 #[.pointer (some ⟨g,0,none⟩)] wS fun e w'=>∃ A cap,e = .returned (.slice A L.length cap) ∧ Own w' wS.heap.size 39 32 A L.length cap (L.map idC) ∧ Below wS.heap.size wS w':=by
  have hbl:=h.over.lt;have hc:=h.cell1;have hr:=h.risO;obtain ⟨w0,hrun,hR,hb0,hs0⟩:=SetAt.range (P:=Tryz.prog) (kv:=idV) (ok:=okId) h.over Tryz.underlying75;go_enter Tryz.func344,Tryz.ntmps344
  (go_wp2_with fail);clear hrun hc h;go_loopw [3] (fun out wr=>∃ S A cap,out = .slice A S.length cap ∧ SetRange wr b wS.heap.size idV okId L S ∧ Own wr w0.heap.size 39 32 A S.length cap (S.map idC) ∧ Below wS.heap.size wS wr ∧ w0.heap.size ≤ wr.heap.size) (fun _ wr=>wr.rangeLeft b wS.heap.size)
  case atStart=>exact ⟨[],none,0,rfl,hR,Own.nil _ _ _ _,hb0,Nat.le_refl _⟩
  case round =>
    obtain ⟨S,A,cap,rfl,hR,hown,hb,hsz⟩:=hrel;rcases hR.next (P:=Tryz.prog) 0 with ⟨hall,hnd,hrun⟩ | ⟨x,w1,hxL,hxS,hrun,hR1,hk1,hs1,hl1,hen⟩
    focus
      have hp : S.Perm L:=(List.perm_ext_iff_of_nodup hnd (hr.nodup totId)).2 hall;have hSL:=hp.length_eq;have Hall:=Lib.hid hall;have HSL:=Lib.hid hSL;clear hall hSL;have hset:=ident_set wr A S.length cap S L hown.slr hp hr (by rw [HSL.out];omega) (fun e=>(hown.cap_le.2 e).2);(go_wp2_with fail);refine hset.mono ?_;rintro e w2 ⟨A2,cap2,rfl,hown2,hb2⟩;clear hset hrun;(go_wp2_with fail);go_ret;exact ⟨A2,cap2,rfl,hown2.mono (by have:=hb.size;omega),hb.trans (hb2.mono hb.size)⟩
    have hSn : S.length + 1 ≤ 1000000:=by
      obtain ⟨M,Z,hZ,hks,_,hZS,hnd⟩:=hR1;have h1:=hZ.length;have h2 : (Z.map (·.1)).length = (S ++ [x]).length:=by rw [hZS]
      have h3 : (M.map (·.1)).length ≤ L.length:=nodup_len hnd (fun y hy=>(hks y).1 hy);simp at h2 h3;omega
    have hownr : Own w1 w0.heap.size 39 32 A S.length cap (S.map idC):=hown.kept hk1 (fun y hy=>by have:=(hown.at_base hy).1;simp;omega);have hb1 : Below wS.heap.size wS w1:=hb.trans (hk1.below (B:=wS.heap.size) (by omega) (by simp));have hbx : Below w1.heap.size w1 ((w1.alloc (.cells (idC x) 39)).alloc (.cells (idC x) 39)):=((Below.refl _ _).alloc (Nat.le_refl _) _).alloc (by simp) _;have hown2:=hownr.below hbx;have hrow2 : rowAt ((w1.alloc (.cells (idC x) 39)).alloc (.cells (idC x) 39)) (w1.heap.size + 1) 0 32 = some (idC x):=by simp [go_sem]
    change (Instr.next _ _ _).run Tryz.prog wr = .ok (.tuple #[.bool true,.agg (idC x),.bool true]) w1 at hrun;change (Instr.entry _).run Tryz.prog w1 = .ok (.tuple #[.agg (idC x),.bool true]) w1 at hen;have Hs1:=Lib.hid hs1;clear hs1;go_wp2_with (at_builtin;refine L_append einfoId rfl hown2 rfl hrow2 (idC_one _) (by omega) (by omega) (by simp;have:=Hs1.out;omega) ?_;intro A' cap' w2 hownA hkA hsubA)
    have hbA : b ∉ blk A:=fun hx=>(by have:=(hown.at_base hx).1;omega);have hrA : wS.heap.size ∉ blk A:=fun hx=>(by have:=(hown.at_base hx).1;omega);have hR1x:=hR1.kept (Keep.of_below hbx) (by simp) (by simp);have hR2:=hR1x.kept hkA hbA hrA;have hl2 : w2.rangeLeft b wS.heap.size = w1.rangeLeft b wS.heap.size :=
      (rangeLeft_kept hkA hbA hrA hR1x.lt.2 hR1x.lt.1).trans (rangeLeft_kept (Keep.of_below hbx) (by simp) (by simp) hR1.lt.2 hR1.lt.1)
    have hsz2 : w0.heap.size ≤ w2.heap.size:=by
      have e1:=hbx.size;have e2:=hkA.size;have e3:=Hs1.out;omega
    have hb2 : Below wS.heap.size wS w2:=hb1.trans ((hbx.mono (by have:=Hs1.out;omega)).trans (hkA.below (B:=wS.heap.size) (by simp;have:=Hs1.out;omega) fun y hy=>by have:=(hown.at_base hy).1;omega));clear hrun hen;(go_wp2_with fail);go_roundw
    case rel=>exact ⟨S ++ [x],A',cap',by simp,hR2,by simpa using hownA,hb2,hsz2⟩
    case measure=>omega
set_option maxRecDepth 100000 in
set_option maxHeartbeats 4000000 in
theorem mput_any (w : World) (g bl bo : Nat) (X : List MRow) (O : List Id32) (h : MultiAt w g bl bo X O) (hX : X.length ≤ 1000000) (hO : O.length ≤ 1000000) :
    Calls Tryz.prog 343 #[.pointer (some ⟨g,0,none⟩)] w fun e w'=>e = .returned (.string ⟨(putMB X O).toArray⟩) ∧ Below w.heap.size w w':=by
  have hc:=h.cell0;have hsm:=h.sm;go_enter Tryz.func343,Tryz.ntmps343
  (go_wp2_with fail);refine (mnone_live w g bl hc).mono ?_;rintro e w' ⟨rfl,rfl⟩;(go_wp2_with fail);refine (msorted w g bl bo X O h hX).mono ?_;rintro e w1 ⟨XA,xc,rfl,hXo,hb1⟩;have h1:=h.below hb1;(go_wp2_with fail);refine (mgone w1 g bl bo X O h1 hO).mono ?_;rintro e w2 ⟨IA,ic,rfl,hIo,hb2⟩;have hXs : SlR w2 XA X.length 34 (X.map mRowC):=(hXo.below hb2).slr;have hXb : ∀ x ∈ blk XA,x < w2.heap.size:=fun x hx=>(by have:=(hXo.at_base hx).2;have:=hb2.size;omega);have hIs : SlR w2 IA O.length 32 (O.map idC):=hIo.slr;have hIb : ∀ x ∈ blk IA,x < w2.heap.size:=fun x hx=>(hIo.at_base hx).2;have hb02:=bel2 hb1 hb2;clear hc h1 hXo hIo hb1 hb2 h;(go_wp2_with fail);refine (wnew w2).mono ?_;rintro e w3 ⟨rfl,hw3,hb3⟩;have hXs3:=hXs.below hb3;have hIs3:=hIs.below hb3;obtain ⟨gw,hgw⟩ : ∃ gw,w2.heap.size = gw:=⟨_,rfl⟩
  have hb03:=bel2 hb02 hb3;rw [hgw] at hw3 hXb hIb ⊢;have hg3:=hw3.lt;have hszw : w.heap.size ≤ gw:=by have:=hb02.size;omega
  clear hXs hIs hb02 hb3 hgw;(go_wp2_with fail);refine (wnum _ _ _ _ _ _ hw3 X.length 4 (by omega) (by omega) (by simp)).mono ?_;rintro e w4 ⟨rfl,A2,cap2,hw2,hk2,hsub2⟩;simp only [List.nil_append] at hw2;have hXs4:=hXs3.kept hk2 (fun x hx=>by have:=hXb x hx;simp [blk];omega);have hIs4:=hIs3.kept hk2 (fun x hx=>by have:=hIb x hx;simp [blk];omega);have hb04 : Below w.heap.size w w4:=hb03.trans (hk2.below (by have:=hb03.size;omega) (by simp [blk];omega));have hAb : ∀ x ∈ blk A2,gw < x:=fun x hx=>(by have:=(hw2.own.at_base hx).1;omega);clear hw3 hXs3 hIs3 hb03 hk2 hsub2 hg3;(go_wp2_with fail);have hdX : ∀ x ∈ blk XA,x ∉ gw :: blk A2:=fun x hx hm=>by
    have:=hXb x hx;rcases List.mem_cons.1 hm with e | hm
    · omega
    · have:=hAb x hm;omega
  have HdX:=Lib.hid hdX;have HAb:=Lib.hid hAb;have HXb:=Lib.hid hXb;have HIb:=Lib.hid hIb;have Hsm:=Lib.hid hsm;clear hdX hAb hXb hIb hsm;go_loopw [24] (fun i wr=>∃ k : Nat,k ≤ X.length ∧ i = .int .i64 (k : Nat) ∧ WStep w4 (gw + 1) gw A2 (beL 4 X.length ++ (X.take k).flatMap rowMB) wr) (fun i _=>X.length - (intOf i).toNat)
  case atStart=>exact ⟨0,Nat.zero_le _,rfl,A2,cap2,by simpa using hw2,Keep.refl _ _,fun x hx=>.inl hx⟩
  case round =>
    obtain ⟨k,hk,rfl,A4,cap4,hw4,hk4,hsub4⟩:=hrel;have hbl:=flatMap_len rowMB 66 (X.take k) (fun x hx=>by rw [rowMB_len];have:=Hsm.out x (List.mem_of_mem_take hx);unfold msmall at this;omega);have htl : (X.take k).length = k:=by simp;omega
    rw [htl] at hbl;by_cases hlt : k < X.length
    · have hLr:=hXs4.kept hk4 HdX.out;obtain ⟨q,o,rfl,hr⟩:=hLr.at_ hlt;rw [List.getElem_map] at hr;have hsx:=Hsm.out X[k] (List.getElem_mem hlt);have htk : (X.take (k + 1)).flatMap rowMB = (X.take k).flatMap rowMB ++ rowMB X[k]:=by rw [List.take_add_one,List.getElem?_eq_getElem hlt,List.flatMap_append];simp only [Option.toList_some,List.flatMap_cons,List.flatMap_nil,List.append_nil]
      obtain ⟨x,hx⟩ : ∃ x,X[k]'hlt = x:=⟨_,rfl⟩
      rw [hx] at hr hsx htk;have Htk:=Lib.hid htk;unfold msmall at hsx;obtain ⟨hs1,hs2⟩:=hsx;clear hx htk hLr;have hbl0 : (beL 4 X.length ++ (X.take k).flatMap rowMB).length ≤ 200000000:=by rw [List.length_append,beL_length];omega
      obtain ⟨bs0,hbs0⟩ : ∃ bs0,beL 4 X.length ++ (X.take k).flatMap rowMB = bs0:=⟨_,rfl⟩
      have Hbs0:=Lib.hid hbs0;rw [hbs0] at hw4 hbl0;have e1 : x.key.data.toList.length = x.key.size:=Array.length_toList;have e3 : (⟨x.id.l.toArray⟩ : ByteArray).size = 32:=by show x.id.l.toArray.size = 32;simp [x.id.h]
      have e4 : (⟨x.id.l.toArray⟩ : ByteArray).data.toList = x.id.l:=by simp
      have e5 : x.id.l.length = 32:=x.id.h;have E1:=Lib.hid e1;have E3:=Lib.hid e3;have E4:=Lib.hid e4;have E5:=Lib.hid e5;clear hbs0 e1 e3 e4 e5 hbl htl;go_upto_region 8 with fail
      have hw5:=hw4.below (w':=wr.alloc (.cells (mRowC x) 184)) ((Below.refl _ _).alloc (Nat.le_refl _) _);have hbox : rowAt (wr.alloc (.cells (mRowC x) 184)) wr.heap.size 0 34 = some (mRowC x):=by simp [go_sem]
      have hk5 : Keep [] wr (wr.alloc (.cells (mRowC x) 184)):=Keep.alloc _ _;have hbS : wr.heap.size ∉ gw :: blk A4:=by
        simp only [List.mem_cons,not_or];exact ⟨by have:=hw4.lt;omega,fun hx=>by have:=(hw4.own.at_base hx).2;omega⟩
      generalize wr.alloc (.cells (mRowC x) 184) = W at *;have hx0 : W.cell? ⟨wr.heap.size,32,none⟩ = some (.string x.key):=by have:=rowAt_cell hbox (j:=32) (by omega);rwa [mRowC_g32,Nat.zero_add] at this
      have hx1 : W.cell? ⟨wr.heap.size,33,none⟩ = some (.string x.val):=by have:=rowAt_cell hbox (j:=33) (by omega);rwa [mRowC_g33,Nat.zero_add] at this
      have hx2 : rowAt W wr.heap.size 0 32 = some (idC x.id):=by have:=rowAt_sub hbox (j:=0) (m:=32) (by omega);rwa [mRowC_e0] at this
      have hconv : ∀ (y : Subtype (Kp (gw :: blk A4) W)) c,(convert 37 9 (.slice (some ⟨wr.heap.size,0,none⟩) 32 c)).run Tryz.prog y.1 = .ok (.string ⟨x.id.l.toArray⟩) y.1:=fun y c=>id_string (ksub_row hx2 hbS y);have hst : WStep W (gw + 1) gw A4 bs0 W.drew:=⟨A4,cap4,hw5.kept (Keep.drew W) (by simp) (by simp),(Keep.drew W).mono (by simp),fun x hx=>.inl hx⟩
      refine wp_region_lex (Kp (gw :: blk A4) W) false (by kernel_rfl) (by kernel_rfl) (by kernel_rfl) (kp_drew (gw :: blk A4) W) ?_;have hne:=kp_some (gw :: blk A4) W;have hS:=kp_drew (gw :: blk A4) W;have b1:=ksub_cell hx0 hbS;have b2:=ksub_cell hx1 hbS;clear hx0 hx1 hx2 hbox hr;repeat (refine wpLx_loose ?_ ?_;(focus (simp only [chainOp];done));intro K hK;go_simp;refine hK _ ?_;clear hK K)
      refine wpLx_chain ?_ ?_ ?_;(focus (exact hS));(focus (simp only [chainOp];done));intro K hK;go_simp;obtain ⟨Ai,capi,hwi,hki,hsubi⟩:=hst;refine (wraw _ _ _ _ _ _ hwi ⟨x.id.l.toArray⟩ (by rw [E3.out];omega)).mono ?_;rintro e w' ⟨rfl,hst'⟩;replace hst:=wstep_trans hwi hki hsubi hst';have hS:=hst.choose_spec.choose_spec.2.1;refine ⟨_,rfl,hS,hK _ _ ?_⟩;clear hK K hwi hki hsubi hst';repeat (refine wpLx_loose ?_ ?_;(focus (simp only [chainOp];done));intro K hK;go_simp;refine hK _ ?_;clear hK K)
      refine wpLx_chain ?_ ?_ ?_;(focus (exact hS));(focus (simp only [chainOp];done));intro K hK;go_simp;obtain ⟨Ai,capi,hwi,hki,hsubi⟩:=hst;refine (wnum _ _ _ _ _ _ hwi x.key.size 1 (by omega) (by omega) (by rw [E4.out,List.length_append,E5.out];omega)).mono ?_;rintro e w' ⟨rfl,hst'⟩;replace hst:=wstep_trans hwi hki hsubi hst';have hS:=hst.choose_spec.choose_spec.2.1;refine ⟨_,rfl,hS,hK _ _ ?_⟩;clear hK K hwi hki hsubi hst';repeat (refine wpLx_loose ?_ ?_;(focus (simp only [chainOp];done));intro K hK;go_simp;refine hK _ ?_;clear hK K)
      refine wpLx_chain ?_ ?_ ?_;(focus (exact hS));(focus (simp only [chainOp];done));intro K hK;go_simp;obtain ⟨Ai,capi,hwi,hki,hsubi⟩:=hst;refine (wraw _ _ _ _ _ _ hwi x.key (by rw [E4.out,List.length_append,List.length_append,E5.out,beL_length];omega)).mono ?_;rintro e w' ⟨rfl,hst'⟩;replace hst:=wstep_trans hwi hki hsubi hst';have hS:=hst.choose_spec.choose_spec.2.1;refine ⟨_,rfl,hS,hK _ _ ?_⟩;clear hK K hwi hki hsubi hst';repeat (refine wpLx_loose ?_ ?_;(focus (simp only [chainOp];done));intro K hK;go_simp;refine hK _ ?_;clear hK K)
      refine wpLx_chain ?_ ?_ ?_;(focus (exact hS));(focus (simp only [chainOp];done));intro K hK;go_simp;obtain ⟨Ai,capi,hwi,hki,hsubi⟩:=hst;refine (wnum _ _ _ _ _ _ hwi x.val.size 1 (by omega) (by omega) (by rw [E4.out,List.length_append,List.length_append,List.length_append,E5.out,beL_length,E1.out];omega)).mono ?_;rintro e w' ⟨rfl,hst'⟩;replace hst:=wstep_trans hwi hki hsubi hst';have hS:=hst.choose_spec.choose_spec.2.1;refine ⟨_,rfl,hS,hK _ _ ?_⟩;clear hK K hwi hki hsubi hst';repeat (refine wpLx_loose ?_ ?_;(focus (simp only [chainOp];done));intro K hK;go_simp;refine hK _ ?_;clear hK K)
      refine wpLx_chain ?_ ?_ ?_;(focus (exact hS));(focus (simp only [chainOp];done));intro K hK;go_simp;obtain ⟨Ai,capi,hwi,hki,hsubi⟩:=hst;refine (wraw _ _ _ _ _ _ hwi x.val (by rw [E4.out,List.length_append,List.length_append,List.length_append,List.length_append,E5.out,beL_length,beL_length,E1.out];omega)).mono ?_;rintro e w' ⟨rfl,hst'⟩;replace hst:=wstep_trans hwi hki hsubi hst';have hS:=hst.choose_spec.choose_spec.2.1;refine ⟨_,rfl,hS,hK _ _ ?_⟩;clear hK K hwi hki hsubi hst';repeat (refine wpLx_loose ?_ ?_;(focus (simp only [chainOp];done));intro K hK;go_simp;refine hK _ ?_;clear hK K)
      refine wpLx_nil ?_;intro hS;have heq : bs0 ++ (⟨x.id.l.toArray⟩ : ByteArray).data.toList ++ beL 1 x.key.size ++ x.key.data.toList ++ beL 1 x.val.size ++ x.val.data.toList = beL 4 X.length ++ (X.take (k + 1)).flatMap rowMB:=by
        rw [Htk.out,E4.out,← List.append_assoc (beL 4 X.length),Hbs0.out];simp [rowMB,List.append_assoc]
      rw [heq] at hst;have hst2:=wstep_trans hw4 hk4 hsub4 (wstep_trans hw5 (hk5.mono (S':=gw :: blk A4) (by simp)) (fun x hx=>.inl hx) hst);have Hst:=Lib.hid hst2;clear hst hst2 heq hconv hne b1 b2 hS;(go_wp2_with fail);go_roundw
      case rel=>exact ⟨k + 1,by omega,by go_num,Hst.out⟩
      case measure=>simp [intOf];omega
    · have hkL : X.take k = X:=List.take_of_length_le (by omega);rw [hkL] at hw4 hbl;clear hkL htl;have hIs5:=hIs4.kept hk4 (fun x hx hm=>by
        have:=HIb.out x hx;rcases List.mem_cons.1 hm with e | hm
        · omega
        · have:=HAb.out x hm;omega)
      have hb05 : Below w.heap.size w wr:=hb04.trans (hk4.below (by have:=hb04.size;omega) (fun x hx=>by
        rcases List.mem_cons.1 hx with rfl | hx
        · omega
        · have:=HAb.out x hx;omega))
      have hpl : (beL 4 X.length ++ X.flatMap rowMB).length ≤ 100000000:=by rw [List.length_append,beL_length];omega
      obtain ⟨p0,hp0⟩ : ∃ p0,beL 4 X.length ++ X.flatMap rowMB = p0:=⟨_,rfl⟩
      have Hp0:=Lib.hid hp0;rw [hp0] at hw4 hpl;clear hp0 hbl;have cw:=wnum _ _ _ _ _ _ hw4 O.length 4 (by omega) (by omega) (by omega);(go_wp2_with fail);refine cw.mono ?_;rintro e W3 ⟨rfl,AW,capW,hwW,hkW,hsubW⟩;have hAb4 : ∀ x ∈ blk A4,gw < x:=fun x hx=>(by have:=(hw4.own.at_base hx).1;omega);have hid : SlR W3 IA O.length 32 (O.map idC):=hIs5.kept hkW (fun x hx hm=>by
        have:=HIb.out x hx;rcases List.mem_cons.1 hm with e | hm
        · omega
        · have:=hAb4 x hm;omega)
      have hbF : Below w.heap.size w W3:=hb05.trans (hkW.below (by have:=hb05.size;omega) (fun x hx=>by
        rcases List.mem_cons.1 hx with rfl | hx
        · omega
        · have:=hAb4 x hx;omega))
      have hAbW : ∀ x ∈ blk AW,gw < x:=fun x hx=>(by have:=(hwW.own.at_base hx).1;omega);have hdis : ∀ x ∈ blk IA,x ∉ gw :: blk AW:=fun x hx hm=>by
        have:=HIb.out x hx;rcases List.mem_cons.1 hm with e | hm
        · omega
        · have:=hAbW x hm;omega
      have hbF2 : ∀ w',Keep (gw :: blk AW) W3 w' → Below w.heap.size w w':=fun w' hk=>hbF.trans (hk.below (by have:=hbF.size;omega) (fun x hx=>by
        rcases List.mem_cons.1 hx with rfl | hx
        · omega
        · have:=hAbW x hx;omega))
      have HbF:=Lib.hid hbF2;have hpl2 : (p0 ++ beL 4 O.length).length ≤ 200000000:=by rw [List.length_append,beL_length];omega
      obtain ⟨pre,hpre⟩ : ∃ pre,p0 ++ beL 4 O.length = pre:=⟨_,rfl⟩
      have Hpre : Hid (beL 4 X.length ++ X.flatMap rowMB ++ beL 4 O.length = pre):=(show _ = _ by rw [Hp0.out,hpre])
      rw [hpre] at hwW hpl2;obtain ⟨S,hS⟩ : ∃ S,S = O:=⟨_,rfl⟩
      obtain ⟨Bw,hBw⟩ : ∃ Bw,Bw = gw + 1:=⟨_,rfl⟩
      rw [← hS] at hid hO Hpre ⊢;rw [← hBw] at hwW;have HS:=Lib.hid hS;clear hpre hbF hbF2 hS hBw hIs5 hb05 hw4 hkW hsubW hAb4 hAbW hk4 hsub4 cw hw2 hXs4 hIs4 hb04;(go_wp2_with fail);go_loopw [54] (fun i wr=>∃ k : Nat,k ≤ S.length ∧ i = .int .i64 (k : Nat) ∧ WStep W3 Bw gw AW (pre ++ (S.take k).flatMap Id32.l) wr) (fun i _=>S.length - (intOf i).toNat)
      case atStart=>exact ⟨0,Nat.zero_le _,rfl,AW,capW,by simpa using hwW,Keep.refl _ _,fun x hx=>.inl hx⟩
      case round =>
        obtain ⟨k,hk,rfl,A4,cap4,hw4,hk4,hsub4⟩:=hrel;by_cases hlt : k < S.length
        · have hLr:=(show SlR W3 IA S.length 32 (S.map idC) from hid).kept hk4 hdis;obtain ⟨q,o,rfl,hr⟩:=TagsIn.get hLr hlt hlt;have htk : (S.take (k + 1)).flatMap Id32.l = (S.take k).flatMap Id32.l ++ (S[k]).l:=by rw [List.take_add_one,List.getElem?_eq_getElem hlt,List.flatMap_append];simp only [Option.toList_some,List.flatMap_cons,List.flatMap_nil,List.append_nil]
          have hbl:=flatMap_len Id32.l 32 (S.take k) (fun x hx=>by rw [x.h];exact Nat.le_refl _);have htl : (S.take k).length = k:=by simp;omega
          rw [htl] at hbl;obtain ⟨x,hx⟩ : ∃ x,S[k]'hlt = x:=⟨_,rfl⟩
          rw [hx] at hr htk;have Htk:=Lib.hid htk;clear hx htk hLr htl;have hbl0 : (pre ++ (S.take k).flatMap Id32.l).length ≤ 300000000:=by rw [List.length_append];omega
          obtain ⟨bs0,hbs0⟩ : ∃ bs0,pre ++ (S.take k).flatMap Id32.l = bs0:=⟨_,rfl⟩
          have Hbs0:=Lib.hid hbs0;rw [hbs0] at hw4 hbl0;clear hbs0 hbl;have hb5 : Below wr.heap.size wr (wr.alloc (.cells (idC x) 39)):=(Below.refl _ _).alloc (Nat.le_refl _) _;have hw5:=hw4.below hb5;have hk5 : Keep [] wr (wr.alloc (.cells (idC x) 39)):=Keep.alloc _ _;have hbox : rowAt (wr.alloc (.cells (idC x) 39)) wr.heap.size 0 32 = some (idC x):=by simp [go_sem]
          have hconv : ∀ c,(convert 37 9 (.slice (some ⟨wr.heap.size,0,none⟩) 32 c)).run Tryz.prog (wr.alloc (.cells (idC x) 39)) = .ok (.string ⟨x.l.toArray⟩) (wr.alloc (.cells (idC x) 39)):=fun c=>id_string hbox;have e3 : (⟨x.l.toArray⟩ : ByteArray).size = 32:=by show x.l.toArray.size = 32;simp [x.h]
          have e4 : (⟨x.l.toArray⟩ : ByteArray).data.toList = x.l:=by simp
          have cw:=wraw _ Bw gw A4 cap4 bs0 hw5 ⟨x.l.toArray⟩ (by rw [e3];omega);rw [e4] at cw;clear e3 e4 hbox;(go_wp2_with fail);refine cw.mono ?_;rintro e w6 ⟨rfl,hst⟩;have hst2:=wstep_trans hw4 hk4 hsub4 (wstep_trans hw5 (hk5.mono (S':=gw :: blk A4) (by simp)) (fun x hx=>.inl hx) hst);rw [← Hbs0.out,List.append_assoc,← Htk.out] at hst2;have Hst:=Lib.hid hst2;clear hst hst2 hconv cw hb5 hw5 hk5 hw4 hk4 hsub4;(go_wp2_with fail);go_roundw
          case rel=>exact ⟨k + 1,by omega,by go_num,Hst.out⟩
          case measure=>simp [intOf];omega
        · have hkL : S.take k = S:=List.take_of_length_le (by omega);rw [hkL] at hw4;clear hkL;(go_wp2_with fail);refine (wdone _ _ _ _ _ _ hw4).mono ?_;rintro e w' ⟨rfl,rfl⟩;(go_wp2_with fail);go_ret;exact ⟨ret_strL (by rw [← Hpre.out,HS.out];simp [putMB,idsB,List.append_assoc]),HbF.out _ hk4⟩
end
section
open Go.RowKit
def sortN (N : List NodeV) : List NodeV:=sortC cmpM N
theorem mem_sortN {N : List NodeV} {n : NodeV} : n ∈ sortN N ↔ n ∈ N:=mem_sortC totM
theorem sortN_congr {N M : List NodeV} (h : ∀ n,n ∈ N ↔ n ∈ M) : sortN N = sortN M:=sortC_congr totM h
theorem sortN_ids {N : List NodeV} (h : OneId N) : Ris cmpId ((sortN N).map NodeV.id):=by
  have hr : Ris cmpM (sortN N):=ris_sortC totM N;have hN : ∀ n,n ∈ sortN N → n ∈ N:=fun n=>mem_sortN.1;unfold Ris at hr ⊢;rw [List.pairwise_map];refine List.Pairwise.imp_of_mem ?_ hr;intro a b ha hb hab;have hne : a.id ≠ b.id:=fun e=>by
    have:=h a (hN a ha) b (hN b hb) e;subst this;exact totM.irr a hab
  have h0 : cmpId a.id b.id ≠ 0:=fun e=>hne ((cmpId_zero _ _).1 e);unfold cmpM orC at hab;rw [if_neg h0] at hab;exact hab
theorem sortN_perm {N : List NodeV} (h : OneId N) (hn : (N.map NodeV.id).Nodup) : ((sortN N).map NodeV.id).Perm (N.map NodeV.id) :=
  (List.perm_ext_iff_of_nodup ((sortN_ids h).nodup totId) hn).2 fun x=>by
    simp only [List.mem_map,mem_sortN]
theorem sortN_length (N : List NodeV) : (sortN N).length ≤ N.length:=sortC_length N
def nodeB (n : NodeV) : List UInt8:=n.id.l ++ (beL 4 n.h.toNat ++ (n.ref.l ++ (beL 1 n.val.size ++ n.val.data.toList)))
def putSB (N : List NodeV) (G : List Id32) : List UInt8:=beL 4 (sortN N).length ++ (sortN N).flatMap nodeB ++ idsB G
theorem nodeB_len (n : NodeV) : (nodeB n).length = 69 + n.val.size:=by
  have e : n.val.data.toList.length = n.val.size:=Array.length_toList;simp only [nodeB,List.length_append,beL_length,n.id.h,n.ref.h,e];omega
set_option maxRecDepth 100000 in
set_option maxHeartbeats 1000000 in
theorem sqids (wS : World) (M : List Nat) (g bn bb bg : Nat) (N : List NodeV) (G : List Id32) (h : SeqAt wS M g bn bb bg N G) (hn : N.length ≤ 1000000) :
    Calls Tryz.prog 347 #[.pointer (some ⟨g,0,none⟩)] wS fun e w'=>∃ A cap,e = .returned (.slice A (sortN N).length cap) ∧ Own w' wS.heap.size 39 32 A (sortN N).length cap (((sortN N).map NodeV.id).map idC) ∧ Below wS.heap.size wS w':=by
  have hbl:=h.lt.1;have hc:=h.cell0;have hsR:=sortN_ids h.one;obtain ⟨es,clk,hm⟩:=h.nodes;have hnd:=hm.nodup;have hsP:=sortN_perm h.one (by rw [List.map_map] at hnd;exact hnd);have hsn : (sortN N).length ≤ 1000000:=Nat.le_trans (sortN_length N) hn;have HsR:=Lib.hid hsR;have HsP:=Lib.hid hsP;have Hsn:=Lib.hid hsn;have hml : (N.map fun n=>(n.id,snode n)).length = N.length:=List.length_map _;obtain ⟨w0,hrun,hR,hb0,hs0⟩:=hm.range (P:=Tryz.prog) Tryz.underlying188;clear hsR hsP hsn hnd hm;go_enter Tryz.func347,Tryz.ntmps347
  (go_wp2_with fail);clear hrun hc h;go_loopw [3] (fun out wr=>∃ S A cap,out = .slice A S.length cap ∧ RangeAt wr bn wS.heap.size idV nodeVV okId (N.map fun n=>(n.id,snode n)) S ∧ Own wr w0.heap.size 39 32 A S.length cap (S.map fun p=>idC p.1) ∧ Below wS.heap.size wS wr ∧ w0.heap.size ≤ wr.heap.size) (fun _ wr=>wr.rangeLeft bn wS.heap.size)
  case atStart=>exact ⟨[],none,0,rfl,hR,Own.nil _ _ _ _,hb0,Nat.le_refl _⟩
  case round =>
    obtain ⟨S,A,cap,rfl,hR,hown,hb,hsz⟩:=hrel;rcases hR.next (P:=Tryz.prog) 0 with ⟨hperm,hrun⟩ | ⟨p,w1,hxL,hxS,hrun,hR1,hk1,hs1,hl1,hen⟩
    focus
      have hpS : (S.map (·.1)).Perm ((sortN N).map NodeV.id):=by
        have h1 : (S.map (·.1)).Perm ((N.map fun n=>(n.id,snode n)).map (·.1)):=hperm.map _;rw [List.map_map] at h1;exact h1.trans (HsP.out).symm
      have hrow : TagsIn wr A S.length (S.map (·.1)):=by
        have:=hown.slr;have e : (S.map fun p=>idC p.1) = (S.map (·.1)).map idC:=by rw [List.map_map];rfl
        rwa [e] at this
      have hSl:=hpS.length_eq;rw [List.length_map,List.length_map] at hSl;have hset:=ident_set wr A S.length cap (S.map (·.1)) ((sortN N).map NodeV.id) hrow hpS HsR.out (by rw [hSl];exact Hsn.out) (fun e=>(hown.cap_le.2 e).2);rw [List.length_map] at hset;have HSl:=Lib.hid hSl;clear hSl hpS hrow;(go_wp2_with fail);refine hset.mono ?_;rintro e w2 ⟨A2,cap2,rfl,hown2,hb2⟩;clear hset hrun;(go_wp2_with fail);go_ret;exact ⟨A2,cap2,rfl,hown2.mono (by have:=hb.size;omega),hb.trans (hb2.mono hb.size)⟩
    have hSn : S.length + 1 ≤ 1000000:=by
      have h1:=hR1.length;simp at h1;omega
    have hownr : Own w1 w0.heap.size 39 32 A S.length cap (S.map fun p=>idC p.1):=hown.kept hk1 (fun y hy=>by have:=(hown.at_base hy).1;simp;omega);have hb1 : Below wS.heap.size wS w1:=hb.trans (hk1.below (B:=wS.heap.size) (by omega) (by simp));have hbx : Below w1.heap.size w1 ((w1.alloc (.cells (idC p.1) 39)).alloc (.cells (idC p.1) 39)):=((Below.refl _ _).alloc (Nat.le_refl _) _).alloc (by simp) _;have hown2:=hownr.below hbx;have hrow2 : rowAt ((w1.alloc (.cells (idC p.1) 39)).alloc (.cells (idC p.1) 39)) (w1.heap.size + 1) 0 32 = some (idC p.1):=by simp [go_sem]
    change (Instr.next _ _ _).run Tryz.prog wr = .ok (.tuple #[.bool true,.agg (idC p.1),.agg (sNodeC p.2)]) w1 at hrun;change (Instr.entry _).run Tryz.prog w1 = .ok (.tuple #[.agg (idC p.1),.agg (sNodeC p.2)]) w1 at hen;have Hs1:=Lib.hid hs1;clear hs1;go_wp2_with (at_builtin;refine L_append einfoId rfl hown2 rfl hrow2 (idC_one _) (by omega) (by omega) (by simp;have:=Hs1.out;omega) ?_;intro A' cap' w2 hownA hkA hsubA)
    have hbA : bn ∉ blk A:=fun hx=>(by have:=(hown.at_base hx).1;omega);have hrA : wS.heap.size ∉ blk A:=fun hx=>(by have:=(hown.at_base hx).1;omega);have hR1x:=hR1.kept (Keep.of_below hbx) (by simp) (by simp);have hR2:=hR1x.kept hkA hbA hrA;have hl2 : w2.rangeLeft bn wS.heap.size = w1.rangeLeft bn wS.heap.size :=
      (rangeLeft_kept hkA hbA hrA hR1x.lt.2 hR1x.lt.1).trans (rangeLeft_kept (Keep.of_below hbx) (by simp) (by simp) hR1.lt.2 hR1.lt.1)
    have hsz2 : w0.heap.size ≤ w2.heap.size:=by
      have e1:=hbx.size;have e2:=hkA.size;have e3:=Hs1.out;omega
    have hb2 : Below wS.heap.size wS w2:=hb1.trans ((hbx.mono (by have:=Hs1.out;omega)).trans (hkA.below (B:=wS.heap.size) (by simp;have:=Hs1.out;omega) fun y hy=>by have:=(hown.at_base hy).1;omega));clear hrun hen;(go_wp2_with fail);go_roundw
    case rel=>exact ⟨S ++ [p],A',cap',by simp,hR2,by simpa using hownA,hb2,hsz2⟩
    case measure=>omega
set_option maxRecDepth 100000 in
set_option maxHeartbeats 1000000 in
theorem sqdeleted (wS : World) (M : List Nat) (g bn bb b : Nat) (N : List NodeV) (L : List Id32) (h : SeqAt wS M g bn bb b N L) (hr : Ris cmpId L) (hn : L.length ≤ 1000000) :
    Calls Tryz.prog 348 #[.pointer (some ⟨g,0,none⟩)] wS fun e w'=>∃ A cap,e = .returned (.slice A L.length cap) ∧ Own w' wS.heap.size 39 32 A L.length cap (L.map idC) ∧ Below wS.heap.size wS w':=by
  have hbl:=h.gone.lt;have hc:=h.cell2;obtain ⟨w0,hrun,hR,hb0,hs0⟩:=SetAt.range (P:=Tryz.prog) (kv:=idV) (ok:=okId) h.gone Tryz.underlying75;go_enter Tryz.func348,Tryz.ntmps348
  (go_wp2_with fail);clear hrun hc h;go_loopw [3] (fun out wr=>∃ S A cap,out = .slice A S.length cap ∧ SetRange wr b wS.heap.size idV okId L S ∧ Own wr w0.heap.size 39 32 A S.length cap (S.map idC) ∧ Below wS.heap.size wS wr ∧ w0.heap.size ≤ wr.heap.size) (fun _ wr=>wr.rangeLeft b wS.heap.size)
  case atStart=>exact ⟨[],none,0,rfl,hR,Own.nil _ _ _ _,hb0,Nat.le_refl _⟩
  case round =>
    obtain ⟨S,A,cap,rfl,hR,hown,hb,hsz⟩:=hrel;rcases hR.next (P:=Tryz.prog) 0 with ⟨hall,hnd,hrun⟩ | ⟨x,w1,hxL,hxS,hrun,hR1,hk1,hs1,hl1,hen⟩
    focus
      have hp : S.Perm L:=(List.perm_ext_iff_of_nodup hnd (hr.nodup totId)).2 hall;have hSL:=hp.length_eq;have Hall:=Lib.hid hall;have HSL:=Lib.hid hSL;clear hall hSL;have hset:=ident_set wr A S.length cap S L hown.slr hp hr (by rw [HSL.out];omega) (fun e=>(hown.cap_le.2 e).2);(go_wp2_with fail);refine hset.mono ?_;rintro e w2 ⟨A2,cap2,rfl,hown2,hb2⟩;clear hset hrun;(go_wp2_with fail);go_ret;exact ⟨A2,cap2,rfl,hown2.mono (by have:=hb.size;omega),hb.trans (hb2.mono hb.size)⟩
    have hSn : S.length + 1 ≤ 1000000:=by
      obtain ⟨M,Z,hZ,hks,_,hZS,hnd⟩:=hR1;have h1:=hZ.length;have h2 : (Z.map (·.1)).length = (S ++ [x]).length:=by rw [hZS]
      have h3 : (M.map (·.1)).length ≤ L.length:=nodup_len hnd (fun y hy=>(hks y).1 hy);simp at h2 h3;omega
    have hownr : Own w1 w0.heap.size 39 32 A S.length cap (S.map idC):=hown.kept hk1 (fun y hy=>by have:=(hown.at_base hy).1;simp;omega);have hb1 : Below wS.heap.size wS w1:=hb.trans (hk1.below (B:=wS.heap.size) (by omega) (by simp));have hbx : Below w1.heap.size w1 ((w1.alloc (.cells (idC x) 39)).alloc (.cells (idC x) 39)):=((Below.refl _ _).alloc (Nat.le_refl _) _).alloc (by simp) _;have hown2:=hownr.below hbx;have hrow2 : rowAt ((w1.alloc (.cells (idC x) 39)).alloc (.cells (idC x) 39)) (w1.heap.size + 1) 0 32 = some (idC x):=by simp [go_sem]
    change (Instr.next _ _ _).run Tryz.prog wr = .ok (.tuple #[.bool true,.agg (idC x),.bool true]) w1 at hrun;change (Instr.entry _).run Tryz.prog w1 = .ok (.tuple #[.agg (idC x),.bool true]) w1 at hen;have Hs1:=Lib.hid hs1;clear hs1;go_wp2_with (at_builtin;refine L_append einfoId rfl hown2 rfl hrow2 (idC_one _) (by omega) (by omega) (by simp;have:=Hs1.out;omega) ?_;intro A' cap' w2 hownA hkA hsubA)
    have hbA : b ∉ blk A:=fun hx=>(by have:=(hown.at_base hx).1;omega);have hrA : wS.heap.size ∉ blk A:=fun hx=>(by have:=(hown.at_base hx).1;omega);have hR1x:=hR1.kept (Keep.of_below hbx) (by simp) (by simp);have hR2:=hR1x.kept hkA hbA hrA;have hl2 : w2.rangeLeft b wS.heap.size = w1.rangeLeft b wS.heap.size :=
      (rangeLeft_kept hkA hbA hrA hR1x.lt.2 hR1x.lt.1).trans (rangeLeft_kept (Keep.of_below hbx) (by simp) (by simp) hR1.lt.2 hR1.lt.1)
    have hsz2 : w0.heap.size ≤ w2.heap.size:=by
      have e1:=hbx.size;have e2:=hkA.size;have e3:=Hs1.out;omega
    have hb2 : Below wS.heap.size wS w2:=hb1.trans ((hbx.mono (by have:=Hs1.out;omega)).trans (hkA.below (B:=wS.heap.size) (by simp;have:=Hs1.out;omega) fun y hy=>by have:=(hown.at_base hy).1;omega));clear hrun hen;(go_wp2_with fail);go_roundw
    case rel=>exact ⟨S ++ [x],A',cap',by simp,hR2,by simpa using hownA,hb2,hsz2⟩
    case measure=>omega
end
section
open Go.RowKit
def RefS (w : World) (g j : Nat) (L : List NodeV) (G : List Id32) : Prop :=
  ∃ A n cap A' n' cap',w.cell? ⟨g,j,none⟩ = some (.slice A n cap) ∧ w.cell? ⟨g,j + 1,none⟩ = some (.slice A' n' cap') ∧ NodesIn w A n L ∧ TagsIn w A' n' G
end
section
open Go.RowKit
@[go_sem] theorem bsIdN_run (w : World) : (bsS 50 0 #[]).run Tryz.prog w = .ok (.slice (some ⟨w.heap.size,0,none⟩) 0 0) (w.alloc (.cells #[] 39)):=run_bsS0 einfoId w
@[go_sem ↓] theorem slId_rw (x : Value) (lo hi mx : Option Value) : Instr.sliceAt 50 x lo hi mx = slS 50 x lo hi mx:=rfl
abbrev IdsW (w : World) (A : Option Addr) (n cap : Nat) (R : List Id32) : Prop:=SlW w A n cap 32 (R.map idC)
set_option maxRecDepth 100000 in
set_option maxHeartbeats 4000000 in
theorem rwith (w : World) (A : Option Addr) (n cap : Nat) (O : List Id32) (d : Id32) (h : IdsW w A n cap O) (hn : n ≤ 1000000) (hris : Ris cmpId O) :
    Calls Tryz.prog 72 #[.slice A n cap,.agg (idC d)] w fun e w'=>∃ A' cap',e = .returned (.slice A' (insC cmpId O d).length cap') ∧ IdsW w' A' (insC cmpId O d).length cap' (insC cmpId O d) ∧ (∀ x ∈ blk A',x ∈ blk A ∨ w.heap.size ≤ x) ∧ Below w.heap.size w w':=by
  have hlen : O.length = n:=by simpa using h.len
  have hB : Below w.heap.size w (w.alloc (.cells (idC d) 39)):=(Below.refl _ _).alloc (Nat.le_refl _) _;have hd0 : rowAt (w.alloc (.cells (idC d) 39)) w.heap.size 0 32 = some (idC d):=by simp [go_sem]
  have h0:=h.below hB;have c1:=rhas6 (w.alloc (.cells (idC d) 39)) A n cap O d h0.rd (by omega);have Hlen:=Lib.hid hlen;clear hlen;by_cases hin : d ∈ O
  · rw [decide_eq_true hin] at c1;have hat:=insC_old totId hris hin;have Hat:=Lib.hid hat;clear hat hin;go_enter Tryz.func72,Tryz.ntmps72
    (go_wp2_with fail);refine c1.mono ?_;rintro e w1 ⟨rfl,hb1⟩;have h1:=h0.below hb1;have hbb:=bel2 hB hb1;clear c1;(go_wp2_with fail);go_ret;refine ⟨A,cap,by rw [Hat.out,Hlen.out];rfl,by rw [Hat.out,Hlen.out];exact h1,fun x hx=>.inl hx,hbb⟩
  · rw [decide_eq_false hin] at c1;have Hin:=Lib.hid hin;clear hin;go_enter Tryz.func72,Tryz.ntmps72
    go_upto_region 1 with fail
    obtain ⟨gx,hgx⟩ : ∃ gx,w.heap.size = gx:=⟨_,rfl⟩
    have Hgx:=Lib.hid hgx;rw [hgx] at hd0 hB ⊢;obtain ⟨W0,hW0⟩ : ∃ W0,W0 = w.alloc (.cells (idC d) 39):=⟨_,rfl⟩
    rw [← hW0] at h0 hd0 hB c1 ⊢;clear hW0 hgx;(go_wp2_with fail);refine c1.mono ?_;rintro e w1 ⟨rfl,hb1⟩;have h1:=h0.below hb1;have hbb : Below gx w w1:=hB.trans (hb1.mono (by have:=hB.size;have:=Hgx.out;omega));have hr1 : rowAt w1 gx 0 32 = some (idC d):=(rowAt_of_block (hb1.block gx (rowAt_lt hd0)) _ _).trans hd0;clear c1 hd0 hb1 hB h0;(go_wp2_with fail);go_loopw [5] (fun j wj=>∃ m : Nat,m ≤ n ∧ j = .int .i64 m ∧ Hid (∀ i (hi : i < O.length),i < m → cmpId O[i] d < 0) ∧ Below w1.heap.size w1 wj) (fun j _=>n - (intOf j).toNat)
    case atStart=>exact ⟨0,Nat.zero_le _,rfl,(show ∀ i (hi : i < O.length),i < 0 → _ from fun i _ h=>absurd h (by omega)),Below.refl _ _⟩
    case round =>
      obtain ⟨m,hmO,rfl,hlow,hbj⟩:=hrel;have hrj : rowAt wr gx 0 32 = some (idC d):=(rowAt_of_block (hbj.block gx (rowAt_lt hr1)) _ _).trans hr1;have hswj:=h1.below hbj;by_cases hmlt : m < n
      · obtain ⟨q,o,rfl,hrO⟩:=TagsIn.get hswj.rd hmlt (by rw [Hlen.out];exact hmlt);have hmem : O[m]'(by rw [Hlen.out];exact hmlt) ∈ O:=List.getElem_mem _;obtain ⟨y,hy⟩ : ∃ y,O[m]'(by rw [Hlen.out];exact hmlt) = y:=⟨_,rfl⟩
        rw [hy] at hrO hmem;have Hy:=Lib.hid hy;have Hmem:=Lib.hid hmem;clear hy hmem;have c2:=rcompare y d wr.drew;obtain ⟨c,hc⟩ : ∃ c,cmpId y d = c:=⟨_,rfl⟩
        rw [hc] at c2;have Hc:=Lib.hid hc;clear hc;go_upto_region 4 with fail
        refine wp_region_lex (Bel wr) false (by kernel_rfl) (by kernel_rfl) (by kernel_rfl) (bel_drew wr) ?_;have hne:=bel_some wr;have hS:=bel_drew wr;have b1:=sub_row hrj;have b2:=sub_row hrO;repeat (refine wpLx_loose ?_ ?_;(focus (simp only [chainOp];done));intro K hK;go_simp;refine hK _ ?_;clear hK K)
        refine wpLx_chain ?_ ?_ ?_;(focus (exact hS));(focus (simp only [chainOp];done));intro K hK;go_simp;refine (c2).mono ?_;rintro e w' ⟨rfl,hb⟩;replace hS:=bel_next hS hb;refine ⟨_,rfl,hS,hK _ _ ?_⟩;clear hK K hb;repeat (refine wpLx_loose ?_ ?_;(focus (simp only [chainOp];done));intro K hK;go_simp;refine hK _ ?_;clear hK K)
        refine wpLx_nil ?_;intro hS;have hS' : Below wr.heap.size wr w':=hS;have hbz:=bel2 hbj hS';clear b1 b2 hne hS c2;by_cases hyx : c < 0
        · (go_wp2_with fail);go_roundw
          case rel =>
            refine ⟨m + 1,by omega,by go_num,(show ∀ i (hi : i < O.length),i < m + 1 → cmpId O[i] d < 0 from fun i hi hlt=>?_),hbz⟩;by_cases e : i = m
            · subst e;rw [Hy.out,Hc.out];exact hyx
            · exact hlow.out i hi (by omega)
          case measure=>simp [intOf];omega
        · have hat:=insC_at (c:=cmpId) O d m (by rw [Hlen.out];exact hmO) hlow.out (fun hk'=>by
            rw [Hy.out,Hc.out];have h1 : c ≠ 0:=fun e=>Hin.out (by rw [← (totId.zero _ _).1 (Hc.out.trans e)];exact Hmem.out);omega)
          have Hat:=Lib.hid hat;have hsw:=h1.below hbz;have hrx : rowAt w' gx 0 32 = some (idC d):=(rowAt_of_block (hbz.block gx (rowAt_lt hr1)) _ _).trans hr1;have hBw : Below gx w w':=hbb.trans (hbz.mono (by have:=rowAt_lt hr1;omega));clear hat hrO hrj hbj hbz hS' hswj;obtain ⟨W,rfl⟩ : ∃ W,W = w':=⟨w',rfl⟩
          obtain ⟨A,hA1⟩ : ∃ A,(some ⟨q,o,none⟩ : Option Addr) = A:=⟨_,rfl⟩
          rw [hA1] at hsw ⊢;clear hA1;have hBx : Below W.heap.size W (W.alloc (.cells #[] 39)):=(Below.refl _ _).alloc (Nat.le_refl _) _;have hown0:=Own.empty W W.heap.size 39 32 (Nat.le_refl _);have hlo : ∀ w0 : World,(slS 50 (.slice A n cap) none (some (.int .i64 m)) none).run Tryz.prog w0 = .ok (.slice A m cap) w0:=fun w0=>SlW.lo einfoId hsw hmO w0;obtain ⟨Ah,ch,hhi,hhs,hhf⟩:=hsw.hi (P:=Tryz.prog) einfoId (m:=m) hmO;have hslo : SlR (W.alloc (.cells #[] 39)) A m 32 ((O.map idC).take m):=(hsw.rd.below hBx).take_ hmO;have hf1:=hsw.nil;have hrone : ∀ r ∈ (O.map idC).take m,∀ u ∈ r.toList,u.oneCell' = true:=fun r hr=>(by obtain ⟨y',_,rfl⟩:=List.mem_map.1 (List.mem_of_mem_take hr);exact idC_one _);have hrone2 : ∀ r ∈ (O.map idC).drop m,∀ u ∈ r.toList,u.oneCell' = true:=fun r hr=>(by obtain ⟨y',_,rfl⟩:=List.mem_map.1 (List.mem_of_mem_drop hr);exact idC_one _);go_upto_region 7 with (at_builtin;refine L_appends einfoId rfl hown0 rfl hslo hf1 hrone (by omega) (by omega) (by simp) ?_;intro A2 cap2 w2 hown2 hk2 hsub2)
          simp only [Nat.zero_add,List.nil_append] at hown2;have hwW : Below W.heap.size W w2:=hBx.trans (hk2.below (by simp) (by simp [blk]));have hrw2 : rowAt w2 gx (0) 32 = some (idC d):=(rowAt_of_block (hwW.block gx (rowAt_lt hrx)) _ _).trans hrx;have hB3 : Below w2.heap.size w2 (w2.alloc (.cells (idC d) 39)):=(Below.refl _ _).alloc (Nat.le_refl _) _;have hown3:=hown2.below hB3;have hrow3 : rowAt (w2.alloc (.cells (idC d) 39)) w2.heap.size 0 32 = some (idC d):=by simp [go_sem]
          have hsz2:=hwW.size;go_upto_region 8 with (at_builtin;refine L_append einfoId rfl hown3 rfl hrow3 (idC_one _) (by omega) (by omega) (by simp;omega) ?_;intro A4 cap4 w4 hown4 hk4 hsub4)
          have hwW4 : Below W.heap.size W w4:=(hwW.trans (hB3.mono hsz2)).trans (hk4.below (by simp;omega) (fun x hx=>(hown2.at_base hx).1));have hs4:=hhs w4 (hsw.rd.below hwW4);have hsz4:=hwW4.size;clear hown3 hrow3 hB3 hown0 hBx hslo hrw2 hlo;go_upto_region 9 with (at_builtin;refine L_appends einfoId rfl hown4 rfl hs4 hhf hrone2 (by omega) (by omega) (by omega) ?_;intro A5 cap5 w5 hown5 hk5 hsub5)
          have hwW5 : Below W.heap.size W w5:=hwW4.trans (hk5.below (by omega) (fun x hx=>(hown4.at_base hx).1));have hO5 : (O.map idC).take m ++ [idC d] ++ (O.map idC).drop m = (O.take m ++ d :: O.drop m).map idC:=by simp [List.map_take,List.map_drop]
          rw [hO5] at hown5;clear hown4 hown2 hO5 hs4 hhi hhs hrone hrone2 hf1;have hL5 : (O.take m ++ d :: O.drop m).length = m + 1 + (n - m):=by simp [Hlen.out];omega
          have hLn : (insC cmpId O d).length = m + 1 + (n - m):=by rw [Hat.out,hL5]
          rw [← Hat.out] at hown5;have HLn:=Lib.hid hLn;have hBf:=hBw.trans (hwW5.mono (by have:=rowAt_lt hrx;omega));have hbase : ∀ x ∈ blk A5,w.heap.size ≤ x:=fun x hx=>(by have h1:=(hown5.at_base hx).1;have h2:=hBw.size;have h3:=Hgx.out;omega);have HB:=Lib.hid hBf;have Hbase:=Lib.hid hbase;have Hown5:=Lib.hid hown5;clear hL5 hLn hBf hbase hown5;(go_wp2_with fail);go_ret;exact ⟨A5,cap5,by rw [HLn.out];rfl,by rw [HLn.out];exact Hown5.out.slw,fun x hx=>.inr (Hbase.out x hx),by rw [Hgx.out];exact HB.out⟩
      · have hd : decide (m < n) = false:=by simpa using hmlt
        have hat:=insC_at (c:=cmpId) O d m (by rw [Hlen.out];exact hmO) hlow.out (fun hk'=>absurd (by rw [← Hlen.out];exact hk') hmlt);have Hat:=Lib.hid hat;clear hat;go_upto_region 4 with fail
        refine wp_region_lex (Bel wr) false (by kernel_rfl) (by kernel_rfl) (by kernel_rfl) (bel_drew wr) ?_;have hne:=bel_some wr;have hS:=bel_drew wr;repeat (refine wpLx_loose ?_ ?_;(focus (simp only [chainOp];done));intro K hK;go_simp;refine hK _ ?_;clear hK K)
        refine wpLx_chain ?_ ?_ ?_;(focus (exact hS));(focus (simp only [chainOp];done));intro K hK;go_simp;refine hK _ _ ?_;clear hK K;repeat (refine wpLx_loose ?_ ?_;(focus (simp only [chainOp];done));intro K hK;go_simp;refine hK _ ?_;clear hK K)
        refine wpLx_nil ?_;intro hS;have hbz:=hbj.drew;have hsw:=h1.below hbz;have hrx : rowAt wr.drew gx 0 32 = some (idC d):=hrj;have hBw : Below gx w wr.drew:=hbb.trans (hbz.mono (by have:=rowAt_lt hr1;omega));clear hne hS hbz hrj hbj hmlt hd hswj;obtain ⟨W,hW⟩ : ∃ W,wr.drew = W:=⟨_,rfl⟩
        rw [hW] at hsw hBw hrx ⊢;clear hW;have hBx : Below W.heap.size W (W.alloc (.cells #[] 39)):=(Below.refl _ _).alloc (Nat.le_refl _) _;have hown0:=Own.empty W W.heap.size 39 32 (Nat.le_refl _);have hlo : ∀ w0 : World,(slS 50 (.slice A n cap) none (some (.int .i64 m)) none).run Tryz.prog w0 = .ok (.slice A m cap) w0:=fun w0=>SlW.lo einfoId hsw hmO w0;obtain ⟨Ah,ch,hhi,hhs,hhf⟩:=hsw.hi (P:=Tryz.prog) einfoId (m:=m) hmO;have hslo : SlR (W.alloc (.cells #[] 39)) A m 32 ((O.map idC).take m):=(hsw.rd.below hBx).take_ hmO;have hf1:=hsw.nil;have hrone : ∀ r ∈ (O.map idC).take m,∀ u ∈ r.toList,u.oneCell' = true:=fun r hr=>(by obtain ⟨y',_,rfl⟩:=List.mem_map.1 (List.mem_of_mem_take hr);exact idC_one _);have hrone2 : ∀ r ∈ (O.map idC).drop m,∀ u ∈ r.toList,u.oneCell' = true:=fun r hr=>(by obtain ⟨y',_,rfl⟩:=List.mem_map.1 (List.mem_of_mem_drop hr);exact idC_one _);go_upto_region 7 with (at_builtin;refine L_appends einfoId rfl hown0 rfl hslo hf1 hrone (by omega) (by omega) (by simp) ?_;intro A2 cap2 w2 hown2 hk2 hsub2)
        simp only [Nat.zero_add,List.nil_append] at hown2;have hwW : Below W.heap.size W w2:=hBx.trans (hk2.below (by simp) (by simp [blk]));have hrw2 : rowAt w2 gx (0) 32 = some (idC d):=(rowAt_of_block (hwW.block gx (rowAt_lt hrx)) _ _).trans hrx;have hB3 : Below w2.heap.size w2 (w2.alloc (.cells (idC d) 39)):=(Below.refl _ _).alloc (Nat.le_refl _) _;have hown3:=hown2.below hB3;have hrow3 : rowAt (w2.alloc (.cells (idC d) 39)) w2.heap.size 0 32 = some (idC d):=by simp [go_sem]
        have hsz2:=hwW.size;go_upto_region 8 with (at_builtin;refine L_append einfoId rfl hown3 rfl hrow3 (idC_one _) (by omega) (by omega) (by simp;omega) ?_;intro A4 cap4 w4 hown4 hk4 hsub4)
        have hwW4 : Below W.heap.size W w4:=(hwW.trans (hB3.mono hsz2)).trans (hk4.below (by simp;omega) (fun x hx=>(hown2.at_base hx).1));have hs4:=hhs w4 (hsw.rd.below hwW4);have hsz4:=hwW4.size;clear hown3 hrow3 hB3 hown0 hBx hslo hrw2 hlo;go_upto_region 9 with (at_builtin;refine L_appends einfoId rfl hown4 rfl hs4 hhf hrone2 (by omega) (by omega) (by omega) ?_;intro A5 cap5 w5 hown5 hk5 hsub5)
        have hwW5 : Below W.heap.size W w5:=hwW4.trans (hk5.below (by omega) (fun x hx=>(hown4.at_base hx).1));have hO5 : (O.map idC).take m ++ [idC d] ++ (O.map idC).drop m = (O.take m ++ d :: O.drop m).map idC:=by simp [List.map_take,List.map_drop]
        rw [hO5] at hown5;clear hown4 hown2 hO5 hs4 hhi hhs hrone hrone2 hf1;have hL5 : (O.take m ++ d :: O.drop m).length = m + 1 + (n - m):=by simp [Hlen.out];omega
        have hLn : (insC cmpId O d).length = m + 1 + (n - m):=by rw [Hat.out,hL5]
        rw [← Hat.out] at hown5;have HLn:=Lib.hid hLn;have hBf:=hBw.trans (hwW5.mono (by have:=rowAt_lt hrx;omega));have hbase : ∀ x ∈ blk A5,w.heap.size ≤ x:=fun x hx=>(by have h1:=(hown5.at_base hx).1;have h2:=hBw.size;have h3:=Hgx.out;omega);have HB:=Lib.hid hBf;have Hbase:=Lib.hid hbase;have Hown5:=Lib.hid hown5;clear hL5 hLn hBf hbase hown5;(go_wp2_with fail);go_ret;exact ⟨A5,cap5,by rw [HLn.out];rfl,by rw [HLn.out];exact Hown5.out.slw,fun x hx=>.inr (Hbase.out x hx),by rw [Hgx.out];exact HB.out⟩
set_option maxHeartbeats 1000000 in
theorem rset (w : World) (A : Option Addr) (n cap : Nat) (R : List Id32) (h : TagsIn w A n R) (hn : n ≤ 1000000) :
    Calls Tryz.prog 165 #[.slice A n cap] w fun e w'=>∃ A' cap',e = .returned (.slice A' (sortC cmpId R).length cap') ∧ IdsW w' A' (sortC cmpId R).length cap' (sortC cmpId R) ∧ (∀ x ∈ blk A',w.heap.size ≤ x) ∧ Below w.heap.size w w':=by
  have hlen:=h.len;have Hlen:=Lib.hid hlen;clear hlen;go_enter Tryz.func165,Tryz.ntmps165
  (go_wp2_with fail);go_loopw [3,4] (fun out i wr=>∃ (k : Nat) (A1 : Option Addr) (n1 cap1 : Nat) (O : List Id32),k ≤ n ∧ i = .int .i64 k ∧ out = .slice A1 n1 cap1 ∧ Hid (O = sortC cmpId (R.take k)) ∧ IdsW wr A1 n1 cap1 O ∧ (∀ x ∈ blk A1,w.heap.size ≤ x) ∧ Below w.heap.size w wr) (fun _ i _=>n - (intOf i).toNat)
  case atStart=>exact ⟨0,none,0,0,[],Nat.zero_le _,rfl,rfl,rfl,SlW.none_,by simp [blk],Below.refl _ _⟩
  case round =>
    obtain ⟨k,A1,n1,cap1,O,hk,rfl,rfl,hO,hsw,hbs,hb⟩:=hrel;have hn1 : O.length = n1:=by simpa using hsw.len
    by_cases hlt : k < n
    · obtain ⟨q,o,rfl,hr⟩:=TagsIn.get (SlR.below h hb) hlt (by rw [Hlen.out];exact hlt);have htk : sortC cmpId (R.take (k + 1)) = insC cmpId O (R[k]'(by rw [Hlen.out];exact hlt)):=by
        rw [List.take_add_one,List.getElem?_eq_getElem (by rw [Hlen.out];exact hlt),Option.toList_some,sortC_snoc,hO.out]
      have hol : n1 ≤ 1000000:=by have:=sortC_length (c:=cmpId) (R.take k);rw [← hO.out] at this;simp at this;have:=Hlen.out;omega
      have hris : Ris cmpId O:=by rw [hO.out];exact ris_sortC totId _
      obtain ⟨d,hd⟩ : ∃ d,R[k]'(by rw [Hlen.out];exact hlt) = d:=⟨_,rfl⟩
      rw [hd] at hr htk;have Htk:=Lib.hid htk;have Hol:=Lib.hid hol;have Hris:=Lib.hid hris;clear hd htk hn1 hol hris;have c1:=rwith wr A1 n1 cap1 O d hsw Hol.out Hris.out;(go_wp2_with fail);refine c1.mono ?_;rintro e w1 ⟨A2,cap2,rfl,hsw2,hsub2,hb1⟩;have hbb:=hb.trans (hb1.mono hb.size);have hsz:=hb.size;clear c1;(go_wp2_with fail);go_roundw
      case rel=>exact ⟨k + 1,A2,_,cap2,_,by omega,by go_num,rfl,(show _ = _ from Htk.out.symm),hsw2,fun x hx=>(hsub2 x hx).elim (hbs x) (fun h=>by omega),hbb⟩
      case measure=>simp [intOf];omega
    · have e : R.take k = R:=List.take_of_length_le (by rw [Hlen.out];omega);have hO':=hO.out;rw [e] at hO';subst hO';subst hn1;clear hO e;(go_wp2_with fail);go_ret;exact ⟨A1,cap1,rfl,hsw,hbs,hb⟩
end
section
open Go.RowKit
end
section
open Go.RowKit
theorem infoRMRow : (Tryz.prog.info? 210).map (·.size) = some 34:=by kernel_rfl
@[go_sem ↓] theorem zeroRMRow_run (w : World) : (zeroValue 210).run Tryz.prog w = .ok (.agg (mRowC mRow0)) w:=by
  have h : (Tryz.prog.info? 210).bind (·.zero) = some (.agg (mRowC mRow0)):=by kernel_rfl
  cases hi : Tryz.prog.info? 210 with
  | none=>rw [hi] at h;cases h
  | some i =>
    rw [hi] at h;have hz : i.zero = some (.agg (mRowC mRow0)):=h;simp [zeroValue,typeInfo,hi,hz]
@[go_sem ↓] theorem loadRMRow_rw (a : Addr) : loadVar 210 a = ldS 210 a:=rfl
@[go_sem ↓] theorem storeRMRow_rw (a : Addr) (v : Value) : storeVar 210 a v = stS 210 a v:=rfl
theorem fieldsRMRow : Tryz.prog.underlying 210 = some (.struct (Tryz.prog.fieldsOf 210)):=by kernel_rfl
theorem placesRMRow (w : World) : ((Tryz.prog.fieldsOf 210).mapM fun (f : Field)=>do pure (f.offset,← sizeOf f.type)).run Tryz.prog w = .ok #[(0,32),(32,1),(33,1)] w:=by kernel_rfl
@[go_sem ↓] theorem buildRMRow_rw (parts : Array (Nat × Value)) : Instr.build 210 parts = bdS 210 parts:=rfl
theorem einfoRM : ElemInfo Tryz.prog 62 210 34 64 :=
  .of (z:=.agg (mRowC mRow0)) Tryz.underlying62 (by kernel_rfl) (by kernel_rfl) (by kernel_rfl) (mRowC_size _) (by omega)
@[go_sem ↓] theorem bsRM_rw (n : Nat) (parts : Array (Nat × Value)) : Instr.buildSlice 62 n parts = bsS 62 n parts:=rfl
@[go_sem ↓] theorem slRM_rw (x : Value) (lo hi mx : Option Value) : Instr.sliceAt 62 x lo hi mx = slS 62 x lo hi mx:=rfl
def mEqB (x y : MRow) : Bool:=(x.id == y.id) && ((x.key.toList == y.key.toList) && (x.val.toList == y.val.toList))
theorem eqRM_in (x y : MRow) (w : World) : (Op.equalIn 10000 210 (.agg (mRowC x)) (.agg (mRowC y))).run Tryz.prog w = .ok (mEqB x y) w:=by
  rw [show (10000 : Nat) = 9999 + 1 from rfl,run_equalIn_agg w 9999 210 _ _ fieldsRMRow (by kernel_rfl)];unfold mEqB;have e1:=eqId_in 9997 x.id y.id w;have e2:=run_equalIn_string (P:=Tryz.prog) w 9998 9 x.key y.key Tryz.underlying9;have e3:=run_equalIn_string (P:=Tryz.prog) w 9998 9 x.val y.val Tryz.underlying9;simp only [Program.fieldsOf,Tryz.underlying210];simp [Op.eqFields,part,asAgg,isAgg,go_sem,Tryz.underlying9,Tryz.underlying39,e1,e2,e3];cases h1 : (x.id == y.id) <;> cases h2 : (x.key.toList == y.key.toList) <;> cases h3 : (x.val.toList == y.val.toList) <;> simp_all
abbrev MRowsIn (w : World) (A : Option Addr) (n : Nat) (R : List MRow) : Prop:=SlR w A n 34 (R.map mRowC)
end
section
open Go.RowKit
def RefM (w : World) (g j : Nat) (X : List MRow) (G : List Id32) : Prop :=
  ∃ A n cap A' n' cap',w.cell? ⟨g,j,none⟩ = some (.slice A n cap) ∧ w.cell? ⟨g,j + 1,none⟩ = some (.slice A' n' cap') ∧ MRowsIn w A n X ∧ TagsIn w A' n' G
def lvM (X : List MRow) (G : List Id32) : List MRow:=sortC cmpMR (X.filter fun x=>decide (x.id ∉ G))
end
section
open Go.RowKit
end
section
open Go.RowKit
end
section
open Go.RowKit
abbrev OwnW (w : World) (B : Nat) (A : Option Addr) (cap : Nat) (R : List ByteArray) : Prop:=Own w B 98 2 A R.length cap (R.map pairW)
end
section
open Go.RowKit
def RefI3 (w : World) (g : Nat) (X G : List BRow) : Prop :=
  ∃ A n cap A' n' cap',w.cell? ⟨g,3,none⟩ = some (.slice A n cap) ∧ w.cell? ⟨g,4,none⟩ = some (.slice A' n' cap') ∧ RowsIn w A n X ∧ RowsIn w A' n' G
end
section
open Go.RowKit
def rdoO (m : MarkV) (o : OpV) (x : RV) : RV :=
  if o.k = 1 then { x with tal:=wrap64 (x.tal + o.n) }
  else if o.k = 2 then { x with adds:=x.adds ++ [⟨m.id,o.val⟩] }
  else if o.k = 3 then { x with gone:=x.gone ++ o.refs.map fun t=>⟨t,o.val⟩ }
  else if o.k = 4 then { x with last:=x.last ++ [⟨o.key,o.val,o.n,m.id⟩] }
  else if o.k = 5 then { x with mL:=x.mL ++ [⟨m.id,o.key,o.val⟩],mO:=sortC cmpId (x.mO ++ o.refs) }
  else if o.k = 6 then { x with sL:=insN x.sL ⟨m.id,m.h,o.ref,o.val⟩ }
  else { x with sG:=insC cmpId x.sG o.ref }
def RV.len (x : RV) : Nat:=x.adds.length + x.gone.length + x.last.length + x.mL.length + x.mO.length + x.sL.length + x.sG.length
structure RVOk (x : RV) : Prop where
  adds : ∀ r ∈ x.adds,small r
  gone : ∀ r ∈ x.gone,small r
  last : ∀ r ∈ x.last,checkE r.key (rowS r) = 0
  mL : ∀ r ∈ x.mL,r.key.size ≤ 16 ∧ r.val.size ≤ 16
  mO : Ris cmpId x.mO
  sL : NodesOk x.sL
  sG : Ris cmpId x.sG
theorem rvOk0 : RVOk rv0:=⟨by simp [rv0],by simp [rv0],by simp [rv0],by simp [rv0],Ris.nil,NodesOk.nil,Ris.nil⟩
def SlX (w : World) (g : Nat) (s : Sl) (k : Nat) (R : List (Array Value)) : Prop:=SlW w s.A s.n s.c k R ∧ g ∉ blk s.A
def rvC (t : ByteArray) (si : Sl) (tal : Int) (sa sg sl sm so ss sd : Sl) : Array Value:=#[.string t,slV si,.int .i64 tal,slV sa,slV sg,slV sl,slV sm,slV so,slV ss,slV sd]
structure RVIn (w : World) (g : Nat) (t : ByteArray) (I : List Id32) (x : RV) (si sa sg sl sm so ss sd : Sl) : Prop where
  hp : w.heap[g]? = some (.cells (rvC t si x.tal sa sg sl sm so ss sd) 69 (0,0))
  ids : SlX w g si 32 (I.map idC)
  adds : SlX w g sa 33 (x.adds.map bRowC)
  gone : SlX w g sg 33 (x.gone.map bRowC)
  last : SlX w g sl 35 (x.last.map rowC)
  mL : SlX w g sm 34 (x.mL.map mRowC)
  mO : SlX w g so 32 (x.mO.map idC)
  sL : SlX w g ss 66 (x.sL.map nodeC)
  sG : SlX w g sd 32 (x.sG.map idC)
def RVAt (w : World) (g : Nat) (t : ByteArray) (I : List Id32) (x : RV) : Prop:=∃ si sa sg sl sm so ss sd,RVIn w g t I x si sa sg sl sm so ss sd
section
variable {w w' : World} {g : Nat} {t : ByteArray} {I : List Id32} {x : RV} {si sa sg sl sm so ss sd : Sl}
end
end
section
open Go.RowKit
theorem einfoRow : ElemInfo Tryz.prog 61 207 35 72 :=
  .of (z:=.agg (rowC row0)) Tryz.underlying61 (by kernel_rfl) (by kernel_rfl) (by kernel_rfl) (rowC_size _) (by omega)
@[go_sem ↓] theorem bsRow_rw (n : Nat) (parts : Array (Nat × Value)) : Instr.buildSlice 61 n parts = bsS 61 n parts:=rfl
abbrev OwnLR (w : World) (B : Nat) (A : Option Addr) (cap : Nat) (R : List Row) : Prop:=Own w B 207 35 A R.length cap (R.map rowC)
end
section
open Go.RowKit
end
section
open Go.RowKit
def hasS (k : Nat) : ByteArray:=if k = 1 then ⟨#[78]⟩ else if k = 2 then ⟨#[86]⟩ else if k = 3 then ⟨#[86,83]⟩ else if k = 4 then ⟨#[75,86,78]⟩ else if k = 5 then ⟨#[75,86,83]⟩ else if k = 6 then ⟨#[82,86]⟩ else if k = 7 then ⟨#[82]⟩ else ⟨#[]⟩
theorem rop_has (k : Nat) (w : World) (hk : k ≤ 9223372036854775807) : Calls Tryz.prog 66 #[.int .i64 k] w fun e w'=>e = .returned (.string (hasS k)) ∧ w = w':=by
  by_cases h : k ≤ 7
  · have h8 : k = 0 ∨ k = 1 ∨ k = 2 ∨ k = 3 ∨ k = 4 ∨ k = 5 ∨ k = 6 ∨ k = 7:=by omega
    rcases h8 with rfl | rfl | rfl | rfl | rfl | rfl | rfl | rfl
    all_goals
      go_enter Tryz.func66,Tryz.ntmps66
      (go_wp2_with fail);go_ret;exact ⟨rfl,rfl⟩
  · have hs : hasS k = ⟨#[]⟩:=by unfold hasS;rw [if_neg (by omega),if_neg (by omega),if_neg (by omega),if_neg (by omega),if_neg (by omega),if_neg (by omega),if_neg (by omega)]
    have Hs:=Lib.hid hs;have h1 : ((k : Int) == 1) = false:=by simp;omega
    have h2 : ((k : Int) == 2) = false:=by simp;omega
    have h3 : ((k : Int) == 3) = false:=by simp;omega
    have h4 : ((k : Int) == 4) = false:=by simp;omega
    have h5 : ((k : Int) == 5) = false:=by simp;omega
    have h6 : ((k : Int) == 6) = false:=by simp;omega
    have h7 : ((k : Int) == 7) = false:=by simp;omega
    clear hs h;go_enter Tryz.func66,Tryz.ntmps66
    (go_wp2_with fail);go_ret;exact ⟨by rw [Hs.out];rfl,rfl⟩
end
section
open Go.RowKit
structure OfS where
  n : Int
  key : ByteArray
  val : ByteArray
  ref : Id32
  refs : List Id32
  l : List UInt8
  e : Int
def ofS0 (l : List UInt8) (e : Int) : OfS:=⟨0,⟨#[]⟩,⟨#[]⟩,id0,[],l,e⟩
def ofLoop (N : Nat) (s : IdsR) : IdsR:=idLoop N s
def ofStep (k : Nat) (s : OfS) (c : UInt8) : OfS :=
  if c = 78 then ⟨if k = 1 then (numV 4 s.l s.e : Int) - 2147483648 else (numV 4 s.l s.e : Int),s.key,s.val,s.ref,s.refs,rawL 4 s.l s.e,rawE 4 s.l s.e⟩
  else if c = 75 then ⟨s.n,txV s.l s.e,s.val,s.ref,s.refs,txL s.l s.e,txE s.l s.e⟩
  else if c = 86 then ⟨s.n,s.key,txV s.l s.e,s.ref,s.refs,txL s.l s.e,txE s.l s.e⟩
  else if c = 82 then ⟨s.n,s.key,s.val,idOf (rawV 32 s.l s.e),s.refs,rawL 32 s.l s.e,rawE 32 s.l s.e⟩
  else ⟨s.n,s.key,s.val,s.ref,(ofLoop (numV 1 s.l s.e) ⟨s.refs,rawL 1 s.l s.e,rawE 1 s.l s.e⟩).ids,(ofLoop (numV 1 s.l s.e) ⟨s.refs,rawL 1 s.l s.e,rawE 1 s.l s.e⟩).l,(ofLoop (numV 1 s.l s.e) ⟨s.refs,rawL 1 s.l s.e,rawE 1 s.l s.e⟩).e⟩
section
variable (k : Nat) (n : Int) (key val : ByteArray) (ref : Id32) (refs : List Id32) (l : List UInt8) (e : Int)
end
def OfS.op (k : Nat) (s : OfS) : OpR:=⟨⟨k,s.n,s.key,s.val,s.ref,s.refs⟩,s.l,s.e⟩
end
section
open Go.RowKit
def inB (s : ByteArray) (c : Int) : Bool:=s.data.toList.any fun b=>((b.toNat : Int) == c)
theorem rop_in (s : ByteArray) (c : Int) (w : World) (hs : s.size ≤ 9223372036854775807) : Calls Tryz.prog 144 #[.string s,.int .u8 c] w fun e w'=>e = .returned (.bool (inB s c)) ∧ w = w':=by
  have hlen : s.data.toList.length = s.size:=Array.length_toList;have hin : inB s c = (s.data.toList.drop 0).any fun b=>((b.toNat : Int) == c):=rfl;have Hin:=Lib.hid hin;clear hin;go_enter Tryz.func144,Tryz.ntmps144
  (go_wp2_with fail);go_loopw [5] (fun i wr=>∃ k : Nat,k ≤ s.size ∧ i = .int .i64 k ∧ wr = w ∧ Hid (inB s c = (s.data.toList.drop k).any fun b=>((b.toNat : Int) == c))) (fun i _=>s.size - (intOf i).toNat)
  case atStart=>exact ⟨0,Nat.zero_le _,rfl,rfl,Hin⟩
  case round =>
    obtain ⟨k,hk,rfl,rfl,hd⟩:=hrel;by_cases hlt : k < s.size
    · have hg : s.data.toList.drop k = s[k]'hlt :: s.data.toList.drop (k + 1):=by
        rw [List.drop_eq_getElem_cons (show k < s.data.toList.length by rw [hlen];exact hlt)];rfl
      have hd2:=hd.out;rw [hg,List.any_cons] at hd2;obtain ⟨b,hb⟩ : ∃ b,s[k]'hlt = b:=⟨_,rfl⟩
      rw [hb] at hd2;cases hc : ((b.toNat : Int) == c) with
      | true =>
        rw [hc,Bool.true_or] at hd2;have Hd:=Lib.hid hd2;clear hd hd2 hg;(go_wp2_with fail);go_ret;exact ⟨ret_bool (by rw [Hd.out]),rfl⟩
      | false =>
        rw [hc,Bool.false_or] at hd2;have Hd:=Lib.hid hd2;clear hd hd2 hg;(go_wp2_with fail);go_roundw
        case rel=>exact ⟨k + 1,by omega,by go_num,trivial,Hd⟩
        case measure=>simp [intOf];omega
    · have hd2:=hd.out;rw [List.drop_eq_nil_of_le (by rw [hlen];omega)] at hd2;have Hd:=Lib.hid hd2;clear hd hd2;(go_wp2_with fail);go_ret;exact ⟨ret_bool (by rw [Hd.out];rfl),rfl⟩
end
section
open Go.RowKit
set_option maxHeartbeats 1000000 in
theorem rsame_ids (w : World) (A B : Option Addr) (n m cap cap' : Nat) (X Y : List Id32) (hx : TagsIn w A n X) (hy : TagsIn w B m Y) (hn : n ≤ 1000000) (hm : m ≤ 1000000) :
    Calls Tryz.prog 32 #[.slice A n cap,.slice B m cap'] w fun e w'=>e = .returned (.bool (decide (X = Y))) ∧ Below w.heap.size w w':=by
  have hlx:=hx.len;have hly:=hy.len;have Hlx:=Lib.hid hlx;have Hly:=Lib.hid hly;by_cases hnm : n = m
  · subst hnm;clear hlx hly;go_enter Tryz.func32,Tryz.ntmps32
    (go_wp2_with fail);go_loopw [5] (fun i wr=>∃ k : Nat,k ≤ n ∧ i = .int .i64 k ∧ Hid (X.take k = Y.take k) ∧ Below w.heap.size w wr) (fun i _=>n - (intOf i).toNat)
    case atStart=>exact ⟨0,Nat.zero_le _,rfl,rfl,Below.refl _ _⟩
    case round =>
      obtain ⟨k,hk,rfl,heq,hb⟩:=hrel;by_cases hlt : k < n
      · obtain ⟨q,o,rfl,hr⟩:=TagsIn.get (SlR.below hx hb) hlt (by rw [Hlx.out];exact hlt);obtain ⟨q2,o2,rfl,hr2⟩:=TagsIn.get (SlR.below hy hb) hlt (by rw [Hly.out];exact hlt);have hX : X.take (k + 1) = X.take k ++ [X[k]'(by rw [Hlx.out];exact hlt)]:=by rw [List.take_add_one,List.getElem?_eq_getElem (by rw [Hlx.out];exact hlt)];rfl
        have hY : Y.take (k + 1) = Y.take k ++ [Y[k]'(by rw [Hly.out];exact hlt)]:=by rw [List.take_add_one,List.getElem?_eq_getElem (by rw [Hly.out];exact hlt)];rfl
        obtain ⟨x,hx'⟩ : ∃ x,X[k]'(by rw [Hlx.out];exact hlt) = x:=⟨_,rfl⟩
        obtain ⟨y,hy'⟩ : ∃ y,Y[k]'(by rw [Hly.out];exact hlt) = y:=⟨_,rfl⟩
        rw [hx'] at hr hX;rw [hy'] at hr2 hY;have HX:=Lib.hid hX;have HY:=Lib.hid hY;clear hX hY;have HX':=Lib.hid hx';have HY':=Lib.hid hy';clear hx' hy';go_upto_region 6 with fail
        refine wp_region_lex (Bel wr) false (by kernel_rfl) (by kernel_rfl) (by kernel_rfl) (bel_drew wr) ?_;have hne:=bel_some wr;have hS:=bel_drew wr;have b1:=sub_row hr;have b2:=sub_row hr2;repeat (refine wpLx_loose ?_ ?_;(focus (simp only [chainOp];done));intro K hK;go_simp;refine hK _ ?_;clear hK K)
        refine wpLx_nil ?_;intro hS;clear hne hS b1 b2 hr hr2;have hb' : Below w.heap.size w wr.drew:=hb.drew;cases hpe : (x == y) with
        | true =>
          have e:=beq_iff_eq.1 hpe;have E:=Lib.hid e;clear e;(go_wp2_with fail);go_roundw
          case rel=>exact ⟨k + 1,by omega,by go_num,(show X.take (k + 1) = Y.take (k + 1) by rw [HX.out,HY.out,heq.out,E.out]),hb'⟩
          case measure=>simp [intOf];omega
        | false =>
          have hne : X ≠ Y:=by
            intro e;subst e;have : x = y:=HX'.out.symm.trans HY'.out;rw [beq_iff_eq.2 this] at hpe;cases hpe
          have hd:=Lib.hid (decide_eq_false hne);clear hne;(go_wp2_with fail);go_ret;exact ⟨ret_bool (by rw [hd.out]),hb'⟩
      · have hkn : k = n:=by omega
        have e : X = Y:=by
          have:=heq.out
          rwa [List.take_of_length_le (by rw [Hlx.out];omega),List.take_of_length_le (by rw [Hly.out];omega)] at this
        have E:=Lib.hid (decide_eq_true e);clear e hkn;(go_wp2_with fail);go_ret;exact ⟨ret_bool (by rw [E.out]),hb⟩
  · have hne : X ≠ Y:=by intro e;subst e;exact hnm (hlx.symm.trans hly)
    have hd:=Lib.hid (decide_eq_false hne);have hnm2 : (n == m) = false:=by simpa using hnm
    have hnm3 : ((n : Int) == (m : Int)) = false:=by rw [beq_eq_false_iff_ne];omega
    clear hlx hly hne;go_enter Tryz.func32,Tryz.ntmps32
    (go_wp2_with fail);go_ret;exact ⟨ret_bool (by rw [hd.out]),Below.refl _ _⟩
end
section
open Go.RowKit
theorem ris_sort (R : List Id32) : decide (R = sortC cmpId R) = risI R:=by
  rw [Bool.eq_iff_iff,decide_eq_true_eq,risI_ok];exact ⟨fun h=>by rw [h];exact ris_sortC totId R,fun h=>(sortC_ris totId h).symm⟩
theorem ris6 (w : World) (A : Option Addr) (n cap : Nat) (R : List Id32) (h : TagsIn w A n R) (hn : n ≤ 1000000) :
    Calls Tryz.prog 97 #[.slice A n cap] w fun e w'=>e = .returned (.bool (risI R)) ∧ Below w.heap.size w w':=by
  have hlen:=h.len;have hsl:=sortC_length (c:=cmpId) R;rw [hlen] at hsl;have c1:=rset w A n cap R h hn;have c2:=fun w1 (hb : Below w.heap.size w w1) A' cap' (hs : IdsW w1 A' (sortC cmpId R).length cap' (sortC cmpId R))=>rsame_ids w1 A A' n (sortC cmpId R).length cap cap' R (sortC cmpId R) (SlR.below h hb) hs.rd hn (by omega);have Hs:=Lib.hid (ris_sort R);clear hlen hsl;go_enter Tryz.func97,Tryz.ntmps97
  (go_wp2_with fail);refine c1.mono ?_;rintro e w1 ⟨A',cap',rfl,hs,_,hb1⟩;(go_wp2_with fail);refine (c2 w1 hb1 A' cap' hs).mono ?_;rintro e w2 ⟨rfl,hb2⟩;(go_wp2_with fail);go_ret;exact ⟨ret_bool (by rw [Hs.out]),bel2 hb1 hb2⟩
theorem emptyS : (⟨#[]⟩ : ByteArray).size = 0:=rfl
set_option maxRecDepth 100000 in
set_option maxHeartbeats 4000000 in
theorem rop_check (o : OpV) (A : Option Addr) (c : Nat) (w : World) (h : plainO o) (hT : TagsIn w A o.refs.length o.refs) (hl : o.refs.length ≤ 1000000) (hks : o.key.size ≤ 9223372036854775807) (hvs : o.val.size ≤ 9223372036854775807) :
    Calls Tryz.prog 70 #[.agg (opC o A c)] w fun e w'=>e = .returned (.int .i64 (chkN o)) ∧ Below w.heap.size w w':=by
  have hT0 : TagsIn (w.alloc (.cells (opC o A c) 52)) A o.refs.length o.refs:=SlR.below hT ((Below.refl _ _).alloc (Nat.le_refl _) _);have hck : chkN o = if 16 < o.key.size ∨ 16 < o.val.size then 3 else if numO o = false then 5 else if 8 < o.refs.length then 6 else if risI o.refs = false then 4 else 0:=rfl;have hno : numO o = (!(decide (o.k = 4) && decide (o.n < 0)) && (decide (o.n < 2147483648) && decide (-2147483648 ≤ o.n))):=rfl;obtain ⟨rb,hrb⟩ : ∃ rb,risI o.refs = rb:=⟨_,rfl⟩
  rw [hrb] at hck;rw [hno] at hck;obtain ⟨k,n,key,val,ref,refs⟩:=o;unfold opC at hT0 ⊢;unfold plainO at h;dsimp only at *;have Hck:=Lib.hid hck;have Hrb:=Lib.hid hrb;clear hck hno hrb hT;rcases h with ⟨rfl,rfl,rfl,rfl,rfl⟩ | ⟨rfl,rfl,rfl,rfl,rfl⟩ | ⟨rfl,rfl,rfl,rfl⟩ | ⟨rfl,rfl,rfl⟩ | ⟨rfl,rfl,rfl⟩ | ⟨rfl,rfl,rfl,rfl⟩ | ⟨rfl,rfl,rfl,rfl,rfl⟩
  · show Calls Tryz.prog 70 #[.agg (opPC ⟨1,n,⟨#[]⟩,⟨#[]⟩,id0,.slice A 0 c⟩)] w _;change TagsIn (w.alloc (.cells (opPC ⟨1,n,⟨#[]⟩,⟨#[]⟩,id0,.slice A 0 c⟩) 52)) A 0 [] at hT0;have hB : Below w.heap.size w (w.alloc (.cells (opPC ⟨1,n,⟨#[]⟩,⟨#[]⟩,id0,.slice A 0 c⟩) 52)):=(Below.refl _ _).alloc (Nat.le_refl _) _;have hr : rowAt (w.alloc (.cells (opPC ⟨1,n,⟨#[]⟩,⟨#[]⟩,id0,.slice A 0 c⟩) 52)) w.heap.size 0 37 = some (opPC ⟨1,n,⟨#[]⟩,⟨#[]⟩,id0,.slice A 0 c⟩):=by simp [go_sem]
    have x0:=rowAt_cell hr (j:=0) (by omega);have x1:=rowAt_cell hr (j:=1) (by omega);have x2:=rowAt_cell hr (j:=2) (by omega);have x3:=rowAt_cell hr (j:=3) (by omega);have x5:=rowAt_cell hr (j:=36) (by omega);have x4:=rowAt_sub hr (j:=4) (m:=32) (by omega);simp only [opPC_g0,opPC_g1,opPC_g2,opPC_g3,opPC_g36,opPC_e4,Nat.zero_add] at x0 x1 x2 x3 x4 x5;have c1:=rop_has 1 (w.alloc (.cells (opPC ⟨1,n,⟨#[]⟩,⟨#[]⟩,id0,.slice A 0 c⟩) 52)) (by omega);have i1:=rop_in (hasS 1) 78 (w.alloc (.cells (opPC ⟨1,n,⟨#[]⟩,⟨#[]⟩,id0,.slice A 0 c⟩) 52)) (by decide);have i2:=rop_in (hasS 1) 75 (w.alloc (.cells (opPC ⟨1,n,⟨#[]⟩,⟨#[]⟩,id0,.slice A 0 c⟩) 52)) (by decide);have i3:=rop_in (hasS 1) 86 (w.alloc (.cells (opPC ⟨1,n,⟨#[]⟩,⟨#[]⟩,id0,.slice A 0 c⟩) 52)) (by decide);have i4:=rop_in (hasS 1) 82 (w.alloc (.cells (opPC ⟨1,n,⟨#[]⟩,⟨#[]⟩,id0,.slice A 0 c⟩) 52)) (by decide);have i5:=rop_in (hasS 1) 83 (w.alloc (.cells (opPC ⟨1,n,⟨#[]⟩,⟨#[]⟩,id0,.slice A 0 c⟩) 52)) (by decide);rw [show inB (hasS 1) 78 = true by decide +kernel] at i1;rw [show inB (hasS 1) 75 = false by decide +kernel] at i2;rw [show inB (hasS 1) 86 = false by decide +kernel] at i3;rw [show inB (hasS 1) 82 = false by decide +kernel] at i4;rw [show inB (hasS 1) 83 = false by decide +kernel] at i5;rw [show hasS 1 = ⟨#[78]⟩ from rfl] at c1 i1 i2 i3 i4 i5;clear hr;go_enter Tryz.func70,Tryz.ntmps70
    go_upto_region 1 with fail
    obtain ⟨ga,hga⟩ : ∃ ga,w.heap.size = ga:=⟨_,rfl⟩
    have Hga:=Lib.hid hga;rw [hga] at x0 x1 x2 x3 x4 x5 hB ⊢;obtain ⟨W,hW⟩ : ∃ W,W = w.alloc (.cells (opPC ⟨1,n,⟨#[]⟩,⟨#[]⟩,id0,.slice A 0 c⟩) 52):=⟨_,rfl⟩
    rw [← hW] at x0 x1 x2 x3 x4 x5 hB c1 i1 i2 i3 i4 i5 hT0 ⊢;clear hW hga;(go_wp2_with fail);refine c1.mono ?_;rintro e w1 ⟨rfl,rfl⟩;(go_wp2_with fail);refine i1.mono ?_;rintro e w1 ⟨rfl,rfl⟩;(go_wp2_with fail);refine i2.mono ?_;rintro e w1 ⟨rfl,rfl⟩;(go_wp2_with fail);refine i3.mono ?_;rintro e w1 ⟨rfl,rfl⟩;(go_wp2_with fail);refine i4.mono ?_;rintro e w1 ⟨rfl,rfl⟩;(go_wp2_with fail);refine i5.mono ?_;rintro e w1 ⟨rfl,rfl⟩;clear c1 i1 i2 i3 i4 i5;have cis:=ris6 W A _ c _ hT0 hl;rw [Hrb.out] at cis;rw [← Hga.out] at hB;go_wp2_with fail
    all_goals
      first
      | (go_ret;exact ⟨ret_int (by rw [Hck.out];(try simp only [emptyS,List.length_nil] at *);(repeat' split) <;> (first | rfl | omega | (simp_all;done) | (simp_all;omega))),hB⟩)
      | (refine cis.mono ?_;rintro e w2 ⟨rfl,hb2⟩
         have hBB:=bel2 hB hb2;clear hT0 cis x0 x1 x2 x3 x4 x5 hb2;cases rb <;> (go_wp2_with fail;go_ret;exact ⟨ret_int (by rw [Hck.out];(try simp only [emptyS,List.length_nil] at *);(repeat' split) <;> (first | rfl | omega | (simp_all;done) | (simp_all;omega))),hBB⟩))
  · show Calls Tryz.prog 70 #[.agg (opPC ⟨2,0,⟨#[]⟩,val,id0,.slice A 0 c⟩)] w _;change TagsIn (w.alloc (.cells (opPC ⟨2,0,⟨#[]⟩,val,id0,.slice A 0 c⟩) 52)) A 0 [] at hT0;have hB : Below w.heap.size w (w.alloc (.cells (opPC ⟨2,0,⟨#[]⟩,val,id0,.slice A 0 c⟩) 52)):=(Below.refl _ _).alloc (Nat.le_refl _) _;have hr : rowAt (w.alloc (.cells (opPC ⟨2,0,⟨#[]⟩,val,id0,.slice A 0 c⟩) 52)) w.heap.size 0 37 = some (opPC ⟨2,0,⟨#[]⟩,val,id0,.slice A 0 c⟩):=by simp [go_sem]
    have x0:=rowAt_cell hr (j:=0) (by omega);have x1:=rowAt_cell hr (j:=1) (by omega);have x2:=rowAt_cell hr (j:=2) (by omega);have x3:=rowAt_cell hr (j:=3) (by omega);have x5:=rowAt_cell hr (j:=36) (by omega);have x4:=rowAt_sub hr (j:=4) (m:=32) (by omega);simp only [opPC_g0,opPC_g1,opPC_g2,opPC_g3,opPC_g36,opPC_e4,Nat.zero_add] at x0 x1 x2 x3 x4 x5;have c1:=rop_has 2 (w.alloc (.cells (opPC ⟨2,0,⟨#[]⟩,val,id0,.slice A 0 c⟩) 52)) (by omega);have i1:=rop_in (hasS 2) 78 (w.alloc (.cells (opPC ⟨2,0,⟨#[]⟩,val,id0,.slice A 0 c⟩) 52)) (by decide);have i2:=rop_in (hasS 2) 75 (w.alloc (.cells (opPC ⟨2,0,⟨#[]⟩,val,id0,.slice A 0 c⟩) 52)) (by decide);have i3:=rop_in (hasS 2) 86 (w.alloc (.cells (opPC ⟨2,0,⟨#[]⟩,val,id0,.slice A 0 c⟩) 52)) (by decide);have i4:=rop_in (hasS 2) 82 (w.alloc (.cells (opPC ⟨2,0,⟨#[]⟩,val,id0,.slice A 0 c⟩) 52)) (by decide);have i5:=rop_in (hasS 2) 83 (w.alloc (.cells (opPC ⟨2,0,⟨#[]⟩,val,id0,.slice A 0 c⟩) 52)) (by decide);rw [show inB (hasS 2) 78 = false by decide +kernel] at i1;rw [show inB (hasS 2) 75 = false by decide +kernel] at i2;rw [show inB (hasS 2) 86 = true by decide +kernel] at i3;rw [show inB (hasS 2) 82 = false by decide +kernel] at i4;rw [show inB (hasS 2) 83 = false by decide +kernel] at i5;rw [show hasS 2 = ⟨#[86]⟩ from rfl] at c1 i1 i2 i3 i4 i5;clear hr;go_enter Tryz.func70,Tryz.ntmps70
    go_upto_region 1 with fail
    obtain ⟨ga,hga⟩ : ∃ ga,w.heap.size = ga:=⟨_,rfl⟩
    have Hga:=Lib.hid hga;rw [hga] at x0 x1 x2 x3 x4 x5 hB ⊢;obtain ⟨W,hW⟩ : ∃ W,W = w.alloc (.cells (opPC ⟨2,0,⟨#[]⟩,val,id0,.slice A 0 c⟩) 52):=⟨_,rfl⟩
    rw [← hW] at x0 x1 x2 x3 x4 x5 hB c1 i1 i2 i3 i4 i5 hT0 ⊢;clear hW hga;(go_wp2_with fail);refine c1.mono ?_;rintro e w1 ⟨rfl,rfl⟩;(go_wp2_with fail);refine i1.mono ?_;rintro e w1 ⟨rfl,rfl⟩;(go_wp2_with fail);refine i2.mono ?_;rintro e w1 ⟨rfl,rfl⟩;(go_wp2_with fail);refine i3.mono ?_;rintro e w1 ⟨rfl,rfl⟩;(go_wp2_with fail);refine i4.mono ?_;rintro e w1 ⟨rfl,rfl⟩;(go_wp2_with fail);refine i5.mono ?_;rintro e w1 ⟨rfl,rfl⟩;clear c1 i1 i2 i3 i4 i5;have cis:=ris6 W A _ c _ hT0 hl;rw [Hrb.out] at cis;rw [← Hga.out] at hB;go_wp2_with fail
    all_goals
      first
      | (go_ret;exact ⟨ret_int (by rw [Hck.out];(try simp only [emptyS,List.length_nil] at *);(repeat' split) <;> (first | rfl | omega | (simp_all;done) | (simp_all;omega))),hB⟩)
      | (refine cis.mono ?_;rintro e w2 ⟨rfl,hb2⟩
         have hBB:=bel2 hB hb2;clear hT0 cis x0 x1 x2 x3 x4 x5 hb2;cases rb <;> (go_wp2_with fail;go_ret;exact ⟨ret_int (by rw [Hck.out];(try simp only [emptyS,List.length_nil] at *);(repeat' split) <;> (first | rfl | omega | (simp_all;done) | (simp_all;omega))),hBB⟩))
  · show Calls Tryz.prog 70 #[.agg (opPC ⟨3,0,⟨#[]⟩,val,id0,.slice A refs.length c⟩)] w _;change TagsIn (w.alloc (.cells (opPC ⟨3,0,⟨#[]⟩,val,id0,.slice A refs.length c⟩) 52)) A refs.length refs at hT0;have hB : Below w.heap.size w (w.alloc (.cells (opPC ⟨3,0,⟨#[]⟩,val,id0,.slice A refs.length c⟩) 52)):=(Below.refl _ _).alloc (Nat.le_refl _) _;have hr : rowAt (w.alloc (.cells (opPC ⟨3,0,⟨#[]⟩,val,id0,.slice A refs.length c⟩) 52)) w.heap.size 0 37 = some (opPC ⟨3,0,⟨#[]⟩,val,id0,.slice A refs.length c⟩):=by simp [go_sem]
    have x0:=rowAt_cell hr (j:=0) (by omega);have x1:=rowAt_cell hr (j:=1) (by omega);have x2:=rowAt_cell hr (j:=2) (by omega);have x3:=rowAt_cell hr (j:=3) (by omega);have x5:=rowAt_cell hr (j:=36) (by omega);have x4:=rowAt_sub hr (j:=4) (m:=32) (by omega);simp only [opPC_g0,opPC_g1,opPC_g2,opPC_g3,opPC_g36,opPC_e4,Nat.zero_add] at x0 x1 x2 x3 x4 x5;have c1:=rop_has 3 (w.alloc (.cells (opPC ⟨3,0,⟨#[]⟩,val,id0,.slice A refs.length c⟩) 52)) (by omega);have i1:=rop_in (hasS 3) 78 (w.alloc (.cells (opPC ⟨3,0,⟨#[]⟩,val,id0,.slice A refs.length c⟩) 52)) (by decide);have i2:=rop_in (hasS 3) 75 (w.alloc (.cells (opPC ⟨3,0,⟨#[]⟩,val,id0,.slice A refs.length c⟩) 52)) (by decide);have i3:=rop_in (hasS 3) 86 (w.alloc (.cells (opPC ⟨3,0,⟨#[]⟩,val,id0,.slice A refs.length c⟩) 52)) (by decide);have i4:=rop_in (hasS 3) 82 (w.alloc (.cells (opPC ⟨3,0,⟨#[]⟩,val,id0,.slice A refs.length c⟩) 52)) (by decide);have i5:=rop_in (hasS 3) 83 (w.alloc (.cells (opPC ⟨3,0,⟨#[]⟩,val,id0,.slice A refs.length c⟩) 52)) (by decide);rw [show inB (hasS 3) 78 = false by decide +kernel] at i1;rw [show inB (hasS 3) 75 = false by decide +kernel] at i2;rw [show inB (hasS 3) 86 = true by decide +kernel] at i3;rw [show inB (hasS 3) 82 = false by decide +kernel] at i4;rw [show inB (hasS 3) 83 = true by decide +kernel] at i5;rw [show hasS 3 = ⟨#[86,83]⟩ from rfl] at c1 i1 i2 i3 i4 i5;clear hr;go_enter Tryz.func70,Tryz.ntmps70
    go_upto_region 1 with fail
    obtain ⟨ga,hga⟩ : ∃ ga,w.heap.size = ga:=⟨_,rfl⟩
    have Hga:=Lib.hid hga;rw [hga] at x0 x1 x2 x3 x4 x5 hB ⊢;obtain ⟨W,hW⟩ : ∃ W,W = w.alloc (.cells (opPC ⟨3,0,⟨#[]⟩,val,id0,.slice A refs.length c⟩) 52):=⟨_,rfl⟩
    rw [← hW] at x0 x1 x2 x3 x4 x5 hB c1 i1 i2 i3 i4 i5 hT0 ⊢;clear hW hga;(go_wp2_with fail);refine c1.mono ?_;rintro e w1 ⟨rfl,rfl⟩;(go_wp2_with fail);refine i1.mono ?_;rintro e w1 ⟨rfl,rfl⟩;(go_wp2_with fail);refine i2.mono ?_;rintro e w1 ⟨rfl,rfl⟩;(go_wp2_with fail);refine i3.mono ?_;rintro e w1 ⟨rfl,rfl⟩;(go_wp2_with fail);refine i4.mono ?_;rintro e w1 ⟨rfl,rfl⟩;(go_wp2_with fail);refine i5.mono ?_;rintro e w1 ⟨rfl,rfl⟩;clear c1 i1 i2 i3 i4 i5;have cis:=ris6 W A _ c _ hT0 hl;rw [Hrb.out] at cis;rw [← Hga.out] at hB;go_wp2_with fail
    all_goals
      first
      | (go_ret;exact ⟨ret_int (by rw [Hck.out];(try simp only [emptyS,List.length_nil] at *);(repeat' split) <;> (first | rfl | omega | (simp_all;done) | (simp_all;omega))),hB⟩)
      | (refine cis.mono ?_;rintro e w2 ⟨rfl,hb2⟩
         have hBB:=bel2 hB hb2;clear hT0 cis x0 x1 x2 x3 x4 x5 hb2;cases rb <;> (go_wp2_with fail;go_ret;exact ⟨ret_int (by rw [Hck.out];(try simp only [emptyS,List.length_nil] at *);(repeat' split) <;> (first | rfl | omega | (simp_all;done) | (simp_all;omega))),hBB⟩))
  · show Calls Tryz.prog 70 #[.agg (opPC ⟨4,n,key,val,id0,.slice A 0 c⟩)] w _;change TagsIn (w.alloc (.cells (opPC ⟨4,n,key,val,id0,.slice A 0 c⟩) 52)) A 0 [] at hT0;have hB : Below w.heap.size w (w.alloc (.cells (opPC ⟨4,n,key,val,id0,.slice A 0 c⟩) 52)):=(Below.refl _ _).alloc (Nat.le_refl _) _;have hr : rowAt (w.alloc (.cells (opPC ⟨4,n,key,val,id0,.slice A 0 c⟩) 52)) w.heap.size 0 37 = some (opPC ⟨4,n,key,val,id0,.slice A 0 c⟩):=by simp [go_sem]
    have x0:=rowAt_cell hr (j:=0) (by omega);have x1:=rowAt_cell hr (j:=1) (by omega);have x2:=rowAt_cell hr (j:=2) (by omega);have x3:=rowAt_cell hr (j:=3) (by omega);have x5:=rowAt_cell hr (j:=36) (by omega);have x4:=rowAt_sub hr (j:=4) (m:=32) (by omega);simp only [opPC_g0,opPC_g1,opPC_g2,opPC_g3,opPC_g36,opPC_e4,Nat.zero_add] at x0 x1 x2 x3 x4 x5;have c1:=rop_has 4 (w.alloc (.cells (opPC ⟨4,n,key,val,id0,.slice A 0 c⟩) 52)) (by omega);have i1:=rop_in (hasS 4) 78 (w.alloc (.cells (opPC ⟨4,n,key,val,id0,.slice A 0 c⟩) 52)) (by decide);have i2:=rop_in (hasS 4) 75 (w.alloc (.cells (opPC ⟨4,n,key,val,id0,.slice A 0 c⟩) 52)) (by decide);have i3:=rop_in (hasS 4) 86 (w.alloc (.cells (opPC ⟨4,n,key,val,id0,.slice A 0 c⟩) 52)) (by decide);have i4:=rop_in (hasS 4) 82 (w.alloc (.cells (opPC ⟨4,n,key,val,id0,.slice A 0 c⟩) 52)) (by decide);have i5:=rop_in (hasS 4) 83 (w.alloc (.cells (opPC ⟨4,n,key,val,id0,.slice A 0 c⟩) 52)) (by decide);rw [show inB (hasS 4) 78 = true by decide +kernel] at i1;rw [show inB (hasS 4) 75 = true by decide +kernel] at i2;rw [show inB (hasS 4) 86 = true by decide +kernel] at i3;rw [show inB (hasS 4) 82 = false by decide +kernel] at i4;rw [show inB (hasS 4) 83 = false by decide +kernel] at i5;rw [show hasS 4 = ⟨#[75,86,78]⟩ from rfl] at c1 i1 i2 i3 i4 i5;clear hr;go_enter Tryz.func70,Tryz.ntmps70
    go_upto_region 1 with fail
    obtain ⟨ga,hga⟩ : ∃ ga,w.heap.size = ga:=⟨_,rfl⟩
    have Hga:=Lib.hid hga;rw [hga] at x0 x1 x2 x3 x4 x5 hB ⊢;obtain ⟨W,hW⟩ : ∃ W,W = w.alloc (.cells (opPC ⟨4,n,key,val,id0,.slice A 0 c⟩) 52):=⟨_,rfl⟩
    rw [← hW] at x0 x1 x2 x3 x4 x5 hB c1 i1 i2 i3 i4 i5 hT0 ⊢;clear hW hga;(go_wp2_with fail);refine c1.mono ?_;rintro e w1 ⟨rfl,rfl⟩;(go_wp2_with fail);refine i1.mono ?_;rintro e w1 ⟨rfl,rfl⟩;(go_wp2_with fail);refine i2.mono ?_;rintro e w1 ⟨rfl,rfl⟩;(go_wp2_with fail);refine i3.mono ?_;rintro e w1 ⟨rfl,rfl⟩;(go_wp2_with fail);refine i4.mono ?_;rintro e w1 ⟨rfl,rfl⟩;(go_wp2_with fail);refine i5.mono ?_;rintro e w1 ⟨rfl,rfl⟩;clear c1 i1 i2 i3 i4 i5;have cis:=ris6 W A _ c _ hT0 hl;rw [Hrb.out] at cis;rw [← Hga.out] at hB;go_wp2_with fail
    all_goals
      first
      | (go_ret;exact ⟨ret_int (by rw [Hck.out];(try simp only [emptyS,List.length_nil] at *);(repeat' split) <;> (first | rfl | omega | (simp_all;done) | (simp_all;omega))),hB⟩)
      | (refine cis.mono ?_;rintro e w2 ⟨rfl,hb2⟩
         have hBB:=bel2 hB hb2;clear hT0 cis x0 x1 x2 x3 x4 x5 hb2;cases rb <;> (go_wp2_with fail;go_ret;exact ⟨ret_int (by rw [Hck.out];(try simp only [emptyS,List.length_nil] at *);(repeat' split) <;> (first | rfl | omega | (simp_all;done) | (simp_all;omega))),hBB⟩))
  · show Calls Tryz.prog 70 #[.agg (opPC ⟨5,0,key,val,id0,.slice A refs.length c⟩)] w _;change TagsIn (w.alloc (.cells (opPC ⟨5,0,key,val,id0,.slice A refs.length c⟩) 52)) A refs.length refs at hT0;have hB : Below w.heap.size w (w.alloc (.cells (opPC ⟨5,0,key,val,id0,.slice A refs.length c⟩) 52)):=(Below.refl _ _).alloc (Nat.le_refl _) _;have hr : rowAt (w.alloc (.cells (opPC ⟨5,0,key,val,id0,.slice A refs.length c⟩) 52)) w.heap.size 0 37 = some (opPC ⟨5,0,key,val,id0,.slice A refs.length c⟩):=by simp [go_sem]
    have x0:=rowAt_cell hr (j:=0) (by omega);have x1:=rowAt_cell hr (j:=1) (by omega);have x2:=rowAt_cell hr (j:=2) (by omega);have x3:=rowAt_cell hr (j:=3) (by omega);have x5:=rowAt_cell hr (j:=36) (by omega);have x4:=rowAt_sub hr (j:=4) (m:=32) (by omega);simp only [opPC_g0,opPC_g1,opPC_g2,opPC_g3,opPC_g36,opPC_e4,Nat.zero_add] at x0 x1 x2 x3 x4 x5;have c1:=rop_has 5 (w.alloc (.cells (opPC ⟨5,0,key,val,id0,.slice A refs.length c⟩) 52)) (by omega);have i1:=rop_in (hasS 5) 78 (w.alloc (.cells (opPC ⟨5,0,key,val,id0,.slice A refs.length c⟩) 52)) (by decide);have i2:=rop_in (hasS 5) 75 (w.alloc (.cells (opPC ⟨5,0,key,val,id0,.slice A refs.length c⟩) 52)) (by decide);have i3:=rop_in (hasS 5) 86 (w.alloc (.cells (opPC ⟨5,0,key,val,id0,.slice A refs.length c⟩) 52)) (by decide);have i4:=rop_in (hasS 5) 82 (w.alloc (.cells (opPC ⟨5,0,key,val,id0,.slice A refs.length c⟩) 52)) (by decide);have i5:=rop_in (hasS 5) 83 (w.alloc (.cells (opPC ⟨5,0,key,val,id0,.slice A refs.length c⟩) 52)) (by decide);rw [show inB (hasS 5) 78 = false by decide +kernel] at i1;rw [show inB (hasS 5) 75 = true by decide +kernel] at i2;rw [show inB (hasS 5) 86 = true by decide +kernel] at i3;rw [show inB (hasS 5) 82 = false by decide +kernel] at i4;rw [show inB (hasS 5) 83 = true by decide +kernel] at i5;rw [show hasS 5 = ⟨#[75,86,83]⟩ from rfl] at c1 i1 i2 i3 i4 i5;clear hr;go_enter Tryz.func70,Tryz.ntmps70
    go_upto_region 1 with fail
    obtain ⟨ga,hga⟩ : ∃ ga,w.heap.size = ga:=⟨_,rfl⟩
    have Hga:=Lib.hid hga;rw [hga] at x0 x1 x2 x3 x4 x5 hB ⊢;obtain ⟨W,hW⟩ : ∃ W,W = w.alloc (.cells (opPC ⟨5,0,key,val,id0,.slice A refs.length c⟩) 52):=⟨_,rfl⟩
    rw [← hW] at x0 x1 x2 x3 x4 x5 hB c1 i1 i2 i3 i4 i5 hT0 ⊢;clear hW hga;(go_wp2_with fail);refine c1.mono ?_;rintro e w1 ⟨rfl,rfl⟩;(go_wp2_with fail);refine i1.mono ?_;rintro e w1 ⟨rfl,rfl⟩;(go_wp2_with fail);refine i2.mono ?_;rintro e w1 ⟨rfl,rfl⟩;(go_wp2_with fail);refine i3.mono ?_;rintro e w1 ⟨rfl,rfl⟩;(go_wp2_with fail);refine i4.mono ?_;rintro e w1 ⟨rfl,rfl⟩;(go_wp2_with fail);refine i5.mono ?_;rintro e w1 ⟨rfl,rfl⟩;clear c1 i1 i2 i3 i4 i5;have cis:=ris6 W A _ c _ hT0 hl;rw [Hrb.out] at cis;rw [← Hga.out] at hB;go_wp2_with fail
    all_goals
      first
      | (go_ret;exact ⟨ret_int (by rw [Hck.out];(try simp only [emptyS,List.length_nil] at *);(repeat' split) <;> (first | rfl | omega | (simp_all;done) | (simp_all;omega))),hB⟩)
      | (refine cis.mono ?_;rintro e w2 ⟨rfl,hb2⟩
         have hBB:=bel2 hB hb2;clear hT0 cis x0 x1 x2 x3 x4 x5 hb2;cases rb <;> (go_wp2_with fail;go_ret;exact ⟨ret_int (by rw [Hck.out];(try simp only [emptyS,List.length_nil] at *);(repeat' split) <;> (first | rfl | omega | (simp_all;done) | (simp_all;omega))),hBB⟩))
  · show Calls Tryz.prog 70 #[.agg (opPC ⟨6,0,⟨#[]⟩,val,ref,.slice A 0 c⟩)] w _;change TagsIn (w.alloc (.cells (opPC ⟨6,0,⟨#[]⟩,val,ref,.slice A 0 c⟩) 52)) A 0 [] at hT0;have hB : Below w.heap.size w (w.alloc (.cells (opPC ⟨6,0,⟨#[]⟩,val,ref,.slice A 0 c⟩) 52)):=(Below.refl _ _).alloc (Nat.le_refl _) _;have hr : rowAt (w.alloc (.cells (opPC ⟨6,0,⟨#[]⟩,val,ref,.slice A 0 c⟩) 52)) w.heap.size 0 37 = some (opPC ⟨6,0,⟨#[]⟩,val,ref,.slice A 0 c⟩):=by simp [go_sem]
    have x0:=rowAt_cell hr (j:=0) (by omega);have x1:=rowAt_cell hr (j:=1) (by omega);have x2:=rowAt_cell hr (j:=2) (by omega);have x3:=rowAt_cell hr (j:=3) (by omega);have x5:=rowAt_cell hr (j:=36) (by omega);have x4:=rowAt_sub hr (j:=4) (m:=32) (by omega);simp only [opPC_g0,opPC_g1,opPC_g2,opPC_g3,opPC_g36,opPC_e4,Nat.zero_add] at x0 x1 x2 x3 x4 x5;have c1:=rop_has 6 (w.alloc (.cells (opPC ⟨6,0,⟨#[]⟩,val,ref,.slice A 0 c⟩) 52)) (by omega);have i1:=rop_in (hasS 6) 78 (w.alloc (.cells (opPC ⟨6,0,⟨#[]⟩,val,ref,.slice A 0 c⟩) 52)) (by decide);have i2:=rop_in (hasS 6) 75 (w.alloc (.cells (opPC ⟨6,0,⟨#[]⟩,val,ref,.slice A 0 c⟩) 52)) (by decide);have i3:=rop_in (hasS 6) 86 (w.alloc (.cells (opPC ⟨6,0,⟨#[]⟩,val,ref,.slice A 0 c⟩) 52)) (by decide);have i4:=rop_in (hasS 6) 82 (w.alloc (.cells (opPC ⟨6,0,⟨#[]⟩,val,ref,.slice A 0 c⟩) 52)) (by decide);have i5:=rop_in (hasS 6) 83 (w.alloc (.cells (opPC ⟨6,0,⟨#[]⟩,val,ref,.slice A 0 c⟩) 52)) (by decide);rw [show inB (hasS 6) 78 = false by decide +kernel] at i1;rw [show inB (hasS 6) 75 = false by decide +kernel] at i2;rw [show inB (hasS 6) 86 = true by decide +kernel] at i3;rw [show inB (hasS 6) 82 = true by decide +kernel] at i4;rw [show inB (hasS 6) 83 = false by decide +kernel] at i5;rw [show hasS 6 = ⟨#[82,86]⟩ from rfl] at c1 i1 i2 i3 i4 i5;clear hr;go_enter Tryz.func70,Tryz.ntmps70
    go_upto_region 1 with fail
    obtain ⟨ga,hga⟩ : ∃ ga,w.heap.size = ga:=⟨_,rfl⟩
    have Hga:=Lib.hid hga;rw [hga] at x0 x1 x2 x3 x4 x5 hB ⊢;obtain ⟨W,hW⟩ : ∃ W,W = w.alloc (.cells (opPC ⟨6,0,⟨#[]⟩,val,ref,.slice A 0 c⟩) 52):=⟨_,rfl⟩
    rw [← hW] at x0 x1 x2 x3 x4 x5 hB c1 i1 i2 i3 i4 i5 hT0 ⊢;clear hW hga;(go_wp2_with fail);refine c1.mono ?_;rintro e w1 ⟨rfl,rfl⟩;(go_wp2_with fail);refine i1.mono ?_;rintro e w1 ⟨rfl,rfl⟩;(go_wp2_with fail);refine i2.mono ?_;rintro e w1 ⟨rfl,rfl⟩;(go_wp2_with fail);refine i3.mono ?_;rintro e w1 ⟨rfl,rfl⟩;(go_wp2_with fail);refine i4.mono ?_;rintro e w1 ⟨rfl,rfl⟩;(go_wp2_with fail);refine i5.mono ?_;rintro e w1 ⟨rfl,rfl⟩;clear c1 i1 i2 i3 i4 i5;have cis:=ris6 W A _ c _ hT0 hl;rw [Hrb.out] at cis;rw [← Hga.out] at hB;go_wp2_with fail
    all_goals
      first
      | (go_ret;exact ⟨ret_int (by rw [Hck.out];(try simp only [emptyS,List.length_nil] at *);(repeat' split) <;> (first | rfl | omega | (simp_all;done) | (simp_all;omega))),hB⟩)
      | (refine cis.mono ?_;rintro e w2 ⟨rfl,hb2⟩
         have hBB:=bel2 hB hb2;clear hT0 cis x0 x1 x2 x3 x4 x5 hb2;cases rb <;> (go_wp2_with fail;go_ret;exact ⟨ret_int (by rw [Hck.out];(try simp only [emptyS,List.length_nil] at *);(repeat' split) <;> (first | rfl | omega | (simp_all;done) | (simp_all;omega))),hBB⟩))
  · show Calls Tryz.prog 70 #[.agg (opPC ⟨7,0,⟨#[]⟩,⟨#[]⟩,ref,.slice A 0 c⟩)] w _;change TagsIn (w.alloc (.cells (opPC ⟨7,0,⟨#[]⟩,⟨#[]⟩,ref,.slice A 0 c⟩) 52)) A 0 [] at hT0;have hB : Below w.heap.size w (w.alloc (.cells (opPC ⟨7,0,⟨#[]⟩,⟨#[]⟩,ref,.slice A 0 c⟩) 52)):=(Below.refl _ _).alloc (Nat.le_refl _) _;have hr : rowAt (w.alloc (.cells (opPC ⟨7,0,⟨#[]⟩,⟨#[]⟩,ref,.slice A 0 c⟩) 52)) w.heap.size 0 37 = some (opPC ⟨7,0,⟨#[]⟩,⟨#[]⟩,ref,.slice A 0 c⟩):=by simp [go_sem]
    have x0:=rowAt_cell hr (j:=0) (by omega);have x1:=rowAt_cell hr (j:=1) (by omega);have x2:=rowAt_cell hr (j:=2) (by omega);have x3:=rowAt_cell hr (j:=3) (by omega);have x5:=rowAt_cell hr (j:=36) (by omega);have x4:=rowAt_sub hr (j:=4) (m:=32) (by omega);simp only [opPC_g0,opPC_g1,opPC_g2,opPC_g3,opPC_g36,opPC_e4,Nat.zero_add] at x0 x1 x2 x3 x4 x5;have c1:=rop_has 7 (w.alloc (.cells (opPC ⟨7,0,⟨#[]⟩,⟨#[]⟩,ref,.slice A 0 c⟩) 52)) (by omega);have i1:=rop_in (hasS 7) 78 (w.alloc (.cells (opPC ⟨7,0,⟨#[]⟩,⟨#[]⟩,ref,.slice A 0 c⟩) 52)) (by decide);have i2:=rop_in (hasS 7) 75 (w.alloc (.cells (opPC ⟨7,0,⟨#[]⟩,⟨#[]⟩,ref,.slice A 0 c⟩) 52)) (by decide);have i3:=rop_in (hasS 7) 86 (w.alloc (.cells (opPC ⟨7,0,⟨#[]⟩,⟨#[]⟩,ref,.slice A 0 c⟩) 52)) (by decide);have i4:=rop_in (hasS 7) 82 (w.alloc (.cells (opPC ⟨7,0,⟨#[]⟩,⟨#[]⟩,ref,.slice A 0 c⟩) 52)) (by decide);have i5:=rop_in (hasS 7) 83 (w.alloc (.cells (opPC ⟨7,0,⟨#[]⟩,⟨#[]⟩,ref,.slice A 0 c⟩) 52)) (by decide);rw [show inB (hasS 7) 78 = false by decide +kernel] at i1;rw [show inB (hasS 7) 75 = false by decide +kernel] at i2;rw [show inB (hasS 7) 86 = false by decide +kernel] at i3;rw [show inB (hasS 7) 82 = true by decide +kernel] at i4;rw [show inB (hasS 7) 83 = false by decide +kernel] at i5;rw [show hasS 7 = ⟨#[82]⟩ from rfl] at c1 i1 i2 i3 i4 i5;clear hr;go_enter Tryz.func70,Tryz.ntmps70
    go_upto_region 1 with fail
    obtain ⟨ga,hga⟩ : ∃ ga,w.heap.size = ga:=⟨_,rfl⟩
    have Hga:=Lib.hid hga;rw [hga] at x0 x1 x2 x3 x4 x5 hB ⊢;obtain ⟨W,hW⟩ : ∃ W,W = w.alloc (.cells (opPC ⟨7,0,⟨#[]⟩,⟨#[]⟩,ref,.slice A 0 c⟩) 52):=⟨_,rfl⟩
    rw [← hW] at x0 x1 x2 x3 x4 x5 hB c1 i1 i2 i3 i4 i5 hT0 ⊢;clear hW hga;(go_wp2_with fail);refine c1.mono ?_;rintro e w1 ⟨rfl,rfl⟩;(go_wp2_with fail);refine i1.mono ?_;rintro e w1 ⟨rfl,rfl⟩;(go_wp2_with fail);refine i2.mono ?_;rintro e w1 ⟨rfl,rfl⟩;(go_wp2_with fail);refine i3.mono ?_;rintro e w1 ⟨rfl,rfl⟩;(go_wp2_with fail);refine i4.mono ?_;rintro e w1 ⟨rfl,rfl⟩;(go_wp2_with fail);refine i5.mono ?_;rintro e w1 ⟨rfl,rfl⟩;clear c1 i1 i2 i3 i4 i5;have cis:=ris6 W A _ c _ hT0 hl;rw [Hrb.out] at cis;rw [← Hga.out] at hB;go_wp2_with fail
    all_goals
      first
      | (go_ret;exact ⟨ret_int (by rw [Hck.out];(try simp only [emptyS,List.length_nil] at *);(repeat' split) <;> (first | rfl | omega | (simp_all;done) | (simp_all;omega))),hB⟩)
      | (refine cis.mono ?_;rintro e w2 ⟨rfl,hb2⟩
         have hBB:=bel2 hB hb2;clear hT0 cis x0 x1 x2 x3 x4 x5 hb2;cases rb <;> (go_wp2_with fail;go_ret;exact ⟨ret_int (by rw [Hck.out];(try simp only [emptyS,List.length_nil] at *);(repeat' split) <;> (first | rfl | omega | (simp_all;done) | (simp_all;omega))),hBB⟩))
end
section
open Go.RowKit
@[go_sem] theorem buildRr_s (s : ByteArray) (w : World) : (bdS 112 #[(0,.string s)]).run Tryz.prog w = .ok (.agg (rrC ⟨s,0⟩)) w:=by kernel_rfl
end
section
open Go.RowKit
def lettersS : ByteArray:=⟨#[63,99,115,108,109,114]⟩
set_option maxHeartbeats 400000 in
theorem letters_any (w : World) :
    Calls Tryz.prog 71 #[] w fun e w'=>e = .returned (.string lettersS) ∧ w = w':=by
  go_enter Tryz.func71,Tryz.ntmps71
  (go_wp2_with fail);go_ret;exact ⟨rfl,rfl⟩
theorem lettersS_at {k : Nat} (h1 : 1 ≤ k) (h2 : k < 6) : ∃ h : k < lettersS.size,((lettersS[k]'h).toNat : Int) = letterC k:=by
  have : k = 1 ∨ k = 2 ∨ k = 3 ∨ k = 4 ∨ k = 5:=by omega
  rcases this with rfl | rfl | rfl | rfl | rfl <;> exact ⟨by decide,by decide⟩
theorem smallC_cases (c : Int) : smallC c = true ↔ (97 ≤ c ∧ c ≤ 122) ∨ (48 ≤ c ∧ c ≤ 57) ∨ c = 45:=by
  unfold smallC;simp;omega
set_option maxHeartbeats 400000 in
theorem rkind_short (s : ByteArray) (w : World) (hs : s.size ≤ 9223372036854775807) (h : ¬ (2 ≤ s.size ∧ s.size ≤ 12)) :
    Calls Tryz.prog 29 #[.string s] w fun e w'=>e = .returned (.int .i64 (kindB s)) ∧ Below w.heap.size w w':=by
  have H : Hid (kindB s = 0):=by show kindB s = 0;unfold kindB;rw [formedB_short s h];rfl
  by_cases h1 : 2 ≤ s.size
  · have h4 : 12 < s.size:=by omega
    clear h;go_enter Tryz.func29,Tryz.ntmps29
    go_wp2_with fail
    all_goals
      go_ret;exact ⟨ret_int H.out.symm,Below.refl _ _⟩
  · clear h;go_enter Tryz.func29,Tryz.ntmps29
    go_wp2_with fail
    all_goals
      go_ret;exact ⟨ret_int H.out.symm,Below.refl _ _⟩
set_option maxHeartbeats 400000 in
theorem rkind_last (s : ByteArray) (w : World) (h : 2 ≤ s.size) (h1 : s.size ≤ 12) (h2 : bt s (s.size - 1) = 45) :
    Calls Tryz.prog 29 #[.string s] w fun e w'=>e = .returned (.int .i64 (kindB s)) ∧ Below w.heap.size w w':=by
  have h3 : (((s[s.size - 1]'(by omega)).toNat : Int) == 45) = true:=by
    rw [beq_iff_eq];rw [bt_get (by omega)];exact h2
  have H : Hid (kindB s = 0):=by show kindB s = 0;unfold kindB;rw [formedB_last s h2];rfl
  clear h2;go_enter Tryz.func29,Tryz.ntmps29
  (go_wp2_with fail);go_ret;exact ⟨ret_int H.out.symm,Below.refl _ _⟩
set_option maxHeartbeats 1000000 in
theorem rkind_long (s : ByteArray) (w : World) (h : 2 ≤ s.size) (h1 : s.size ≤ 12) (h2 : bt s (s.size - 1) ≠ 45) :
    Calls Tryz.prog 29 #[.string s] w fun e w'=>e = .returned (.int .i64 (kindB s)) ∧ Below w.heap.size w w':=by
  have h3 : (((s[s.size - 1]'(by omega)).toNat : Int) == 45) = false:=by
    rw [beq_eq_false_iff_ne];intro g;rw [bt_get (by omega)] at g;exact h2 g
  have hfin:=formedB_tail s h h1 h2;have H2:=Lib.hid hfin;clear h2 hfin;have h0 : (0 : Int) < s.size:=by omega
  have hg : ((s[0]'(by omega)).toNat : Int) = bt s 0:=bt_get (by omega);go_enter Tryz.func29,Tryz.ntmps29
  go_wp2_with fail
  go_loop [3] (fun iv=>∃ i : Nat,1 ≤ i ∧ i ≤ s.size ∧ iv = .int .i64 i ∧ Hid (tailB s i = tailB s 1)) (fun iv=>s.size - (intOf iv).toNat)
  case atStart=>exact ⟨1,by omega,by omega,rfl,rfl⟩
  case round =>
    obtain ⟨i,hi1,hi2,rfl,hc⟩:=hrel;by_cases hp : i < s.size
    · have hgi : ((s[i]'hp).toNat : Int) = bt s i:=bt_get hp;cases hb : smallC (bt s i) with
      | true =>
        have hb':=(smallC_cases _).1 hb;rw [← hgi] at hb';have Hb:=Lib.hid hb;clear hb hgi;go_wp2_with fail
        all_goals
          go_round
          case rel=>exact ⟨i + 1,by omega,by omega,by go_num,(tailB_yes s _ Hb.out).trans hc.out⟩
          case measure=>simp [intOf];omega
      | false =>
        have hb' : ¬ ((97 ≤ bt s i ∧ bt s i ≤ 122) ∨ (48 ≤ bt s i ∧ bt s i ≤ 57) ∨ bt s i = 45):=fun g=>(by rw [(smallC_cases _).2 g] at hb;cases hb);rw [← hgi] at hb';have hb2 : (((s[i]'hp).toNat : Int) != 45) = true:=by rw [bne_iff_ne];omega
        have Hb:=Lib.hid hb;clear hb hgi;go_wp2_with fail
        all_goals
          go_ret;exact ⟨ret_int (by unfold kindB;rw [H2.out,← hc.out,tailB_no s _ (by omega) Hb.out];rfl),Below.refl _ _⟩
    · have hfm : kindB s = kindC (bt s 0):=by unfold kindB;rw [H2.out,← hc.out,tailB_end s _ (by omega)];rfl
      have H:=Lib.hid hfm;clear hfm;(go_wp2_with fail);go_loopw [5] (fun kv wr=>∃ k : Nat,1 ≤ k ∧ k ≤ 6 ∧ kv = .int .i64 k ∧ Below w.heap.size w wr ∧ Hid (∀ j : Int,1 ≤ j → j < k → letterC j ≠ bt s 0)) (fun kv _=>(6 - intOf kv).toNat)
      case atStart=>exact ⟨1,by omega,by omega,rfl,Below.refl _ _,fun j h1 h2=>by omega⟩
      case round =>
        obtain ⟨k,hk1,hk2,rfl,hb1,hj⟩:=hrel;by_cases hk : k < 6
        · obtain ⟨hks,hkl⟩:=lettersS_at hk1 hk;have hks' : (k : Int) < lettersS.size:=by omega
          by_cases hl : letterC k = bt s 0
          · have hl' : (((lettersS[k]'hks).toNat : Int) == bt s 0) = true:=by rw [beq_iff_eq,hkl];exact hl
            have Hl:=Lib.hid hl;clear hl hkl;go_wp2_with fail
            go_quiet ((go_at_call 71;exact quiet_eq (letters_any _)))
            (go_wp2_with fail);go_ret;exact ⟨ret_int (by rw [H.out,kindC_hit (by omega) (by omega) Hl.out]),below_drewN hb1 _⟩
          · have hl' : (((lettersS[k]'hks).toNat : Int) == bt s 0) = false:=by rw [beq_eq_false_iff_ne,hkl];exact hl
            have Hl:=Lib.hid hl;clear hl hkl;go_wp2_with fail
            go_quiet ((go_at_call 71;exact quiet_eq (letters_any _)))
            (go_wp2_with fail);go_roundw
            case rel =>
              refine ⟨k + 1,by omega,by omega,by go_num,below_drewN hb1 _,fun j h1 h2=>?_⟩;by_cases e : j = k
              · subst e;exact Hl.out
              · exact hj.out j h1 (by omega)
            case measure=>simp [intOf];omega
        · (go_wp2_with fail);go_ret;exact ⟨ret_int (by rw [H.out,kindC_miss (fun j h1 h2=>hj.out j h1 (by omega))]),hb1⟩
theorem rkind_any (s : ByteArray) (w : World) (hs : s.size ≤ 9223372036854775807) :
    Calls Tryz.prog 29 #[.string s] w fun e w'=>e = .returned (.int .i64 (kindB s)) ∧ Below w.heap.size w w':=by
  by_cases h : 2 ≤ s.size ∧ s.size ≤ 12
  · by_cases h2 : bt s (s.size - 1) = 45
    · exact rkind_last s w h.1 h.2 h2
    · exact rkind_long s w h.1 h.2 h2
  · exact rkind_short s w hs h
set_option maxHeartbeats 400000 in
theorem rcheck_any (s : ByteArray) (w : World) (hs : s.size ≤ 9223372036854775807) :
    Calls Tryz.prog 21 #[.string s] w fun e w'=>e = .returned (.int .i64 (checkB s)) ∧ Below w.heap.size w w':=by
  by_cases h : kindB s = 0
  · have h' : (kindB s == 0) = true:=by rw [beq_iff_eq];exact h
    have H : Hid (checkB s = 9):=if_pos h;clear h;go_enter Tryz.func21,Tryz.ntmps21
    (go_wp2_with fail);refine (rkind_any _ _ hs).mono ?_;rintro e w1 ⟨rfl,hb⟩;(go_wp2_with fail);go_ret;exact ⟨ret_int H.out.symm,hb⟩
  · have h' : (kindB s == 0) = false:=by rw [beq_eq_false_iff_ne];exact h
    have H : Hid (checkB s = 0):=if_neg h;clear h;go_enter Tryz.func21,Tryz.ntmps21
    (go_wp2_with fail);refine (rkind_any _ _ hs).mono ?_;rintro e w1 ⟨rfl,hb⟩;(go_wp2_with fail);go_ret;exact ⟨ret_int H.out.symm,hb⟩
end
section
open Go.RowKit
end
section
open Go.RowKit
set_option maxRecDepth 100000 in
set_option maxHeartbeats 4000000 in
theorem sqput (w : World) (M : List Nat) (g bn bb bg : Nat) (N : List NodeV) (G : List Id32) (h : SeqAt w M g bn bb bg N G) (hr : Ris cmpId G) (hN : N.length ≤ 1000000) (hG : G.length ≤ 1000000) :
    Calls Tryz.prog 346 #[.pointer (some ⟨g,0,none⟩)] w fun e w'=>e = .returned (.string ⟨(putSB N G).toArray⟩) ∧ Below w.heap.size w w':=by
  have hc:=h.cell0;have hxl:=Nat.le_trans (sortN_length N) hN;have hok : ∀ n ∈ sortN N,n ∈ N ∧ nodeE n = 0:=fun n hn=>⟨mem_sortN.1 hn,h.ok n (mem_sortN.1 hn)⟩;have c1:=fun w' (h' : SeqAt w' M g bn bb bg N G)=>sqids w' M g bn bb bg N G h' hN;have Hput : Hid (putSB N G = beL 4 (sortN N).length ++ (sortN N).flatMap nodeB ++ idsB G):=rfl;obtain ⟨X,hX⟩ : ∃ X,sortN N = X:=⟨_,rfl⟩
  rw [hX] at hxl hok c1 Hput;have Hok:=Lib.hid hok;clear hX hok;go_enter Tryz.func346,Tryz.ntmps346
  (go_wp2_with fail);refine (sqnone_live w g bn hc).mono ?_;rintro e w' ⟨rfl,rfl⟩;(go_wp2_with fail);refine (c1 w h).mono ?_;rintro e w1 ⟨XA,xc,rfl,hXo,hb1⟩;have h1:=h.below hb1;clear c1;(go_wp2_with fail);refine (sqdeleted w1 M g bn bb bg N G h1 hr hG).mono ?_;rintro e w2 ⟨IA,ic,rfl,hIo,hb2⟩;have hXs : SlR w2 XA X.length 32 ((X.map NodeV.id).map idC):=(hXo.below hb2).slr;have hXb : ∀ x ∈ blk XA,x < w2.heap.size:=fun x hx=>(by have:=(hXo.at_base hx).2;have:=hb2.size;omega);have hIs : SlR w2 IA G.length 32 (G.map idC):=hIo.slr;have hIb : ∀ x ∈ blk IA,x < w2.heap.size:=fun x hx=>(hIo.at_base hx).2;have hb02:=bel2 hb1 hb2;have h2:=h1.below hb2;clear hc h1 hXo hIo hb1 hb2 h;(go_wp2_with fail);refine (wnew w2).mono ?_;rintro e w3 ⟨rfl,hw3,hb3⟩;have hXs3:=hXs.below hb3;have hIs3:=hIs.below hb3;obtain ⟨gw,hgw⟩ : ∃ gw,w2.heap.size = gw:=⟨_,rfl⟩
  have Hgw:=Lib.hid hgw;have hb23 : Below gw w2 w3:=by rw [← hgw];exact hb3
  rw [hgw] at hw3 hXb hIb ⊢;have hg3:=hw3.lt;have hszw : w.heap.size ≤ gw:=by have:=hb02.size;omega
  clear hXs hIs hb3 hgw;(go_wp2_with fail);refine (wnum _ _ _ _ _ _ hw3 X.length 4 (by omega) (by omega) (by simp)).mono ?_;rintro e w4 ⟨rfl,A2,cap2,hw2,hk2,hsub2⟩;simp only [List.nil_append] at hw2;have hXs4:=hXs3.kept hk2 (fun x hx=>by have:=hXb x hx;simp [blk];omega);have hIs4:=hIs3.kept hk2 (fun x hx=>by have:=hIb x hx;simp [blk];omega);have hb24 : Below gw w2 w4:=hb23.trans (hk2.below (by have:=hb23.size;have:=Hgw.out;omega) (by simp [blk]));have hAb : ∀ x ∈ blk A2,gw < x:=fun x hx=>(by have:=(hw2.own.at_base hx).1;omega);clear hw3 hXs3 hIs3 hb23 hk2 hsub2 hg3;(go_wp2_with fail);have hdX : ∀ x ∈ blk XA,x ∉ gw :: blk A2:=fun x hx hm=>by
    have:=hXb x hx;rcases List.mem_cons.1 hm with e | hm
    · omega
    · have:=hAb x hm;omega
  have HdX:=Lib.hid hdX;have HAb:=Lib.hid hAb;have HXb:=Lib.hid hXb;have HIb:=Lib.hid hIb;clear hdX hAb hXb hIb;go_loopw [25] (fun i wr=>∃ k : Nat,k ≤ X.length ∧ i = .int .i64 (k : Nat) ∧ WStep w4 (gw + 1) gw A2 (beL 4 X.length ++ (X.take k).flatMap nodeB) wr) (fun i _=>X.length - (intOf i).toNat)
  case atStart=>exact ⟨0,Nat.zero_le _,rfl,A2,cap2,by simpa using hw2,Keep.refl _ _,fun x hx=>.inl hx⟩
  case round =>
    obtain ⟨k,hk,rfl,A4,cap4,hw4,hk4,hsub4⟩:=hrel;have hbl:=flatMap_len nodeB 85 (X.take k) (fun x hx=>by rw [nodeB_len];have:=nodeE_id (Hok.out x (List.mem_of_mem_take hx)).2;omega);have htl : (X.take k).length = k:=by simp;omega
    rw [htl] at hbl;have hbr : Below gw w2 wr:=hb24.trans (hk4.below (by have:=hb24.size;have:=Hgw.out;omega) (fun x hx=>by
      rcases List.mem_cons.1 hx with rfl | hx
      · omega
      · have:=HAb.out x hx;omega))
    have hbr2 : Below w2.heap.size w2 wr:=by rw [Hgw.out];exact hbr
    have hsq:=h2.below hbr2;by_cases hlt : k < X.length
    · have hLr:=hXs4.kept hk4 HdX.out;obtain ⟨q,o,rfl,hr⟩:=hLr.at_ hlt;rw [List.getElem_map,List.getElem_map] at hr;have hcN:=Hok.out X[k] (List.getElem_mem hlt);have htk : (X.take (k + 1)).flatMap nodeB = (X.take k).flatMap nodeB ++ nodeB X[k]:=by rw [List.take_add_one,List.getElem?_eq_getElem hlt,List.flatMap_append];simp only [Option.toList_some,List.flatMap_cons,List.flatMap_nil,List.append_nil]
      obtain ⟨x,hx⟩ : ∃ x,X[k]'hlt = x:=⟨_,rfl⟩
      rw [hx] at hr htk hcN;have Htk:=Lib.hid htk;have hxe:=nodeE_id hcN.2;have hcn:=hcN.1;obtain ⟨_,hv16,hh1,hh2⟩:=hxe;obtain ⟨hh,hhe⟩ : ∃ hh : Nat,x.h = hh:=⟨x.h.toNat,by omega⟩
      clear hx htk hLr hcN;have hbl0 : (beL 4 X.length ++ (X.take k).flatMap nodeB).length ≤ 200000000:=by rw [List.length_append,beL_length];omega
      obtain ⟨bs0,hbs0⟩ : ∃ bs0,beL 4 X.length ++ (X.take k).flatMap nodeB = bs0:=⟨_,rfl⟩
      have Hbs0:=Lib.hid hbs0;rw [hbs0] at hw4 hbl0;clear hbs0 hbl htl;have hb1 : Below wr.heap.size wr (wr.alloc (.cells (idC x.id) 39)):=(Below.refl _ _).alloc (Nat.le_refl _) _;have hsq1:=hsq.below hb1;have hw5:=hw4.below hb1;have hrx : rowAt (wr.alloc (.cells (idC x.id) 39)) wr.heap.size 0 32 = some (idC x.id):=by simp [go_sem]
      have hgx : wr.heap.size ∉ gw :: blk A4:=by
        simp only [List.mem_cons,not_or];exact ⟨by have:=hw4.lt;omega,fun hx=>by have:=(hw4.own.at_base hx).2;omega⟩
      have hk5 : Keep [] wr (wr.alloc (.cells (idC x.id) 39)):=Keep.alloc _ _;go_upto_region 8 with fail
      obtain ⟨W,hW⟩ : ∃ W,wr.alloc (.cells (idC x.id) 39) = W:=⟨_,rfl⟩
      obtain ⟨gx,hgxe⟩ : ∃ gx,wr.heap.size = gx:=⟨_,rfl⟩
      rw [hW] at hsq1 hw5 hrx hk5;rw [hW];rw [hgxe] at hrx hgx ⊢;have hgxW : gx < W.heap.size:=rowAt_lt hrx;have hc0:=hsq1.cell0;obtain ⟨es,clk,hnm⟩:=hsq1.nodes;have hkn : ∀ y : Subtype (Kp [] W),(Instr.lookup 188 (.map (some bn)) (.agg (idC x.id)) false).run Tryz.prog y.1 = .ok (.agg (sNodeC ⟨x.h,x.ref,x.val⟩)) y.1:=fun y=>nlook (hnm.kept y.2 (by simp)) hcn false;clear hW hgxe hsq hbr hbr2 hb1;refine wp_region_lexf (Kp [] W) false (by kernel_rfl) (by kernel_rfl) (by kernel_rfl) (by kernel_rfl) (kp_drew [] W) ?_;have hne:=kp_some [] W;have hS:=kp_drew [] W;have b1:=ksub_cell hc0 (S:=[]) (by simp);have b2:=ksub_row hrx (S:=[]) (by simp);repeat (refine wpLx_loose ?_ ?_;(focus (simp only [chainOp];done));intro K hK;go_simp;refine hK _ ?_;clear hK K)
      refine wpLx_chain ?_ ?_ ?_;(focus (exact hS));(focus (simp only [chainOp];done));intro K hK;go_simp;refine step_keep (Keep.trans (Keep.trans (Keep.refl [] W) (Keep.drew _) (by simp)) (Keep.alloc _ _) (by simp)) (fun hS2=>?_);refine hK _ _ ?_;clear hK K;repeat (refine wpLx_loose ?_ ?_;(focus (simp only [chainOp];done));intro K hK;go_simp;refine hK _ ?_;clear hK K)
      have hst : (stS 193 ⟨W.heap.size,0,none⟩ (.agg (sNodeC ⟨hh,x.ref,x.val⟩))).run Tryz.prog (W.alloc (.cells (sNodeC sNode0) 193)).drew = .ok () (W.alloc (.cells (sNodeC ⟨hh,x.ref,x.val⟩) 193)).drew:=storeSNode_run W.drew W.heap.size rfl (sNodeC sNode0) (sNodeC_size _) ⟨hh,x.ref,x.val⟩ 193;refine wpLx_end ?_ ?_;(focus (simp only [chainOp];done));intro K hK;go_simp;refine hK _ _ ?_;clear hK K hst;have hk6 : Keep [] W (W.alloc (.cells (sNodeC ⟨hh,x.ref,x.val⟩) 193)).drew:=Keep.trans (Keep.alloc _ _) (Keep.drew _) (by simp);have hw6:=hw5.kept hk6 (by simp) (by simp);have hrx6 : rowAt (W.alloc (.cells (sNodeC ⟨hh,x.ref,x.val⟩) 193)).drew gx 0 32 = some (idC x.id):=(hk6.row hgxW (by simp) 0 32).trans hrx;have hbox : rowAt (W.alloc (.cells (sNodeC ⟨hh,x.ref,x.val⟩) 193)).drew W.heap.size 0 34 = some (sNodeC ⟨hh,x.ref,x.val⟩):=by
        show rowAt (W.alloc (.cells (sNodeC ⟨hh,x.ref,x.val⟩) 193)) W.heap.size 0 34 = _;simp [go_sem]
      have hk56:=Keep.trans hk5 hk6 (by simp);have hgn : W.heap.size ∉ gw :: blk A4:=by
        simp only [List.mem_cons,not_or];exact ⟨by have:=hw5.lt;omega,fun hx=>by have:=(hw5.own.at_base hx).2;omega⟩
      clear hS hS2 hne b1 b2 hkn hnm hc0 hsq1 hw5 hrx hk5 hk6;generalize (W.alloc (.cells (sNodeC ⟨hh,x.ref,x.val⟩) 193)).drew = V at *;obtain ⟨gn,hgne⟩ : ∃ gn,W.heap.size = gn:=⟨_,rfl⟩
      rw [hgne] at hbox hgn ⊢;clear hgne hgxW;have hx0 : V.cell? ⟨gn,0,none⟩ = some (.int .i64 hh):=by have:=rowAt_cell hbox (j:=0) (by omega);rwa [sNodeC_g0,Nat.zero_add] at this
      have hx1 : rowAt V gn 1 32 = some (idC x.ref):=by have:=rowAt_sub hbox (j:=1) (m:=32) (by omega);rwa [sNodeC_e1,Nat.zero_add] at this
      have hx2 : V.cell? ⟨gn,33,none⟩ = some (.string x.val):=by have:=rowAt_cell hbox (j:=33) (by omega);rwa [sNodeC_g33,Nat.zero_add] at this
      have hconv : ∀ (y : Subtype (Kp (gw :: blk A4) V)) c,(convert 37 9 (.slice (some ⟨gx,0,none⟩) 32 c)).run Tryz.prog y.1 = .ok (.string ⟨x.id.l.toArray⟩) y.1:=fun y c=>id_string (ksub_row hrx6 hgx y);have hconv2 : ∀ (y : Subtype (Kp (gw :: blk A4) V)) c,(convert 37 9 (.slice (some ⟨gn,1,none⟩) 32 c)).run Tryz.prog y.1 = .ok (.string ⟨x.ref.l.toArray⟩) y.1:=fun y c=>id_string (ksub_row hx1 hgn y);have hst : WStep V (gw + 1) gw A4 bs0 V.drew:=⟨A4,cap4,hw6.kept (Keep.drew V) (by simp) (by simp),(Keep.drew V).mono (by simp),fun x hx=>.inl hx⟩
      have e3 : (⟨x.id.l.toArray⟩ : ByteArray).size = 32:=by show x.id.l.toArray.size = 32;simp [x.id.h]
      have e4 : (⟨x.id.l.toArray⟩ : ByteArray).data.toList = x.id.l:=by simp
      have e5 : x.id.l.length = 32:=x.id.h;have f3 : (⟨x.ref.l.toArray⟩ : ByteArray).size = 32:=by show x.ref.l.toArray.size = 32;simp [x.ref.h]
      have f4 : (⟨x.ref.l.toArray⟩ : ByteArray).data.toList = x.ref.l:=by simp
      have f5 : x.ref.l.length = 32:=x.ref.h;have E3:=Lib.hid e3;have E4:=Lib.hid e4;have E5:=Lib.hid e5;have F3:=Lib.hid f3;have F4:=Lib.hid f4;have F5:=Lib.hid f5;clear e3 e4 e5 f3 f4 f5;go_upto_region 9 with fail
      refine wp_region_lex (Kp (gw :: blk A4) V) false (by kernel_rfl) (by kernel_rfl) (by kernel_rfl) (kp_drew (gw :: blk A4) V) ?_;have hne:=kp_some (gw :: blk A4) V;have hS:=kp_drew (gw :: blk A4) V;have b1:=ksub_cell hx0 hgn;have b2:=ksub_cell hx2 hgn;clear hx0 hx1 hx2 hbox hr hrx6;repeat (refine wpLx_loose ?_ ?_;(focus (simp only [chainOp];done));intro K hK;go_simp;refine hK _ ?_;clear hK K)
      refine wpLx_chain ?_ ?_ ?_;(focus (exact hS));(focus (simp only [chainOp];done));intro K hK;go_simp;obtain ⟨Ai,capi,hwi,hki,hsubi⟩:=hst;refine (wraw _ _ _ _ _ _ hwi ⟨x.id.l.toArray⟩ (by rw [E3.out];omega)).mono ?_;rintro e w' ⟨rfl,hst'⟩;replace hst:=wstep_trans hwi hki hsubi hst';have hS:=hst.choose_spec.choose_spec.2.1;refine ⟨_,rfl,hS,hK _ _ ?_⟩;clear hK K hwi hki hsubi hst';repeat (refine wpLx_loose ?_ ?_;(focus (simp only [chainOp];done));intro K hK;go_simp;refine hK _ ?_;clear hK K)
      refine wpLx_chain ?_ ?_ ?_;(focus (exact hS));(focus (simp only [chainOp];done));intro K hK;go_simp;obtain ⟨Ai,capi,hwi,hki,hsubi⟩:=hst;refine (wnum _ _ _ _ _ _ hwi hh 4 (by omega) (by omega) (by rw [E4.out,List.length_append,E5.out];omega)).mono ?_;rintro e w' ⟨rfl,hst'⟩;replace hst:=wstep_trans hwi hki hsubi hst';have hS:=hst.choose_spec.choose_spec.2.1;refine ⟨_,rfl,hS,hK _ _ ?_⟩;clear hK K hwi hki hsubi hst';repeat (refine wpLx_loose ?_ ?_;(focus (simp only [chainOp];done));intro K hK;go_simp;refine hK _ ?_;clear hK K)
      refine wpLx_chain ?_ ?_ ?_;(focus (exact hS));(focus (simp only [chainOp];done));intro K hK;go_simp;obtain ⟨Ai,capi,hwi,hki,hsubi⟩:=hst;refine (wraw _ _ _ _ _ _ hwi ⟨x.ref.l.toArray⟩ (by rw [F3.out,E4.out,List.length_append,List.length_append,E5.out,beL_length];omega)).mono ?_;rintro e w' ⟨rfl,hst'⟩;replace hst:=wstep_trans hwi hki hsubi hst';have hS:=hst.choose_spec.choose_spec.2.1;refine ⟨_,rfl,hS,hK _ _ ?_⟩;clear hK K hwi hki hsubi hst';repeat (refine wpLx_loose ?_ ?_;(focus (simp only [chainOp];done));intro K hK;go_simp;refine hK _ ?_;clear hK K)
      refine wpLx_chain ?_ ?_ ?_;(focus (exact hS));(focus (simp only [chainOp];done));intro K hK;go_simp;obtain ⟨Ai,capi,hwi,hki,hsubi⟩:=hst;refine (wnum _ _ _ _ _ _ hwi x.val.size 1 (by omega) (by omega) (by rw [E4.out,F4.out,List.length_append,List.length_append,List.length_append,E5.out,beL_length,F5.out];omega)).mono ?_;rintro e w' ⟨rfl,hst'⟩;replace hst:=wstep_trans hwi hki hsubi hst';have hS:=hst.choose_spec.choose_spec.2.1;refine ⟨_,rfl,hS,hK _ _ ?_⟩;clear hK K hwi hki hsubi hst';repeat (refine wpLx_loose ?_ ?_;(focus (simp only [chainOp];done));intro K hK;go_simp;refine hK _ ?_;clear hK K)
      refine wpLx_chain ?_ ?_ ?_;(focus (exact hS));(focus (simp only [chainOp];done));intro K hK;go_simp;obtain ⟨Ai,capi,hwi,hki,hsubi⟩:=hst;refine (wraw _ _ _ _ _ _ hwi x.val (by rw [E4.out,F4.out,List.length_append,List.length_append,List.length_append,List.length_append,E5.out,beL_length,beL_length,F5.out];omega)).mono ?_;rintro e w' ⟨rfl,hst'⟩;replace hst:=wstep_trans hwi hki hsubi hst';have hS:=hst.choose_spec.choose_spec.2.1;refine ⟨_,rfl,hS,hK _ _ ?_⟩;clear hK K hwi hki hsubi hst';repeat (refine wpLx_loose ?_ ?_;(focus (simp only [chainOp];done));intro K hK;go_simp;refine hK _ ?_;clear hK K)
      refine wpLx_nil ?_;intro hS;have heq : bs0 ++ (⟨x.id.l.toArray⟩ : ByteArray).data.toList ++ beL 4 hh ++ (⟨x.ref.l.toArray⟩ : ByteArray).data.toList ++ beL 1 x.val.size ++ x.val.data.toList = beL 4 X.length ++ (X.take (k + 1)).flatMap nodeB:=by
        rw [Htk.out,E4.out,F4.out,← List.append_assoc (beL 4 X.length),Hbs0.out];simp [nodeB,List.append_assoc,hhe]
      rw [heq] at hst;have hst2:=wstep_trans hw4 hk4 hsub4 (wstep_trans hw6 (hk56.mono (S':=gw :: blk A4) (by simp)) (fun x hx=>.inl hx) hst);have Hst:=Lib.hid hst2;clear hst hst2 heq hconv hconv2 hne b1 b2 hS;(go_wp2_with fail);go_roundw
      case rel=>exact ⟨k + 1,by omega,by go_num,Hst.out⟩
      case measure=>simp [intOf];omega
    · have hkL : X.take k = X:=List.take_of_length_le (by omega);rw [hkL] at hw4 hbl;clear hkL htl hsq hbr2;have hIs5:=hIs4.kept hk4 (fun x hx hm=>by
        have:=HIb.out x hx;rcases List.mem_cons.1 hm with e | hm
        · omega
        · have:=HAb.out x hm;omega)
      have hb05 : Below w.heap.size w wr:=hb02.trans (hbr.mono hszw);have hpl : (beL 4 X.length ++ X.flatMap nodeB).length ≤ 100000000:=by rw [List.length_append,beL_length];omega
      obtain ⟨p0,hp0⟩ : ∃ p0,beL 4 X.length ++ X.flatMap nodeB = p0:=⟨_,rfl⟩
      have Hp0:=Lib.hid hp0;rw [hp0] at hw4 hpl;clear hp0 hbl;have cw:=wnum _ _ _ _ _ _ hw4 G.length 4 (by omega) (by omega) (by omega);(go_wp2_with fail);refine cw.mono ?_;rintro e W3 ⟨rfl,AW,capW,hwW,hkW,hsubW⟩;have hAb4 : ∀ x ∈ blk A4,gw < x:=fun x hx=>(by have:=(hw4.own.at_base hx).1;omega);have hid : SlR W3 IA G.length 32 (G.map idC):=hIs5.kept hkW (fun x hx hm=>by
        have:=HIb.out x hx;rcases List.mem_cons.1 hm with e | hm
        · omega
        · have:=hAb4 x hm;omega)
      have hbF : Below w.heap.size w W3:=hb05.trans (hkW.below (by have:=hb05.size;omega) (fun x hx=>by
        rcases List.mem_cons.1 hx with rfl | hx
        · omega
        · have:=hAb4 x hx;omega))
      have hAbW : ∀ x ∈ blk AW,gw < x:=fun x hx=>(by have:=(hwW.own.at_base hx).1;omega);have hdis : ∀ x ∈ blk IA,x ∉ gw :: blk AW:=fun x hx hm=>by
        have:=HIb.out x hx;rcases List.mem_cons.1 hm with e | hm
        · omega
        · have:=hAbW x hm;omega
      have hbF2 : ∀ w',Keep (gw :: blk AW) W3 w' → Below w.heap.size w w':=fun w' hk=>hbF.trans (hk.below (by have:=hbF.size;omega) (fun x hx=>by
        rcases List.mem_cons.1 hx with rfl | hx
        · omega
        · have:=hAbW x hx;omega))
      have HbF:=Lib.hid hbF2;have hpl2 : (p0 ++ beL 4 G.length).length ≤ 200000000:=by rw [List.length_append,beL_length];omega
      obtain ⟨pre,hpre⟩ : ∃ pre,p0 ++ beL 4 G.length = pre:=⟨_,rfl⟩
      have Hpre : Hid (beL 4 X.length ++ X.flatMap nodeB ++ beL 4 G.length = pre):=(show _ = _ by rw [Hp0.out,hpre])
      rw [hpre] at hwW hpl2;obtain ⟨S,hS⟩ : ∃ S,S = G:=⟨_,rfl⟩
      obtain ⟨Bw,hBw⟩ : ∃ Bw,Bw = gw + 1:=⟨_,rfl⟩
      rw [← hS] at hid hG Hpre ⊢;rw [← hBw] at hwW;have HS:=Lib.hid hS;clear hpre hbF hbF2 hS hBw hIs5 hb05 hw4 hkW hsubW hAb4 hAbW hk4 hsub4 cw hw2 hXs4 hIs4 hb24 hbr h2;(go_wp2_with fail);go_loopw [60] (fun i wr=>∃ k : Nat,k ≤ S.length ∧ i = .int .i64 (k : Nat) ∧ WStep W3 Bw gw AW (pre ++ (S.take k).flatMap Id32.l) wr) (fun i _=>S.length - (intOf i).toNat)
      case atStart=>exact ⟨0,Nat.zero_le _,rfl,AW,capW,by simpa using hwW,Keep.refl _ _,fun x hx=>.inl hx⟩
      case round =>
        obtain ⟨k,hk,rfl,A4,cap4,hw4,hk4,hsub4⟩:=hrel;by_cases hlt : k < S.length
        · have hLr:=(show SlR W3 IA S.length 32 (S.map idC) from hid).kept hk4 hdis;obtain ⟨q,o,rfl,hr⟩:=TagsIn.get hLr hlt hlt;have htk : (S.take (k + 1)).flatMap Id32.l = (S.take k).flatMap Id32.l ++ (S[k]).l:=by rw [List.take_add_one,List.getElem?_eq_getElem hlt,List.flatMap_append];simp only [Option.toList_some,List.flatMap_cons,List.flatMap_nil,List.append_nil]
          have hbl:=flatMap_len Id32.l 32 (S.take k) (fun x hx=>by rw [x.h];exact Nat.le_refl _);have htl : (S.take k).length = k:=by simp;omega
          rw [htl] at hbl;obtain ⟨x,hx⟩ : ∃ x,S[k]'hlt = x:=⟨_,rfl⟩
          rw [hx] at hr htk;have Htk:=Lib.hid htk;clear hx htk hLr htl;have hbl0 : (pre ++ (S.take k).flatMap Id32.l).length ≤ 300000000:=by rw [List.length_append];omega
          obtain ⟨bs0,hbs0⟩ : ∃ bs0,pre ++ (S.take k).flatMap Id32.l = bs0:=⟨_,rfl⟩
          have Hbs0:=Lib.hid hbs0;rw [hbs0] at hw4 hbl0;clear hbs0 hbl;have hb5 : Below wr.heap.size wr (wr.alloc (.cells (idC x) 39)):=(Below.refl _ _).alloc (Nat.le_refl _) _;have hw5:=hw4.below hb5;have hk5 : Keep [] wr (wr.alloc (.cells (idC x) 39)):=Keep.alloc _ _;have hbox : rowAt (wr.alloc (.cells (idC x) 39)) wr.heap.size 0 32 = some (idC x):=by simp [go_sem]
          have hconv : ∀ c,(convert 37 9 (.slice (some ⟨wr.heap.size,0,none⟩) 32 c)).run Tryz.prog (wr.alloc (.cells (idC x) 39)) = .ok (.string ⟨x.l.toArray⟩) (wr.alloc (.cells (idC x) 39)):=fun c=>id_string hbox;have e3 : (⟨x.l.toArray⟩ : ByteArray).size = 32:=by show x.l.toArray.size = 32;simp [x.h]
          have e4 : (⟨x.l.toArray⟩ : ByteArray).data.toList = x.l:=by simp
          have cw:=wraw _ Bw gw A4 cap4 bs0 hw5 ⟨x.l.toArray⟩ (by rw [e3];omega);rw [e4] at cw;clear e3 e4 hbox;(go_wp2_with fail);refine cw.mono ?_;rintro e w6 ⟨rfl,hst⟩;have hst2:=wstep_trans hw4 hk4 hsub4 (wstep_trans hw5 (hk5.mono (S':=gw :: blk A4) (by simp)) (fun x hx=>.inl hx) hst);rw [← Hbs0.out,List.append_assoc,← Htk.out] at hst2;have Hst:=Lib.hid hst2;clear hst hst2 hconv cw hb5 hw5 hk5 hw4 hk4 hsub4;(go_wp2_with fail);go_roundw
          case rel=>exact ⟨k + 1,by omega,by go_num,Hst.out⟩
          case measure=>simp [intOf];omega
        · have hkL : S.take k = S:=List.take_of_length_le (by omega);rw [hkL] at hw4;clear hkL;(go_wp2_with fail);refine (wdone _ _ _ _ _ _ hw4).mono ?_;rintro e w' ⟨rfl,rfl⟩;(go_wp2_with fail);go_ret;exact ⟨ret_strL (by rw [Hput.out,← Hpre.out,HS.out];simp [idsB,List.append_assoc]),HbF.out _ hk4⟩
end
section
open Go.RowKit
def u64N (n : Int) : Nat:=(n % 18446744073709551616).toNat
def putTB (n : Int) : List UInt8:=beL 4 (u64N n / 4294967296) ++ beL 4 (u64N n % 4294967296)
theorem u64N_lt (n : Int) : u64N n < 18446744073709551616:=by unfold u64N;omega
theorem low_and (x : Nat) (hx : x < 18446744073709551616) : bits .and .u64 (x : Int) 4294967295 = ((x % 4294967296 : Nat) : Int):=by
  have h:=bits_and_u64_nat x 4294967295 hx (by omega);have e : x &&& 4294967295 = x % 4294967296:=Nat.and_two_pow_sub_one_eq_mod x 32;rw [e] at h;exact h
theorem u64N_cast (n : Int) : ((u64N n : Nat) : Int) = n % 18446744073709551616:=by unfold u64N;omega
set_option maxRecDepth 100000 in
set_option maxHeartbeats 1000000 in
theorem tput (w : World) (g : Nat) (n : Int) (h : TallyAt w g n) :
    Calls Tryz.prog 324 #[.pointer (some ⟨g,0,none⟩)] w fun e w'=>e = .returned (.string ⟨(putTB n).toArray⟩) ∧ Below w.heap.size w w':=by
  go_enter Tryz.func324,Tryz.ntmps324
  (go_wp2_with fail);refine (tnone _ g n h).mono ?_;rintro e w1 ⟨rfl,rfl⟩;(go_wp2_with fail);refine (at_Load _ g n h).mono ?_;rintro e w1 ⟨rfl,rfl⟩;(go_wp2_with fail);refine (wnew _).mono ?_;rintro e w2 ⟨rfl,hw2,hb2⟩;(go_wp2_with fail);have ew : IntKind.u64.wrap n = ((u64N n : Nat) : Int):=by rw [u64N_cast];rfl
  have e1 : wrap64 (((u64N n : Nat) : Int) / 4294967296) = ((u64N n / 4294967296 : Nat) : Int):=by have:=u64N_lt n;unfold wrap64;omega
  rw [ew,e1];have hlt:=u64N_lt n;obtain ⟨x,hx⟩ : ∃ x,u64N n = x:=⟨_,rfl⟩
  have Hx : Hid (putTB n = beL 4 (x / 4294967296) ++ beL 4 (x % 4294967296)):=(show _ = _ by rw [← hx];rfl)
  rw [hx] at hlt ⊢;clear ew e1 hx;refine (wnum _ _ _ _ _ _ hw2 (x / 4294967296) 4 (by omega) (by omega) (by simp)).mono ?_;rintro e w3 ⟨rfl,A3,cap3,hw3,hk3,hsub3⟩;(go_wp2_with fail);have e2 : wrap64 (bits BinOp.and IntKind.u64 (x : Int) 4294967295) = ((x % 4294967296 : Nat) : Int):=by rw [low_and x hlt];unfold wrap64;omega
  rw [e2];clear e2;refine (wnum _ _ _ _ _ _ hw3 (x % 4294967296) 4 (by omega) (by omega) (by simp [beL_length])).mono ?_;rintro e w4 ⟨rfl,A4,cap4,hw4,hk4,hsub4⟩;(go_wp2_with fail);refine (wdone _ _ _ _ _ _ hw4).mono ?_;rintro e w5 ⟨rfl,rfl⟩;have hb4 : Below w.heap.size w w4:=(hb2.trans (hk3.below hb2.size (by simp [blk]))).trans (hk4.below (by have:=hb2.size;have:=hk3.size;omega) (fun x hx=>by
    rcases List.mem_cons.1 hx with rfl | hx
    · omega
    · have:=(hw3.own.at_base hx).1;omega))
  (go_wp2_with fail);go_ret;exact ⟨ret_strL (by rw [Hx.out]),hb4⟩
end
end Go.Proofs.YtgfpjjppeldhbaaGreatDoor
