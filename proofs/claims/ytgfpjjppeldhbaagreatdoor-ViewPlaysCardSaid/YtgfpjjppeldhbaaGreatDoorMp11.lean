/- Part 11 of the texts that lead to this claim: the walks of the functions and the plain law, in order. -/
import Derived.Test.YtgfpjjppeldhbaaGreatDoorMp10
import Derived.Laws.Bits64b
namespace Go.Proofs.YtgfpjjppeldhbaaGreatDoor
section
open Go.RowKit
@[go_sem] theorem buildRr_s (s : ByteArray) (w : World) : (bdS 112 #[(0,.string s)]).run Tryz.prog w = .ok (.agg (rrC ⟨s,0⟩)) w:=by kernel_rfl
set_option maxRecDepth 100000 in
set_option maxHeartbeats 4000000 in
theorem rop_of (s : ByteArray) (w : World) (hs : s.size ≤ 9223372036854775807) :
    Calls Tryz.prog 27 #[.string s] w (OfRes w s.data.toList):=by
  obtain ⟨l,hl⟩ : ∃ l,s.data.toList = l:=⟨_,rfl⟩
  have hsl : s = mkB l:=by rw [← hl];rfl
  have hll : l.length ≤ 9223372036854775807:=by rw [← hl];exact hs
  have hb0 : Below w.heap.size w ((w.alloc (.cells (zJ yM) 52)).alloc (.cells (rrC ⟨mkB l,0⟩) 112)):=((Below.refl _ _).alloc (Nat.le_refl _) _).alloc (by simp) _;have hg2 : ((w.alloc (.cells (zJ yM) 52)).alloc (.cells (rrC ⟨mkB l,0⟩) 112)).heap[w.heap.size]? = some (.cells (zJ yM) 52 (0,0)):=by
    rw [Below.heap_alloc _ _ _ (by simp)];exact heap_alloc_new w _
  have hr1 : gG ((w.alloc (.cells (zJ yM) 52)).alloc (.cells (rrC ⟨mkB l,0⟩) 112)) (w.heap.size + 1) l 0:=⟨hll,by
    have:=heap_alloc_new (w.alloc (.cells (zJ yM) 52)) (.cells (rrC ⟨mkB l,0⟩) 112);simpa using this⟩
  rw [hl];subst hsl;clear hl hs;have hE : opE l = if xG 1 l 0 ≠ 0 then xG 1 l 0
    else if xQ 1 l 0 = 0 ∨ 7 < xQ 1 l 0 then 10
    else if gE (yX (xQ 1 l 0) (yW 1 l 0) 0).l (yX (xQ 1 l 0) (yW 1 l 0) 0).e ≠ 0 then gE (yX (xQ 1 l 0) (yW 1 l 0) 0).l (yX (xQ 1 l 0) (yW 1 l 0) 0).e
    else QW (yX (xQ 1 l 0) (yW 1 l 0) 0).o:=rfl
  have hO : opO l = (yX (xQ 1 l 0) (yW 1 l 0) 0).o:=rfl;have hk8:=j6 1 l 0;have hk9 : xQ 1 l 0 < 256:=by simpa using hk8
  have HE:=Lib.hid hE;have HO:=Lib.hid hO;clear hE hO hk8;show Calls Tryz.prog 27 #[.string (mkB l)] w _;go_enter Tryz.func27,Tryz.ntmps27
  go_upto_region 2 with fail
  obtain ⟨ga,hga⟩ : ∃ ga,w.heap.size = ga:=⟨_,rfl⟩
  have Hga:=Lib.hid hga;obtain ⟨W,hW⟩ : ∃ W,W = (w.alloc (.cells (zJ yM) 52)).alloc (.cells (rrC ⟨mkB l,0⟩) 112):=⟨_,rfl⟩
  rw [← hW] at hb0 hg2 hr1 ⊢;rw [hga] at hg2 hr1 hb0 ⊢;clear hW hga;obtain ⟨gr,hgr⟩ : ∃ gr,ga + 1 = gr:=⟨_,rfl⟩
  have hgar : ga < gr:=by omega
  rw [hgr] at hr1 ⊢;clear hgr;(go_wp2_with fail);refine (mX W gr 1 l 0 hr1 (.inl rfl)).mono ?_;rintro en w2 ⟨rfl,hr2,hk2⟩;have hg22:=(hk2.block ga (by have:=hr1.lt;omega) (by simp;omega)).trans hg2;have hb02 : Below ga w w2:=hb0.trans (hk2.below (by have:=hr1.lt;omega) (by simp;omega));obtain ⟨k,hk⟩ : ∃ k,xQ 1 l 0 = k:=⟨_,rfl⟩
  rw [hk] at HE HO hk9 ⊢;clear hr1 hk2 hg2 hb0 hk;have hbx : Below w2.heap.size w2 (w2.alloc (.cells (zJ ⟨k,0,⟨#[]⟩,⟨#[]⟩,id0,.slice none 0 0⟩) 52)):=(Below.refl _ _).alloc (Nat.le_refl _) _;have hg3 : (w2.alloc (.cells (zJ ⟨k,0,⟨#[]⟩,⟨#[]⟩,id0,.slice none 0 0⟩) 52)).heap[w2.heap.size]? = some (.cells (zJ ⟨k,0,⟨#[]⟩,⟨#[]⟩,id0,.slice none 0 0⟩) 52 (0,0)):=heap_alloc_new w2 _;have hg2:=(hbx.block ga (Array.getElem?_eq_some_iff.1 hg22).1).trans hg22;have hr3:=hr2.below hbx;have hrlt:=hr2.lt;have hb03 : Below ga w (w2.alloc (.cells (zJ ⟨k,0,⟨#[]⟩,⟨#[]⟩,id0,.slice none 0 0⟩) 52)):=hb02.trans (hbx.mono (by omega));clear hbx hg22 hr2 hb02;go_upto_region 3 with fail
  obtain ⟨go,hgo⟩ : ∃ go,w2.heap.size = go:=⟨_,rfl⟩
  obtain ⟨W,hW⟩ : ∃ W,W = w2.alloc (.cells (zJ ⟨k,0,⟨#[]⟩,⟨#[]⟩,id0,.slice none 0 0⟩) 52):=⟨_,rfl⟩
  rw [← hW] at hg3 hg2 hr3 hb03 ⊢;rw [hgo] at hg3 hrlt ⊢;clear hW hgo;obtain ⟨c0,c1,hfz⟩:=tF hr3;have hx0 : W.cell? ⟨go,0,none⟩ = some (.int .i64 k):=by rw [cell_of_row W go 0 _ _ _ hg3];simp [go_sem]
  have hgoW : go < W.heap.size:=(Array.getElem?_eq_some_iff.1 hg3).1;by_cases he : xG 1 l 0 = 0
  · have hEE:=HE.out;rw [if_neg (by rw [he];simp)] at hEE;rw [he] at hr3 c1;have HEE:=Lib.hid hEE;clear hEE he HE;by_cases hk0 : k = 0 ∨ 7 < k
    · have h2:=HEE.out;rw [if_pos hk0] at h2;have hem:=sB k;rw [decide_eq_true hk0] at hem;have chs:=bG k W (by omega);have HEE2:=Lib.hid h2;clear h2 HEE HO hk0;have hsto:=yY (P:=Tryz.prog) yZ W ga (zJ yM) (zJ yM) _ hg2 (by simp) (by simp) (jB _ rfl);have Hfin:=Lib.hid (setRow_heap W ga _ (zJ yM) _ _ hg2);have hkf : zC [ga] W (W.setRow ga (zJ yM)):=⟨rfl,rfl,rfl,by simp [World.setRow],fun x _ hx=>setRow_other W ga x _ (by simpa using hx)⟩
      have hbf : Below ga w (W.setRow ga (zJ yM)):=hb03.trans (hkf.below (by have:=hr3.lt;omega) (by simp));have Hbf:=Lib.hid hbf;clear hbf hkf hg2 hr3 hb03 hg3;(go_wp2_with fail);refine chs.mono ?_;rintro en w3 ⟨rfl,rfl⟩;(go_wp2_with fail);refine bodyPost_ret (xY Tryz.results27 _ _ ga 52 (zJ yM) (0,0) _ rfl Hfin.out Tryz.underlying52 rfl (by first | (rw [qB];exact yZ) | (rw [k7];exact yZ))) rfl ?_;exact ⟨_,by rw [HEE2.out];rfl,fun h0=>absurd (HEE2.out.symm.trans h0) (by omega),fun _=>rfl,by rw [Hga.out];exact Hbf.out⟩
    · have h2:=HEE.out;rw [if_neg hk0] at h2;have HEE2:=Lib.hid h2;have hk1 : 1 ≤ k:=by omega
      have hk7 : k ≤ 7:=by omega
      have hpl:=wP k (yW 1 l 0) 0 hk1 hk7;have hck:=aR k (yW 1 l 0) 0 hk1 hk7;have hrn:=of_run k (yW 1 l 0) 0 hk1 hk7;have hks:=Z9 k (yW 1 l 0) 0 hk1 hk7;have hem:=sB k;rw [decide_eq_false hk0] at hem;have chs:=bG k W (by omega);have hsz:=KP k;have hch:=QH k;obtain ⟨S,hS⟩ : ∃ S,xM k = S:=⟨_,rfl⟩
      rw [hS] at hem chs hsz hch hrn;obtain ⟨R,hR⟩ : ∃ R,yX k (yW 1 l 0) 0 = R:=⟨_,rfl⟩
      rw [hR] at HEE2 HO hpl hck hrn hks;obtain ⟨o,l2,e2⟩:=R;dsimp only at *;have Hpl:=Lib.hid hpl;have Hck:=Lib.hid hck;have Hrn:=Lib.hid hrn;have HKS:=Lib.hid hks;have Hch:=Lib.hid hch;clear h2 HEE hk0 hR hpl hck hS hrn hch hfz c0 hks;(go_wp2_with fail);refine chs.mono ?_;rintro en w3 ⟨rfl,rfl⟩;clear chs c1;have Hb03:=Lib.hid hb03;clear hb03;(go_wp2_with fail);go_loopw [7,8,9] (fun iv _ _ wr=>∃ (i : Nat) (s : OfS) (A : Option Addr) (cap : Nat),i ≤ S.size ∧ iv = .int .i64 i ∧ Hid (S.data.toList.foldl (fZ k) (ofS0 (yW 1 l 0) 0) = (S.data.toList.drop i).foldl (fZ k) s) ∧ wr.heap[go]? = some (.cells (zJ ⟨k,s.n,s.key,s.val,s.ref,.slice A s.refs.length cap⟩) 52 (0,0)) ∧ wr.heap[ga]? = some (.cells (zJ yM) 52 (0,0)) ∧ gG wr gr s.l s.e ∧ Own wr W.heap.size 39 32 A s.refs.length cap (s.refs.map idC) ∧ zC [gr,go] W wr ∧ s.refs.length ≤ 255 * i) (fun iv _ _ _=>S.size - (intOf iv).toNat)
      case atStart=>exact ⟨0,ofS0 (yW 1 l 0) 0,none,0,Nat.zero_le _,rfl,rfl,hg3,hg2,hr3,Own.nil _ _ _ _,zC.refl _ _,Nat.le_refl _⟩
      case round =>
        clear hg3 hg2 hr3 hx0;obtain ⟨i,s,A,cap,hi,rfl,hrun,hg3,hg2,hE,hown,hK,hrl⟩:=hrel;obtain ⟨n1,key1,val1,ref1,refs1,l1,e1⟩:=s;dsimp only at *;by_cases hlt : i < S.size
        · have hlt' : i < S.data.toList.length:=by simpa using hlt
          have hdr : S.data.toList.drop i = S.data.toList[i]'hlt' :: S.data.toList.drop (i + 1):=List.drop_eq_getElem_cons hlt';have hge : S[i]'hlt = S.data.toList[i]'hlt':=by rw [Array.getElem_toList];rfl
          have hmem : S.data.toList[i]'hlt' ∈ S.data.toList:=List.getElem_mem hlt';have hcs:=Hch.out _ hmem;obtain ⟨c,hc⟩ : ∃ c,S.data.toList[i]'hlt' = c:=⟨_,rfl⟩
          rw [hc] at hdr hge hcs;have hrun2:=hrun.out;rw [hdr,List.foldl_cons] at hrun2;have Hrun:=Lib.hid hrun2;clear hdr hmem hc hrun hrun2 hlt';have hno : go ∉ [gr]:=by simp;omega
          have hnr : gr ∉ [go]:=by simp;omega
          have hna : ga ∉ [gr,go]:=by simp;omega
          have hA1 : ∀ x ∈ blk A,x ∉ [gr]:=fun x hx=>(by have:=(hown.at_base hx).1;simp;omega);have hA2 : ∀ x ∈ blk A,x ∉ [go]:=fun x hx=>(by have:=(hown.at_base hx).1;simp;omega);rcases hcs with rfl | rfl | rfl | rfl | rfl
          · skip;(go_wp2_with fail);refine (mX _ gr 4 _ _ hE (.inr rfl)).mono ?_;rintro en w3 ⟨rfl,hE3,hk23⟩;have hn4:=j6 4 l1 e1;obtain ⟨nv,hnv⟩ : ∃ nv,xQ 4 l1 e1 = nv:=⟨_,rfl⟩
            rw [hnv] at hn4 ⊢;have Hst : Hid (fZ k ⟨n1,key1,val1,ref1,refs1,l1,e1⟩ 78 = ⟨if k = 1 then (nv : Int) - 2147483648 else (nv : Int),key1,val1,ref1,refs1,yW 4 l1 e1,xG 4 l1 e1⟩):=Lib.hid (by rw [of_78,hnv]);clear hnv;have hn5 : nv < 4294967296:=by simpa using hn4
            clear hn4;have h83:=(hk23.block go (Array.getElem?_eq_some_iff.1 hg3).1 hno).trans hg3;have hc83 : ∀ j,w3.frozen? ⟨go,j,none⟩ = false:=fun j=>(by simp [World.frozen?,h83]);have f0:=hc83 1;have hg3n:=zM h83 1 (.int .i64 nv);rw [uQ] at hg3n;have hks:=zC.setCell w3 ⟨go,1,none⟩ (.int .i64 nv);have hEn:=hE3.kept hks hnr;have hg2n:=((zC.trans (hk23.mono (S':=[gr,go]) (by simp)) (hks.mono (S':=[gr,go]) (by simp)) (fun x hx=>.inl hx)).block ga (Array.getElem?_eq_some_iff.1 hg2).1 hna).trans hg2;have hownn:=(hown.kept hk23 hA1).kept hks hA2;have hKn : zC [gr,go] W (w3.setCell ⟨go,1,none⟩ (.int .i64 nv)):=zC.trans (zC.trans hK (hk23.mono (S':=[gr,go]) (by simp)) (fun x hx=>.inl hx)) (hks.mono (S':=[gr,go]) (by simp)) (fun x hx=>.inl hx);clear hc83 hks hE hE3 hk23 hown hK hg2 hg3;have x0 : w3.cell? ⟨go,1,none⟩ = some (.int .i64 n1):=by rw [cell_of_row w3 go _ _ _ _ h83];simp [go_sem]
            clear h83;go_upto_region 19 with fail
            obtain ⟨W',hW'⟩ : ∃ W',W' = w3.setCell ⟨go,1,none⟩ (.int .i64 nv):=⟨_,rfl⟩
            rw [← hW'] at hg3n hEn hg2n hownn hKn ⊢;clear hW' x0 f0;have y0 : W'.cell? ⟨go,0,none⟩ = some (.int .i64 k):=by rw [cell_of_row W' go _ _ _ _ hg3n];simp [go_sem]
            cases hkb : ((k : Int) == 1) with
            | false =>
              have hk1n : k ≠ 1:=by intro h;subst h;simp at hkb
              have hst:=Hst.out;rw [if_neg hk1n] at hst;have Hst2:=Lib.hid hst;clear hst hk1n Hst;(go_wp2_with fail);go_roundw
              case rel=>exact ⟨i + 1,⟨nv,key1,val1,ref1,refs1,yW 4 l1 e1,xG 4 l1 e1⟩,A,cap,by omega,by go_num,(show _ = _ by rw [Hrun.out,Hst2.out]),hg3n,hg2n,hEn,hownn,hKn,(by simp only;omega)⟩
              case measure=>simp [intOf];omega
            | true =>
              have hk1y : k = 1:=by have : (k : Int) = 1:=by simpa using hkb
                                    omega
              have hst:=Hst.out;rw [if_pos hk1y] at hst;have Hst2:=Lib.hid hst;clear hst hk1y Hst;have f0 : W'.frozen? ⟨go,1,none⟩ = false:=by simp [World.frozen?,hg3n]
              have x0 : W'.cell? ⟨go,1,none⟩ = some (.int .i64 nv):=by rw [cell_of_row W' go _ _ _ _ hg3n];simp [go_sem]
              have hw : IntKind.i64.wrap ((nv : Int) - 2147483648) = (nv : Int) - 2147483648:=IntWalk.i64_in _ (by omega);have hg3m:=zM hg3n 1 (.int .i64 ((nv : Int) - 2147483648));rw [uQ] at hg3m;have hks:=zC.setCell W' ⟨go,1,none⟩ (.int .i64 ((nv : Int) - 2147483648));have hEm:=gG.kept hEn hks hnr;have hg2m:=(hks.block ga (Array.getElem?_eq_some_iff.1 hg2n).1 (by simp;omega)).trans hg2n;have hownm:=hownn.kept hks hA2;have hKm : zC [gr,go] W (W'.setCell ⟨go,1,none⟩ (.int .i64 ((nv : Int) - 2147483648))):=zC.trans hKn (hks.mono (S':=[gr,go]) (by simp)) (fun x hx=>.inl hx);clear hks hEn hg2n hownn hKn hg3n;(go_wp2_with fail);go_roundw
              case rel=>exact ⟨i + 1,⟨(nv : Int) - 2147483648,key1,val1,ref1,refs1,yW 4 l1 e1,xG 4 l1 e1⟩,A,cap,by omega,by go_num,(show _ = _ by rw [Hrun.out,Hst2.out]),hg3m,hg2m,hEm,hownm,hKm,(by simp only;omega)⟩
              case measure=>simp [intOf];omega
          · skip;(go_wp2_with fail);refine (mX _ gr 1 _ _ hE (.inl rfl)).mono ?_;rintro en w2 ⟨rfl,hr2,hk2⟩;have hn2:=j6 1 l1 e1;(go_wp2_with fail);refine (cA _ gr _ _ _ hr2 (by omega)).mono ?_;rintro en w3 ⟨rfl,hE3,hk3⟩;replace hE3 : gG w3 gr (txL l1 e1) (txE l1 e1):=hE3;obtain ⟨tv,hkv⟩ : ∃ tv,mkB (jA (xQ 1 l1 e1) (yW 1 l1 e1) (xG 1 l1 e1)) = tv:=⟨_,rfl⟩
            have Htv:=Lib.hid (show txV l1 e1 = tv from hkv);rw [hkv];have hk23 : zC [gr] wr w3:=zC.trans hk2 hk3 (fun x hx=>.inl hx);clear hr2 hk2 hk3 hn2 hkv;have h83:=(hk23.block go (Array.getElem?_eq_some_iff.1 hg3).1 hno).trans hg3;have hc83 : ∀ j,w3.frozen? ⟨go,j,none⟩ = false:=fun j=>(by simp [World.frozen?,h83]);have f0:=hc83 2;have hg3n:=zM h83 2 (.string tv);rw [lG] at hg3n;have hks:=zC.setCell w3 ⟨go,2,none⟩ (.string tv);have hEn:=hE3.kept hks hnr;have hg2n:=((zC.trans (hk23.mono (S':=[gr,go]) (by simp)) (hks.mono (S':=[gr,go]) (by simp)) (fun x hx=>.inl hx)).block ga (Array.getElem?_eq_some_iff.1 hg2).1 hna).trans hg2;have hownn:=(hown.kept hk23 hA1).kept hks hA2;have hKn : zC [gr,go] W (w3.setCell ⟨go,2,none⟩ (.string tv)):=zC.trans (zC.trans hK (hk23.mono (S':=[gr,go]) (by simp)) (fun x hx=>.inl hx)) (hks.mono (S':=[gr,go]) (by simp)) (fun x hx=>.inl hx);clear hc83 hks hE hE3 hk23 hown hK hg2 hg3;have x0 : w3.cell? ⟨go,2,none⟩ = some (.string key1):=by rw [cell_of_row w3 go _ _ _ _ h83];simp [go_sem]
            clear h83;(go_wp2_with fail);go_roundw
            case rel=>exact ⟨i + 1,⟨n1,tv,val1,ref1,refs1,txL l1 e1,txE l1 e1⟩,A,cap,by omega,by go_num,(show _ = _ by rw [Hrun.out,of_75,Htv.out]),hg3n,hg2n,hEn,hownn,hKn,(by simp only;omega)⟩
            case measure=>simp [intOf];omega
          · skip;(go_wp2_with fail);refine (mX _ gr 1 _ _ hE (.inl rfl)).mono ?_;rintro en w2 ⟨rfl,hr2,hk2⟩;have hn2:=j6 1 l1 e1;(go_wp2_with fail);refine (cA _ gr _ _ _ hr2 (by omega)).mono ?_;rintro en w3 ⟨rfl,hE3,hk3⟩;replace hE3 : gG w3 gr (txL l1 e1) (txE l1 e1):=hE3;obtain ⟨tv,hkv⟩ : ∃ tv,mkB (jA (xQ 1 l1 e1) (yW 1 l1 e1) (xG 1 l1 e1)) = tv:=⟨_,rfl⟩
            have Htv:=Lib.hid (show txV l1 e1 = tv from hkv);rw [hkv];have hk23 : zC [gr] wr w3:=zC.trans hk2 hk3 (fun x hx=>.inl hx);clear hr2 hk2 hk3 hn2 hkv;have h83:=(hk23.block go (Array.getElem?_eq_some_iff.1 hg3).1 hno).trans hg3;have hc83 : ∀ j,w3.frozen? ⟨go,j,none⟩ = false:=fun j=>(by simp [World.frozen?,h83]);have f0:=hc83 3;have hg3n:=zM h83 3 (.string tv);rw [fF] at hg3n;have hks:=zC.setCell w3 ⟨go,3,none⟩ (.string tv);have hEn:=hE3.kept hks hnr;have hg2n:=((zC.trans (hk23.mono (S':=[gr,go]) (by simp)) (hks.mono (S':=[gr,go]) (by simp)) (fun x hx=>.inl hx)).block ga (Array.getElem?_eq_some_iff.1 hg2).1 hna).trans hg2;have hownn:=(hown.kept hk23 hA1).kept hks hA2;have hKn : zC [gr,go] W (w3.setCell ⟨go,3,none⟩ (.string tv)):=zC.trans (zC.trans hK (hk23.mono (S':=[gr,go]) (by simp)) (fun x hx=>.inl hx)) (hks.mono (S':=[gr,go]) (by simp)) (fun x hx=>.inl hx);clear hc83 hks hE hE3 hk23 hown hK hg2 hg3;have x0 : w3.cell? ⟨go,3,none⟩ = some (.string val1):=by rw [cell_of_row w3 go _ _ _ _ h83];simp [go_sem]
            clear h83;(go_wp2_with fail);go_roundw
            case rel=>exact ⟨i + 1,⟨n1,key1,tv,ref1,refs1,txL l1 e1,txE l1 e1⟩,A,cap,by omega,by go_num,(show _ = _ by rw [Hrun.out,of_86,Htv.out]),hg3n,hg2n,hEn,hownn,hKn,(by simp only;omega)⟩
            case measure=>simp [intOf];omega
          · skip;(go_wp2_with fail);refine (rr_id _ gr _ _ hE).mono ?_;rintro en w3 ⟨rfl,hE3,hk23⟩;obtain ⟨d,hd⟩ : ∃ d,kI (jA 32 l1 e1) = d:=⟨_,rfl⟩
            have Hst : Hid (fZ k ⟨n1,key1,val1,ref1,refs1,l1,e1⟩ 82 = ⟨n1,key1,val1,d,refs1,yW 32 l1 e1,xG 32 l1 e1⟩):=Lib.hid (by rw [of_82,hd]);rw [hd];clear hd;have h83:=(hk23.block go (Array.getElem?_eq_some_iff.1 hg3).1 hno).trans hg3;have hst:=lA d h83;have hg3n:=setRow_heap w3 go _ (zJ ⟨k,n1,key1,val1,d,.slice A refs1.length cap⟩) _ _ h83;have hks : zC [go] w3 (w3.setRow go (zJ ⟨k,n1,key1,val1,d,.slice A refs1.length cap⟩)):=⟨rfl,rfl,rfl,by simp [World.setRow],fun x _ hx=>setRow_other w3 go x _ (by simpa using hx)⟩
            have hEn:=gG.kept hE3 hks hnr;have hg2n:=((zC.trans (hk23.mono (S':=[gr,go]) (by simp)) (hks.mono (S':=[gr,go]) (by simp)) (fun x hx=>.inl hx)).block ga (Array.getElem?_eq_some_iff.1 hg2).1 hna).trans hg2;have hownn:=(hown.kept hk23 hA1).kept hks hA2;have hKn : zC [gr,go] W (w3.setRow go (zJ ⟨k,n1,key1,val1,d,.slice A refs1.length cap⟩)):=zC.trans (zC.trans hK (hk23.mono (S':=[gr,go]) (by simp)) (fun x hx=>.inl hx)) (hks.mono (S':=[gr,go]) (by simp)) (fun x hx=>.inl hx);clear hks hE hE3 hk23 hown hK hg2 hg3 h83;(go_wp2_with fail);go_roundw
            case rel=>exact ⟨i + 1,⟨n1,key1,val1,d,refs1,yW 32 l1 e1,xG 32 l1 e1⟩,A,cap,by omega,by go_num,(show _ = _ by rw [Hrun.out,Hst.out]),hg3n,hg2n,hEn,hownn,hKn,(by simp only;omega)⟩
            case measure=>simp [intOf];omega
          · skip;(go_wp2_with fail);refine (mX _ gr 1 _ _ hE (.inl rfl)).mono ?_;rintro en w3 ⟨rfl,hE3,hk23⟩;have hn4:=j6 1 l1 e1;obtain ⟨N,hN⟩ : ∃ N,xQ 1 l1 e1 = N:=⟨_,rfl⟩
            obtain ⟨LR,hLR⟩ : ∃ LR,wR N ⟨refs1,yW 1 l1 e1,xG 1 l1 e1⟩ = LR:=⟨_,rfl⟩
            have Hst : Hid (fZ k ⟨n1,key1,val1,ref1,refs1,l1,e1⟩ 83 = ⟨n1,key1,val1,ref1,LR.ids,LR.l,LR.e⟩):=Lib.hid (by rw [of_83,hN,hLR]);have HLR:=Lib.hid (show vG N ⟨refs1,yW 1 l1 e1,xG 1 l1 e1⟩ = LR from hLR);rw [hN] at hn4 ⊢;clear hN hLR;have hn5 : N < 256:=by simpa using hn4
            clear hn4;have hg3n:=(hk23.block go (Array.getElem?_eq_some_iff.1 hg3).1 hno).trans hg3;have hg2n:=(hk23.block ga (Array.getElem?_eq_some_iff.1 hg2).1 (by simp;omega)).trans hg2;have hownn:=hown.kept hk23 hA1;have hKn : zC [gr,go] W w3:=zC.trans hK (hk23.mono (S':=[gr,go]) (by simp)) (fun x hx=>.inl hx);clear hE hk23 hown hK hg2 hg3 hA1 hA2;obtain ⟨W3,rfl⟩ : ∃ W' : World,W' = w3:=⟨_,rfl⟩
            (go_wp2_with fail);go_loopw [9] (fun jv wr=>∃ (j : Nat) (s : pJ) (A : Option Addr) (cap : Nat),j ≤ N ∧ jv = .int .i64 j ∧ s.ids.length = refs1.length + j ∧ Hid (LR = vG (N - j) s) ∧ wr.heap[go]? = some (.cells (zJ ⟨k,n1,key1,val1,ref1,.slice A s.ids.length cap⟩) 52 (0,0)) ∧ wr.heap[ga]? = some (.cells (zJ yM) 52 (0,0)) ∧ gG wr gr s.l s.e ∧ Own wr W.heap.size 39 32 A s.ids.length cap (s.ids.map idC) ∧ zC [gr,go] W wr) (fun jv _=>N - (intOf jv).toNat)
            case atStart=>exact ⟨0,⟨refs1,yW 1 l1 e1,xG 1 l1 e1⟩,A,cap,Nat.zero_le _,rfl,rfl,(show _ = _ from HLR.out.symm),hg3n,hg2n,hE3,hownn,hKn⟩
            case round =>
              clear hg3n hg2n hE3 hownn hKn HLR;obtain ⟨j,s,A,cap,hj,rfl,hsl,hlp,hg3,hg2,hE,hown,hK⟩:=hrel;obtain ⟨ids,l3,e3⟩:=s;dsimp only at *;by_cases hltj : j < N
              · have hlp2:=hlp.out;rw [show N - j = (N - (j + 1)) + 1 by omega] at hlp2;have hlp3 : LR = vG (N - (j + 1)) ⟨ids ++ [kI (jA 32 l3 e3)],yW 32 l3 e3,xG 32 l3 e3⟩:=hlp2;have Hlp:=Lib.hid hlp3;clear hlp hlp2 hlp3;have hAb : ∀ x ∈ blk A,W.heap.size ≤ x ∧ x < wr.heap.size:=fun x hx=>hown.at_base hx;have hnS : go ∉ gr :: blk A:=by
                  intro hm;rcases List.mem_cons.1 hm with h1 | h1
                  · omega
                  · have:=(hAb _ h1).1;omega
                have hgA : gr ∉ blk A:=fun h1=>(by have:=(hAb _ h1).1;omega);have hgaS : ga ∉ gr :: blk A:=by
                  intro hm;rcases List.mem_cons.1 hm with h1 | h1
                  · omega
                  · have:=(hAb _ h1).1;omega
                have x0 : wr.cell? ⟨go,36,none⟩ = some (.slice A ids.length cap):=by rw [cell_of_row wr go _ _ _ _ hg3];simp [go_sem]
                have cid:=rr_id wr.drew gr l3 e3 (hE.kept (zC.drew wr) (by simp));have hids : ids.length ≤ 1275:=by omega
                have HSL:=Lib.hid hsl;have hKW:=Lib.hid hK;clear hsl hK;go_upto_region 16 with fail
                refine qQ (Kp (gr :: blk A) wr) false (by kernel_rfl) (by kernel_rfl) (by kernel_rfl) (by kernel_rfl) (yB (gr :: blk A) wr) ?_;have hne:=xD (gr :: blk A) wr;have hS:=yB (gr :: blk A) wr;have b1:=zZ x0 hnS;repeat (refine zB ?_ ?_;(focus (simp only [zA];done));intro K hK;go_simp;refine hK _ ?_;clear hK K)
                refine zH ?_ ?_ ?_;(focus (exact hS));(focus (simp only [zA];done));intro K hK;go_simp;refine cid.mono ?_;rintro en w4 ⟨rfl,hE4,hk4⟩;replace hS:=jF hS hk4 (by simp);refine ⟨_,rfl,hS,hK _ _ ?_⟩;clear hK K cid;repeat (refine zB ?_ ?_;(focus (simp only [zA];done));intro K hK;go_simp;refine hK _ ?_;clear hK K)
                refine zH ?_ ?_ ?_;(focus (exact hS));(focus (simp only [zA];done));intro K hK;go_simp;refine zY (qE hS _) (fun hS=>?_);refine hK _ _ ?_;clear hK K;obtain ⟨d,hd⟩ : ∃ d,kI (jA 32 l3 e3) = d:=⟨_,rfl⟩
                rw [hd] at hS ⊢;have Hd:=Lib.hid hd;clear hd;have hk04 : zC [gr] wr w4:=zC.trans ((zC.drew wr).mono (S':=[gr]) (by simp)) hk4 (fun x hx=>.inl hx);have hb4:=zC.alloc w4 (.cells (idC d) 39);have hownr:=(hown.kept hk04 (fun x hx=>by have:=(hAb x hx).1;simp;omega)).kept hb4 (by simp);have hrow2 : zF (w4.alloc (.cells (idC d) 39)) w4.heap.size 0 32 = some (idC d):=by simp [go_sem]
                have hsz4:=hk04.size;have hBs : W.heap.size ≤ (w4.alloc (.cells (idC d) 39)).heap.size:=by have:=hKW.out.size;simp;omega
                refine fN xX rfl hownr rfl hrow2 (xW _) (by omega) (by omega) hBs ?_;intro A2 cap2 w5 hown5 hk5 hsub5;have hk45 : zC (blk A) w4 w5:=zC.trans (hb4.mono (S':=blk A) (by simp)) hk5 (fun x hx=>.inl hx);have hS5 : zC (gr :: blk A) wr w5:=zC.trans (hk04.mono (S':=gr :: blk A) (by simp)) (hk45.mono (S':=gr :: blk A) (fun x hx=>.inl (List.mem_cons_of_mem _ hx))) (fun x hx=>.inl hx);refine zY hS5 (fun hS6=>?_);repeat (refine zB ?_ ?_;(focus (simp only [zA];done));intro K hK;go_simp;refine hK _ ?_;clear hK K)
                have hgl1 : go < wr.heap.size:=(Array.getElem?_eq_some_iff.1 hg3).1;have hgl2 : ga < wr.heap.size:=(Array.getElem?_eq_some_iff.1 hg2).1;have hg35:=(hS5.block go hgl1 hnS).trans hg3;have hg25:=(hS5.block ga hgl2 hgaS).trans hg2;have f0 : w5.frozen? ⟨go,36,none⟩ = false:=by simp [World.frozen?,hg35]
                have d0 : w5.cell? ⟨go,36,none⟩ = some (.slice A ids.length cap):=by rw [cell_of_row w5 go _ _ _ _ hg35];simp [go_sem]
                refine kR ?_ ?_;(focus (simp only [zA];done));intro K hK;go_simp;refine hK _ _ ?_;clear hK K;have hg3n:=zM hg35 36 (.slice A2 (ids.length + 1) cap2);rw [wQ] at hg3n;have hks:=zC.setCell w5 ⟨go,36,none⟩ (.slice A2 (ids.length + 1) cap2);have hE6:=(gG.kept hE4 hk45 hgA).kept hks hnr;have hg2n:=(hks.block ga (by have:=hS5.size;omega) (by simp;omega)).trans hg25;have hA2 : ∀ x ∈ blk A2,x ∉ [go]:=fun x hx=>(by have:=(hown5.at_base hx).1;simp;omega);have hown6:=hown5.kept hks hA2;have hKn : zC [gr,go] W (w5.setCell ⟨go,36,none⟩ (.slice A2 (ids.length + 1) cap2)):=by
                  have h1 : zC [gr,go] W w5:=(zC.trans (hKW.out.mono (S':=gr :: go :: blk A) (by intro x hx;simp at hx ⊢;omega)) (hS5.mono (S':=gr :: go :: blk A) (fun x hx=>.inl (by rcases List.mem_cons.1 hx with h | h;exact List.mem_cons.2 (.inl h);exact List.mem_cons.2 (.inr (List.mem_cons.2 (.inr h)))))) (fun x hx=>.inl hx)).narrow (fun x hx=>by
                    rcases List.mem_cons.1 hx with h | h
                    · exact .inl (by simp [h])
                    · rcases List.mem_cons.1 h with h | h
                      · exact .inl (by simp [h])
                      · right;exact (hAb x h).1)
                  exact zC.trans h1 (hks.mono (S':=[gr,go]) (by simp)) (fun x hx=>.inl hx)
                have hl2 : (ids ++ [d]).length = ids.length + 1:=by simp
                rw [show ids.map idC ++ [idC d] = (ids ++ [d]).map idC by simp] at hown6;have Hl2:=Lib.hid hl2;rw [Hd.out] at Hlp;clear hl2 f0 d0 b1 hne hS hS5 hS6 hk04 hk45 hk4 hk5 hsub5 hown5 hownr hrow2 hb4 hg35 hg25 hks hE4 hBs hown hE hg3 hg2 x0 hA2 hKW;(go_wp2_with fail);go_roundw
                case rel=>exact ⟨j + 1,⟨ids ++ [d],yW 32 l3 e3,xG 32 l3 e3⟩,A2,cap2,by omega,by go_num,by rw [Hl2.out,HSL.out];omega,Hlp,(by rw [Hl2.out];exact hg3n),hg2n,hE6,(by rw [Hl2.out];exact hown6),hKn⟩
                case measure=>simp [intOf];omega
              · have hfin : LR = ⟨ids,l3,e3⟩:=by rw [hlp.out,show N - j = 0 by omega];rfl
                have Hfl:=Lib.hid hfin;have hlb : ids.length ≤ 255 * (i + 1):=by omega
                have Hlb:=Lib.hid hlb;clear hsl hfin hlp hlb;(go_wp2_with fail);go_roundw
                case rel=>exact ⟨i + 1,⟨n1,key1,val1,ref1,ids,l3,e3⟩,A,cap,by omega,by go_num,(show _ = _ by rw [Hrun.out,Hst.out,Hfl.out]),hg3,hg2,hE,hown,hK,Hlb.out⟩
                case measure=>simp [intOf];omega
        · skip;have hrf:=Hrn.out;have hrx:=hrun.out;rw [List.drop_eq_nil_of_le (by simp;omega),List.foldl_nil] at hrx;rw [hrx] at hrf;have hoeq : (⟨⟨k,n1,key1,val1,ref1,refs1⟩,l1,e1⟩ : OpR) = ⟨o,l2,e2⟩:=hrf;injection hoeq with ho1 ho2 ho3
          have HO1:=Lib.hid ho1;subst ho2 ho3;have hb04 : Below ga w wr:=Hb03.out.trans (hK.below (by have:=hgoW;omega) (by simp;omega));have hga4 : ga ≤ wr.heap.size:=by have:=hb04.size;have:=Hga.out;omega
          have hcells : zJ ⟨k,n1,key1,val1,ref1,.slice A refs1.length cap⟩ = opC o A cap:=by rw [← HO1.out];rfl
          have hown4 : Own wr W.heap.size 39 32 A o.refs.length cap (o.refs.map idC):=by rw [← HO1.out];exact hown
          rw [hcells] at hg3;have hrow : zF wr go 0 37 = some (opC o A cap):=by unfold zF;rw [hg3];simp [go_sem]
          have ce:=rr_end _ gr l1 e1 hE;have HgoW:=Lib.hid hgoW;clear hrf hrx hrun hK hi hrl Hrn Hch Hb03 hown hcells hg3 hE ho1 hsz hem hgoW;(go_wp2_with fail);refine ce.mono ?_;rintro en w5 ⟨rfl,hb5⟩;have hg25:=(hb5.block ga (Array.getElem?_eq_some_iff.1 hg2).1).trans hg2;have hrow5 : zF w5 go 0 37 = some (opC o A cap):=(zI (hb5.block go (zL hrow)) _ _).trans hrow;have hown5:=hown4.below hb5;have hb05 : Below ga w w5:=hb04.trans (hb5.mono hga4);have hga5 : ga ≤ w5.heap.size:=by have:=hb5.size;omega
          clear ce hg2 hrow hown4 hb04 hb5 hga4;by_cases hee : gE l1 e1 = 0
          · have h2:=HEE2.out;rw [if_neg (by rw [hee];simp),← Hck.out] at h2;rw [hee];have hT5 : y4 w5 A o.refs.length o.refs:=hown5.slr;have cc:=rJ o A cap w5 Hpl.out.1 hT5 (by have:=Hpl.out.2.2;omega) HKS.out.1 HKS.out.2;obtain ⟨ck,hckk⟩ : ∃ ck,pA o = ck:=⟨_,rfl⟩
            rw [hckk] at h2 cc;have HEE3:=Lib.hid h2;clear h2 HEE2 hee hckk hT5;(go_wp2_with fail);refine cc.mono ?_;rintro en w6 ⟨rfl,hb6⟩;have hg26:=(hb6.block ga (Array.getElem?_eq_some_iff.1 hg25).1).trans hg25;have hrow6 : zF w6 go 0 37 = some (opC o A cap):=(zI (hb6.block go (zL hrow5)) _ _).trans hrow5;have hown6:=hown5.below hb6;have hb06 : Below ga w w6:=hb05.trans (hb6.mono hga5);have hga6 : ga ≤ w6.heap.size:=by have:=hb6.size;omega
            clear cc hg25 hrow5 hown5 hb05 hb6;cases hc0 : (ck == 0) with
            | true =>
              obtain rfl : ck = 0:=by simpa using hc0
              have hsto:=yY (P:=Tryz.prog) yZ w6 ga (zJ yM) (opC o A cap) _ hg26 (by simp) (by simp) (YV o A cap);have Hfin:=Lib.hid (setRow_heap w6 ga _ (opC o A cap) _ _ hg26);have hkf : zC [ga] w6 (w6.setRow ga (opC o A cap)):=⟨rfl,rfl,rfl,by simp [World.setRow],fun x _ hx=>setRow_other w6 ga x _ (by simpa using hx)⟩
              have hbf : Below ga w (w6.setRow ga (opC o A cap)):=hb06.trans (hkf.below hga6 (by simp));have hownf : Own (w6.setRow ga (opC o A cap)) w.heap.size 39 32 A o.refs.length cap (o.refs.map idC):=(hown6.mono (by have:=Hga.out;have:=HgoW.out;omega)).kept hkf (fun x hx=>by have:=(hown6.at_base hx).1;have:=HgoW.out;simp;omega);have Hbf:=Lib.hid hbf;have Hownf:=Lib.hid hownf;clear hbf hkf hg26 hb06 hownf hown6;(go_wp2_with fail);refine bodyPost_ret (xY Tryz.results27 _ _ ga 52 (opC o A cap) (0,0) _ rfl Hfin.out Tryz.underlying52 rfl (by first | (rw [qB];exact yZ) | (rw [k7];exact yZ))) rfl ?_;exact ⟨_,by rw [HEE3.out];rfl,fun _=>⟨A,cap,by rw [HO.out],by rw [HO.out];exact Hownf.out⟩,fun h0=>absurd HEE3.out h0,by rw [Hga.out];exact Hbf.out⟩
            | false =>
              have hcn : ck ≠ 0:=by simpa using hc0
              have hcb : (ck != 0) = true:=by simpa using hc0
              have Hcn:=Lib.hid hcn;clear hcn;have hsto:=yY (P:=Tryz.prog) yZ w6 ga (zJ yM) (zJ yM) _ hg26 (by simp) (by simp) (jB _ rfl);have Hfin:=Lib.hid (setRow_heap w6 ga _ (zJ yM) _ _ hg26);have hkf : zC [ga] w6 (w6.setRow ga (zJ yM)):=⟨rfl,rfl,rfl,by simp [World.setRow],fun x _ hx=>setRow_other w6 ga x _ (by simpa using hx)⟩
              have hbf : Below ga w (w6.setRow ga (zJ yM)):=hb06.trans (hkf.below hga6 (by simp));have Hbf:=Lib.hid hbf;clear hbf hkf hg26 hb06 hown6;(go_wp2_with fail);refine bodyPost_ret (xY Tryz.results27 _ _ ga 52 (zJ yM) (0,0) _ rfl Hfin.out Tryz.underlying52 rfl (by first | (rw [qB];exact yZ) | (rw [k7];exact yZ))) rfl ?_;exact ⟨_,by rw [HEE3.out];rfl,fun h0=>absurd (HEE3.out.symm.trans h0) Hcn.out,fun _=>rfl,by rw [Hga.out];exact Hbf.out⟩
          · have h2:=HEE2.out;rw [if_pos hee] at h2;obtain ⟨ee,hEe⟩ : ∃ ee,gE l1 e1 = ee:=⟨_,rfl⟩
            rw [hEe] at h2 hee ⊢;have HEE3:=Lib.hid h2;have Hcn:=Lib.hid hee;have hcb : (ee != 0) = true:=by simpa using hee
            have hcc : (ee == 0) = false:=by simpa using hee
            clear h2 HEE2 hee hEe hrow5 hown5;have hsto:=yY (P:=Tryz.prog) yZ w5 ga (zJ yM) (zJ yM) _ hg25 (by simp) (by simp) (jB _ rfl);have Hfin:=Lib.hid (setRow_heap w5 ga _ (zJ yM) _ _ hg25);have hkf : zC [ga] w5 (w5.setRow ga (zJ yM)):=⟨rfl,rfl,rfl,by simp [World.setRow],fun x _ hx=>setRow_other w5 ga x _ (by simpa using hx)⟩
            have hbf : Below ga w (w5.setRow ga (zJ yM)):=hb05.trans (hkf.below hga5 (by simp));have Hbf:=Lib.hid hbf;clear hbf hkf hg25 hb05;(go_wp2_with fail);refine bodyPost_ret (xY Tryz.results27 _ _ ga 52 (zJ yM) (0,0) _ rfl Hfin.out Tryz.underlying52 rfl (by first | (rw [qB];exact yZ) | (rw [k7];exact yZ))) rfl ?_;exact ⟨_,by rw [HEE3.out];rfl,fun h0=>absurd (HEE3.out.symm.trans h0) Hcn.out,fun _=>rfl,by rw [Hga.out];exact Hbf.out⟩
  · have hEE:=HE.out;rw [if_pos he] at hEE;obtain ⟨e1,he1⟩ : ∃ e1,xG 1 l 0 = e1:=⟨_,rfl⟩
    rw [he1] at hEE he hr3 c1;have HEE:=Lib.hid hEE;have He:=Lib.hid he;have hen : (e1 != 0) = true:=by simpa using he
    clear hEE he HE HO he1;have hsto:=yY (P:=Tryz.prog) yZ W.drew ga (zJ yM) (zJ yM) _ hg2 (by simp) (by simp) (jB _ rfl);have Hfin:=Lib.hid (setRow_heap W.drew ga _ (zJ yM) _ _ hg2);have hkf : zC [ga] W.drew (W.drew.setRow ga (zJ yM)):=⟨rfl,rfl,rfl,by simp [World.setRow],fun x _ hx=>setRow_other W.drew ga x _ (by simpa using hx)⟩
    have hbf : Below ga w (W.drew.setRow ga (zJ yM)):=(hb03.trans ((zG W).mono (by have:=hr3.lt;omega))).trans (hkf.below (by have:=hr3.lt;simp;omega) (by simp));have Hbf:=Lib.hid hbf;clear hbf hr3 hb03 hg3;go_upto_region 4 with fail
    refine zE (Kp [ga] W) false (by kernel_rfl) (by kernel_rfl) (by kernel_rfl) (yB [ga] W) ?_;have hne:=xD [ga] W;have hS:=yB [ga] W;have b1:=zZ c1 (S:=[ga]) (by simp;omega);repeat (refine zB ?_ ?_;(focus (simp only [zA];done));intro K hK;go_simp;refine hK _ ?_;clear hK K)
    refine zH ?_ ?_ ?_;(focus (exact hS));(focus (simp only [zA];done));intro K hK;go_simp;refine zY (jF hS hkf (by simp)) (fun hS=>?_);refine hK _ _ ?_;clear hK K;repeat (refine zB ?_ ?_;(focus (simp only [zA];done));intro K hK;go_simp;refine hK _ ?_;clear hK K)
    refine zN ?_;intro hS;clear hS b1 hne hkf hg2 hx0 hfz c0 c1;(go_wp2_with fail);refine bodyPost_ret (xY Tryz.results27 _ _ ga 52 (zJ yM) (0,0) _ rfl Hfin.out Tryz.underlying52 rfl (by first | (rw [qB];exact yZ) | (rw [k7];exact yZ))) rfl ?_;exact ⟨_,by rw [HEE.out];rfl,fun h0=>absurd (HEE.out.symm.trans h0) He.out,fun _=>rfl,by rw [Hga.out];exact Hbf.out⟩
end
section
open Go.RowKit
def d9 : ByteArray:=⟨#[63,99,115,108,109,114]⟩
set_option maxHeartbeats 400000 in
theorem m7 (w : World) :
    Calls Tryz.prog 71 #[] w fun e w'=>e = .returned (.string d9) ∧ w = w':=by
  go_enter Tryz.func71,Tryz.ntmps71
  (go_wp2_with fail);go_ret;exact ⟨rfl,rfl⟩
theorem iU {k : Nat} (h1 : 1 ≤ k) (h2 : k < 6) : ∃ h : k < d9.size,((d9[k]'h).toNat : Int) = kD k:=by
  have : k = 1 ∨ k = 2 ∨ k = 3 ∨ k = 4 ∨ k = 5:=by omega
  rcases this with rfl | rfl | rfl | rfl | rfl <;> exact ⟨by decide,by decide⟩
theorem tE (c : Int) : vN c = true ↔ (97 ≤ c ∧ c ≤ 122) ∨ (48 ≤ c ∧ c ≤ 57) ∨ c = 45:=by
  unfold vN;simp;omega
set_option maxHeartbeats 400000 in
theorem i8 (s : ByteArray) (w : World) (hs : s.size ≤ 9223372036854775807) (h : ¬ (2 ≤ s.size ∧ s.size ≤ 12)) :
    Calls Tryz.prog 29 #[.string s] w fun e w'=>e = .returned (.int .i64 (yU s)) ∧ Below w.heap.size w w':=by
  have H : Hid (yU s = 0):=by show yU s = 0;unfold yU;rw [wJ s h];rfl
  by_cases h1 : 2 ≤ s.size
  · have h4 : 12 < s.size:=by omega
    clear h;go_enter Tryz.func29,Tryz.ntmps29
    go_wp2_with fail
    all_goals
      go_ret;exact ⟨yE H.out.symm,Below.refl _ _⟩
  · clear h;go_enter Tryz.func29,Tryz.ntmps29
    go_wp2_with fail
    all_goals
      go_ret;exact ⟨yE H.out.symm,Below.refl _ _⟩
set_option maxHeartbeats 400000 in
theorem ZL (s : ByteArray) (w : World) (h : 2 ≤ s.size) (h1 : s.size ≤ 12) (h2 : bt s (s.size - 1) = 45) :
    Calls Tryz.prog 29 #[.string s] w fun e w'=>e = .returned (.int .i64 (yU s)) ∧ Below w.heap.size w w':=by
  have h3 : (((s[s.size - 1]'(by omega)).toNat : Int) == 45) = true:=by
    rw [beq_iff_eq];rw [uF (by omega)];exact h2
  have H : Hid (yU s = 0):=by show yU s = 0;unfold yU;rw [tS s h2];rfl
  clear h2;go_enter Tryz.func29,Tryz.ntmps29
  (go_wp2_with fail);go_ret;exact ⟨yE H.out.symm,Below.refl _ _⟩
set_option maxHeartbeats 1000000 in
theorem ZK (s : ByteArray) (w : World) (h : 2 ≤ s.size) (h1 : s.size ≤ 12) (h2 : bt s (s.size - 1) ≠ 45) :
    Calls Tryz.prog 29 #[.string s] w fun e w'=>e = .returned (.int .i64 (yU s)) ∧ Below w.heap.size w w':=by
  have h3 : (((s[s.size - 1]'(by omega)).toNat : Int) == 45) = false:=by
    rw [beq_eq_false_iff_ne];intro g;rw [uF (by omega)] at g;exact h2 g
  have hfin:=tR s h h1 h2;have H2:=Lib.hid hfin;clear h2 hfin;have h0 : (0 : Int) < s.size:=by omega
  have hg : ((s[0]'(by omega)).toNat : Int) = bt s 0:=uF (by omega);go_enter Tryz.func29,Tryz.ntmps29
  go_wp2_with fail
  go_loop [3] (fun iv=>∃ i : Nat,1 ≤ i ∧ i ≤ s.size ∧ iv = .int .i64 i ∧ Hid (gY s i = gY s 1)) (fun iv=>s.size - (intOf iv).toNat)
  case atStart=>exact ⟨1,by omega,by omega,rfl,rfl⟩
  case round =>
    obtain ⟨i,hi1,hi2,rfl,hc⟩:=hrel;by_cases hp : i < s.size
    · have hgi : ((s[i]'hp).toNat : Int) = bt s i:=uF hp;cases hb : vN (bt s i) with
      | true =>
        have hb':=(tE _).1 hb;rw [← hgi] at hb';have Hb:=Lib.hid hb;clear hb hgi;go_wp2_with fail
        all_goals
          go_round
          case rel=>exact ⟨i + 1,by omega,by omega,by go_num,(rF s _ Hb.out).trans hc.out⟩
          case measure=>simp [intOf];omega
      | false =>
        have hb' : ¬ ((97 ≤ bt s i ∧ bt s i ≤ 122) ∨ (48 ≤ bt s i ∧ bt s i ≤ 57) ∨ bt s i = 45):=fun g=>(by rw [(tE _).2 g] at hb;cases hb);rw [← hgi] at hb';have hb2 : (((s[i]'hp).toNat : Int) != 45) = true:=by rw [bne_iff_ne];omega
        have Hb:=Lib.hid hb;clear hb hgi;go_wp2_with fail
        all_goals
          go_ret;exact ⟨yE (by unfold yU;rw [H2.out,← hc.out,eQ s _ (by omega) Hb.out];rfl),Below.refl _ _⟩
    · have hfm : yU s = m8 (bt s 0):=by unfold yU;rw [H2.out,← hc.out,rG s _ (by omega)];rfl
      have H:=Lib.hid hfm;clear hfm;(go_wp2_with fail);go_loopw [5] (fun kv wr=>∃ k : Nat,1 ≤ k ∧ k ≤ 6 ∧ kv = .int .i64 k ∧ Below w.heap.size w wr ∧ Hid (∀ j : Int,1 ≤ j → j < k → kD j ≠ bt s 0)) (fun kv _=>(6 - intOf kv).toNat)
      case atStart=>exact ⟨1,by omega,by omega,rfl,Below.refl _ _,fun j h1 h2=>by omega⟩
      case round =>
        obtain ⟨k,hk1,hk2,rfl,hb1,hj⟩:=hrel;by_cases hk : k < 6
        · obtain ⟨hks,hkl⟩:=iU hk1 hk;have hks' : (k : Int) < d9.size:=by omega
          by_cases hl : kD k = bt s 0
          · have hl' : (((d9[k]'hks).toNat : Int) == bt s 0) = true:=by rw [beq_iff_eq,hkl];exact hl
            have Hl:=Lib.hid hl;clear hl hkl;go_wp2_with fail
            go_quiet ((go_at_call 71;exact d6 (m7 _)))
            (go_wp2_with fail);go_ret;exact ⟨yE (by rw [H.out,rW (by omega) (by omega) Hl.out]),bR hb1 _⟩
          · have hl' : (((d9[k]'hks).toNat : Int) == bt s 0) = false:=by rw [beq_eq_false_iff_ne,hkl];exact hl
            have Hl:=Lib.hid hl;clear hl hkl;go_wp2_with fail
            go_quiet ((go_at_call 71;exact d6 (m7 _)))
            (go_wp2_with fail);go_roundw
            case rel =>
              refine ⟨k + 1,by omega,by omega,by go_num,bR hb1 _,fun j h1 h2=>?_⟩;by_cases e : j = k
              · subst e;exact Hl.out
              · exact hj.out j h1 (by omega)
            case measure=>simp [intOf];omega
        · (go_wp2_with fail);go_ret;exact ⟨yE (by rw [H.out,nK (fun j h1 h2=>hj.out j h1 (by omega))]),hb1⟩
theorem jO (s : ByteArray) (w : World) (hs : s.size ≤ 9223372036854775807) :
    Calls Tryz.prog 29 #[.string s] w fun e w'=>e = .returned (.int .i64 (yU s)) ∧ Below w.heap.size w w':=by
  by_cases h : 2 ≤ s.size ∧ s.size ≤ 12
  · by_cases h2 : bt s (s.size - 1) = 45
    · exact ZL s w h.1 h.2 h2
    · exact ZK s w h.1 h.2 h2
  · exact i8 s w hs h
set_option maxHeartbeats 400000 in
theorem ZP (s : ByteArray) (w : World) (hs : s.size ≤ 9223372036854775807) :
    Calls Tryz.prog 21 #[.string s] w fun e w'=>e = .returned (.int .i64 (jW s)) ∧ Below w.heap.size w w':=by
  by_cases h : yU s = 0
  · have h' : (yU s == 0) = true:=by rw [beq_iff_eq];exact h
    have H : Hid (jW s = 9):=if_pos h;clear h;go_enter Tryz.func21,Tryz.ntmps21
    (go_wp2_with fail);refine (jO _ _ hs).mono ?_;rintro e w1 ⟨rfl,hb⟩;(go_wp2_with fail);go_ret;exact ⟨yE H.out.symm,hb⟩
  · have h' : (yU s == 0) = false:=by rw [beq_eq_false_iff_ne];exact h
    have H : Hid (jW s = 0):=if_neg h;clear h;go_enter Tryz.func21,Tryz.ntmps21
    (go_wp2_with fail);refine (jO _ _ hs).mono ?_;rintro e w1 ⟨rfl,hb⟩;(go_wp2_with fail);go_ret;exact ⟨yE H.out.symm,hb⟩
end
section
open Go.RowKit
theorem rvdoes (m : yR) (o : OpV) (A : Option Addr) (c : Nat) (w : World) (g : Nat) (t : ByteArray) (I : List zK) (x : RV) (h : qJ w g t I x) (h1 : 1 ≤ o.k) (h7 : o.k ≤ 7) (hkey : o.key.size ≤ 16) (hval : o.val.size ≤ 16) (hrefs : o.refs.length ≤ 8) (hlo : -2147483648 ≤ o.n) (hhi : o.n < 2147483648) (hA : y4 w A o.refs.length o.refs) (hgA : g ∉ blk A) (hok : hU x) (hl : x.len ≤ 10000) :
    Calls Tryz.prog 73 #[.pointer (some ⟨g,0,none⟩),.agg (zP m),.agg (opC o A c)] w fun e w'=>e = .returned (.tuple #[]) ∧ qJ w' g t I (gC m o x) ∧ zC [g] w w':=by
  have hc : o.k = 1 ∨ o.k = 2 ∨ o.k = 3 ∨ o.k = 4 ∨ o.k = 5 ∨ o.k = 6 ∨ o.k = 7:=by omega
  rcases hc with e | e | e | e | e | e | e
  · exact V9 m o A c w g t I x h e hkey hval hrefs hlo hhi hA hgA hok hl
  · exact V8 m o A c w g t I x h e hkey hval hrefs hlo hhi hA hgA hok hl
  · exact V7 m o A c w g t I x h e hkey hval hrefs hlo hhi hA hgA hok hl
  · exact V6 m o A c w g t I x h e hkey hval hrefs hlo hhi hA hgA hok hl
  · exact V5 m o A c w g t I x h e hkey hval hrefs hlo hhi hA hgA hok hl
  · exact V4 m o A c w g t I x h e hkey hval hrefs hlo hhi hA hgA hok hl
  · exact V3 m o A c w g t I x h e hkey hval hrefs hlo hhi hA hgA hok hl
set_option maxRecDepth 100000 in
set_option maxHeartbeats 4000000 in
theorem ZG (m : yR) (w : World) (g : Nat) (t : ByteArray) (I : List zK) (x : RV) (h : qJ w g t I x) (hm : m.id ∈ I) (hI : I.length ≤ 1000) :
    Calls Tryz.prog 30 #[.pointer (some ⟨g,0,none⟩),.agg (zP m)] w fun e w'=>e = .returned (.bool false) ∧ Below w.heap.size w w':=by
  obtain ⟨si,sa,sg,sl,sm,so,ss,sd,h⟩:=h;have hB : Below w.heap.size w (w.alloc (.cells (zP m) 41)):=(Below.refl _ _).alloc (Nat.le_refl _) _;have h1:=h.below hB;have hr : zF (w.alloc (.cells (zP m) 41)) w.heap.size 0 32 = some (idC m.id):=by simp [go_sem]
  have hin : I.length = si.n:=by simpa using h.ids.1.len
  go_enter Tryz.func30,Tryz.ntmps30
  go_upto_region 1 with fail
  obtain ⟨ga,hga⟩ : ∃ ga,w.heap.size = ga:=⟨_,rfl⟩
  rw [hga] at hr hB ⊢;obtain ⟨W,hW⟩ : ∃ W,W = w.alloc (.cells (zP m) 41):=⟨_,rfl⟩
  rw [← hW] at h1 hr hB ⊢;have hc : W.cell? ⟨g,1,none⟩ = some (.slice si.A si.n si.c):=h1.cell 1 rfl;have c1:=rK W.drew si.A si.n si.c I m.id (SlR.below h1.ids.1.rd (zG W)) (by omega);rw [decide_eq_true hm] at c1;clear hW h h1;rw [← hga] at hB;clear hga;refine zE (Bel W) false (by kernel_rfl) (by kernel_rfl) (by kernel_rfl) (zG W) ?_;have hne:=zX W;have hS:=zG W;have b1:=zT hc;have b2:=yD hr;repeat (refine zB ?_ ?_;(focus (simp only [zA];done));intro K hK;go_simp;refine hK _ ?_;clear hK K)
  refine zH ?_ ?_ ?_;(focus (exact hS));(focus (simp only [zA];done));intro K hK;go_simp;refine (c1).mono ?_;rintro e w' ⟨rfl,hb⟩;replace hS:=yJ hS hb;refine ⟨_,rfl,hS,hK _ _ ?_⟩;clear hK K hb;repeat (refine zB ?_ ?_;(focus (simp only [zA];done));intro K hK;go_simp;refine hK _ ?_;clear hK K)
  refine zN ?_;intro hS;clear b1 b2 hne hc hr;(go_wp2_with fail);go_ret;exact ⟨rfl,yN hB hS⟩
set_option maxRecDepth 100000 in
set_option maxHeartbeats 4000000 in
theorem ZH (m : yR) (w : World) (g : Nat) (t : ByteArray) (I : List zK) (x : RV) (h : qJ w g t I x) (hm : m.id ∉ I) (hri : Ris zO I) (hI : I.length ≤ 1000) (hs : m.body.size ≤ 9223372036854775807) (ht : t.size ≤ 9223372036854775807) (hok : hU x) (hl : x.len ≤ 10000) :
    Calls Tryz.prog 30 #[.pointer (some ⟨g,0,none⟩),.agg (zP m)] w fun e w'=>e = .returned (.bool true) ∧ qJ w' g t (xJ zO I m.id) (bC t m x) ∧ zC [g] w w':=by
  obtain ⟨si,sa,sg,sl,sm,so,ss,sd,h⟩:=h;have hB : Below w.heap.size w (w.alloc (.cells (zP m) 41)):=(Below.refl _ _).alloc (Nat.le_refl _) _;have h1:=h.below hB;have hgl:=h.lt;have hrm : zF (w.alloc (.cells (zP m) 41)) w.heap.size 0 34 = some (zP m):=by simp [go_sem]
  have hin : I.length = si.n:=by simpa using h.ids.1.len
  go_enter Tryz.func30,Tryz.ntmps30
  go_upto_region 1 with fail
  obtain ⟨ga,hga⟩ : ∃ ga,w.heap.size = ga:=⟨_,rfl⟩
  have Hga:=Lib.hid hga;rw [hga] at hrm hB hgl ⊢;obtain ⟨W,hW⟩ : ∃ W,W = w.alloc (.cells (zP m) 41):=⟨_,rfl⟩
  rw [← hW] at h1 hrm hB ⊢;have hr : zF W ga 0 32 = some (idC m.id):=by have:=y7 hrm (j:=0) (m:=32) (by omega);rwa [qM] at this
  have hc : W.cell? ⟨g,1,none⟩ = some (.slice si.A si.n si.c):=h1.cell 1 rfl;have c1:=rK W.drew si.A si.n si.c I m.id (SlR.below h1.ids.1.rd (zG W)) (by omega);rw [decide_eq_false hm] at c1;have Hin:=Lib.hid hin;clear hW h hga hin;refine zE (Bel W) false (by kernel_rfl) (by kernel_rfl) (by kernel_rfl) (zG W) ?_;have hne:=zX W;have hS:=zG W;have b1:=zT hc;have b2:=yD hr;repeat (refine zB ?_ ?_;(focus (simp only [zA];done));intro K hK;go_simp;refine hK _ ?_;clear hK K)
  refine zH ?_ ?_ ?_;(focus (exact hS));(focus (simp only [zA];done));intro K hK;go_simp;refine (c1).mono ?_;rintro e w' ⟨rfl,hb⟩;replace hS:=yJ hS hb;refine ⟨_,rfl,hS,hK _ _ ?_⟩;clear hK K hb;repeat (refine zB ?_ ?_;(focus (simp only [zA];done));intro K hK;go_simp;refine hK _ ?_;clear hK K)
  refine zN ?_;intro hS;clear b1 b2 hne hc hr c1;have hS0 : Below W.heap.size W w':=hS;obtain ⟨W1,rfl⟩ : ∃ W1,W1 = w':=⟨w',rfl⟩
  have h2:=h1.below hS0;have hrm2 : zF W1 ga 0 34 = some (zP m):=(zI (hS0.block ga (zL hrm)) _ _).trans hrm;have hB2 : Below ga w W1:=hB.trans (hS0.mono (by have:=hB.size;have:=Hga.out;omega));clear h1 hrm hB hS hS0;go_upto_region 3 with fail
  have hr2 : zF W1 ga 0 32 = some (idC m.id):=by have:=y7 hrm2 (j:=0) (m:=32) (by omega);rwa [qM] at this
  have hc2 : W1.cell? ⟨g,1,none⟩ = some (.slice si.A si.n si.c):=h2.cell 1 rfl;have c2:=YI W1.drew si.A si.n si.c I m.id (h2.ids.1.below (zG W1)) (by have:=Hin.out;omega) hri;have hgl2 : g < W1.heap.size:=h2.lt;have hgx2 : W1.heap[g]? = some (.cells (rvC t si x.tal sa sg sl sm so ss sd) 69 (0,0)):=h2.hp;have hga2 : ga < W1.heap.size:=zL hrm2;refine qQ (Kp [] W1) false (by kernel_rfl) (by kernel_rfl) (by kernel_rfl) (by kernel_rfl) (yB [] W1) ?_;have hne:=xD [] W1;have hS:=yB [] W1;have b1:=yP hr2 (S:=[]) (by simp);have b2:=zZ hc2 (S:=[]) (by simp);repeat (refine zB ?_ ?_;(focus (simp only [zA];done));intro K hK;go_simp;refine hK _ ?_;clear hK K)
  refine zH ?_ ?_ ?_;(focus (exact hS));(focus (simp only [zA];done));intro K hK;go_simp;refine c2.mono ?_;rintro e w3 ⟨A',cap',rfl,hI3,hsub3,hb3⟩;have hb30 : Below W1.heap.size W1 w3:=yJ (zG W1) hb3;refine ⟨_,rfl,(zC.of_below hb30),hK _ _ ?_⟩;clear hK K;have hg3 : w3.heap[g]? = some (.cells (rvC t si x.tal sa sg sl sm so ss sd) 69 (0,0)):=(hb30.block g hgl2).trans hgx2;have hc3 : w3.cell? ⟨g,1,none⟩ = some (.slice si.A si.n si.c):=by rw [cell_of_row w3 g 1 _ _ _ hg3];rfl
  have hf3 : w3.frozen? ⟨g,1,none⟩ = false:=by simp [World.frozen?,hg3]
  repeat (refine zB ?_ ?_;(focus (simp only [zA];done));intro K hK;go_simp;refine hK _ ?_;clear hK K)
  refine kR ?_ ?_;(focus (simp only [zA];done));intro K hK;go_simp;refine hK _ _ ?_;clear hK K;have hfin:=zM hg3 1 (.slice A' (xJ zO I m.id).length cap');have hks:=zC.setCell w3 ⟨g,1,none⟩ (.slice A' (xJ zO I m.id).length cap');have hgA3 : g ∉ blk A':=fun hx=>by
    rcases hsub3 g hx with h3 | h3
    · exact h2.ids.2 h3
    · have h4 : W1.drew.heap.size = W1.heap.size:=rfl;omega
  have hk13 : zC [g] W1 (w3.setCell ⟨g,1,none⟩ (.slice A' (xJ zO I m.id).length cap')):=zC.trans ((zC.of_below hb30).mono (S':=[g]) (by simp)) hks (fun x hx=>.inl hx);have hI4 : pI (w3.setCell ⟨g,1,none⟩ (.slice A' (xJ zO I m.id).length cap')) A' (xJ zO I m.id).length cap' (xJ zO I m.id):=hI3.kept hks (fun x hx hm=>hgA3 (by simp at hm;rw [← hm];exact hx));have hV3 : qJ (w3.setCell ⟨g,1,none⟩ (.slice A' (xJ zO I m.id).length cap')) g t (xJ zO I m.id) x :=
    ⟨⟨A',(xJ zO I m.id).length,cap'⟩,sa,sg,sl,sm,so,ss,sd,hfin,⟨hI4,hgA3⟩,h2.adds.keep hk13,h2.gone.keep hk13,h2.last.keep hk13,h2.mL.keep hk13,h2.mO.keep hk13,h2.sL.keep hk13,h2.sG.keep hk13⟩
  have hrm3 : zF (w3.setCell ⟨g,1,none⟩ (.slice A' (xJ zO I m.id).length cap')) ga 0 34 = some (zP m):=(hk13.row hga2 (by simp;omega) _ _).trans hrm2;have hK3 : zC [g] w (w3.setCell ⟨g,1,none⟩ (.slice A' (xJ zO I m.id).length cap')):=zC.trans ((zC.of_below (hB2.mono (by rw [Hga.out];exact Nat.le_refl _))).mono (S':=[g]) (by simp)) hk13 (fun x hx=>.inl hx);obtain ⟨w2,hw2⟩ : ∃ w2,(w3.setCell ⟨g,1,none⟩ (.slice A' (xJ zO I m.id).length cap')) = w2:=⟨_,rfl⟩
  obtain ⟨J,hJ⟩ : ∃ J,xJ zO I m.id = J:=⟨_,rfl⟩
  have HJ:=Lib.hid hJ;rw [hJ] at hw2 ⊢;rw [hJ,hw2] at hV3;rw [hJ,hw2] at hrm3 hK3;rw [hw2];clear hI4 hgA3 hks hfin hf3 hc3 hg3 hb30 hb3 hI3 hk13 hw2 b1 b2 hne hS hgx2 hgl2 c2 hc2 hr2 h2 hrm2 hB2 hJ;have hbd2 : w2.cell? ⟨ga,33,none⟩ = some (.string m.body):=by have:=zD hrm3 (j:=33) (by omega);rwa [wU,Nat.zero_add] at this
  have cop:=rop_of m.body w2 hs;obtain ⟨l,hl⟩ : ∃ l,m.body.data.toList = l:=⟨_,rfl⟩
  have Hl:=Lib.hid hl;have hfit : gD t m ↔ opE l = 0 ∧ vK (opO l).k = yU t:=by unfold gD;rw [hl]
  have hfo : bC t m x = if gD t m then gC m (opO l) x else x:=by unfold bC;rw [YM];unfold oOf;rw [hl]
  have Hfo:=Lib.hid hfo;rw [hl] at cop;obtain ⟨E,hE⟩ : ∃ E,opE l = E:=⟨_,rfl⟩
  clear hl hfo;(go_wp2_with fail);refine cop.mono ?_;rintro en w4 ⟨V,rfl,hok4,hbad,hb4⟩;rw [hE] at hok4 hbad ⊢;have hV4:=hV3.below hb4;have hrm4 : zF w4 ga 0 34 = some (zP m):=(zI (hb4.block ga (zL hrm3)) _ _).trans hrm3;have hK4 : zC [g] w w4:=zC.trans hK3 (zC.of_below hb4) (by simp);have hKw:=hK3.size;clear cop hb4 hV3 hrm3 hbd2 hK3;by_cases h0 : E = 0
  · subst h0;obtain ⟨A,c,rfl,hown⟩:=hok4 rfl;have hoo:=dP l hE;have hlo:=K2 l hE;have hgA : g ∉ blk A:=fun hx=>(by have:=(hown.at_base hx).1;have:=hgl;have:=Hga.out;omega);have hfit' : gD t m ↔ vK (opO l).k = yU t:=by rw [hfit];exact ⟨fun h=>h.2,fun h=>⟨hE,h⟩⟩
    obtain ⟨o,ho⟩ : ∃ o,opO l = o:=⟨_,rfl⟩
    have hfo2:=Hfo.out;rw [ho] at hoo hown hfit' hlo hfo2 ⊢;have Hfo2:=Lib.hid hfo2;clear hfo2;have hkl : o.k ≤ 9223372036854775807:=by have:=hoo.2.2.1;omega
    have Hoo:=Lib.hid hoo;have Hlo:=Lib.hid hlo;clear hok4 hbad hfit hE ho hoo hlo;have hb5 : Below w4.heap.size w4 (w4.alloc (.cells (opC o A c) 52)):=(Below.refl _ _).alloc (Nat.le_refl _) _;have h5:=hV4.below hb5;have hrm5 : zF (w4.alloc (.cells (opC o A c) 52)) ga 0 34 = some (zP m):=(zI (hb5.block ga (zL hrm4)) _ _).trans hrm4;have hown5:=hown.below hb5;have hro5 : zF (w4.alloc (.cells (opC o A c) 52)) w4.heap.size 0 37 = some (opC o A c):=by simp [go_sem]
    have hK5 : zC [g] w (w4.alloc (.cells (opC o A c) 52)):=zC.trans hK4 (zC.of_below hb5) (by simp);clear hb5 hV4 hrm4 hown hK4;unfold opC at h5 hrm5 hown5 hro5 hK5 ⊢;go_upto_region 5 with fail
    obtain ⟨go,hgo⟩ : ∃ go,w4.heap.size = go:=⟨_,rfl⟩
    obtain ⟨W4,hW4⟩ : ∃ W4,W4 = (w4.alloc (.cells (zJ ⟨o.k,o.n,o.key,o.val,o.ref,.slice A o.refs.length c⟩) 52)):=⟨_,rfl⟩
    rw [← hW4] at h5 hrm5 hown5 hro5 hK5 ⊢;rw [hgo] at hro5 ⊢;clear hW4 hgo;have hcK:=zD hro5 (j:=0) (by omega);rw [q6,Nat.zero_add] at hcK;obtain ⟨si',sa',sg',sl',sm',so',ss',sd',h5'⟩:=h5;have hc0 : W4.cell? ⟨g,0,none⟩ = some (.string t):=h5'.cell 0 rfl;have h5 : qJ W4 g t J x:=⟨si',sa',sg',sl',sm',so',ss',sd',h5'⟩
    clear h5';have cb:=i7 o.k W4.drew hkl;have ck:=jO t W4.drew ht;obtain ⟨B1,hB1⟩ : ∃ B1,vK o.k = B1:=⟨_,rfl⟩
    obtain ⟨K1,hK1⟩ : ∃ K1,yU t = K1:=⟨_,rfl⟩
    rw [hB1,hK1] at hfit';rw [hB1] at cb;rw [hK1] at ck;have Hfit:=Lib.hid hfit';clear hB1 hK1 hfit';refine zE (Bel W4) false (by kernel_rfl) (by kernel_rfl) (by kernel_rfl) (zG W4) ?_;have hne:=zX W4;have hS:=zG W4;have b1:=zT hcK;have b2:=zT hc0;repeat (refine zB ?_ ?_;(focus (simp only [zA];done));intro K hK;go_simp;refine hK _ ?_;clear hK K)
    refine zH ?_ ?_ ?_;(focus (exact hS));(focus (simp only [zA];done));intro K hK;go_simp;refine (cb).mono ?_;rintro e w' ⟨rfl,rfl⟩;refine ⟨_,rfl,hS,hK _ _ ?_⟩;clear hK K;repeat (refine zB ?_ ?_;(focus (simp only [zA];done));intro K hK;go_simp;refine hK _ ?_;clear hK K)
    refine zH ?_ ?_ ?_;(focus (exact hS));(focus (simp only [zA];done));intro K hK;go_simp;refine (ck).mono ?_;rintro e w' ⟨rfl,hb⟩;replace hS:=yJ hS hb;refine ⟨_,rfl,hS,hK _ _ ?_⟩;clear hK K hb;repeat (refine zB ?_ ?_;(focus (simp only [zA];done));intro K hK;go_simp;refine hK _ ?_;clear hK K)
    refine zN ?_;intro hS;have hS' : Below W4.heap.size W4 w':=hS;have h6:=h5.below hS';have hrm6 : zF w' ga 0 34 = some (zP m):=(zI (hS'.block ga (zL hrm5)) _ _).trans hrm5;have hro6 : zF w' go 0 37 = some (zJ ⟨o.k,o.n,o.key,o.val,o.ref,.slice A o.refs.length c⟩):=(zI (hS'.block go (zL hro5)) _ _).trans hro5;have hown6:=hown5.below hS';have hK6 : zC [g] w w':=zC.trans hK5 (zC.of_below hS') (by simp);clear b1 b2 hne hS cb ck hcK hc0 h5 hrm5 hro5 hown5 hK5 hS';obtain ⟨W5,rfl⟩ : ∃ W5,W5 = w':=⟨w',rfl⟩
    cases hbb : (B1 == K1) with
    | true =>
      have hf : gD t m:=Hfit.out.2 (by simpa using hbb);have hoo:=Hoo.out;have hd:=rvdoes m o A c W5 g t J x h6 hoo.2.1 hoo.2.2.1 hoo.2.2.2.1 hoo.2.2.2.2.1 hoo.2.2.2.2.2.1 Hlo.out hoo.2.2.2.2.2.2.2 hown6.slr hgA hok hl;unfold opC at hd;have hfp : gC m o x = bC t m x:=by rw [Hfo2.out,if_pos hf]
      rw [hfp] at hd;have HK6:=Lib.hid hK6;clear hf hbb hoo h6 hown6 hK6 hfp;go_upto_region 6 with fail
      (go_wp2_with fail);refine hd.mono ?_;rintro e w6 ⟨rfl,hq,hkq⟩;have Hq:=Lib.hid hq;have Hkq:=Lib.hid (zC.trans HK6.out hkq (fun x hx=>.inl hx));clear hq hd hkq;(go_wp2_with fail);go_ret;exact ⟨rfl,HJ.out ▸ Hq.out,Hkq.out⟩
    | false =>
      have hf : ¬ gD t m:=fun h=>(by have:=Hfit.out.1 h;rw [beq_eq_false_iff_ne] at hbb;exact hbb this);have hfp : x = bC t m x:=by rw [Hfo2.out,if_neg hf]
      have Hfp:=Lib.hid hfp;have Hq:=Lib.hid h6;have HK6:=Lib.hid hK6;clear hf h6 hK6 hfp;(go_wp2_with fail);go_ret;exact ⟨rfl,by rw [HJ.out,← Hfp.out];exact Hq.out,HK6.out⟩
  · have hf : ¬ gD t m:=fun h=>h0 (by rw [← hE];exact (hfit.1 h).1);have hVb:=hbad h0;subst hVb;have hfp : x = bC t m x:=by rw [Hfo.out,if_neg hf]
    have Hfp:=Lib.hid hfp;clear hfp;have hb5 : Below w4.heap.size w4 (w4.alloc (.cells (zJ yM) 52)):=(Below.refl _ _).alloc (Nat.le_refl _) _;have h5:=hV4.below hb5;have hK5 : zC [g] w (w4.alloc (.cells (zJ yM) 52)):=zC.trans hK4 (zC.of_below hb5) (by simp);have hE0 : (E == 0) = false:=by simpa using h0
    clear hok4 hbad hfit hE h0 hb5 hV4 hK4 hf;go_upto_region 5 with fail
    obtain ⟨W4,hW4⟩ : ∃ W4,W4 = (w4.alloc (.cells (zJ yM) 52)):=⟨_,rfl⟩
    rw [← hW4] at h5 hK5 ⊢;clear hW4;have Hq:=Lib.hid (h5.below (zG W4));have Hk:=Lib.hid (zC.trans hK5 (zC.of_below (zG W4)) (by simp));clear h5 hK5;refine zE (Bel W4) false (by kernel_rfl) (by kernel_rfl) (by kernel_rfl) (zG W4) ?_;have hne:=zX W4;have hS:=zG W4;repeat (refine zB ?_ ?_;(focus (simp only [zA];done));intro K hK;go_simp;refine hK _ ?_;clear hK K)
    refine zH ?_ ?_ ?_;(focus (exact hS));(focus (simp only [zA];done));intro K hK;go_simp;refine hK _ _ ?_;clear hK K;repeat (refine zB ?_ ?_;(focus (simp only [zA];done));intro K hK;go_simp;refine hK _ ?_;clear hK K)
    refine zH ?_ ?_ ?_;(focus (exact hS));(focus (simp only [zA];done));intro K hK;go_simp;refine hK _ _ ?_;clear hK K;repeat (refine zB ?_ ?_;(focus (simp only [zA];done));intro K hK;go_simp;refine hK _ ?_;clear hK K)
    refine zN ?_;intro hS;(go_wp2_with fail);go_ret;exact ⟨rfl,by rw [HJ.out,← Hfp.out];exact Hq.out,Hk.out⟩
end
section
open Go.RowKit
set_option maxRecDepth 100000 in
set_option maxHeartbeats 4000000 in
theorem sqput (w : World) (M : List Nat) (g bn bb bg : Nat) (N : List zW) (G : List zK) (h : q5 w M g bn bb bg N G) (hr : Ris zO G) (hN : N.length ≤ 1000000) (hG : G.length ≤ 1000000) :
    Calls Tryz.prog 346 #[.pointer (some ⟨g,0,none⟩)] w fun e w'=>e = .returned (.string ⟨(gO N G).toArray⟩) ∧ Below w.heap.size w w':=by
  have hc:=h.cell0;have hxl:=Nat.le_trans (f9 N) hN;have hok : ∀ n ∈ vH N,n ∈ N ∧ kW n = 0:=fun n hn=>⟨fH.1 hn,h.ok n (fH.1 hn)⟩;have c1:=fun w' (h' : q5 w' M g bn bb bg N G)=>sqids w' M g bn bb bg N G h' hN;have Hput : Hid (gO N G = beL 4 (vH N).length ++ (vH N).flatMap vD ++ gV G):=rfl;obtain ⟨X,hX⟩ : ∃ X,vH N = X:=⟨_,rfl⟩
  rw [hX] at hxl hok c1 Hput;have Hok:=Lib.hid hok;clear hX hok;go_enter Tryz.func346,Tryz.ntmps346
  (go_wp2_with fail);refine (gI w g bn hc).mono ?_;rintro e w' ⟨rfl,rfl⟩;(go_wp2_with fail);refine (c1 w h).mono ?_;rintro e w1 ⟨XA,xc,rfl,hXo,hb1⟩;have h1:=h.below hb1;clear c1;(go_wp2_with fail);refine (XG w1 M g bn bb bg N G h1 hr hG).mono ?_;rintro e w2 ⟨IA,ic,rfl,hIo,hb2⟩;have hXs : SlR w2 XA X.length 32 ((X.map zW.id).map idC):=(hXo.below hb2).slr;have hXb : ∀ x ∈ blk XA,x < w2.heap.size:=fun x hx=>(by have:=(hXo.at_base hx).2;have:=hb2.size;omega);have hIs : SlR w2 IA G.length 32 (G.map idC):=hIo.slr;have hIb : ∀ x ∈ blk IA,x < w2.heap.size:=fun x hx=>(hIo.at_base hx).2;have hb02:=yN hb1 hb2;have h2:=h1.below hb2;clear hc h1 hXo hIo hb1 hb2 h;(go_wp2_with fail);refine (pQ w2).mono ?_;rintro e w3 ⟨rfl,hw3,hb3⟩;have hXs3:=hXs.below hb3;have hIs3:=hIs.below hb3;obtain ⟨gw,hgw⟩ : ∃ gw,w2.heap.size = gw:=⟨_,rfl⟩
  have Hgw:=Lib.hid hgw;have hb23 : Below gw w2 w3:=by rw [← hgw];exact hb3
  rw [hgw] at hw3 hXb hIb ⊢;have hg3:=hw3.lt;have hszw : w.heap.size ≤ gw:=by have:=hb02.size;omega
  clear hXs hIs hb3 hgw;(go_wp2_with fail);refine (gR _ _ _ _ _ _ hw3 X.length 4 (by omega) (by omega) (by simp)).mono ?_;rintro e w4 ⟨rfl,A2,cap2,hw2,hk2,hsub2⟩;simp only [List.nil_append] at hw2;have hXs4:=hXs3.kept hk2 (fun x hx=>by have:=hXb x hx;simp [blk];omega);have hIs4:=hIs3.kept hk2 (fun x hx=>by have:=hIb x hx;simp [blk];omega);have hb24 : Below gw w2 w4:=hb23.trans (hk2.below (by have:=hb23.size;have:=Hgw.out;omega) (by simp [blk]));have hAb : ∀ x ∈ blk A2,gw < x:=fun x hx=>(by have:=(hw2.own.at_base hx).1;omega);clear hw3 hXs3 hIs3 hb23 hk2 hsub2 hg3;(go_wp2_with fail);have hdX : ∀ x ∈ blk XA,x ∉ gw :: blk A2:=fun x hx hm=>by
    have:=hXb x hx;rcases List.mem_cons.1 hm with e | hm
    · omega
    · have:=hAb x hm;omega
  have HdX:=Lib.hid hdX;have HAb:=Lib.hid hAb;have HXb:=Lib.hid hXb;have HIb:=Lib.hid hIb;clear hdX hAb hXb hIb;go_loopw [25] (fun i wr=>∃ k : Nat,k ≤ X.length ∧ i = .int .i64 (k : Nat) ∧ vL w4 (gw + 1) gw A2 (beL 4 X.length ++ (X.take k).flatMap vD) wr) (fun i _=>X.length - (intOf i).toNat)
  case atStart=>exact ⟨0,Nat.zero_le _,rfl,A2,cap2,by simpa using hw2,zC.refl _ _,fun x hx=>.inl hx⟩
  case round =>
    obtain ⟨k,hk,rfl,A4,cap4,hw4,hk4,hsub4⟩:=hrel;have hbl:=xC vD 85 (X.take k) (fun x hx=>by rw [lH];have:=kV (Hok.out x (List.mem_of_mem_take hx)).2;omega);have htl : (X.take k).length = k:=by simp;omega
    rw [htl] at hbl;have hbr : Below gw w2 wr:=hb24.trans (hk4.below (by have:=hb24.size;have:=Hgw.out;omega) (fun x hx=>by
      rcases List.mem_cons.1 hx with rfl | hx
      · omega
      · have:=HAb.out x hx;omega))
    have hbr2 : Below w2.heap.size w2 wr:=by rw [Hgw.out];exact hbr
    have hsq:=h2.below hbr2;by_cases hlt : k < X.length
    · have hLr:=hXs4.kept hk4 HdX.out;obtain ⟨q,o,rfl,hr⟩:=hLr.at_ hlt;rw [List.getElem_map,List.getElem_map] at hr;have hcN:=Hok.out X[k] (List.getElem_mem hlt);have htk : (X.take (k + 1)).flatMap vD = (X.take k).flatMap vD ++ vD X[k]:=by rw [List.take_add_one,List.getElem?_eq_getElem hlt,List.flatMap_append];simp only [Option.toList_some,List.flatMap_cons,List.flatMap_nil,List.append_nil]
      obtain ⟨x,hx⟩ : ∃ x,X[k]'hlt = x:=⟨_,rfl⟩
      rw [hx] at hr htk hcN;have Htk:=Lib.hid htk;have hxe:=kV hcN.2;have hcn:=hcN.1;obtain ⟨_,hv16,hh1,hh2⟩:=hxe;obtain ⟨hh,hhe⟩ : ∃ hh : Nat,x.h = hh:=⟨x.h.toNat,by omega⟩
      clear hx htk hLr hcN;have hbl0 : (beL 4 X.length ++ (X.take k).flatMap vD).length ≤ 200000000:=by rw [List.length_append,yC];omega
      obtain ⟨bs0,hbs0⟩ : ∃ bs0,beL 4 X.length ++ (X.take k).flatMap vD = bs0:=⟨_,rfl⟩
      have Hbs0:=Lib.hid hbs0;rw [hbs0] at hw4 hbl0;clear hbs0 hbl htl;have hb1 : Below wr.heap.size wr (wr.alloc (.cells (idC x.id) 39)):=(Below.refl _ _).alloc (Nat.le_refl _) _;have hsq1:=hsq.below hb1;have hw5:=hw4.below hb1;have hrx : zF (wr.alloc (.cells (idC x.id) 39)) wr.heap.size 0 32 = some (idC x.id):=by simp [go_sem]
      have hgx : wr.heap.size ∉ gw :: blk A4:=by
        simp only [List.mem_cons,not_or];exact ⟨by have:=hw4.lt;omega,fun hx=>by have:=(hw4.own.at_base hx).2;omega⟩
      have hk5 : zC [] wr (wr.alloc (.cells (idC x.id) 39)):=zC.alloc _ _;go_upto_region 8 with fail
      obtain ⟨W,hW⟩ : ∃ W,wr.alloc (.cells (idC x.id) 39) = W:=⟨_,rfl⟩
      obtain ⟨gx,hgxe⟩ : ∃ gx,wr.heap.size = gx:=⟨_,rfl⟩
      rw [hW] at hsq1 hw5 hrx hk5;rw [hW];rw [hgxe] at hrx hgx ⊢;have hgxW : gx < W.heap.size:=zL hrx;have hc0:=hsq1.cell0;obtain ⟨es,clk,hnm⟩:=hsq1.nodes;have hkn : ∀ y : Subtype (Kp [] W),(Instr.lookup 188 (.map (some bn)) (.agg (idC x.id)) false).run Tryz.prog y.1 = .ok (.agg (y8 ⟨x.h,x.ref,x.val⟩)) y.1:=fun y=>YX (hnm.kept y.2 (by simp)) hcn false;clear hW hgxe hsq hbr hbr2 hb1;refine qQ (Kp [] W) false (by kernel_rfl) (by kernel_rfl) (by kernel_rfl) (by kernel_rfl) (yB [] W) ?_;have hne:=xD [] W;have hS:=yB [] W;have b1:=zZ hc0 (S:=[]) (by simp);have b2:=yP hrx (S:=[]) (by simp);repeat (refine zB ?_ ?_;(focus (simp only [zA];done));intro K hK;go_simp;refine hK _ ?_;clear hK K)
      refine zH ?_ ?_ ?_;(focus (exact hS));(focus (simp only [zA];done));intro K hK;go_simp;refine zY (zC.trans (zC.trans (zC.refl [] W) (zC.drew _) (by simp)) (zC.alloc _ _) (by simp)) (fun hS2=>?_);refine hK _ _ ?_;clear hK K;repeat (refine zB ?_ ?_;(focus (simp only [zA];done));intro K hK;go_simp;refine hK _ ?_;clear hK K)
      have hst : (stS 193 ⟨W.heap.size,0,none⟩ (.agg (y8 ⟨hh,x.ref,x.val⟩))).run Tryz.prog (W.alloc (.cells (y8 v8) 193)).drew = .ok () (W.alloc (.cells (y8 ⟨hh,x.ref,x.val⟩) 193)).drew:=fT W.drew W.heap.size rfl (y8 v8) (u3 _) ⟨hh,x.ref,x.val⟩ 193;refine kR ?_ ?_;(focus (simp only [zA];done));intro K hK;go_simp;refine hK _ _ ?_;clear hK K hst;have hk6 : zC [] W (W.alloc (.cells (y8 ⟨hh,x.ref,x.val⟩) 193)).drew:=zC.trans (zC.alloc _ _) (zC.drew _) (by simp);have hw6:=hw5.kept hk6 (by simp) (by simp);have hrx6 : zF (W.alloc (.cells (y8 ⟨hh,x.ref,x.val⟩) 193)).drew gx 0 32 = some (idC x.id):=(hk6.row hgxW (by simp) 0 32).trans hrx;have hbox : zF (W.alloc (.cells (y8 ⟨hh,x.ref,x.val⟩) 193)).drew W.heap.size 0 34 = some (y8 ⟨hh,x.ref,x.val⟩):=by
        show zF (W.alloc (.cells (y8 ⟨hh,x.ref,x.val⟩) 193)) W.heap.size 0 34 = _;simp [go_sem]
      have hk56:=zC.trans hk5 hk6 (by simp);have hgn : W.heap.size ∉ gw :: blk A4:=by
        simp only [List.mem_cons,not_or];exact ⟨by have:=hw5.lt;omega,fun hx=>by have:=(hw5.own.at_base hx).2;omega⟩
      clear hS hS2 hne b1 b2 hkn hnm hc0 hsq1 hw5 hrx hk5 hk6;generalize (W.alloc (.cells (y8 ⟨hh,x.ref,x.val⟩) 193)).drew = V at *;obtain ⟨gn,hgne⟩ : ∃ gn,W.heap.size = gn:=⟨_,rfl⟩
      rw [hgne] at hbox hgn ⊢;clear hgne hgxW;have hx0 : V.cell? ⟨gn,0,none⟩ = some (.int .i64 hh):=by have:=zD hbox (j:=0) (by omega);rwa [lC,Nat.zero_add] at this
      have hx1 : zF V gn 1 32 = some (idC x.ref):=by have:=y7 hbox (j:=1) (m:=32) (by omega);rwa [uM,Nat.zero_add] at this
      have hx2 : V.cell? ⟨gn,33,none⟩ = some (.string x.val):=by have:=zD hbox (j:=33) (by omega);rwa [mW,Nat.zero_add] at this
      have hconv : ∀ (y : Subtype (Kp (gw :: blk A4) V)) c,(convert 37 9 (.slice (some ⟨gx,0,none⟩) 32 c)).run Tryz.prog y.1 = .ok (.string ⟨x.id.l.toArray⟩) y.1:=fun y c=>jV (yP hrx6 hgx y);have hconv2 : ∀ (y : Subtype (Kp (gw :: blk A4) V)) c,(convert 37 9 (.slice (some ⟨gn,1,none⟩) 32 c)).run Tryz.prog y.1 = .ok (.string ⟨x.ref.l.toArray⟩) y.1:=fun y c=>jV (yP hx1 hgn y);have hst : vL V (gw + 1) gw A4 bs0 V.drew:=⟨A4,cap4,hw6.kept (zC.drew V) (by simp) (by simp),(zC.drew V).mono (by simp),fun x hx=>.inl hx⟩
      have e3 : (⟨x.id.l.toArray⟩ : ByteArray).size = 32:=by show x.id.l.toArray.size = 32;simp [x.id.h]
      have e4 : (⟨x.id.l.toArray⟩ : ByteArray).data.toList = x.id.l:=by simp
      have e5 : x.id.l.length = 32:=x.id.h;have f3 : (⟨x.ref.l.toArray⟩ : ByteArray).size = 32:=by show x.ref.l.toArray.size = 32;simp [x.ref.h]
      have f4 : (⟨x.ref.l.toArray⟩ : ByteArray).data.toList = x.ref.l:=by simp
      have f5 : x.ref.l.length = 32:=x.ref.h;have E3:=Lib.hid e3;have E4:=Lib.hid e4;have E5:=Lib.hid e5;have F3:=Lib.hid f3;have F4:=Lib.hid f4;have F5:=Lib.hid f5;clear e3 e4 e5 f3 f4 f5;go_upto_region 9 with fail
      refine zE (Kp (gw :: blk A4) V) false (by kernel_rfl) (by kernel_rfl) (by kernel_rfl) (yB (gw :: blk A4) V) ?_;have hne:=xD (gw :: blk A4) V;have hS:=yB (gw :: blk A4) V;have b1:=zZ hx0 hgn;have b2:=zZ hx2 hgn;clear hx0 hx1 hx2 hbox hr hrx6;repeat (refine zB ?_ ?_;(focus (simp only [zA];done));intro K hK;go_simp;refine hK _ ?_;clear hK K)
      refine zH ?_ ?_ ?_;(focus (exact hS));(focus (simp only [zA];done));intro K hK;go_simp;obtain ⟨Ai,capi,hwi,hki,hsubi⟩:=hst;refine (fO _ _ _ _ _ _ hwi ⟨x.id.l.toArray⟩ (by rw [E3.out];omega)).mono ?_;rintro e w' ⟨rfl,hst'⟩;replace hst:=y9 hwi hki hsubi hst';have hS:=hst.choose_spec.choose_spec.2.1;refine ⟨_,rfl,hS,hK _ _ ?_⟩;clear hK K hwi hki hsubi hst';repeat (refine zB ?_ ?_;(focus (simp only [zA];done));intro K hK;go_simp;refine hK _ ?_;clear hK K)
      refine zH ?_ ?_ ?_;(focus (exact hS));(focus (simp only [zA];done));intro K hK;go_simp;obtain ⟨Ai,capi,hwi,hki,hsubi⟩:=hst;refine (gR _ _ _ _ _ _ hwi hh 4 (by omega) (by omega) (by rw [E4.out,List.length_append,E5.out];omega)).mono ?_;rintro e w' ⟨rfl,hst'⟩;replace hst:=y9 hwi hki hsubi hst';have hS:=hst.choose_spec.choose_spec.2.1;refine ⟨_,rfl,hS,hK _ _ ?_⟩;clear hK K hwi hki hsubi hst';repeat (refine zB ?_ ?_;(focus (simp only [zA];done));intro K hK;go_simp;refine hK _ ?_;clear hK K)
      refine zH ?_ ?_ ?_;(focus (exact hS));(focus (simp only [zA];done));intro K hK;go_simp;obtain ⟨Ai,capi,hwi,hki,hsubi⟩:=hst;refine (fO _ _ _ _ _ _ hwi ⟨x.ref.l.toArray⟩ (by rw [F3.out,E4.out,List.length_append,List.length_append,E5.out,yC];omega)).mono ?_;rintro e w' ⟨rfl,hst'⟩;replace hst:=y9 hwi hki hsubi hst';have hS:=hst.choose_spec.choose_spec.2.1;refine ⟨_,rfl,hS,hK _ _ ?_⟩;clear hK K hwi hki hsubi hst';repeat (refine zB ?_ ?_;(focus (simp only [zA];done));intro K hK;go_simp;refine hK _ ?_;clear hK K)
      refine zH ?_ ?_ ?_;(focus (exact hS));(focus (simp only [zA];done));intro K hK;go_simp;obtain ⟨Ai,capi,hwi,hki,hsubi⟩:=hst;refine (gR _ _ _ _ _ _ hwi x.val.size 1 (by omega) (by omega) (by rw [E4.out,F4.out,List.length_append,List.length_append,List.length_append,E5.out,yC,F5.out];omega)).mono ?_;rintro e w' ⟨rfl,hst'⟩;replace hst:=y9 hwi hki hsubi hst';have hS:=hst.choose_spec.choose_spec.2.1;refine ⟨_,rfl,hS,hK _ _ ?_⟩;clear hK K hwi hki hsubi hst';repeat (refine zB ?_ ?_;(focus (simp only [zA];done));intro K hK;go_simp;refine hK _ ?_;clear hK K)
      refine zH ?_ ?_ ?_;(focus (exact hS));(focus (simp only [zA];done));intro K hK;go_simp;obtain ⟨Ai,capi,hwi,hki,hsubi⟩:=hst;refine (fO _ _ _ _ _ _ hwi x.val (by rw [E4.out,F4.out,List.length_append,List.length_append,List.length_append,List.length_append,E5.out,yC,yC,F5.out];omega)).mono ?_;rintro e w' ⟨rfl,hst'⟩;replace hst:=y9 hwi hki hsubi hst';have hS:=hst.choose_spec.choose_spec.2.1;refine ⟨_,rfl,hS,hK _ _ ?_⟩;clear hK K hwi hki hsubi hst';repeat (refine zB ?_ ?_;(focus (simp only [zA];done));intro K hK;go_simp;refine hK _ ?_;clear hK K)
      refine zN ?_;intro hS;have heq : bs0 ++ (⟨x.id.l.toArray⟩ : ByteArray).data.toList ++ beL 4 hh ++ (⟨x.ref.l.toArray⟩ : ByteArray).data.toList ++ beL 1 x.val.size ++ x.val.data.toList = beL 4 X.length ++ (X.take (k + 1)).flatMap vD:=by
        rw [Htk.out,E4.out,F4.out,← List.append_assoc (beL 4 X.length),Hbs0.out];simp [vD,List.append_assoc,hhe]
      rw [heq] at hst;have hst2:=y9 hw4 hk4 hsub4 (y9 hw6 (hk56.mono (S':=gw :: blk A4) (by simp)) (fun x hx=>.inl hx) hst);have Hst:=Lib.hid hst2;clear hst hst2 heq hconv hconv2 hne b1 b2 hS;(go_wp2_with fail);go_roundw
      case rel=>exact ⟨k + 1,by omega,by go_num,Hst.out⟩
      case measure=>simp [intOf];omega
    · have hkL : X.take k = X:=List.take_of_length_le (by omega);rw [hkL] at hw4 hbl;clear hkL htl hsq hbr2;have hIs5:=hIs4.kept hk4 (fun x hx hm=>by
        have:=HIb.out x hx;rcases List.mem_cons.1 hm with e | hm
        · omega
        · have:=HAb.out x hm;omega)
      have hb05 : Below w.heap.size w wr:=hb02.trans (hbr.mono hszw);have hpl : (beL 4 X.length ++ X.flatMap vD).length ≤ 100000000:=by rw [List.length_append,yC];omega
      obtain ⟨p0,hp0⟩ : ∃ p0,beL 4 X.length ++ X.flatMap vD = p0:=⟨_,rfl⟩
      have Hp0:=Lib.hid hp0;rw [hp0] at hw4 hpl;clear hp0 hbl;have cw:=gR _ _ _ _ _ _ hw4 G.length 4 (by omega) (by omega) (by omega);(go_wp2_with fail);refine cw.mono ?_;rintro e W3 ⟨rfl,AW,capW,hwW,hkW,hsubW⟩;have hAb4 : ∀ x ∈ blk A4,gw < x:=fun x hx=>(by have:=(hw4.own.at_base hx).1;omega);have hid : SlR W3 IA G.length 32 (G.map idC):=hIs5.kept hkW (fun x hx hm=>by
        have:=HIb.out x hx;rcases List.mem_cons.1 hm with e | hm
        · omega
        · have:=hAb4 x hm;omega)
      have hbF : Below w.heap.size w W3:=hb05.trans (hkW.below (by have:=hb05.size;omega) (fun x hx=>by
        rcases List.mem_cons.1 hx with rfl | hx
        · omega
        · have:=hAb4 x hx;omega))
      have hAbW : ∀ x ∈ blk AW,gw < x:=fun x hx=>(by have:=(hwW.own.at_base hx).1;omega);have hdis : ∀ x ∈ blk IA,x ∉ gw :: blk AW:=fun x hx hm=>by
        have:=HIb.out x hx;rcases List.mem_cons.1 hm with e | hm
        · omega
        · have:=hAbW x hm;omega
      have hbF2 : ∀ w',zC (gw :: blk AW) W3 w' → Below w.heap.size w w':=fun w' hk=>hbF.trans (hk.below (by have:=hbF.size;omega) (fun x hx=>by
        rcases List.mem_cons.1 hx with rfl | hx
        · omega
        · have:=hAbW x hx;omega))
      have HbF:=Lib.hid hbF2;have hpl2 : (p0 ++ beL 4 G.length).length ≤ 200000000:=by rw [List.length_append,yC];omega
      obtain ⟨pre,hpre⟩ : ∃ pre,p0 ++ beL 4 G.length = pre:=⟨_,rfl⟩
      have Hpre : Hid (beL 4 X.length ++ X.flatMap vD ++ beL 4 G.length = pre):=(show _ = _ by rw [Hp0.out,hpre])
      rw [hpre] at hwW hpl2;obtain ⟨S,hS⟩ : ∃ S,S = G:=⟨_,rfl⟩
      obtain ⟨Bw,hBw⟩ : ∃ Bw,Bw = gw + 1:=⟨_,rfl⟩
      rw [← hS] at hid hG Hpre ⊢;rw [← hBw] at hwW;have HS:=Lib.hid hS;clear hpre hbF hbF2 hS hBw hIs5 hb05 hw4 hkW hsubW hAb4 hAbW hk4 hsub4 cw hw2 hXs4 hIs4 hb24 hbr h2;(go_wp2_with fail);go_loopw [60] (fun i wr=>∃ k : Nat,k ≤ S.length ∧ i = .int .i64 (k : Nat) ∧ vL W3 Bw gw AW (pre ++ (S.take k).flatMap zK.l) wr) (fun i _=>S.length - (intOf i).toNat)
      case atStart=>exact ⟨0,Nat.zero_le _,rfl,AW,capW,by simpa using hwW,zC.refl _ _,fun x hx=>.inl hx⟩
      case round =>
        obtain ⟨k,hk,rfl,A4,cap4,hw4,hk4,hsub4⟩:=hrel;by_cases hlt : k < S.length
        · have hLr:=(show SlR W3 IA S.length 32 (S.map idC) from hid).kept hk4 hdis;obtain ⟨q,o,rfl,hr⟩:=y4.get hLr hlt hlt;have htk : (S.take (k + 1)).flatMap zK.l = (S.take k).flatMap zK.l ++ (S[k]).l:=by rw [List.take_add_one,List.getElem?_eq_getElem hlt,List.flatMap_append];simp only [Option.toList_some,List.flatMap_cons,List.flatMap_nil,List.append_nil]
          have hbl:=xC zK.l 32 (S.take k) (fun x hx=>by rw [x.h];exact Nat.le_refl _);have htl : (S.take k).length = k:=by simp;omega
          rw [htl] at hbl;obtain ⟨x,hx⟩ : ∃ x,S[k]'hlt = x:=⟨_,rfl⟩
          rw [hx] at hr htk;have Htk:=Lib.hid htk;clear hx htk hLr htl;have hbl0 : (pre ++ (S.take k).flatMap zK.l).length ≤ 300000000:=by rw [List.length_append];omega
          obtain ⟨bs0,hbs0⟩ : ∃ bs0,pre ++ (S.take k).flatMap zK.l = bs0:=⟨_,rfl⟩
          have Hbs0:=Lib.hid hbs0;rw [hbs0] at hw4 hbl0;clear hbs0 hbl;have hb5 : Below wr.heap.size wr (wr.alloc (.cells (idC x) 39)):=(Below.refl _ _).alloc (Nat.le_refl _) _;have hw5:=hw4.below hb5;have hk5 : zC [] wr (wr.alloc (.cells (idC x) 39)):=zC.alloc _ _;have hbox : zF (wr.alloc (.cells (idC x) 39)) wr.heap.size 0 32 = some (idC x):=by simp [go_sem]
          have hconv : ∀ c,(convert 37 9 (.slice (some ⟨wr.heap.size,0,none⟩) 32 c)).run Tryz.prog (wr.alloc (.cells (idC x) 39)) = .ok (.string ⟨x.l.toArray⟩) (wr.alloc (.cells (idC x) 39)):=fun c=>jV hbox;have e3 : (⟨x.l.toArray⟩ : ByteArray).size = 32:=by show x.l.toArray.size = 32;simp [x.h]
          have e4 : (⟨x.l.toArray⟩ : ByteArray).data.toList = x.l:=by simp
          have cw:=fO _ Bw gw A4 cap4 bs0 hw5 ⟨x.l.toArray⟩ (by rw [e3];omega);rw [e4] at cw;clear e3 e4 hbox;(go_wp2_with fail);refine cw.mono ?_;rintro e w6 ⟨rfl,hst⟩;have hst2:=y9 hw4 hk4 hsub4 (y9 hw5 (hk5.mono (S':=gw :: blk A4) (by simp)) (fun x hx=>.inl hx) hst);rw [← Hbs0.out,List.append_assoc,← Htk.out] at hst2;have Hst:=Lib.hid hst2;clear hst hst2 hconv cw hb5 hw5 hk5 hw4 hk4 hsub4;(go_wp2_with fail);go_roundw
          case rel=>exact ⟨k + 1,by omega,by go_num,Hst.out⟩
          case measure=>simp [intOf];omega
        · have hkL : S.take k = S:=List.take_of_length_le (by omega);rw [hkL] at hw4;clear hkL;(go_wp2_with fail);refine (uX _ _ _ _ _ _ hw4).mono ?_;rintro e w' ⟨rfl,rfl⟩;(go_wp2_with fail);go_ret;exact ⟨kT (by rw [Hput.out,← Hpre.out,HS.out];simp [gV,List.append_assoc]),HbF.out _ hk4⟩
end
section
open Go.RowKit
def tB (n : Int) : Nat:=(n % 18446744073709551616).toNat
def d7 (n : Int) : List UInt8:=beL 4 (tB n / 4294967296) ++ beL 4 (tB n % 4294967296)
theorem sV (n : Int) : tB n < 18446744073709551616:=by unfold tB;omega
theorem low_and (x : Nat) (hx : x < 18446744073709551616) : bits .and .u64 (x : Int) 4294967295 = ((x % 4294967296 : Nat) : Int):=by
  have h:=bits_and_u64_nat x 4294967295 hx (by omega);have e : x &&& 4294967295 = x % 4294967296:=Nat.and_two_pow_sub_one_eq_mod x 32;rw [e] at h;exact h
theorem rE (n : Int) : ((tB n : Nat) : Int) = n % 18446744073709551616:=by unfold tB;omega
set_option maxRecDepth 100000 in
set_option maxHeartbeats 1000000 in
theorem tput (w : World) (g : Nat) (n : Int) (h : xR w g n) :
    Calls Tryz.prog 324 #[.pointer (some ⟨g,0,none⟩)] w fun e w'=>e = .returned (.string ⟨(d7 n).toArray⟩) ∧ Below w.heap.size w w':=by
  go_enter Tryz.func324,Tryz.ntmps324
  (go_wp2_with fail);refine (JT _ g n h).mono ?_;rintro e w1 ⟨rfl,rfl⟩;(go_wp2_with fail);refine (X6 _ g n h).mono ?_;rintro e w1 ⟨rfl,rfl⟩;(go_wp2_with fail);refine (pQ _).mono ?_;rintro e w2 ⟨rfl,hw2,hb2⟩;(go_wp2_with fail);have ew : IntKind.u64.wrap n = ((tB n : Nat) : Int):=by rw [rE];rfl
  have e1 : wrap64 (((tB n : Nat) : Int) / 4294967296) = ((tB n / 4294967296 : Nat) : Int):=by have:=sV n;unfold wrap64;omega
  rw [ew,e1];have hlt:=sV n;obtain ⟨x,hx⟩ : ∃ x,tB n = x:=⟨_,rfl⟩
  have Hx : Hid (d7 n = beL 4 (x / 4294967296) ++ beL 4 (x % 4294967296)):=(show _ = _ by rw [← hx];rfl)
  rw [hx] at hlt ⊢;clear ew e1 hx;refine (gR _ _ _ _ _ _ hw2 (x / 4294967296) 4 (by omega) (by omega) (by simp)).mono ?_;rintro e w3 ⟨rfl,A3,cap3,hw3,hk3,hsub3⟩;(go_wp2_with fail);have e2 : wrap64 (bits BinOp.and IntKind.u64 (x : Int) 4294967295) = ((x % 4294967296 : Nat) : Int):=by rw [low_and x hlt];unfold wrap64;omega
  rw [e2];clear e2;refine (gR _ _ _ _ _ _ hw3 (x % 4294967296) 4 (by omega) (by omega) (by simp [yC])).mono ?_;rintro e w4 ⟨rfl,A4,cap4,hw4,hk4,hsub4⟩;(go_wp2_with fail);refine (uX _ _ _ _ _ _ hw4).mono ?_;rintro e w5 ⟨rfl,rfl⟩;have hb4 : Below w.heap.size w w4:=(hb2.trans (hk3.below hb2.size (by simp [blk]))).trans (hk4.below (by have:=hb2.size;have:=hk3.size;omega) (fun x hx=>by
    rcases List.mem_cons.1 hx with rfl | hx
    · omega
    · have:=(hw3.own.at_base hx).1;omega))
  (go_wp2_with fail);go_ret;exact ⟨kT (by rw [Hx.out]),hb4⟩
end
section
open Go.RowKit
def dI (x : yT) : List UInt8:=x.tag.l ++ (beL 1 x.val.size ++ x.val.data.toList)
def tG (L : List yT) : List UInt8:=beL 4 L.length ++ L.flatMap dI
def pX (L G : List yT) : List UInt8:=tG L ++ tG G
theorem i0 (x : yT) : (dI x).length = 33 + x.val.size:=by
  have e : x.val.data.toList.length = x.val.size:=Array.length_toList;simp [dI,yC,x.tag.h];omega
theorem bB {L : List yT} (h : ∀ x ∈ L,small x) : (tG L).length ≤ 49 * L.length + 4:=by
  have:=xC dI 49 L (fun x hx=>by rw [i0];have:=h x hx;unfold small at this;omega);unfold tG;rw [List.length_append,yC];omega
abbrev RowsAt (w : World) (A : Option Addr) (n : Nat) (R : List yT) : Prop:=SlR w A n 33 (R.map zU)
set_option maxRecDepth 100000 in
set_option maxHeartbeats 4000000 in
theorem blay (w : World) (B gw : Nat) (A : Option Addr) (cap : Nat) (bs : List UInt8) (h : dC w B gw A cap bs) (SA : Option Addr) (sc : Nat) (L : List yT) (hL : RowsAt w SA L.length L) (hsm : ∀ x ∈ L,small x) (hd : ∀ x ∈ blk SA,x ∉ gw :: blk A) (hn : L.length ≤ 1000000) (hbs : bs.length ≤ 100000000) :
    Calls Tryz.prog 326 #[.pointer (some ⟨gw,0,none⟩),.slice SA L.length sc] w fun e w'=>e = .returned (.tuple #[]) ∧ vL w B gw A (bs ++ tG L) w':=by
  have c1:=gR w B gw A cap bs h L.length 4 (by omega) (by omega) (by omega);go_enter Tryz.func326,Tryz.ntmps326
  (go_wp2_with fail);refine c1.mono ?_;rintro e w1 ⟨rfl,hst1⟩;clear c1;have hst1' : vL w B gw A (bs ++ beL 4 L.length ++ (L.take 0).flatMap dI) w1:=by simpa using hst1
  clear hst1;(go_wp2_with fail);go_loopw [12] (fun i wr=>∃ k : Nat,k ≤ L.length ∧ i = .int .i64 (k : Nat) ∧ vL w B gw A (bs ++ beL 4 L.length ++ (L.take k).flatMap dI) wr) (fun i _=>L.length - (intOf i).toNat)
  case atStart=>exact ⟨0,Nat.zero_le _,rfl,hst1'⟩
  case round =>
    obtain ⟨k,hk,rfl,A4,cap4,hw4,hk4,hsub4⟩:=hrel;have hbl:=xC dI 49 (L.take k) (fun x hx=>by rw [i0];have:=hsm x (List.mem_of_mem_take hx);unfold small at this;omega);have htl : (L.take k).length = k:=by simp;omega
    rw [htl] at hbl;by_cases hlt : k < L.length
    · have hLr:=hL.kept hk4 hd;obtain ⟨q,o,rfl,hr⟩:=hLr.at_ hlt;rw [List.getElem_map] at hr;have hsx:=hsm L[k] (List.getElem_mem hlt);have htk : (L.take (k + 1)).flatMap dI = (L.take k).flatMap dI ++ dI L[k]:=by rw [List.take_add_one,List.getElem?_eq_getElem hlt,List.flatMap_append];simp only [Option.toList_some,List.flatMap_cons,List.flatMap_nil,List.append_nil]
      obtain ⟨x,hx⟩ : ∃ x,L[k]'hlt = x:=⟨_,rfl⟩
      rw [hx] at hr hsx htk;have Htk:=Lib.hid htk;unfold small at hsx;clear hx htk hLr;have hbl0 : (bs ++ beL 4 L.length ++ (L.take k).flatMap dI).length ≤ 200000000:=by rw [List.length_append,List.length_append,yC];omega
      obtain ⟨bs0,hbs0⟩ : ∃ bs0,bs ++ beL 4 L.length ++ (L.take k).flatMap dI = bs0:=⟨_,rfl⟩
      have Hbs0:=Lib.hid hbs0;rw [hbs0] at hw4 hbl0;have e1 : x.val.data.toList.length = x.val.size:=Array.length_toList;have e3 : (⟨x.tag.l.toArray⟩ : ByteArray).size = 32:=by show x.tag.l.toArray.size = 32;simp [x.tag.h]
      have e4 : (⟨x.tag.l.toArray⟩ : ByteArray).data.toList = x.tag.l:=by simp
      have e5 : x.tag.l.length = 32:=x.tag.h;have E1:=Lib.hid e1;have E3:=Lib.hid e3;have E4:=Lib.hid e4;have E5:=Lib.hid e5;clear hbs0 e1 e3 e4 e5;go_upto_region 4 with fail
      have hw5:=hw4.below (w':=wr.alloc (.cells (zU x) 171)) ((Below.refl _ _).alloc (Nat.le_refl _) _);have hbox : zF (wr.alloc (.cells (zU x) 171)) wr.heap.size 0 33 = some (zU x):=by simp [go_sem]
      have hk5 : zC [] wr (wr.alloc (.cells (zU x) 171)):=zC.alloc _ _;have hbS : wr.heap.size ∉ gw :: blk A4:=by
        simp only [List.mem_cons,not_or];exact ⟨by have:=hw4.lt;omega,fun hx=>by have:=(hw4.own.at_base hx).2;omega⟩
      generalize wr.alloc (.cells (zU x) 171) = W at *;have hx0 : W.cell? ⟨wr.heap.size,32,none⟩ = some (.string x.val):=by have:=zD hbox (j:=32) (by omega);rwa [fM,Nat.zero_add] at this
      have hx2 : zF W wr.heap.size 0 32 = some (idC x.tag):=by have:=y7 hbox (j:=0) (m:=32) (by omega);rwa [uG] at this
      have hconv : ∀ (y : Subtype (Kp (gw :: blk A4) W)) c,(convert 37 9 (.slice (some ⟨wr.heap.size,0,none⟩) 32 c)).run Tryz.prog y.1 = .ok (.string ⟨x.tag.l.toArray⟩) y.1:=fun y c=>jV (yP hx2 hbS y);have hst : vL W B gw A4 bs0 W.drew:=⟨A4,cap4,hw5.kept (zC.drew W) (by simp) (by simp),(zC.drew W).mono (by simp),fun x hx=>.inl hx⟩
      refine zE (Kp (gw :: blk A4) W) false (by kernel_rfl) (by kernel_rfl) (by kernel_rfl) (yB (gw :: blk A4) W) ?_;have hne:=xD (gw :: blk A4) W;have hS:=yB (gw :: blk A4) W;have b1:=zZ hx0 hbS;clear hx0 hx2 hbox hr;repeat (refine zB ?_ ?_;(focus (simp only [zA];done));intro K hK;go_simp;refine hK _ ?_;clear hK K)
      refine zH ?_ ?_ ?_;(focus (exact hS));(focus (simp only [zA];done));intro K hK;go_simp;obtain ⟨Ai,capi,hwi,hki,hsubi⟩:=hst;refine (fO _ _ _ _ _ _ hwi ⟨x.tag.l.toArray⟩ (by rw [E3.out];omega)).mono ?_;rintro e w' ⟨rfl,hst'⟩;replace hst:=y9 hwi hki hsubi hst';have hS:=hst.choose_spec.choose_spec.2.1;refine ⟨_,rfl,hS,hK _ _ ?_⟩;clear hK K hwi hki hsubi hst';repeat (refine zB ?_ ?_;(focus (simp only [zA];done));intro K hK;go_simp;refine hK _ ?_;clear hK K)
      refine zH ?_ ?_ ?_;(focus (exact hS));(focus (simp only [zA];done));intro K hK;go_simp;obtain ⟨Ai,capi,hwi,hki,hsubi⟩:=hst;refine (gR _ _ _ _ _ _ hwi x.val.size 1 (by omega) (by omega) (by rw [E4.out,List.length_append,E5.out];omega)).mono ?_;rintro e w' ⟨rfl,hst'⟩;replace hst:=y9 hwi hki hsubi hst';have hS:=hst.choose_spec.choose_spec.2.1;refine ⟨_,rfl,hS,hK _ _ ?_⟩;clear hK K hwi hki hsubi hst';repeat (refine zB ?_ ?_;(focus (simp only [zA];done));intro K hK;go_simp;refine hK _ ?_;clear hK K)
      refine zH ?_ ?_ ?_;(focus (exact hS));(focus (simp only [zA];done));intro K hK;go_simp;obtain ⟨Ai,capi,hwi,hki,hsubi⟩:=hst;refine (fO _ _ _ _ _ _ hwi x.val (by rw [E4.out,List.length_append,List.length_append,E5.out,yC];omega)).mono ?_;rintro e w' ⟨rfl,hst'⟩;replace hst:=y9 hwi hki hsubi hst';have hS:=hst.choose_spec.choose_spec.2.1;refine ⟨_,rfl,hS,hK _ _ ?_⟩;clear hK K hwi hki hsubi hst';repeat (refine zB ?_ ?_;(focus (simp only [zA];done));intro K hK;go_simp;refine hK _ ?_;clear hK K)
      refine zN ?_;intro hS;have heq : bs0 ++ (⟨x.tag.l.toArray⟩ : ByteArray).data.toList ++ beL 1 x.val.size ++ x.val.data.toList = bs ++ beL 4 L.length ++ (L.take (k + 1)).flatMap dI:=by
        rw [Htk.out,E4.out,← List.append_assoc,Hbs0.out];simp [dI,List.append_assoc]
      rw [heq] at hst;have hst2:=y9 hw4 hk4 hsub4 (y9 hw5 (hk5.mono (S':=gw :: blk A4) (by simp)) (fun x hx=>.inl hx) hst);have Hst:=Lib.hid hst2;clear hst hst2 heq hconv hne b1 hS;(go_wp2_with fail);go_roundw
      case rel=>exact ⟨k + 1,by omega,by go_num,Hst.out⟩
      case measure=>simp [intOf];omega
    · have hkL : L.take k = L:=List.take_of_length_le (by omega);rw [hkL] at hw4;(go_wp2_with fail);go_end0;exact ⟨rfl,A4,cap4,by unfold tG;rw [← List.append_assoc];exact hw4,hk4,hsub4⟩
set_option maxRecDepth 100000 in
set_option maxHeartbeats 2000000 in
theorem bput (w : World) (g bl bg : Nat) (L G : List yT) (h : jG w g bl bg L G) (hn : L.length ≤ 1000000) (hg : G.length ≤ 1000000) :
    Calls Tryz.prog 325 #[.pointer (some ⟨g,0,none⟩)] w fun e w'=>e = .returned (.string ⟨(pX L G).toArray⟩) ∧ Below w.heap.size w w':=by
  have hc:=h.cell0;go_enter Tryz.func325,Tryz.ntmps325
  (go_wp2_with fail);refine (t5 _ _ _ hc).mono ?_;rintro e w' ⟨rfl,rfl⟩;(go_wp2_with fail);refine (pQ _).mono ?_;rintro e w1 ⟨rfl,hw1,hb1⟩;have h1:=h.below hb1;have hc1:=h1.cell0;clear hc;(go_wp2_with fail);refine (X5 _ _ _ h1.live h1.risL hn).mono ?_;rintro e w2 ⟨RA,rc,rfl,hrow,hb2⟩;have h2:=h1.below hb2;have hw2:=hw1.below hb2;have hb02:=yN hb1 hb2;have hl:=hw1.lt;(go_wp2_with fail);refine (blay w2 _ _ _ _ _ hw2 RA rc L hrow.slr h2.smL (fun x hx=>by have:=(hrow.at_base hx).1;simp [blk];omega) hn (by simp)).mono ?_;rintro e w3 ⟨rfl,A3,cap3,hw3,hk3,hsub3⟩;have hglt:=h.lt;have h3:=h2.kept hk3 (by simp [blk];omega) (by simp [blk];omega) (by simp [blk];omega);have hb03 : Below w.heap.size w w3:=hb02.trans (hk3.below (by have:=hb02.size;omega) (by simp [blk]));have hc3:=h3.cell1;have hlen3:=bB h.smL;simp only [List.nil_append] at hw3;clear hrow hw1 hw2 h1 h2 hk3 hb1 hb2 hc1;(go_wp2_with fail);refine (X5 _ _ _ h3.gone h3.risG hg).mono ?_;rintro e w4 ⟨RA2,rc2,rfl,hrow2,hb4⟩;have h4:=h3.below hb4;have hw4:=hw3.below hb4;have hb04:=yN hb03 hb4;(go_wp2_with fail);refine (blay w4 _ _ _ _ _ hw4 RA2 rc2 G hrow2.slr h4.smG (fun x hx=>by
    have h1:=(hrow2.at_base hx).1;simp only [List.mem_cons,not_or];exact ⟨by have:=hw3.lt;omega,fun hx'=>by have:=(hw3.own.at_base hx').2;omega⟩) hg (by omega)).mono ?_;rintro e w5 ⟨rfl,A5,cap5,hw5,hk5,hsub5⟩
  have hb05 : Below w.heap.size w w5:=hb04.trans (hk5.below (by have:=hb04.size;omega) (fun x hx=>by
    rcases List.mem_cons.1 hx with rfl | hx
    · omega
    · have:=(hw3.own.at_base hx).1;omega))
  clear hrow2 hw4 h4 hk5 hc3 hb4;(go_wp2_with fail);refine (uX _ _ _ _ _ _ hw5).mono ?_;rintro e w' ⟨rfl,rfl⟩;(go_wp2_with fail);go_ret;exact ⟨rfl,hb05⟩
end
section
open Go.RowKit Go.Sort Go.Shelf
set_option maxRecDepth 100000 in
set_option maxHeartbeats 1000000 in
theorem XC (wS : World) (g : Nat) (t : ByteArray) (b : Nat) (L : List zK) (sv : Value) (h : x7 wS g t b L sv) (hr : Ris zO L) (hn : L.length ≤ 1000000) :
    Calls Tryz.prog 33 #[.pointer (some ⟨g,0,none⟩)] wS fun e w'=>∃ A cap,e = .returned (.slice A L.length cap) ∧ Own w' wS.heap.size 39 32 A L.length cap (L.map idC) ∧ Below wS.heap.size wS w':=by
  have hbl:=h.ids.lt;have hc:=h.cell1;obtain ⟨w0,hrun,hR,hb0,hs0⟩:=xA.range (P:=Tryz.prog) (kv:=idV) (ok:=d8) h.ids Tryz.underlying75;go_enter Tryz.func33,Tryz.ntmps33
  (go_wp2_with fail);refine (qL wS g b hc).mono ?_;rintro e w1 ⟨rfl,rfl⟩;(go_wp2_with fail);clear hrun hc h;go_loopw [3] (fun out wr=>∃ S A cap,out = .slice A S.length cap ∧ jD wr b wS.heap.size idV d8 L S ∧ Own wr w0.heap.size 39 32 A S.length cap (S.map idC) ∧ Below wS.heap.size wS wr ∧ w0.heap.size ≤ wr.heap.size) (fun _ wr=>wr.rangeLeft b wS.heap.size)
  case atStart=>exact ⟨[],none,0,rfl,hR,Own.nil _ _ _ _,hb0,Nat.le_refl _⟩
  case round =>
    obtain ⟨S,A,cap,rfl,hR,hown,hb,hsz⟩:=hrel;rcases hR.next (P:=Tryz.prog) 0 with ⟨hall,hnd,hrun⟩ | ⟨x,w1,hxL,hxS,hrun,hR1,hk1,hs1,hl1,hen⟩
    focus
      have hp : S.Perm L:=(List.perm_ext_iff_of_nodup hnd (hr.nodup xP)).2 hall;have hSL:=hp.length_eq;have Hall:=Lib.hid hall;have HSL:=Lib.hid hSL;clear hall hSL;have hset:=uR wr A S.length cap S L hown.slr hp hr (by rw [HSL.out];omega) (fun e=>(hown.cap_le.2 e).2);(go_wp2_with fail);refine hset.mono ?_;rintro e w2 ⟨A2,cap2,rfl,hown2,hb2⟩;clear hset hrun;(go_wp2_with fail);go_ret;exact ⟨A2,cap2,rfl,hown2.mono (by have:=hb.size;omega),hb.trans (hb2.mono hb.size)⟩
    have hSn : S.length + 1 ≤ 1000000:=by
      obtain ⟨M,Z,hZ,hks,_,hZS,hnd⟩:=hR1;have h1:=hZ.length;have h2 : (Z.map (·.1)).length = (S ++ [x]).length:=by rw [hZS]
      have h3 : (M.map (·.1)).length ≤ L.length:=vV hnd (fun y hy=>(hks y).1 hy);simp at h2 h3;omega
    have hownr : Own w1 w0.heap.size 39 32 A S.length cap (S.map idC):=hown.kept hk1 (fun y hy=>by have:=(hown.at_base hy).1;simp;omega);have hb1 : Below wS.heap.size wS w1:=hb.trans (hk1.below (B:=wS.heap.size) (by omega) (by simp));have hbx : Below w1.heap.size w1 ((w1.alloc (.cells (idC x) 39)).alloc (.cells (idC x) 39)):=((Below.refl _ _).alloc (Nat.le_refl _) _).alloc (by simp) _;have hown2:=hownr.below hbx;have hrow2 : zF ((w1.alloc (.cells (idC x) 39)).alloc (.cells (idC x) 39)) (w1.heap.size + 1) 0 32 = some (idC x):=by simp [go_sem]
    change (Instr.next _ _ _).run Tryz.prog wr = .ok (.tuple #[.bool true,.agg (idC x),.bool true]) w1 at hrun;change (Instr.entry _).run Tryz.prog w1 = .ok (.tuple #[.agg (idC x),.bool true]) w1 at hen;have Hs1:=Lib.hid hs1;clear hs1;go_wp2_with (at_builtin;refine x8 xX rfl hown2 rfl hrow2 (xW _) (by omega) (by omega) (by simp;have:=Hs1.out;omega) ?_;intro A' cap' w2 hownA hkA hsubA)
    have hbA : b ∉ blk A:=fun hx=>(by have:=(hown.at_base hx).1;omega);have hrA : wS.heap.size ∉ blk A:=fun hx=>(by have:=(hown.at_base hx).1;omega);have hR1x:=hR1.kept (zC.of_below hbx) (by simp) (by simp);have hR2:=hR1x.kept hkA hbA hrA;have hl2 : w2.rangeLeft b wS.heap.size = w1.rangeLeft b wS.heap.size :=
      (x6 hkA hbA hrA hR1x.lt.2 hR1x.lt.1).trans (x6 (zC.of_below hbx) (by simp) (by simp) hR1.lt.2 hR1.lt.1)
    have hsz2 : w0.heap.size ≤ w2.heap.size:=by
      have e1:=hbx.size;have e2:=hkA.size;have e3:=Hs1.out;omega
    have hb2 : Below wS.heap.size wS w2:=hb1.trans ((hbx.mono (by have:=Hs1.out;omega)).trans (hkA.below (B:=wS.heap.size) (by simp;have:=Hs1.out;omega) fun y hy=>by have:=(hown.at_base hy).1;omega));clear hrun hen;(go_wp2_with fail);go_roundw
    case rel=>exact ⟨S ++ [x],A',cap',by simp,hR2,by simpa using hownA,hb2,hsz2⟩
    case measure=>omega
end
end Go.Proofs.YtgfpjjppeldhbaaGreatDoor
