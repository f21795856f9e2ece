/- Part 11 of the texts that lead to this claim: the walks of the functions and the plain law, in order. -/
import Derived.Test.YtgedpfebepdcmaaGreatDoorMb10
import Derived.LoopN
import Derived.Laws.StructEq
namespace Go.Proofs.YtgedpfebepdcmaaGreatDoor
open Go.RowKit
set_option maxRecDepth 100000
set_option maxHeartbeats 8000000
@[go_sem] theorem buildRr_s (s:ByteArray) (w:World):(bdS 133 #[(0,.string s)]).run Tryz.prog w = .ok (.agg (rrC ⟨s,0⟩)) w:=by kernel_rfl
theorem rop_of (s:ByteArray) (w:World) (hs:s.size<=9223372036854775807) :
    Calls Tryz.prog 42 #[.string s] w (OfRes w s.data.toList):=by
  obtain⟨l,hl⟩:∃l,s.data.toList=l:=⟨_,rfl⟩
  have hsl:s=mkB l:=by rw[<-hl];rfl
  have hll:l.length<=9223372036854775807:=by rw[<-hl];exact hs
  have hb0:Below w.heap.size w ((w.alloc (.cells (zD yJ) 105)).alloc (.cells (rrC ⟨mkB l,0⟩) 133)):=((Below.refl _ _).alloc (Nat.le_refl _) _).alloc (by simp) _;have hg2:((w.alloc (.cells (zD yJ) 105)).alloc (.cells (rrC ⟨mkB l,0⟩) 133)).heap[w.heap.size]? = some (.cells (zD yJ) 105 (0,0)):=by
    rw[Below.heap_alloc _ _ _ (by simp)];exact heap_alloc_new w _
  have hr1:d9 ((w.alloc (.cells (zD yJ) 105)).alloc (.cells (rrC ⟨mkB l,0⟩) 133)) (w.heap.size+1) l 0:=⟨hll,by
    have:=heap_alloc_new (w.alloc (.cells (zD yJ) 105)) (.cells (rrC ⟨mkB l,0⟩) 133);simpa using this⟩
  rw[hl];subst hsl;clear hl hs;have hE:opE l=if xF 1 l 0≠0 then xF 1 l 0
    else if xO 1 l 0=0\/7<xO 1 l 0 then 10
    else if d7 (yT (xO 1 l 0) (yS 1 l 0) 0).l (yT (xO 1 l 0) (yS 1 l 0) 0).e≠0 then d7 (yT (xO 1 l 0) (yS 1 l 0) 0).l (yT (xO 1 l 0) (yS 1 l 0) 0).e
    else qr (yT (xO 1 l 0) (yS 1 l 0) 0).o:=rfl
  have hO:opO l=(yT (xO 1 l 0) (yS 1 l 0) 0).o:=rfl;have hk8:=jI 1 l 0;have hk9:xO 1 l 0<256:=by simpa using hk8
  have HE:=Lib.hid hE;have HO:=Lib.hid hO;clear hE hO hk8;show Calls Tryz.prog 42 #[.string (mkB l)] w _;go_enter Tryz.func42,Tryz.ntmps42
  go_upto_region 2 with fail
  obtain⟨ga,hga⟩:∃ga,w.heap.size=ga:=⟨_,rfl⟩
  have Hga:=Lib.hid hga;obtain⟨W,hW⟩:∃W,W=(w.alloc (.cells (zD yJ) 105)).alloc (.cells (rrC ⟨mkB l,0⟩) 133):=⟨_,rfl⟩
  rw[<-hW]at hb0 hg2 hr1 |-;rw[hga]at hg2 hr1 hb0 |-;clear hW hga;obtain⟨gr,hgr⟩:∃gr,ga+1=gr:=⟨_,rfl⟩
  have hgar:ga<gr:=by omega
  rw[hgr]at hr1 |-;clear hgr;(go_wp2_with fail);refine(cI W gr 1 l 0 hr1 (.inl rfl)).mono ?_;rintro en w2 ⟨rfl,hr2,hk2⟩;have hg22:=(hk2.block ga (by have:=hr1.lt;omega) (by simp;omega)).trans hg2;have hb02:Below ga w w2:=hb0.trans (hk2.below (by have:=hr1.lt;omega) (by simp;omega));obtain⟨k,hk⟩:∃k,xO 1 l 0=k:=⟨_,rfl⟩
  rw[hk]at HE HO hk9 |-;clear hr1 hk2 hg2 hb0 hk;have hbx:Below w2.heap.size w2 (w2.alloc (.cells (zD ⟨k,0,⟨#[]⟩,⟨#[]⟩,id0,.slice none 0 0⟩) 105)):=(Below.refl _ _).alloc (Nat.le_refl _) _;have hg3:(w2.alloc (.cells (zD ⟨k,0,⟨#[]⟩,⟨#[]⟩,id0,.slice none 0 0⟩) 105)).heap[w2.heap.size]? = some (.cells (zD ⟨k,0,⟨#[]⟩,⟨#[]⟩,id0,.slice none 0 0⟩) 105 (0,0)):=heap_alloc_new w2 _;have hg2:=(hbx.block ga (Array.getElem?_eq_some_iff.1 hg22).1).trans hg22;have hr3:=hr2.below hbx;have hrlt:=hr2.lt;have hb03:Below ga w (w2.alloc (.cells (zD ⟨k,0,⟨#[]⟩,⟨#[]⟩,id0,.slice none 0 0⟩) 105)):=hb02.trans (hbx.mono (by omega));clear hbx hg22 hr2 hb02;go_upto_region 3 with fail
  obtain⟨go,hgo⟩:∃go,w2.heap.size=go:=⟨_,rfl⟩
  obtain⟨W,hW⟩:∃W,W=w2.alloc (.cells (zD ⟨k,0,⟨#[]⟩,⟨#[]⟩,id0,.slice none 0 0⟩) 105):=⟨_,rfl⟩
  rw[<-hW]at hg3 hg2 hr3 hb03 |-;rw[hgo]at hg3 hrlt |-;clear hW hgo;obtain⟨c0,c1,hfz⟩:=nJ hr3;have hx0:W.cell? ⟨go,0,none⟩=some (.int .i64 k):=by rw[cell_of_row W go 0 _ _ _ hg3];simp[go_sem]
  have hgoW:go<W.heap.size:=(Array.getElem?_eq_some_iff.1 hg3).1;by_cases he:xF 1 l 0=0
  · have hEE:=HE.out;rw[if_neg (by rw[he];simp)]at hEE;rw[he]at hr3 c1;have HEE:=Lib.hid hEE;clear hEE he HE;by_cases hk0:k=0\/7<k
    · have h2:=HEE.out;rw[if_pos hk0]at h2;have hem:=ZG k;rw[decide_eq_true hk0]at hem;have chs:=gA k W (by omega);have HEE2:=Lib.hid h2;clear h2 HEE HO hk0;have hsto:=yA (P:=Tryz.prog) yV W ga (zD yJ) (zD yJ) _ hg2 (by simp) (by simp) (jC _ rfl);have Hfin:=Lib.hid (setRow_heap W ga _ (zD yJ) _ _ hg2);have hkf:z4 [ga] W (W.setRow ga (zD yJ)):=⟨rfl,rfl,rfl,by simp[World.setRow],fun x _ hx=>setRow_other W ga x _ (by simpa using hx)⟩
      have hbf:Below ga w (W.setRow ga (zD yJ)):=hb03.trans (hkf.below (by have:=hr3.lt;omega) (by simp));have Hbf:=Lib.hid hbf;clear hbf hkf hg2 hr3 hb03 hg3;(go_wp2_with fail);refine chs.mono ?_;rintro en w3 ⟨rfl,rfl⟩;(go_wp2_with fail);refine bodyPost_ret (yI Tryz.results42 _ _ ga 105 (zD yJ) (0,0) _ rfl Hfin.out Tryz.underlying105 rfl (by first | (rw[qG];exact yV) | (rw[kX];exact yV))) rfl ?_;exact⟨_,by rw[HEE2.out];rfl,fun h0=>absurd (HEE2.out.symm.trans h0) (by omega),fun _=>rfl,by rw[Hga.out];exact Hbf.out⟩
    · have h2:=HEE.out;rw[if_neg hk0]at h2;have HEE2:=Lib.hid h2;have hk1:1<=k:=by omega
      have hk7:k<=7:=by omega
      have hpl:=mS k (yS 1 l 0) 0 hk1 hk7;have hck:=J2 k (yS 1 l 0) 0 hk1 hk7;have hrn:=of_run k (yS 1 l 0) 0 hk1 hk7;have hks:=JR k (yS 1 l 0) 0 hk1 hk7;have hem:=ZG k;rw[decide_eq_false hk0]at hem;have chs:=gA k W (by omega);have hsz:=has_size k;have hch:=qb k;obtain⟨S,hS⟩:∃S,xK k=S:=⟨_,rfl⟩
      rw[hS]at hem chs hsz hch hrn;obtain⟨R,hR⟩:∃R,yT k (yS 1 l 0) 0=R:=⟨_,rfl⟩
      rw[hR]at HEE2 HO hpl hck hrn hks;obtain⟨o,l2,e2⟩:=R;dsimp only at *;have Hpl:=Lib.hid hpl;have Hck:=Lib.hid hck;have Hrn:=Lib.hid hrn;have HKS:=Lib.hid hks;have Hch:=Lib.hid hch;clear h2 HEE hk0 hR hpl hck hS hrn hch hfz c0 hks;(go_wp2_with fail);refine chs.mono ?_;rintro en w3 ⟨rfl,rfl⟩;clear chs c1;have Hb03:=Lib.hid hb03;clear hb03;(go_wp2_with fail);go_loopw [7,8,9] (fun iv _ _ wr=>∃(i:Nat) (s:OfS) (A:Option Addr) (cap:Nat),i<=S.size/\iv = .int .i64 i/\Hid (S.data.toList.foldl (gQ k) (ofS0 (yS 1 l 0) 0)=(S.data.toList.drop i).foldl (gQ k) s)/\wr.heap[go]? = some (.cells (zD ⟨k,s.n,s.key,s.val,s.ref,.slice A s.refs.length cap⟩) 105 (0,0))/\wr.heap[ga]? = some (.cells (zD yJ) 105 (0,0))/\d9 wr gr s.l s.e/\Own wr W.heap.size 24 32 A s.refs.length cap (s.refs.map idC)/\z4 [gr,go] W wr/\s.refs.length<=255*i) (fun iv _ _ _=>S.size-(intOf iv).toNat)
      case atStart=>exact⟨0,ofS0 (yS 1 l 0) 0,none,0,Nat.zero_le _,rfl,rfl,hg3,hg2,hr3,Own.nil _ _ _ _,z4.refl _ _,Nat.le_refl _⟩
      case round =>
        clear hg3 hg2 hr3 hx0;obtain⟨i,s,A,cap,hi,rfl,hrun,hg3,hg2,hE,hown,hK,hrl⟩:=hrel;obtain⟨n1,key1,val1,ref1,refs1,l1,e1⟩:=s;dsimp only at *;by_cases hlt:i<S.size
        · have hlt':i<S.data.toList.length:=by simpa using hlt
          have hdr:S.data.toList.drop i=S.data.toList[i]'hlt' :: S.data.toList.drop (i+1):=List.drop_eq_getElem_cons hlt';have hge:S[i]'hlt=S.data.toList[i]'hlt':=by rw[Array.getElem_toList];rfl
          have hmem:S.data.toList[i]'hlt'∈S.data.toList:=List.getElem_mem hlt';have hcs:=Hch.out _ hmem;obtain⟨c,hc⟩:∃c,S.data.toList[i]'hlt'=c:=⟨_,rfl⟩
          rw[hc]at hdr hge hcs;have hrun2:=hrun.out;rw[hdr,List.foldl_cons]at hrun2;have Hrun:=Lib.hid hrun2;clear hdr hmem hc hrun hrun2 hlt';have hno:go∉[gr]:=by simp;omega
          have hnr:gr∉[go]:=by simp;omega
          have hna:ga∉[gr,go]:=by simp;omega
          have hA1:∀x∈blk A,x∉[gr]:=fun x hx=>(by have:=(hown.at_base hx).1;simp;omega);have hA2:∀x∈blk A,x∉[go]:=fun x hx=>(by have:=(hown.at_base hx).1;simp;omega);rcases hcs with rfl | rfl | rfl | rfl | rfl
          · skip;(go_wp2_with fail);refine(cI _ gr 4 _ _ hE (.inr rfl)).mono ?_;rintro en w3 ⟨rfl,hE3,hk23⟩;have hn4:=jI 4 l1 e1;obtain⟨nv,hnv⟩:∃nv,xO 4 l1 e1=nv:=⟨_,rfl⟩
            rw[hnv]at hn4 |-;have Hst:Hid (gQ k ⟨n1,key1,val1,ref1,refs1,l1,e1⟩ 78=⟨if k=1 then(nv:Int)-2147483648 else(nv:Int),key1,val1,ref1,refs1,yS 4 l1 e1,xF 4 l1 e1⟩):=Lib.hid (by rw[of_78,hnv]);clear hnv;have hn5:nv<4294967296:=by simpa using hn4
            clear hn4;have h83:=(hk23.block go (Array.getElem?_eq_some_iff.1 hg3).1 hno).trans hg3;have hc83:∀j,w3.frozen? ⟨go,j,none⟩=false:=fun j=>(by simp[World.frozen?,h83]);have f0:=hc83 1;have hg3n:=zE h83 1 (.int .i64 nv);rw[lM]at hg3n;have hks:=z4.setCell w3 ⟨go,1,none⟩ (.int .i64 nv);have hEn:=hE3.kept hks hnr;have hg2n:=((z4.trans (hk23.mono (S':=[gr,go]) (by simp)) (hks.mono (S':=[gr,go]) (by simp)) (fun x hx=>.inl hx)).block ga (Array.getElem?_eq_some_iff.1 hg2).1 hna).trans hg2;have hownn:=(hown.kept hk23 hA1).kept hks hA2;have hKn:z4 [gr,go] W (w3.setCell ⟨go,1,none⟩ (.int .i64 nv)):=z4.trans (z4.trans hK (hk23.mono (S':=[gr,go]) (by simp)) (fun x hx=>.inl hx)) (hks.mono (S':=[gr,go]) (by simp)) (fun x hx=>.inl hx);clear hc83 hks hE hE3 hk23 hown hK hg2 hg3;have x0:w3.cell? ⟨go,1,none⟩=some (.int .i64 n1):=by rw[cell_of_row w3 go _ _ _ _ h83];simp[go_sem]
            clear h83;go_upto_region 19 with fail
            obtain⟨W',hW'⟩:∃W',W'=w3.setCell ⟨go,1,none⟩ (.int .i64 nv):=⟨_,rfl⟩
            rw[<-hW']at hg3n hEn hg2n hownn hKn |-;clear hW' x0 f0;have y0:W'.cell? ⟨go,0,none⟩=some (.int .i64 k):=by rw[cell_of_row W' go _ _ _ _ hg3n];simp[go_sem]
            cases hkb:((k:Int)==1)with
            | false =>
              have hk1n:k≠1:=by intro h;subst h;simp at hkb
              have hst:=Hst.out;rw[if_neg hk1n]at hst;have Hst2:=Lib.hid hst;clear hst hk1n Hst;(go_wp2_with fail);go_roundw
              case rel=>exact⟨i+1,⟨nv,key1,val1,ref1,refs1,yS 4 l1 e1,xF 4 l1 e1⟩,A,cap,by omega,by go_num,(show _=_ by rw[Hrun.out,Hst2.out]),hg3n,hg2n,hEn,hownn,hKn,(by simp only;omega)⟩
              case measure=>simp[intOf];omega
            | true =>
              have hk1y:k=1:=by have:(k:Int)=1:=by simpa using hkb
                                omega
              have hst:=Hst.out;rw[if_pos hk1y]at hst;have Hst2:=Lib.hid hst;clear hst hk1y Hst;have f0:W'.frozen? ⟨go,1,none⟩=false:=by simp[World.frozen?,hg3n]
              have x0:W'.cell? ⟨go,1,none⟩=some (.int .i64 nv):=by rw[cell_of_row W' go _ _ _ _ hg3n];simp[go_sem]
              have hw:IntKind.i64.wrap ((nv:Int)-2147483648)=(nv:Int)-2147483648:=IntWalk.i64_in _ (by omega);have hg3m:=zE hg3n 1 (.int .i64 ((nv:Int)-2147483648));rw[lM]at hg3m;have hks:=z4.setCell W' ⟨go,1,none⟩ (.int .i64 ((nv:Int)-2147483648));have hEm:=d9.kept hEn hks hnr;have hg2m:=(hks.block ga (Array.getElem?_eq_some_iff.1 hg2n).1 (by simp;omega)).trans hg2n;have hownm:=hownn.kept hks hA2;have hKm:z4 [gr,go] W (W'.setCell ⟨go,1,none⟩ (.int .i64 ((nv:Int)-2147483648))):=z4.trans hKn (hks.mono (S':=[gr,go]) (by simp)) (fun x hx=>.inl hx);clear hks hEn hg2n hownn hKn hg3n;(go_wp2_with fail);go_roundw
              case rel=>exact⟨i+1,⟨(nv:Int)-2147483648,key1,val1,ref1,refs1,yS 4 l1 e1,xF 4 l1 e1⟩,A,cap,by omega,by go_num,(show _=_ by rw[Hrun.out,Hst2.out]),hg3m,hg2m,hEm,hownm,hKm,(by simp only;omega)⟩
              case measure=>simp[intOf];omega
          · skip;(go_wp2_with fail);refine(cI _ gr 1 _ _ hE (.inl rfl)).mono ?_;rintro en w2 ⟨rfl,hr2,hk2⟩;have hn2:=jI 1 l1 e1;(go_wp2_with fail);refine(Y3 _ gr _ _ _ hr2 (by omega)).mono ?_;rintro en w3 ⟨rfl,hE3,hk3⟩;replace hE3:d9 w3 gr (txL l1 e1) (txE l1 e1):=hE3;obtain⟨tv,hkv⟩:∃tv,mkB (jL (xO 1 l1 e1) (yS 1 l1 e1) (xF 1 l1 e1))=tv:=⟨_,rfl⟩
            have Htv:=Lib.hid (show txV l1 e1=tv from hkv);rw[hkv];have hk23:z4 [gr] wr w3:=z4.trans hk2 hk3 (fun x hx=>.inl hx);clear hr2 hk2 hk3 hn2 hkv;have h83:=(hk23.block go (Array.getElem?_eq_some_iff.1 hg3).1 hno).trans hg3;have hc83:∀j,w3.frozen? ⟨go,j,none⟩=false:=fun j=>(by simp[World.frozen?,h83]);have f0:=hc83 2;have hg3n:=zE h83 2 (.string tv);rw[pX]at hg3n;have hks:=z4.setCell w3 ⟨go,2,none⟩ (.string tv);have hEn:=hE3.kept hks hnr;have hg2n:=((z4.trans (hk23.mono (S':=[gr,go]) (by simp)) (hks.mono (S':=[gr,go]) (by simp)) (fun x hx=>.inl hx)).block ga (Array.getElem?_eq_some_iff.1 hg2).1 hna).trans hg2;have hownn:=(hown.kept hk23 hA1).kept hks hA2;have hKn:z4 [gr,go] W (w3.setCell ⟨go,2,none⟩ (.string tv)):=z4.trans (z4.trans hK (hk23.mono (S':=[gr,go]) (by simp)) (fun x hx=>.inl hx)) (hks.mono (S':=[gr,go]) (by simp)) (fun x hx=>.inl hx);clear hc83 hks hE hE3 hk23 hown hK hg2 hg3;have x0:w3.cell? ⟨go,2,none⟩=some (.string key1):=by rw[cell_of_row w3 go _ _ _ _ h83];simp[go_sem]
            clear h83;(go_wp2_with fail);go_roundw
            case rel=>exact⟨i+1,⟨n1,tv,val1,ref1,refs1,txL l1 e1,txE l1 e1⟩,A,cap,by omega,by go_num,(show _=_ by rw[Hrun.out,of_75,Htv.out]),hg3n,hg2n,hEn,hownn,hKn,(by simp only;omega)⟩
            case measure=>simp[intOf];omega
          · skip;(go_wp2_with fail);refine(cI _ gr 1 _ _ hE (.inl rfl)).mono ?_;rintro en w2 ⟨rfl,hr2,hk2⟩;have hn2:=jI 1 l1 e1;(go_wp2_with fail);refine(Y3 _ gr _ _ _ hr2 (by omega)).mono ?_;rintro en w3 ⟨rfl,hE3,hk3⟩;replace hE3:d9 w3 gr (txL l1 e1) (txE l1 e1):=hE3;obtain⟨tv,hkv⟩:∃tv,mkB (jL (xO 1 l1 e1) (yS 1 l1 e1) (xF 1 l1 e1))=tv:=⟨_,rfl⟩
            have Htv:=Lib.hid (show txV l1 e1=tv from hkv);rw[hkv];have hk23:z4 [gr] wr w3:=z4.trans hk2 hk3 (fun x hx=>.inl hx);clear hr2 hk2 hk3 hn2 hkv;have h83:=(hk23.block go (Array.getElem?_eq_some_iff.1 hg3).1 hno).trans hg3;have hc83:∀j,w3.frozen? ⟨go,j,none⟩=false:=fun j=>(by simp[World.frozen?,h83]);have f0:=hc83 3;have hg3n:=zE h83 3 (.string tv);rw[gF]at hg3n;have hks:=z4.setCell w3 ⟨go,3,none⟩ (.string tv);have hEn:=hE3.kept hks hnr;have hg2n:=((z4.trans (hk23.mono (S':=[gr,go]) (by simp)) (hks.mono (S':=[gr,go]) (by simp)) (fun x hx=>.inl hx)).block ga (Array.getElem?_eq_some_iff.1 hg2).1 hna).trans hg2;have hownn:=(hown.kept hk23 hA1).kept hks hA2;have hKn:z4 [gr,go] W (w3.setCell ⟨go,3,none⟩ (.string tv)):=z4.trans (z4.trans hK (hk23.mono (S':=[gr,go]) (by simp)) (fun x hx=>.inl hx)) (hks.mono (S':=[gr,go]) (by simp)) (fun x hx=>.inl hx);clear hc83 hks hE hE3 hk23 hown hK hg2 hg3;have x0:w3.cell? ⟨go,3,none⟩=some (.string val1):=by rw[cell_of_row w3 go _ _ _ _ h83];simp[go_sem]
            clear h83;(go_wp2_with fail);go_roundw
            case rel=>exact⟨i+1,⟨n1,key1,tv,ref1,refs1,txL l1 e1,txE l1 e1⟩,A,cap,by omega,by go_num,(show _=_ by rw[Hrun.out,of_86,Htv.out]),hg3n,hg2n,hEn,hownn,hKn,(by simp only;omega)⟩
            case measure=>simp[intOf];omega
          · skip;(go_wp2_with fail);refine(rr_id _ gr _ _ hE).mono ?_;rintro en w3 ⟨rfl,hE3,hk23⟩;obtain⟨d,hd⟩:∃d,kS (jL 32 l1 e1)=d:=⟨_,rfl⟩
            have Hst:Hid (gQ k ⟨n1,key1,val1,ref1,refs1,l1,e1⟩ 82=⟨n1,key1,val1,d,refs1,yS 32 l1 e1,xF 32 l1 e1⟩):=Lib.hid (by rw[of_82,hd]);rw[hd];clear hd;have h83:=(hk23.block go (Array.getElem?_eq_some_iff.1 hg3).1 hno).trans hg3;have hst:=pP d h83;have hg3n:=setRow_heap w3 go _ (zD ⟨k,n1,key1,val1,d,.slice A refs1.length cap⟩) _ _ h83;have hks:z4 [go] w3 (w3.setRow go (zD ⟨k,n1,key1,val1,d,.slice A refs1.length cap⟩)):=⟨rfl,rfl,rfl,by simp[World.setRow],fun x _ hx=>setRow_other w3 go x _ (by simpa using hx)⟩
            have hEn:=d9.kept hE3 hks hnr;have hg2n:=((z4.trans (hk23.mono (S':=[gr,go]) (by simp)) (hks.mono (S':=[gr,go]) (by simp)) (fun x hx=>.inl hx)).block ga (Array.getElem?_eq_some_iff.1 hg2).1 hna).trans hg2;have hownn:=(hown.kept hk23 hA1).kept hks hA2;have hKn:z4 [gr,go] W (w3.setRow go (zD ⟨k,n1,key1,val1,d,.slice A refs1.length cap⟩)):=z4.trans (z4.trans hK (hk23.mono (S':=[gr,go]) (by simp)) (fun x hx=>.inl hx)) (hks.mono (S':=[gr,go]) (by simp)) (fun x hx=>.inl hx);clear hks hE hE3 hk23 hown hK hg2 hg3 h83;(go_wp2_with fail);go_roundw
            case rel=>exact⟨i+1,⟨n1,key1,val1,d,refs1,yS 32 l1 e1,xF 32 l1 e1⟩,A,cap,by omega,by go_num,(show _=_ by rw[Hrun.out,Hst.out]),hg3n,hg2n,hEn,hownn,hKn,(by simp only;omega)⟩
            case measure=>simp[intOf];omega
          · skip;(go_wp2_with fail);refine(cI _ gr 1 _ _ hE (.inl rfl)).mono ?_;rintro en w3 ⟨rfl,hE3,hk23⟩;have hn4:=jI 1 l1 e1;obtain⟨N,hN⟩:∃N,xO 1 l1 e1=N:=⟨_,rfl⟩
            obtain⟨LR,hLR⟩:∃LR,mW N ⟨refs1,yS 1 l1 e1,xF 1 l1 e1⟩=LR:=⟨_,rfl⟩
            have Hst:Hid (gQ k ⟨n1,key1,val1,ref1,refs1,l1,e1⟩ 83=⟨n1,key1,val1,ref1,LR.ids,LR.l,LR.e⟩):=Lib.hid (by rw[of_83,hN,hLR]);have HLR:=Lib.hid (show kB N ⟨refs1,yS 1 l1 e1,xF 1 l1 e1⟩=LR from hLR);rw[hN]at hn4 |-;clear hN hLR;have hn5:N<256:=by simpa using hn4
            clear hn4;have hg3n:=(hk23.block go (Array.getElem?_eq_some_iff.1 hg3).1 hno).trans hg3;have hg2n:=(hk23.block ga (Array.getElem?_eq_some_iff.1 hg2).1 (by simp;omega)).trans hg2;have hownn:=hown.kept hk23 hA1;have hKn:z4 [gr,go] W w3:=z4.trans hK (hk23.mono (S':=[gr,go]) (by simp)) (fun x hx=>.inl hx);clear hE hk23 hown hK hg2 hg3 hA1 hA2;obtain⟨W3,rfl⟩:∃W':World,W'=w3:=⟨_,rfl⟩
            (go_wp2_with fail);go_loopw [9] (fun jv wr=>∃(j:Nat) (s:iQ) (A:Option Addr) (cap:Nat),j<=N/\jv = .int .i64 j/\s.ids.length=refs1.length+j/\Hid (LR=kB (N-j) s)/\wr.heap[go]? = some (.cells (zD ⟨k,n1,key1,val1,ref1,.slice A s.ids.length cap⟩) 105 (0,0))/\wr.heap[ga]? = some (.cells (zD yJ) 105 (0,0))/\d9 wr gr s.l s.e/\Own wr W.heap.size 24 32 A s.ids.length cap (s.ids.map idC)/\z4 [gr,go] W wr) (fun jv _=>N-(intOf jv).toNat)
            case atStart=>exact⟨0,⟨refs1,yS 1 l1 e1,xF 1 l1 e1⟩,A,cap,Nat.zero_le _,rfl,rfl,(show _=_ from HLR.out.symm),hg3n,hg2n,hE3,hownn,hKn⟩
            case round =>
              clear hg3n hg2n hE3 hownn hKn HLR;obtain⟨j,s,A,cap,hj,rfl,hsl,hlp,hg3,hg2,hE,hown,hK⟩:=hrel;obtain⟨ids,l3,e3⟩:=s;dsimp only at *;by_cases hltj:j<N
              · have hlp2:=hlp.out;rw[show N-j=(N-(j+1))+1 by omega]at hlp2;have hlp3:LR=kB (N-(j+1)) ⟨ids ++ [kS (jL 32 l3 e3)],yS 32 l3 e3,xF 32 l3 e3⟩:=hlp2;have Hlp:=Lib.hid hlp3;clear hlp hlp2 hlp3;have hAb:∀x∈blk A,W.heap.size<=x/\x<wr.heap.size:=fun x hx=>hown.at_base hx;have hnS:go∉gr :: blk A:=by
                  intro hm;rcases List.mem_cons.1 hm with h1 | h1
                  · omega
                  · have:=(hAb _ h1).1;omega
                have hgA:gr∉blk A:=fun h1=>(by have:=(hAb _ h1).1;omega);have hgaS:ga∉gr :: blk A:=by
                  intro hm;rcases List.mem_cons.1 hm with h1 | h1
                  · omega
                  · have:=(hAb _ h1).1;omega
                have x0:wr.cell? ⟨go,36,none⟩=some (.slice A ids.length cap):=by rw[cell_of_row wr go _ _ _ _ hg3];simp[go_sem]
                have cid:=rr_id wr.drew gr l3 e3 (hE.kept (z4.drew wr) (by simp));have hids:ids.length<=1275:=by omega
                have HSL:=Lib.hid hsl;have hKW:=Lib.hid hK;clear hsl hK;go_upto_region 16 with fail
                refine xB (Kp (gr :: blk A) wr) false (by kernel_rfl) (by kernel_rfl) (by kernel_rfl) (by kernel_rfl) (zW (gr :: blk A) wr) ?_;have hne:=xA (gr :: blk A) wr;have hS:=zW (gr :: blk A) wr;have b1:=zM x0 hnS;repeat(refine z6 ?_ ?_;(focus(simp only[z3];done));intro K hK;go_simp;refine hK _ ?_;clear hK K)
                refine zH ?_ ?_ ?_;(focus(exact hS));(focus(simp only[z3];done));intro K hK;go_simp;refine cid.mono ?_;rintro en w4 ⟨rfl,hE4,hk4⟩;replace hS:=wW hS hk4 (by simp);refine⟨_,rfl,hS,hK _ _ ?_⟩;clear hK K cid;repeat(refine z6 ?_ ?_;(focus(simp only[z3];done));intro K hK;go_simp;refine hK _ ?_;clear hK K)
                refine zH ?_ ?_ ?_;(focus(exact hS));(focus(simp only[z3];done));intro K hK;go_simp;refine zZ (jE hS _) (fun hS=>?_);refine hK _ _ ?_;clear hK K;obtain⟨d,hd⟩:∃d,kS (jL 32 l3 e3)=d:=⟨_,rfl⟩
                rw[hd]at hS |-;have Hd:=Lib.hid hd;clear hd;have hk04:z4 [gr] wr w4:=z4.trans ((z4.drew wr).mono (S':=[gr]) (by simp)) hk4 (fun x hx=>.inl hx);have hb4:=z4.alloc w4 (.cells (idC d) 24);have hownr:=(hown.kept hk04 (fun x hx=>by have:=(hAb x hx).1;simp;omega)).kept hb4 (by simp);have hrow2:z9 (w4.alloc (.cells (idC d) 24)) w4.heap.size 0 32=some (idC d):=by simp[go_sem]
                have hsz4:=hk04.size;have hBs:W.heap.size<=(w4.alloc (.cells (idC d) 24)).heap.size:=by have:=hKW.out.size;simp;omega
                refine wN k6 rfl hownr rfl hrow2 (qJ _) (by omega) (by omega) hBs ?_;intro A2 cap2 w5 hown5 hk5 hsub5;have hk45:z4 (blk A) w4 w5:=z4.trans (hb4.mono (S':=blk A) (by simp)) hk5 (fun x hx=>.inl hx);have hS5:z4 (gr :: blk A) wr w5:=z4.trans (hk04.mono (S':=gr :: blk A) (by simp)) (hk45.mono (S':=gr :: blk A) (fun x hx=>.inl (List.mem_cons_of_mem _ hx))) (fun x hx=>.inl hx);refine zZ hS5 (fun hS6=>?_);repeat(refine z6 ?_ ?_;(focus(simp only[z3];done));intro K hK;go_simp;refine hK _ ?_;clear hK K)
                have hgl1:go<wr.heap.size:=(Array.getElem?_eq_some_iff.1 hg3).1;have hgl2:ga<wr.heap.size:=(Array.getElem?_eq_some_iff.1 hg2).1;have hg35:=(hS5.block go hgl1 hnS).trans hg3;have hg25:=(hS5.block ga hgl2 hgaS).trans hg2;have f0:w5.frozen? ⟨go,36,none⟩=false:=by simp[World.frozen?,hg35]
                have d0:w5.cell? ⟨go,36,none⟩=some (.slice A ids.length cap):=by rw[cell_of_row w5 go _ _ _ _ hg35];simp[go_sem]
                refine jS ?_ ?_;(focus(simp only[z3];done));intro K hK;go_simp;refine hK _ _ ?_;clear hK K;have hg3n:=zE hg35 36 (.slice A2 (ids.length+1) cap2);rw[mU]at hg3n;have hks:=z4.setCell w5 ⟨go,36,none⟩ (.slice A2 (ids.length+1) cap2);have hE6:=(d9.kept hE4 hk45 hgA).kept hks hnr;have hg2n:=(hks.block ga (by have:=hS5.size;omega) (by simp;omega)).trans hg25;have hA2:∀x∈blk A2,x∉[go]:=fun x hx=>(by have:=(hown5.at_base hx).1;simp;omega);have hown6:=hown5.kept hks hA2;have hKn:z4 [gr,go] W (w5.setCell ⟨go,36,none⟩ (.slice A2 (ids.length+1) cap2)):=by
                  have h1:z4 [gr,go] W w5:=(z4.trans (hKW.out.mono (S':=gr :: go :: blk A) (by intro x hx;simp at hx |-;omega)) (hS5.mono (S':=gr :: go :: blk A) (fun x hx=>.inl (by rcases List.mem_cons.1 hx with h | h;exact List.mem_cons.2 (.inl h);exact List.mem_cons.2 (.inr (List.mem_cons.2 (.inr h)))))) (fun x hx=>.inl hx)).narrow (fun x hx=>by
                    rcases List.mem_cons.1 hx with h | h
                    · exact .inl (by simp[h])
                    · rcases List.mem_cons.1 h with h | h
                      · exact .inl (by simp[h])
                      · right;exact(hAb x h).1)
                  exact z4.trans h1 (hks.mono (S':=[gr,go]) (by simp)) (fun x hx=>.inl hx)
                have hl2:(ids ++ [d]).length=ids.length+1:=by simp
                rw[show ids.map idC ++ [idC d]=(ids ++ [d]).map idC by simp]at hown6;have Hl2:=Lib.hid hl2;rw[Hd.out]at Hlp;clear hl2 f0 d0 b1 hne hS hS5 hS6 hk04 hk45 hk4 hk5 hsub5 hown5 hownr hrow2 hb4 hg35 hg25 hks hE4 hBs hown hE hg3 hg2 x0 hA2 hKW;(go_wp2_with fail);go_roundw
                case rel=>exact⟨j+1,⟨ids ++ [d],yS 32 l3 e3,xF 32 l3 e3⟩,A2,cap2,by omega,by go_num,by rw[Hl2.out,HSL.out];omega,Hlp,(by rw[Hl2.out];exact hg3n),hg2n,hE6,(by rw[Hl2.out];exact hown6),hKn⟩
                case measure=>simp[intOf];omega
              · have hfin:LR=⟨ids,l3,e3⟩:=by rw[hlp.out,show N-j=0 by omega];rfl
                have Hfl:=Lib.hid hfin;have hlb:ids.length<=255*(i+1):=by omega
                have Hlb:=Lib.hid hlb;clear hsl hfin hlp hlb;(go_wp2_with fail);go_roundw
                case rel=>exact⟨i+1,⟨n1,key1,val1,ref1,ids,l3,e3⟩,A,cap,by omega,by go_num,(show _=_ by rw[Hrun.out,Hst.out,Hfl.out]),hg3,hg2,hE,hown,hK,Hlb.out⟩
                case measure=>simp[intOf];omega
        · skip;have hrf:=Hrn.out;have hrx:=hrun.out;rw[List.drop_eq_nil_of_le (by simp;omega),List.foldl_nil]at hrx;rw[hrx]at hrf;have hoeq:(⟨⟨k,n1,key1,val1,ref1,refs1⟩,l1,e1⟩:OpR)=⟨o,l2,e2⟩:=hrf;injection hoeq with ho1 ho2 ho3
          have HO1:=Lib.hid ho1;subst ho2 ho3;have hb04:Below ga w wr:=Hb03.out.trans (hK.below (by have:=hgoW;omega) (by simp;omega));have hga4:ga<=wr.heap.size:=by have:=hb04.size;have:=Hga.out;omega
          have hcells:zD ⟨k,n1,key1,val1,ref1,.slice A refs1.length cap⟩=opC o A cap:=by rw[<-HO1.out];rfl
          have hown4:Own wr W.heap.size 24 32 A o.refs.length cap (o.refs.map idC):=by rw[<-HO1.out];exact hown
          rw[hcells]at hg3;have hrow:z9 wr go 0 37=some (opC o A cap):=by unfold z9;rw[hg3];simp[go_sem]
          have ce:=rr_end _ gr l1 e1 hE;have HgoW:=Lib.hid hgoW;clear hrf hrx hrun hK hi hrl Hrn Hch Hb03 hown hcells hg3 hE ho1 hsz hem hgoW;(go_wp2_with fail);refine ce.mono ?_;rintro en w5 ⟨rfl,hb5⟩;have hg25:=(hb5.block ga (Array.getElem?_eq_some_iff.1 hg2).1).trans hg2;have hrow5:z9 w5 go 0 37=some (opC o A cap):=(zB (hb5.block go (zI hrow)) _ _).trans hrow;have hown5:=hown4.below hb5;have hb05:Below ga w w5:=hb04.trans (hb5.mono hga4);have hga5:ga<=w5.heap.size:=by have:=hb5.size;omega
          clear ce hg2 hrow hown4 hb04 hb5 hga4;by_cases hee:d7 l1 e1=0
          · have h2:=HEE2.out;rw[if_neg (by rw[hee];simp),<-Hck.out]at h2;rw[hee];have hT5:y8 w5 A o.refs.length o.refs:=hown5.slr;have cc:=zz o A cap w5 Hpl.out.1 hT5 (by have:=Hpl.out.2.2;omega) HKS.out.1 HKS.out.2;obtain⟨ck,hckk⟩:∃ck,YW o=ck:=⟨_,rfl⟩
            rw[hckk]at h2 cc;have HEE3:=Lib.hid h2;clear h2 HEE2 hee hckk hT5;(go_wp2_with fail);refine cc.mono ?_;rintro en w6 ⟨rfl,hb6⟩;have hg26:=(hb6.block ga (Array.getElem?_eq_some_iff.1 hg25).1).trans hg25;have hrow6:z9 w6 go 0 37=some (opC o A cap):=(zB (hb6.block go (zI hrow5)) _ _).trans hrow5;have hown6:=hown5.below hb6;have hb06:Below ga w w6:=hb05.trans (hb6.mono hga5);have hga6:ga<=w6.heap.size:=by have:=hb6.size;omega
            clear cc hg25 hrow5 hown5 hb05 hb6;cases hc0:(ck==0)with
            | true =>
              obtain rfl:ck=0:=by simpa using hc0
              have hsto:=yA (P:=Tryz.prog) yV w6 ga (zD yJ) (opC o A cap) _ hg26 (by simp) (by simp) (B8 o A cap);have Hfin:=Lib.hid (setRow_heap w6 ga _ (opC o A cap) _ _ hg26);have hkf:z4 [ga] w6 (w6.setRow ga (opC o A cap)):=⟨rfl,rfl,rfl,by simp[World.setRow],fun x _ hx=>setRow_other w6 ga x _ (by simpa using hx)⟩
              have hbf:Below ga w (w6.setRow ga (opC o A cap)):=hb06.trans (hkf.below hga6 (by simp));have hownf:Own (w6.setRow ga (opC o A cap)) w.heap.size 24 32 A o.refs.length cap (o.refs.map idC):=(hown6.mono (by have:=Hga.out;have:=HgoW.out;omega)).kept hkf (fun x hx=>by have:=(hown6.at_base hx).1;have:=HgoW.out;simp;omega);have Hbf:=Lib.hid hbf;have Hownf:=Lib.hid hownf;clear hbf hkf hg26 hb06 hownf hown6;(go_wp2_with fail);refine bodyPost_ret (yI Tryz.results42 _ _ ga 105 (opC o A cap) (0,0) _ rfl Hfin.out Tryz.underlying105 rfl (by first | (rw[qG];exact yV) | (rw[kX];exact yV))) rfl ?_;exact⟨_,by rw[HEE3.out];rfl,fun _=>⟨A,cap,by rw[HO.out],by rw[HO.out];exact Hownf.out⟩,fun h0=>absurd HEE3.out h0,by rw[Hga.out];exact Hbf.out⟩
            | false =>
              have hcn:ck≠0:=by simpa using hc0
              have hcb:(ck != 0)=true:=by simpa using hc0
              have Hcn:=Lib.hid hcn;clear hcn;have hsto:=yA (P:=Tryz.prog) yV w6 ga (zD yJ) (zD yJ) _ hg26 (by simp) (by simp) (jC _ rfl);have Hfin:=Lib.hid (setRow_heap w6 ga _ (zD yJ) _ _ hg26);have hkf:z4 [ga] w6 (w6.setRow ga (zD yJ)):=⟨rfl,rfl,rfl,by simp[World.setRow],fun x _ hx=>setRow_other w6 ga x _ (by simpa using hx)⟩
              have hbf:Below ga w (w6.setRow ga (zD yJ)):=hb06.trans (hkf.below hga6 (by simp));have Hbf:=Lib.hid hbf;clear hbf hkf hg26 hb06 hown6;(go_wp2_with fail);refine bodyPost_ret (yI Tryz.results42 _ _ ga 105 (zD yJ) (0,0) _ rfl Hfin.out Tryz.underlying105 rfl (by first | (rw[qG];exact yV) | (rw[kX];exact yV))) rfl ?_;exact⟨_,by rw[HEE3.out];rfl,fun h0=>absurd (HEE3.out.symm.trans h0) Hcn.out,fun _=>rfl,by rw[Hga.out];exact Hbf.out⟩
          · have h2:=HEE2.out;rw[if_pos hee]at h2;obtain⟨ee,hEe⟩:∃ee,d7 l1 e1=ee:=⟨_,rfl⟩
            rw[hEe]at h2 hee |-;have HEE3:=Lib.hid h2;have Hcn:=Lib.hid hee;have hcb:(ee != 0)=true:=by simpa using hee
            have hcc:(ee==0)=false:=by simpa using hee
            clear h2 HEE2 hee hEe hrow5 hown5;have hsto:=yA (P:=Tryz.prog) yV w5 ga (zD yJ) (zD yJ) _ hg25 (by simp) (by simp) (jC _ rfl);have Hfin:=Lib.hid (setRow_heap w5 ga _ (zD yJ) _ _ hg25);have hkf:z4 [ga] w5 (w5.setRow ga (zD yJ)):=⟨rfl,rfl,rfl,by simp[World.setRow],fun x _ hx=>setRow_other w5 ga x _ (by simpa using hx)⟩
            have hbf:Below ga w (w5.setRow ga (zD yJ)):=hb05.trans (hkf.below hga5 (by simp));have Hbf:=Lib.hid hbf;clear hbf hkf hg25 hb05;(go_wp2_with fail);refine bodyPost_ret (yI Tryz.results42 _ _ ga 105 (zD yJ) (0,0) _ rfl Hfin.out Tryz.underlying105 rfl (by first | (rw[qG];exact yV) | (rw[kX];exact yV))) rfl ?_;exact⟨_,by rw[HEE3.out];rfl,fun h0=>absurd (HEE3.out.symm.trans h0) Hcn.out,fun _=>rfl,by rw[Hga.out];exact Hbf.out⟩
  · have hEE:=HE.out;rw[if_pos he]at hEE;obtain⟨e1,he1⟩:∃e1,xF 1 l 0=e1:=⟨_,rfl⟩
    rw[he1]at hEE he hr3 c1;have HEE:=Lib.hid hEE;have He:=Lib.hid he;have hen:(e1 != 0)=true:=by simpa using he
    clear hEE he HE HO he1;have hsto:=yA (P:=Tryz.prog) yV W.drew ga (zD yJ) (zD yJ) _ hg2 (by simp) (by simp) (jC _ rfl);have Hfin:=Lib.hid (setRow_heap W.drew ga _ (zD yJ) _ _ hg2);have hkf:z4 [ga] W.drew (W.drew.setRow ga (zD yJ)):=⟨rfl,rfl,rfl,by simp[World.setRow],fun x _ hx=>setRow_other W.drew ga x _ (by simpa using hx)⟩
    have hbf:Below ga w (W.drew.setRow ga (zD yJ)):=(hb03.trans ((zC W).mono (by have:=hr3.lt;omega))).trans (hkf.below (by have:=hr3.lt;simp;omega) (by simp));have Hbf:=Lib.hid hbf;clear hbf hr3 hb03 hg3;go_upto_region 4 with fail
    refine zA (Kp [ga] W) false (by kernel_rfl) (by kernel_rfl) (by kernel_rfl) (zW [ga] W) ?_;have hne:=xA [ga] W;have hS:=zW [ga] W;have b1:=zM c1 (S:=[ga]) (by simp;omega);repeat(refine z6 ?_ ?_;(focus(simp only[z3];done));intro K hK;go_simp;refine hK _ ?_;clear hK K)
    refine zH ?_ ?_ ?_;(focus(exact hS));(focus(simp only[z3];done));intro K hK;go_simp;refine zZ (wW hS hkf (by simp)) (fun hS=>?_);refine hK _ _ ?_;clear hK K;repeat(refine z6 ?_ ?_;(focus(simp only[z3];done));intro K hK;go_simp;refine hK _ ?_;clear hK K)
    refine zK ?_;intro hS;clear hS b1 hne hkf hg2 hx0 hfz c0 c1;(go_wp2_with fail);refine bodyPost_ret (yI Tryz.results42 _ _ ga 105 (zD yJ) (0,0) _ rfl Hfin.out Tryz.underlying105 rfl (by first | (rw[qG];exact yV) | (rw[kX];exact yV))) rfl ?_;exact⟨_,by rw[HEE.out];rfl,fun h0=>absurd (HEE.out.symm.trans h0) He.out,fun _=>rfl,by rw[Hga.out];exact Hbf.out⟩
def wG:ByteArray:=⟨#[63,99,115,108,109,114]⟩
theorem s3 (w:World) :
    Calls Tryz.prog 39 #[] w fun e w'=>e = .returned (.string wG)/\w=w':=by
  go_enter Tryz.func39,Tryz.ntmps39
  (go_wp2_with fail);go_ret;exact⟨rfl,rfl⟩
theorem Q7 {k:Nat} (h1:1<=k) (h2:k<6):∃h:k<wG.size,((wG[k]'h).toNat:Int)=bC k:=by
  have:k=1\/k=2\/k=3\/k=4\/k=5:=by omega
  rcases this with rfl | rfl | rfl | rfl | rfl <;> exact⟨by decide,by decide⟩
theorem nI (c:Int):kG c=true↔(97<=c/\c<=122)\/(48<=c/\c<=57)\/c=45:=by
  unfold kG;simp;omega
theorem XS (s:ByteArray) (w:World) (hs:s.size<=9223372036854775807) (h:¬(2<=s.size/\s.size<=12)) :
    Calls Tryz.prog 19 #[.string s] w fun e w'=>e = .returned (.int .i64 (yO s))/\Below w.heap.size w w':=by
  have H:Hid (yO s=0):=by show yO s=0;unfold yO;rw[mF s h];rfl
  by_cases h1:2<=s.size
  · have h4:12<s.size:=by omega
    clear h;go_enter Tryz.func19,Tryz.ntmps19
    go_wp2_with fail
    all_goals
      go_ret;exact⟨yB H.out.symm,Below.refl _ _⟩
  · clear h;go_enter Tryz.func19,Tryz.ntmps19
    go_wp2_with fail
    all_goals
      go_ret;exact⟨yB H.out.symm,Below.refl _ _⟩
theorem V4 (s:ByteArray) (w:World) (h:2<=s.size) (h1:s.size<=12) (h2:bt s (s.size-1)=45) :
    Calls Tryz.prog 19 #[.string s] w fun e w'=>e = .returned (.int .i64 (yO s))/\Below w.heap.size w w':=by
  have h3:(((s[s.size-1]'(by omega)).toNat:Int)==45)=true:=by
    rw[beq_iff_eq];rw[l9 (by omega)];exact h2
  have H:Hid (yO s=0):=by show yO s=0;unfold yO;rw[pC s h2];rfl
  clear h2;go_enter Tryz.func19,Tryz.ntmps19
  (go_wp2_with fail);go_ret;exact⟨yB H.out.symm,Below.refl _ _⟩
theorem V3 (s:ByteArray) (w:World) (h:2<=s.size) (h1:s.size<=12) (h2:bt s (s.size-1)≠45) :
    Calls Tryz.prog 19 #[.string s] w fun e w'=>e = .returned (.int .i64 (yO s))/\Below w.heap.size w w':=by
  have h3:(((s[s.size-1]'(by omega)).toNat:Int)==45)=false:=by
    rw[beq_eq_false_iff_ne];intro g;rw[l9 (by omega)]at g;exact h2 g
  have hfin:=pA s h h1 h2;have H2:=Lib.hid hfin;clear h2 hfin;have h0:(0:Int)<s.size:=by omega
  have hg:((s[0]'(by omega)).toNat:Int)=bt s 0:=l9 (by omega);go_enter Tryz.func19,Tryz.ntmps19
  go_wp2_with fail
  go_loop [3] (fun iv=>∃i:Nat,1<=i/\i<=s.size/\iv = .int .i64 i/\Hid (dY s i=dY s 1)) (fun iv=>s.size-(intOf iv).toNat)
  case atStart=>exact⟨1,by omega,by omega,rfl,rfl⟩
  case round =>
    obtain⟨i,hi1,hi2,rfl,hc⟩:=hrel;by_cases hp:i<s.size
    · have hgi:((s[i]'hp).toNat:Int)=bt s i:=l9 hp;cases hb:kG (bt s i)with
      | true =>
        have hb':=(nI _).1 hb;rw[<-hgi]at hb';have Hb:=Lib.hid hb;clear hb hgi;go_wp2_with fail
        all_goals
          go_round
          case rel=>exact⟨i+1,by omega,by omega,by go_num,(aO s _ Hb.out).trans hc.out⟩
          case measure=>simp[intOf];omega
      | false =>
        have hb':¬((97<=bt s i/\bt s i<=122)\/(48<=bt s i/\bt s i<=57)\/bt s i=45):=fun g=>(by rw[(nI _).2 g]at hb;cases hb);rw[<-hgi]at hb';have hb2:(((s[i]'hp).toNat:Int) != 45)=true:=by rw[bne_iff_ne];omega
        have Hb:=Lib.hid hb;clear hb hgi;go_wp2_with fail
        all_goals
          go_ret;exact⟨yB (by unfold yO;rw[H2.out,<-hc.out,XB s _ (by omega) Hb.out];rfl),Below.refl _ _⟩
    · have hfm:yO s=s4 (bt s 0):=by unfold yO;rw[H2.out,<-hc.out,aP s _ (by omega)];rfl
      have H:=Lib.hid hfm;clear hfm;(go_wp2_with fail);go_loopw [5] (fun kv wr=>∃k:Nat,1<=k/\k<=6/\kv = .int .i64 k/\Below w.heap.size w wr/\Hid (∀j:Int,1<=j->j<k->bC j≠bt s 0)) (fun kv _=>(6-intOf kv).toNat)
      case atStart=>exact⟨1,by omega,by omega,rfl,Below.refl _ _,fun j h1 h2=>by omega⟩
      case round =>
        obtain⟨k,hk1,hk2,rfl,hb1,hj⟩:=hrel;by_cases hk:k<6
        · obtain⟨hks,hkl⟩:=Q7 hk1 hk;have hks':(k:Int)<wG.size:=by omega
          by_cases hl:bC k=bt s 0
          · have hl':(((wG[k]'hks).toNat:Int)==bt s 0)=true:=by rw[beq_iff_eq,hkl];exact hl
            have Hl:=Lib.hid hl;clear hl hkl;go_wp2_with fail
            go_quiet ((go_at_call 39;exact tF (s3 _)))
            (go_wp2_with fail);go_ret;exact⟨yB (by rw[H.out,Z9 (by omega) (by omega) Hl.out]),fW hb1 _⟩
          · have hl':(((wG[k]'hks).toNat:Int)==bt s 0)=false:=by rw[beq_eq_false_iff_ne,hkl];exact hl
            have Hl:=Lib.hid hl;clear hl hkl;go_wp2_with fail
            go_quiet ((go_at_call 39;exact tF (s3 _)))
            (go_wp2_with fail);go_roundw
            case rel =>
              refine⟨k+1,by omega,by omega,by go_num,fW hb1 _,fun j h1 h2=>?_⟩;by_cases e:j=k
              · subst e;exact Hl.out
              · exact hj.out j h1 (by omega)
            case measure=>simp[intOf];omega
        · (go_wp2_with fail);go_ret;exact⟨yB (by rw[H.out,eR (fun j h1 h2=>hj.out j h1 (by omega))]),hb1⟩
theorem fD (s:ByteArray) (w:World) (hs:s.size<=9223372036854775807) :
    Calls Tryz.prog 19 #[.string s] w fun e w'=>e = .returned (.int .i64 (yO s))/\Below w.heap.size w w':=by
  by_cases h:2<=s.size/\s.size<=12
  · by_cases h2:bt s (s.size-1)=45
    · exact V4 s w h.1 h.2 h2
    · exact V3 s w h.1 h.2 h2
  · exact XS s w hs h
section
open Go.RowKit
end
theorem rvdoes (m:zG) (o:OpV) (A:Option Addr) (c:Nat) (w:World) (g:Nat) (t:ByteArray) (I:List zJ) (x:RV) (h:v7 w g t I x) (h1:1<=o.k) (h7:o.k<=7) (hkey:o.key.size<=16) (hval:o.val.size<=16) (hrefs:o.refs.length<=8) (hlo:-2147483648<=o.n) (hhi:o.n<2147483648) (hA:y8 w A o.refs.length o.refs) (hgA:g∉blk A) (hok:lD x) (hl:x.len<=10000) :
    Calls Tryz.prog 44 #[.pointer (some ⟨g,0,none⟩),.agg (zL m),.agg (opC o A c)] w fun e w'=>e = .returned (.tuple #[])/\v7 w' g t I (d6 m o x)/\z4 [g] w w':=by
  have hc:o.k=1\/o.k=2\/o.k=3\/o.k=4\/o.k=5\/o.k=6\/o.k=7:=by omega
  rcases hc with e | e | e | e | e | e | e
  · exact vk m o A c w g t I x h e hkey hval hrefs hlo hhi hA hgA hok hl
  · exact vj m o A c w g t I x h e hkey hval hrefs hlo hhi hA hgA hok hl
  · exact vi m o A c w g t I x h e hkey hval hrefs hlo hhi hA hgA hok hl
  · exact vh m o A c w g t I x h e hkey hval hrefs hlo hhi hA hgA hok hl
  · exact vg m o A c w g t I x h e hkey hval hrefs hlo hhi hA hgA hok hl
  · exact vf m o A c w g t I x h e hkey hval hrefs hlo hhi hA hgA hok hl
  · exact ve m o A c w g t I x h e hkey hval hrefs hlo hhi hA hgA hok hl
theorem JY (m:zG) (w:World) (g:Nat) (t:ByteArray) (I:List zJ) (x:RV) (h:v7 w g t I x) (hm:m.id∈I) (hI:I.length<=1000) :
    Calls Tryz.prog 20 #[.pointer (some ⟨g,0,none⟩),.agg (zL m)] w fun e w'=>e = .returned (.bool false)/\Below w.heap.size w w':=by
  obtain⟨si,sa,sg,sl,sm,so,ss,sd,h⟩:=h;have hB:Below w.heap.size w (w.alloc (.cells (zL m) 45)):=(Below.refl _ _).alloc (Nat.le_refl _) _;have h1:=h.below hB;have hr:z9 (w.alloc (.cells (zL m) 45)) w.heap.size 0 32=some (idC m.id):=by simp[go_sem]
  have hin:I.length=si.n:=by simpa using h.ids.1.len
  go_enter Tryz.func20,Tryz.ntmps20
  go_upto_region 1 with fail
  obtain⟨ga,hga⟩:∃ga,w.heap.size=ga:=⟨_,rfl⟩
  rw[hga]at hr hB |-;obtain⟨W,hW⟩:∃W,W=w.alloc (.cells (zL m) 45):=⟨_,rfl⟩
  rw[<-hW]at h1 hr hB |-;have hc:W.cell? ⟨g,1,none⟩=some (.slice si.A si.n si.c):=h1.cell 1 rfl;have c1:=XU W.drew si.A si.n si.c I m.id (SlR.below h1.ids.1.rd (zC W)) (by omega);rw[decide_eq_true hm]at c1;clear hW h h1;rw[<-hga]at hB;clear hga;refine zA (Bel W) false (by kernel_rfl) (by kernel_rfl) (by kernel_rfl) (zC W) ?_;have hne:=zQ W;have hS:=zC W;have b1:=zP hc;have b2:=zY hr;repeat(refine z6 ?_ ?_;(focus(simp only[z3];done));intro K hK;go_simp;refine hK _ ?_;clear hK K)
  refine zH ?_ ?_ ?_;(focus(exact hS));(focus(simp only[z3];done));intro K hK;go_simp;refine(c1).mono ?_;rintro e w' ⟨rfl,hb⟩;replace hS:=yN hS hb;refine⟨_,rfl,hS,hK _ _ ?_⟩;clear hK K hb;repeat(refine z6 ?_ ?_;(focus(simp only[z3];done));intro K hK;go_simp;refine hK _ ?_;clear hK K)
  refine zK ?_;intro hS;clear b1 b2 hne hc hr;(go_wp2_with fail);go_ret;exact⟨rfl,xM hB hS⟩
theorem JZ (m:zG) (w:World) (g:Nat) (t:ByteArray) (I:List zJ) (x:RV) (h:v7 w g t I x) (hm:m.id∉I) (hri:Ris zO I) (hI:I.length<=1000) (hs:m.body.size<=9223372036854775807) (ht:t.size<=9223372036854775807) (hok:lD x) (hl:x.len<=10000) :
    Calls Tryz.prog 20 #[.pointer (some ⟨g,0,none⟩),.agg (zL m)] w fun e w'=>e = .returned (.bool true)/\v7 w' g t (xU zO I m.id) (fE t m x)/\z4 [g] w w':=by
  obtain⟨si,sa,sg,sl,sm,so,ss,sd,h⟩:=h;have hB:Below w.heap.size w (w.alloc (.cells (zL m) 45)):=(Below.refl _ _).alloc (Nat.le_refl _) _;have h1:=h.below hB;have hgl:=h.lt;have hrm:z9 (w.alloc (.cells (zL m) 45)) w.heap.size 0 34=some (zL m):=by simp[go_sem]
  have hin:I.length=si.n:=by simpa using h.ids.1.len
  go_enter Tryz.func20,Tryz.ntmps20
  go_upto_region 1 with fail
  obtain⟨ga,hga⟩:∃ga,w.heap.size=ga:=⟨_,rfl⟩
  have Hga:=Lib.hid hga;rw[hga]at hrm hB hgl |-;obtain⟨W,hW⟩:∃W,W=w.alloc (.cells (zL m) 45):=⟨_,rfl⟩
  rw[<-hW]at h1 hrm hB |-;have hr:z9 W ga 0 32=some (idC m.id):=by have:=zV hrm (j:=0) (m:=32) (by omega);rwa [jM]at this
  have hc:W.cell? ⟨g,1,none⟩=some (.slice si.A si.n si.c):=h1.cell 1 rfl;have c1:=XU W.drew si.A si.n si.c I m.id (SlR.below h1.ids.1.rd (zC W)) (by omega);rw[decide_eq_false hm]at c1;have Hin:=Lib.hid hin;clear hW h hga hin;refine zA (Bel W) false (by kernel_rfl) (by kernel_rfl) (by kernel_rfl) (zC W) ?_;have hne:=zQ W;have hS:=zC W;have b1:=zP hc;have b2:=zY hr;repeat(refine z6 ?_ ?_;(focus(simp only[z3];done));intro K hK;go_simp;refine hK _ ?_;clear hK K)
  refine zH ?_ ?_ ?_;(focus(exact hS));(focus(simp only[z3];done));intro K hK;go_simp;refine(c1).mono ?_;rintro e w' ⟨rfl,hb⟩;replace hS:=yN hS hb;refine⟨_,rfl,hS,hK _ _ ?_⟩;clear hK K hb;repeat(refine z6 ?_ ?_;(focus(simp only[z3];done));intro K hK;go_simp;refine hK _ ?_;clear hK K)
  refine zK ?_;intro hS;clear b1 b2 hne hc hr c1;have hS0:Below W.heap.size W w':=hS;obtain⟨W1,rfl⟩:∃W1,W1=w':=⟨w',rfl⟩
  have h2:=h1.below hS0;have hrm2:z9 W1 ga 0 34=some (zL m):=(zB (hS0.block ga (zI hrm)) _ _).trans hrm;have hB2:Below ga w W1:=hB.trans (hS0.mono (by have:=hB.size;have:=Hga.out;omega));clear h1 hrm hB hS hS0;go_upto_region 3 with fail
  have hr2:z9 W1 ga 0 32=some (idC m.id):=by have:=zV hrm2 (j:=0) (m:=32) (by omega);rwa [jM]at this
  have hc2:W1.cell? ⟨g,1,none⟩=some (.slice si.A si.n si.c):=h2.cell 1 rfl;have c2:=KU W1.drew si.A si.n si.c I m.id (h2.ids.1.below (zC W1)) (by have:=Hin.out;omega) hri;have hgl2:g<W1.heap.size:=h2.lt;have hgx2:W1.heap[g]? = some (.cells (rvC t si x.tal sa sg sl sm so ss sd) 78 (0,0)):=h2.hp;have hga2:ga<W1.heap.size:=zI hrm2;refine xB (Kp [] W1) false (by kernel_rfl) (by kernel_rfl) (by kernel_rfl) (by kernel_rfl) (zW [] W1) ?_;have hne:=xA [] W1;have hS:=zW [] W1;have b1:=j5 hr2 (S:=[]) (by simp);have b2:=zM hc2 (S:=[]) (by simp);repeat(refine z6 ?_ ?_;(focus(simp only[z3];done));intro K hK;go_simp;refine hK _ ?_;clear hK K)
  refine zH ?_ ?_ ?_;(focus(exact hS));(focus(simp only[z3];done));intro K hK;go_simp;refine c2.mono ?_;rintro e w3 ⟨A',cap',rfl,hI3,hsub3,hb3⟩;have hb30:Below W1.heap.size W1 w3:=yN (zC W1) hb3;refine⟨_,rfl,(z4.of_below hb30),hK _ _ ?_⟩;clear hK K;have hg3:w3.heap[g]? = some (.cells (rvC t si x.tal sa sg sl sm so ss sd) 78 (0,0)):=(hb30.block g hgl2).trans hgx2;have hc3:w3.cell? ⟨g,1,none⟩=some (.slice si.A si.n si.c):=by rw[cell_of_row w3 g 1 _ _ _ hg3];rfl
  have hf3:w3.frozen? ⟨g,1,none⟩=false:=by simp[World.frozen?,hg3]
  repeat(refine z6 ?_ ?_;(focus(simp only[z3];done));intro K hK;go_simp;refine hK _ ?_;clear hK K)
  refine jS ?_ ?_;(focus(simp only[z3];done));intro K hK;go_simp;refine hK _ _ ?_;clear hK K;have hfin:=zE hg3 1 (.slice A' (xU zO I m.id).length cap');have hks:=z4.setCell w3 ⟨g,1,none⟩ (.slice A' (xU zO I m.id).length cap');have hgA3:g∉blk A':=fun hx=>by
    rcases hsub3 g hx with h3 | h3
    · exact h2.ids.2 h3
    · have h4:W1.drew.heap.size=W1.heap.size:=rfl;omega
  have hk13:z4 [g] W1 (w3.setCell ⟨g,1,none⟩ (.slice A' (xU zO I m.id).length cap')):=z4.trans ((z4.of_below hb30).mono (S':=[g]) (by simp)) hks (fun x hx=>.inl hx);have hI4:iP (w3.setCell ⟨g,1,none⟩ (.slice A' (xU zO I m.id).length cap')) A' (xU zO I m.id).length cap' (xU zO I m.id):=hI3.kept hks (fun x hx hm=>hgA3 (by simp at hm;rw[<-hm];exact hx));have hV3:v7 (w3.setCell ⟨g,1,none⟩ (.slice A' (xU zO I m.id).length cap')) g t (xU zO I m.id) x :=
    ⟨⟨A',(xU zO I m.id).length,cap'⟩,sa,sg,sl,sm,so,ss,sd,hfin,⟨hI4,hgA3⟩,h2.adds.keep hk13,h2.gone.keep hk13,h2.last.keep hk13,h2.mL.keep hk13,h2.mO.keep hk13,h2.sL.keep hk13,h2.sG.keep hk13⟩
  have hrm3:z9 (w3.setCell ⟨g,1,none⟩ (.slice A' (xU zO I m.id).length cap')) ga 0 34=some (zL m):=(hk13.row hga2 (by simp;omega) _ _).trans hrm2;have hK3:z4 [g] w (w3.setCell ⟨g,1,none⟩ (.slice A' (xU zO I m.id).length cap')):=z4.trans ((z4.of_below (hB2.mono (by rw[Hga.out];exact Nat.le_refl _))).mono (S':=[g]) (by simp)) hk13 (fun x hx=>.inl hx);obtain⟨w2,hw2⟩:∃w2,(w3.setCell ⟨g,1,none⟩ (.slice A' (xU zO I m.id).length cap'))=w2:=⟨_,rfl⟩
  obtain⟨J,hJ⟩:∃J,xU zO I m.id=J:=⟨_,rfl⟩
  have HJ:=Lib.hid hJ;rw[hJ]at hw2 |-;rw[hJ,hw2]at hV3;rw[hJ,hw2]at hrm3 hK3;rw[hw2];clear hI4 hgA3 hks hfin hf3 hc3 hg3 hb30 hb3 hI3 hk13 hw2 b1 b2 hne hS hgx2 hgl2 c2 hc2 hr2 h2 hrm2 hB2 hJ;have hbd2:w2.cell? ⟨ga,33,none⟩=some (.string m.body):=by have:=z8 hrm3 (j:=33) (by omega);rwa [mY,Nat.zero_add]at this
  have cop:=rop_of m.body w2 hs;obtain⟨l,hl⟩:∃l,m.body.data.toList=l:=⟨_,rfl⟩
  have Hl:=Lib.hid hl;have hfit:kE t m↔opE l=0/\k7 (opO l).k=yO t:=by unfold kE;rw[hl]
  have hfo:fE t m x=if kE t m then d6 m (opO l) x else x:=by unfold fE;rw[KY];unfold oOf;rw[hl]
  have Hfo:=Lib.hid hfo;rw[hl]at cop;obtain⟨E,hE⟩:∃E,opE l=E:=⟨_,rfl⟩
  clear hl hfo;(go_wp2_with fail);refine cop.mono ?_;rintro en w4 ⟨V,rfl,hok4,hbad,hb4⟩;rw[hE]at hok4 hbad |-;have hV4:=hV3.below hb4;have hrm4:z9 w4 ga 0 34=some (zL m):=(zB (hb4.block ga (zI hrm3)) _ _).trans hrm3;have hK4:z4 [g] w w4:=z4.trans hK3 (z4.of_below hb4) (by simp);have hKw:=hK3.size;clear cop hb4 hV3 hrm3 hbd2 hK3;by_cases h0:E=0
  · subst h0;obtain⟨A,c,rfl,hown⟩:=hok4 rfl;have hoo:=fF l hE;have hlo:=kt l hE;have hgA:g∉blk A:=fun hx=>(by have:=(hown.at_base hx).1;have:=hgl;have:=Hga.out;omega);have hfit':kE t m↔k7 (opO l).k=yO t:=by rw[hfit];exact⟨fun h=>h.2,fun h=>⟨hE,h⟩⟩
    obtain⟨o,ho⟩:∃o,opO l=o:=⟨_,rfl⟩
    have hfo2:=Hfo.out;rw[ho]at hoo hown hfit' hlo hfo2 |-;have Hfo2:=Lib.hid hfo2;clear hfo2;have hkl:o.k<=9223372036854775807:=by have:=hoo.2.2.1;omega
    have Hoo:=Lib.hid hoo;have Hlo:=Lib.hid hlo;clear hok4 hbad hfit hE ho hoo hlo;have hb5:Below w4.heap.size w4 (w4.alloc (.cells (opC o A c) 105)):=(Below.refl _ _).alloc (Nat.le_refl _) _;have h5:=hV4.below hb5;have hrm5:z9 (w4.alloc (.cells (opC o A c) 105)) ga 0 34=some (zL m):=(zB (hb5.block ga (zI hrm4)) _ _).trans hrm4;have hown5:=hown.below hb5;have hro5:z9 (w4.alloc (.cells (opC o A c) 105)) w4.heap.size 0 37=some (opC o A c):=by simp[go_sem]
    have hK5:z4 [g] w (w4.alloc (.cells (opC o A c) 105)):=z4.trans hK4 (z4.of_below hb5) (by simp);clear hb5 hV4 hrm4 hown hK4;unfold opC at h5 hrm5 hown5 hro5 hK5 |-;go_upto_region 5 with fail
    obtain⟨go,hgo⟩:∃go,w4.heap.size=go:=⟨_,rfl⟩
    obtain⟨W4,hW4⟩:∃W4,W4=(w4.alloc (.cells (zD ⟨o.k,o.n,o.key,o.val,o.ref,.slice A o.refs.length c⟩) 105)):=⟨_,rfl⟩
    rw[<-hW4]at h5 hrm5 hown5 hro5 hK5 |-;rw[hgo]at hro5 |-;clear hW4 hgo;have hcK:=z8 hro5 (j:=0) (by omega);rw[qH,Nat.zero_add]at hcK;obtain⟨si',sa',sg',sl',sm',so',ss',sd',h5'⟩:=h5;have hc0:W4.cell? ⟨g,0,none⟩=some (.string t):=h5'.cell 0 rfl;have h5:v7 W4 g t J x:=⟨si',sa',sg',sl',sm',so',ss',sd',h5'⟩
    clear h5';have cb:=XR o.k W4.drew hkl;have ck:=fD t W4.drew ht;obtain⟨B1,hB1⟩:∃B1,k7 o.k=B1:=⟨_,rfl⟩
    obtain⟨K1,hK1⟩:∃K1,yO t=K1:=⟨_,rfl⟩
    rw[hB1,hK1]at hfit';rw[hB1]at cb;rw[hK1]at ck;have Hfit:=Lib.hid hfit';clear hB1 hK1 hfit';refine zA (Bel W4) false (by kernel_rfl) (by kernel_rfl) (by kernel_rfl) (zC W4) ?_;have hne:=zQ W4;have hS:=zC W4;have b1:=zP hcK;have b2:=zP hc0;repeat(refine z6 ?_ ?_;(focus(simp only[z3];done));intro K hK;go_simp;refine hK _ ?_;clear hK K)
    refine zH ?_ ?_ ?_;(focus(exact hS));(focus(simp only[z3];done));intro K hK;go_simp;refine(cb).mono ?_;rintro e w' ⟨rfl,rfl⟩;refine⟨_,rfl,hS,hK _ _ ?_⟩;clear hK K;repeat(refine z6 ?_ ?_;(focus(simp only[z3];done));intro K hK;go_simp;refine hK _ ?_;clear hK K)
    refine zH ?_ ?_ ?_;(focus(exact hS));(focus(simp only[z3];done));intro K hK;go_simp;refine(ck).mono ?_;rintro e w' ⟨rfl,hb⟩;replace hS:=yN hS hb;refine⟨_,rfl,hS,hK _ _ ?_⟩;clear hK K hb;repeat(refine z6 ?_ ?_;(focus(simp only[z3];done));intro K hK;go_simp;refine hK _ ?_;clear hK K)
    refine zK ?_;intro hS;have hS':Below W4.heap.size W4 w':=hS;have h6:=h5.below hS';have hrm6:z9 w' ga 0 34=some (zL m):=(zB (hS'.block ga (zI hrm5)) _ _).trans hrm5;have hro6:z9 w' go 0 37=some (zD ⟨o.k,o.n,o.key,o.val,o.ref,.slice A o.refs.length c⟩):=(zB (hS'.block go (zI hro5)) _ _).trans hro5;have hown6:=hown5.below hS';have hK6:z4 [g] w w':=z4.trans hK5 (z4.of_below hS') (by simp);clear b1 b2 hne hS cb ck hcK hc0 h5 hrm5 hro5 hown5 hK5 hS';obtain⟨W5,rfl⟩:∃W5,W5=w':=⟨w',rfl⟩
    cases hbb:(B1==K1)with
    | true =>
      have hf:kE t m:=Hfit.out.2 (by simpa using hbb);have hoo:=Hoo.out;have hd:=rvdoes m o A c W5 g t J x h6 hoo.2.1 hoo.2.2.1 hoo.2.2.2.1 hoo.2.2.2.2.1 hoo.2.2.2.2.2.1 Hlo.out hoo.2.2.2.2.2.2.2 hown6.slr hgA hok hl;unfold opC at hd;have hfp:d6 m o x=fE t m x:=by rw[Hfo2.out,if_pos hf]
      rw[hfp]at hd;have HK6:=Lib.hid hK6;clear hf hbb hoo h6 hown6 hK6 hfp;go_upto_region 6 with fail
      (go_wp2_with fail);refine hd.mono ?_;rintro e w6 ⟨rfl,hq,hkq⟩;have Hq:=Lib.hid hq;have Hkq:=Lib.hid (z4.trans HK6.out hkq (fun x hx=>.inl hx));clear hq hd hkq;(go_wp2_with fail);go_ret;exact⟨rfl,HJ.out ▸ Hq.out,Hkq.out⟩
    | false =>
      have hf:¬kE t m:=fun h=>(by have:=Hfit.out.1 h;rw[beq_eq_false_iff_ne]at hbb;exact hbb this);have hfp:x=fE t m x:=by rw[Hfo2.out,if_neg hf]
      have Hfp:=Lib.hid hfp;have Hq:=Lib.hid h6;have HK6:=Lib.hid hK6;clear hf h6 hK6 hfp;(go_wp2_with fail);go_ret;exact⟨rfl,by rw[HJ.out,<-Hfp.out];exact Hq.out,HK6.out⟩
  · have hf:¬kE t m:=fun h=>h0 (by rw[<-hE];exact(hfit.1 h).1);have hVb:=hbad h0;subst hVb;have hfp:x=fE t m x:=by rw[Hfo.out,if_neg hf]
    have Hfp:=Lib.hid hfp;clear hfp;have hb5:Below w4.heap.size w4 (w4.alloc (.cells (zD yJ) 105)):=(Below.refl _ _).alloc (Nat.le_refl _) _;have h5:=hV4.below hb5;have hK5:z4 [g] w (w4.alloc (.cells (zD yJ) 105)):=z4.trans hK4 (z4.of_below hb5) (by simp);have hE0:(E==0)=false:=by simpa using h0
    clear hok4 hbad hfit hE h0 hb5 hV4 hK4 hf;go_upto_region 5 with fail
    obtain⟨W4,hW4⟩:∃W4,W4=(w4.alloc (.cells (zD yJ) 105)):=⟨_,rfl⟩
    rw[<-hW4]at h5 hK5 |-;clear hW4;have Hq:=Lib.hid (h5.below (zC W4));have Hk:=Lib.hid (z4.trans hK5 (z4.of_below (zC W4)) (by simp));clear h5 hK5;refine zA (Bel W4) false (by kernel_rfl) (by kernel_rfl) (by kernel_rfl) (zC W4) ?_;have hne:=zQ W4;have hS:=zC W4;repeat(refine z6 ?_ ?_;(focus(simp only[z3];done));intro K hK;go_simp;refine hK _ ?_;clear hK K)
    refine zH ?_ ?_ ?_;(focus(exact hS));(focus(simp only[z3];done));intro K hK;go_simp;refine hK _ _ ?_;clear hK K;repeat(refine z6 ?_ ?_;(focus(simp only[z3];done));intro K hK;go_simp;refine hK _ ?_;clear hK K)
    refine zH ?_ ?_ ?_;(focus(exact hS));(focus(simp only[z3];done));intro K hK;go_simp;refine hK _ _ ?_;clear hK K;repeat(refine z6 ?_ ?_;(focus(simp only[z3];done));intro K hK;go_simp;refine hK _ ?_;clear hK K)
    refine zK ?_;intro hS;(go_wp2_with fail);go_ret;exact⟨rfl,by rw[HJ.out,<-Hfp.out];exact Hq.out,Hk.out⟩
theorem QC {L:List zT} {r:zJ}:(xY L r).length<=L.length:=fV L r
theorem vq {L:List zT} {out row:List zT} (hf:fJ L) (h:out++jW (xY L) zT.id (L.length+1) row=j4 L):out.length+(jW (xY L) zT.id (L.length+1) row).length<=L.length:=by
  have h1:=fL hf;rw[<-h,List.length_append]at h1;exact h1
theorem XV (L:List zT) (k:Nat):∀row:List zT,row.length<=(jW (xY L) zT.id k row).length
  | []=>Nat.zero_le _
  | n :: row=>by
    have h:=XV L k row;unfold jW at h |-;rw[List.flatMap_cons,List.length_append,List.length_cons,List.length_cons];omega
theorem rsorder (w:World) (g:Nat) (L:List zT) (G:List zJ) (h:jf w g 8 L G) (hok:vH L) (hX:L.length<=100000) :
    Calls Tryz.prog 82 #[.pointer (some ⟨g,8,none⟩)] w fun e w'=>∃A n cap,e = .returned (.slice A n cap)/\Own w' w.heap.size 146 66 A n cap ((j4 L).map yQ)/\Below w.heap.size w w':=by
  have hbh:=fun (w':World) (hb:Below w.heap.size w w') (r:zJ)=>vn w' g L G r (h.below hb) hok hX;have hf:=hok.forest;have hdeep:=hf.deep;have hord:j4 L=jW (xY L) zT.id (L.length+1) (xY L id0):=e9 hdeep;have hD0:∀c∈xY L id0,Deep (xY L) zT.id (L.length+1) c.id:=fun c hc=>lS (hdeep c hc);have Hbh:=Lib.hid hbh;have Hf:=Lib.hid hf;have Hord:=Lib.hid hord;have HD0:=Lib.hid hD0;have c0:=hbh w (Below.refl _ _) id0;clear hbh hf hdeep hord hD0 h hok;go_enter Tryz.func82,Tryz.ntmps82
  (go_wp2_with fail);refine c0.mono ?_;rintro e w1 ⟨RA,nr,rc,rfl,hrow,hb1⟩;clear c0;(go_wp2_with fail);go_loopw [3,4] (fun out row wr=>∃(X R:List zT) (A1:Option Addr) (n1 cap1:Nat) (A2:Option Addr) (n2 cap2:Nat),out = .slice A1 n1 cap1/\row = .slice A2 n2 cap2/\Own wr w.heap.size 146 66 A1 n1 cap1 (X.map yQ)/\SlW wr A2 n2 cap2 66 (R.map yQ)/\(∀x∈blk A2,x∉blk A1)/\Hid (X++jW (xY L) zT.id (L.length+1) R=j4 L)/\Hid (∀c∈R,Deep (xY L) zT.id (L.length+1) c.id)/\Below w.heap.size w wr) (fun out _ _=>L.length-(match out with | .slice _ n _=>n | _=>0))
  case atStart=>exact⟨[],xY L id0,none,0,0,RA,nr,rc,rfl,rfl,Own.nil _ _ _ _,hrow.slw,(by simp[blk]),(show _=_ by rw[Hord.out];rfl),HD0,hb1⟩
  case round =>
    obtain⟨X,R,A1,n1,cap1,A2,n2,cap2,rfl,rfl,hown,hsw,hdis,hinv,hdp,hb⟩:=hrel;have hn1:X.length=n1:=by simpa using hown.len
    have hn2:R.length=n2:=by simpa using hsw.len
    have hrl:=vq Hf.out hinv.out;have hrr:=XV L (L.length+1) R;have h1L:n1+n2<=L.length:=by omega
    have Hn1:=Lib.hid hn1;cases R with
    | nil =>
      have hn0:n2=0:=by simpa using hn2.symm
      subst hn0;have hX2:X=j4 L:=by have:=hinv.out;simpa[jW]using this
      subst hX2;clear hinv hdp hrl hrr hn1 hn2;(go_wp2_with fail);go_ret;exact⟨A1,n1,cap1,rfl,hown,hb⟩
    | cons d R' =>
      have hn2p:n2=R'.length+1:=by simpa using hn2.symm
      subst hn2p;obtain⟨q,o,rfl,hr⟩:=bW.get hsw.rd (i:=0) (by omega) (by simp);rw[Nat.zero_mul,Nat.add_zero,List.getElem_cons_zero]at hr;have hdd:=hdp.out d (by simp);have hinv2:X ++ [d]++jW (xY L) zT.id (L.length+1) (xY L d.id++R')=j4 L:=by
        have:=hinv.out;rw[wD hdd]at this;simpa using this
      have hdp2:∀c∈xY L d.id++R',Deep (xY L) zT.id (L.length+1) c.id:=fun c hc=>by
        rcases List.mem_append.1 hc with hc | hc
        · exact rH hdd c hc
        · exact hdp.out c (by simp[hc])
      have Hinv2:=Lib.hid hinv2;have Hdp2:=Lib.hid hdp2;clear hinv hdp hdd hinv2 hdp2 hrl hrr hn1 hn2;have hszr:=hb.size;have hbx:Below wr.heap.size wr ((wr.alloc (.cells (yP (bZ d)) 146)).alloc (.cells (yP (bZ d)) 146)):=((Below.refl _ _).alloc (Nat.le_refl _) _).alloc (by simp) _;have hown1:=hown.below hbx;have hrow2:z9 ((wr.alloc (.cells (yP (bZ d)) 146)).alloc (.cells (yP (bZ d)) 146)) (wr.heap.size+1) 0 66=some (yQ d):=by simp[go_sem]
      have hbox:z9 ((wr.alloc (.cells (yP (bZ d)) 146)).alloc (.cells (yP (bZ d)) 146)) wr.heap.size 0 66=some (yQ d):=by simp[go_sem]
      have hsz2:((wr.alloc (.cells (yP (bZ d)) 146)).alloc (.cells (yP (bZ d)) 146)).heap.size=wr.heap.size+2:=by simp
      have hA1:∀x∈blk A1,w.heap.size<=x/\x<wr.heap.size:=fun x hx=>hown.at_base hx;have HA1:=Lib.hid hA1;have Hdis:=Lib.hid hdis;clear hA1 hdis;go_upto_region 6 with(at_builtin;refine yX qL rfl hown1 rfl hrow2 (jG _) (by omega) (by omega) (by simp;omega) ?_;intro A3 cap3 w3 hown3 hk3 hsub3)
      have hboxS:wr.heap.size∉blk A1:=fun hx=>(by have:=(HA1.out _ hx).2;omega);have hbox3:z9 w3 wr.heap.size 0 66=some (yQ d):=(hk3.row (by omega) hboxS 0 66).trans hbox;obtain⟨f1,_,_,_⟩:=bG hbox3;have hsw3:=(hsw.below hbx).kept hk3 Hdis.out;have hb3:Below w.heap.size w w3:=hb.trans ((hbx.mono hszr).trans (hk3.below (by omega) fun x hx=>(HA1.out x hx).1));have hA3:∀x∈blk A3,x<w3.heap.size:=fun x hx=>(hown3.at_base hx).2;have HA3:=Lib.hid hA3;obtain⟨gx,hgx⟩:∃gx,wr.heap.size=gx:=⟨_,rfl⟩
      have hrows3:(X.map yQ) ++ [yQ d]=(X ++ [d]).map yQ:=by simp
      rw[hrows3]at hown3;rw[hgx]at f1 |-;have hgx3:gx<w3.heap.size:=zI f1;clear hown hown1 hrow2 hbox hbox3 hboxS hbx hsz2 hk3 hsub3 hgx hA3 hsw hr hrows3 hb;have hbe:Below w3.heap.size w3 (w3.alloc (.cells #[] 146)):=(Below.refl _ _).alloc (Nat.le_refl _) _;have hb3e:Below w.heap.size w (w3.alloc (.cells #[] 146)):=hb3.trans (hbe.mono hb3.size);have f1e:=(zB (hbe.block gx hgx3) 0 32).trans f1;have hownE:=Own.empty w3 w3.heap.size 146 66 (Nat.le_refl _);have c4:=Hbh.out _ hb3e d.id;(go_wp2_with fail);refine c4.mono ?_;rintro e w4 ⟨KA,nk,kc,rfl,hkr,hb4⟩;have hnk:(xY L d.id).length=nk:=by simpa using hkr.len
      have hnkL:=QC (L:=L) (r:=d.id);have hownE4:=hownE.below hb4;have hbe4:Below w3.heap.size w3 w4:=xM hbe hb4;have hsw4:=hsw3.below hbe4;have hsz4:=hbe4.size;have hf4:KA=none->kc=0:=fun e=>(hkr.cap_le.2 e).2;have hks:=hkr.slr;have hE4:w3.heap.size+1<=w4.heap.size:=by have:=hb4.size;simpa using this
      have hnkb:nk<=100000:=by omega
      have Hnk:=Lib.hid hnk;clear c4 hownE hbe f1e f1 hkr hnk hnkL hb4 hb3e;go_upto_region 7 with(at_builtin;refine yD qL rfl hownE4 rfl hks hf4 (onesN _) (by omega) (by omega) (by omega) ?_;intro A5 cap5 w5 hown5 hk5 hsub5)
      simp only[Nat.zero_add,List.nil_append]at hown5;have hbe5:Below w3.heap.size w3 w5:=hbe4.trans (hk5.below (by omega) (by simp[blk]));have hsw5:=hsw3.below hbe5;have hsz5:=hbe5.size;obtain⟨Ah,ch,hhi,hhs,hhf⟩:=hsw5.hi (P:=Tryz.prog) qL (m:=1) (by omega);have hhi2:∀w0:World,(slS 74 (.slice (some ⟨q,o,none⟩) (R'.length+1) cap2) (some (.int .i64 1)) none none).run Tryz.prog w0 = .ok (.slice Ah R'.length ch) w0:=hhi;have hs5:SlR w5 Ah R'.length 66 (((d :: R').map yQ).drop 1):=hhs w5 hsw5.rd;have hone2:∀r∈((d :: R').map yQ).drop 1,∀u∈r.toList,u.oneCell'=true:=fun r hr=>(by obtain⟨y',_,rfl⟩:=List.mem_map.1 (List.mem_of_mem_drop hr);exact jG _);have hA5:∀x∈blk A5,w3.heap.size<=x:=fun x hx=>(hown5.at_base hx).1;have HA5:=Lib.hid hA5;clear hA5 hk5 hsub5 hownE4 hks hf4 hsw4 hbe4 hsw3 hsw5 hhs hhi;go_upto_region 8 with(at_builtin;refine yD qL rfl hown5 rfl hs5 hhf hone2 (by omega) (by omega) (by omega) ?_;intro A6 cap6 w6 hown6 hk6 hsub6)
      have hbe6:Below w3.heap.size w3 w6:=hbe5.trans (hk6.below hsz5 HA5.out);have hown36:=hown3.below hbe6;have hrows6:((xY L d.id).map yQ)++((d :: R').map yQ).drop 1=(xY L d.id++R').map yQ:=by simp
      rw[hrows6]at hown6;have hsw6:=hown6.slw;have hdis6:∀x∈blk A6,x∉blk A3:=fun x hx hm=>by
        have h1:=(hown6.at_base hx).1;have h2:=HA3.out x hm;omega
      have hbF:=hb3.trans (hbe6.mono hb3.size);have Hdis6:=Lib.hid hdis6;have Hsw6:=Lib.hid hsw6;have HbF:=Lib.hid hbF;have Hown36:=Lib.hid hown36;clear hown6 hrows6 hk6 hsub6 hown3 hs5 hhi2 hhf hone2 hown5 hdis6 hsw6 hbF hown36 hbe5 hbe6;(go_wp2_with fail);go_roundw
      case rel=>exact⟨X ++ [d],xY L d.id++R',A3,n1+1,cap3,A6,_,cap6,rfl,rfl,Hown36.out,Hsw6.out,Hdis6.out,Hinv2,Hdp2,HbF.out⟩
      case measure=>simp only[];omega
theorem rslist (w:World) (g:Nat) (L:List zT) (G:List zJ) (h:jf w g 8 L G) (hok:vH L) (hX:L.length<=100000) (hG:G.length<=100000) :
    Calls Tryz.prog 48 #[.pointer (some ⟨g,8,none⟩)] w fun e w'=>∃A n cap,e = .returned (.slice A n cap)/\Own w' w.heap.size 122 2 A n cap ((mD L G).map zN)/\Below w.heap.size w w':=by
  have c1:=rsorder w g L G h hok hX;have hlo:=fL hok.forest;have hls:mD L G=pS (j4 L) G:=rfl;rw[hls];obtain⟨Z,hZ⟩:∃Z,j4 L=Z:=⟨_,rfl⟩
  rw[hZ]at c1 hlo |-;clear hZ hls hok;obtain⟨XA,nx,xc,GA,ng,gc,hc0,hc1,hXr,hGr⟩:=h;have hng:G.length=ng:=by simpa using hGr.len
  have hng1:ng<=100000:=by omega
  clear hng hc0 hXr;go_enter Tryz.func48,Tryz.ntmps48
  (go_wp2_with fail);refine c1.mono ?_;rintro e w1 ⟨RA,nz,rc,rfl,hrow,hb1⟩;have hslZ:bW w1 RA nz Z:=hrow.slr;have hnz:Z.length=nz:=hslZ.len;have Hnz:=Lib.hid hnz;have hnz1:nz<=100000:=by omega
  have hc91:=(hb1.cell (p:=⟨g,9,none⟩) (World.block_lt_of_cell? w _ hc1)).trans hc1;have hG1:=SlR.below hGr hb1;clear hrow c1 hnz hc1 hGr;(go_wp2_with fail);go_loopw [3,5] (fun out i wr=>∃(k:Nat) (A1:Option Addr) (n1 cap1:Nat),k<=nz/\i = .int .i64 k/\out = .slice A1 n1 cap1/\Own wr w1.heap.size 122 2 A1 n1 cap1 ((pS (Z.take k) G).map zN)/\Below w1.heap.size w1 wr) (fun _ i _=>nz-(intOf i).toNat)
  case atStart=>exact⟨0,none,0,0,Nat.zero_le _,rfl,rfl,Own.nil _ _ _ _,Below.refl _ _⟩
  case round =>
    obtain⟨k,A1,n,cap1,hk,rfl,rfl,hown,hb⟩:=hrel;by_cases hlt:k<nz
    · have hltZ:k<Z.length:=by rw[Hnz.out];exact hlt
      obtain⟨q,o,rfl,hr0⟩:=bW.get (SlR.below hslZ hb) hlt hltZ;have htk:pS (Z.take (k+1)) G=if(Z[k]'hltZ).id∈G then pS (Z.take k) G else pS (Z.take k) G ++ [⟨⟨#[]⟩,(Z[k]'hltZ).val⟩]:=by
        rw[List.take_add_one,List.getElem?_eq_getElem hltZ,Option.toList_some,B5]
      have hOl:(pS (Z.take k) G).length=n:=by simpa using hown.len
      have hol:n<=100000:=by have:=ki (Z.take k) G;simp at this;omega
      obtain⟨c,hc⟩:∃c,Z[k]'hltZ=c:=⟨_,rfl⟩
      rw[hc]at hr0 htk;obtain⟨T0,hT0⟩:∃T0,pS (Z.take k) G=T0:=⟨_,rfl⟩
      rw[hT0]at htk hown;have Htk:=Lib.hid htk;obtain⟨f1,_,_,f4⟩:=bG hr0;clear hc hT0 htk hOl hr0;have hszr:=hb.size;have hcr:=(hb.cell (p:=⟨g,9,none⟩) (World.block_lt_of_cell? w1 _ hc91)).trans hc91;have c2:=XU wr.drew GA ng gc G c.id (SlR.below hG1 hb.drew) (by omega);obtain⟨rr,hrr⟩:∃rr,decide (c.id∈G)=rr:=⟨_,rfl⟩
      rw[hrr]at c2;have Hrr:=Lib.hid hrr;clear hrr;go_upto_region 6 with fail
      refine zA (Bel wr) false (by kernel_rfl) (by kernel_rfl) (by kernel_rfl) (zC wr) ?_;have hne:=zQ wr;have hS:=zC wr;have b1:=zY f1;have b2:=zP hcr;repeat(refine z6 ?_ ?_;(focus(simp only[z3];done));intro K hK;go_simp;refine hK _ ?_;clear hK K)
      refine zH ?_ ?_ ?_;(focus(exact hS));(focus(simp only[z3];done));intro K hK;go_simp;refine(c2).mono ?_;rintro e w' ⟨rfl,hb⟩;replace hS:=yN hS hb;refine⟨_,rfl,hS,hK _ _ ?_⟩;clear hK K hb;repeat(refine z6 ?_ ?_;(focus(simp only[z3];done));intro K hK;go_simp;refine hK _ ?_;clear hK K)
      refine zK ?_;intro hS;have hS':Below wr.heap.size wr w':=hS;have hbz:=xM hb hS';have hown1:=hown.below hS';have f4':=(hS'.cell (World.block_lt_of_cell? wr _ f4)).trans f4;have hsz':=hS'.size;clear b1 b2 hne hS c2 f1 f4 hcr hown hS' hb;cases rr with
      | true =>
        have e5:=Htk.out;rw[if_pos (of_decide_eq_true Hrr.out)]at e5;have E5:=Lib.hid e5;clear e5;(go_wp2_with fail);go_roundw
        case rel=>exact⟨k+1,A1,n,cap1,by omega,by go_num,rfl,(by rw[E5.out];exact hown1),hbz⟩
        case measure=>simp[intOf];omega
      | false =>
        have e5:=Htk.out;rw[if_neg (of_decide_eq_false Hrr.out)]at e5;have E5:=Lib.hid e5;clear e5;have hbx:Below w'.heap.size w' (w'.alloc (.cells (zN ⟨⟨#[]⟩,c.val⟩) 122)):=(Below.refl _ _).alloc (Nat.le_refl _) _;have hown2:=hown1.below hbx;have hrow2:z9 (w'.alloc (.cells (zN ⟨⟨#[]⟩,c.val⟩) 122)) w'.heap.size 0 2=some (zN ⟨⟨#[]⟩,c.val⟩):=by simp[go_sem]
        go_wp2_with (at_builtin;refine yX yL rfl hown2 rfl hrow2 (xQ _) (by omega) (by omega) (by simp;omega) ?_;intro A2 cap2 w2 hownA hkA hsubA)
        have hbA:Below w1.heap.size w1 w2:=hbz.trans ((hbx.mono (by omega)).trans (hkA.below (B:=w1.heap.size) (by simp;omega) fun y hy=>(hown1.at_base hy).1));(go_wp2_with fail);go_roundw
        case rel=>exact⟨k+1,A2,n+1,cap2,by omega,by go_num,rfl,(by rw[E5.out];simpa using hownA),hbA⟩
        case measure=>simp[intOf];omega
    · have e:Z.take k=Z:=List.take_of_length_le (by rw[Hnz.out];omega);rw[e]at hown;clear e;(go_wp2_with fail);go_ret;exact⟨A1,n,cap1,rfl,hown.mono hb1.size,xM hb1 hb⟩
def jn (k n:Int) (A:Option Addr) (m c:Nat):Array Value:=zF ⟨k,n,.slice A m c⟩
theorem rsame26 (w:World) (k n k' n':Int) (A B:Option Addr) (m m' c c':Nat) (X Y:List xZ) (hx:xL w A m X) (hy:xL w B m' Y) (hm:m<=1000000) (hm':m'<=1000000) :
    Calls Tryz.prog 25 #[.agg (jn k n A m c),.agg (jn k' n' B m' c')] w fun e w'=>e = .returned (.bool (decide (k=k'/\n=n'/\X=Y)))/\Below w.heap.size w w':=by
  have hB:Below w.heap.size w ((w.alloc (.cells (jn k n A m c) 43)).alloc (.cells (jn k' n' B m' c') 43)):=((Below.refl _ _).alloc (Nat.le_refl _) _).alloc (by simp) _;have hx1:=SlR.below hx hB;have hy1:=SlR.below hy hB;have cp:=rpairs _ A B m m' c c' X Y hx1 hy1 hm hm';unfold jn at hB cp |-;have hd:decide (k=k'/\n=n'/\X=Y)=((k==k')&&(n==n')&&decide (X=Y)):=by
    rw[Bool.eq_iff_iff];simp[and_assoc]
  obtain⟨b,hb⟩:∃b,decide (X=Y)=b:=⟨_,rfl⟩
  rw[hb]at cp hd;have Hd:=Lib.hid hd;clear hd hx1 hy1 hb hx hy;obtain⟨b1,h1⟩:∃b1,(k==k')=b1:=⟨_,rfl⟩
  obtain⟨b2,h2⟩:∃b2,(n==n')=b2:=⟨_,rfl⟩
  have Hd2:Hid (decide (k=k'/\n=n'/\X=Y)=(b1&&b2&&b)):=by show _=_;rw[Hd.out,h1,h2]
  clear Hd;cases b1 <;> cases b2
  all_goals
    go_enter Tryz.func25,Tryz.ntmps25
    go_wp2_with fail
    first
    | (go_ret;exact⟨zS (by rw[Hd2.out];rfl),hB⟩)
    | (refine cp.mono ?_;rintro e w1 ⟨rfl,hb1⟩
       have hBB:=xM hB hb1;clear cp hb1 hB;(go_wp2_with fail);go_ret;exact⟨zS (by rw[Hd2.out];rfl),hBB⟩)
@[go_sem] theorem buildValV_kn (k n:Int) (w:World):(bdS 43 #[(0,.int .i64 k),(1,.int .i64 n)]).run Tryz.prog w = .ok (.agg (zF ⟨k,n,.slice none 0 0⟩)) w:=by kernel_rfl
@[go_sem] theorem buildValV_kl (k:Int) (A:Option Addr) (n c:Nat) (w:World):(bdS 43 #[(0,.int .i64 k),(2,.slice A n c)]).run Tryz.prog w = .ok (.agg (zF ⟨k,0,.slice A n c⟩)) w:=by kernel_rfl
theorem zu (w:World) (g:Nat) (t:ByteArray) (I:List zJ) (x:RV) (L:List xZ) (h:v7 w g t I x) (ht:t.size<=9223372036854775807) (hk:yO t=2)
    (cl:∀w' si sa sg sl sm so ss sd,m7 w' g t I x si sa sg sl sm so ss sd->Calls Tryz.prog 45 #[.pointer (some ⟨g,3,none⟩)] w' fun e w''=>∃A n cap,e = .returned (.slice A n cap)/\Own w'' w'.heap.size 122 2 A n cap (L.map zN)/\Below w'.heap.size w' w'') :
    Calls Tryz.prog 21 #[.pointer (some ⟨g,0,none⟩)] w fun e w'=>∃A n cap,e = .returned (.agg (zF ⟨2,0,.slice A n cap⟩))/\Own w' w.heap.size 122 2 A n cap (L.map zN)/\Below w.heap.size w w':=by
  obtain⟨si,sa,sg,sl,sm,so,ss,sd,h⟩:=h;have c1:=fun w=>fD t w ht;rw[hk]at c1;have hB:Below w.heap.size w (w.alloc (.cells (zF yM) 43)):=(Below.refl _ _).alloc (Nat.le_refl _) _;have h1:=h.below hB;have hg1:(w.alloc (.cells (zF yM) 43)).heap[w.heap.size]? = some (.cells (zF yM) 43 (0,0)):=heap_alloc_new w _;go_enter Tryz.func21,Tryz.ntmps21
  go_upto_region 1 with fail
  obtain⟨ga,hga⟩:∃ga,w.heap.size=ga:=⟨_,rfl⟩
  have Hga:=Lib.hid hga;rw[hga]at hg1 hB |-;obtain⟨W,hW⟩:∃W,W=w.alloc (.cells (zF yM) 43):=⟨_,rfl⟩
  rw[<-hW]at h1 hg1 hB |-;clear hW hga h;have hc0:W.cell? ⟨g,0,none⟩=some (.string t):=h1.cell 0 rfl;(go_wp2_with fail);refine(c1 _).mono ?_;rintro e w2 ⟨rfl,hb2⟩;have h2:=h1.below hb2;have hg2:=(hb2.block ga (Array.getElem?_eq_some_iff.1 hg1).1).trans hg1;have hB2:Below ga w w2:=hB.trans (hb2.mono (by have:=hB.size;have:=Hga.out;omega));have hs2:ga<w2.heap.size:=(Array.getElem?_eq_some_iff.1 hg2).1;clear hc0 h1 hg1 hB hb2 c1;have cl2:=cl w2 si sa sg sl sm so ss sd h2;have hgv:w2.cell? ⟨g,5,none⟩=some (.slice sl.A sl.n sl.c):=h2.cell 5 rfl;clear cl h2;(go_wp2_with fail);refine cl2.mono ?_;rintro e w3 ⟨A,n,cap,rfl,hown,hb3⟩;have hg3:=(hb3.block ga hs2).trans hg2;have hB3:Below ga w w3:=hB2.trans (hb3.mono (by omega));clear hg2 hB2 cl2 hgv;have hsto:=yA (P:=Tryz.prog) xI w3 ga (zF yM) (zF ⟨2,0,.slice A n cap⟩) _ hg3 (by simp) (by simp) (jF _ rfl);have hkf:z4 [ga] w3 (w3.setRow ga (zF ⟨2,0,.slice A n cap⟩)):=⟨rfl,rfl,rfl,by simp[World.setRow],fun x _ hx=>setRow_other w3 ga x _ (by simpa using hx)⟩
  have Hfin:=Lib.hid (setRow_heap w3 ga _ (zF ⟨2,0,.slice A n cap⟩) _ _ hg3);have HBf:=Lib.hid (hB3.trans (hkf.below (by have:=hB3.size;have:=Hga.out;omega) (by simp)));have HO:=Lib.hid ((hown.kept hkf (fun x hx=>by have:=hown.at_base hx;simp;omega)).mono (B':=w.heap.size) (by have:=Hga.out;omega));clear hkf hg3 hB3 hown hb3;(go_wp2_with fail);refine bodyPost_ret (results_cell_row Tryz.results21 _ _ ga 43 (zF ⟨2,0,.slice A n cap⟩) (0,0) _ rfl Hfin.out Tryz.underlying43 rfl (by rw[qK];exact xI)) rfl ?_;exact⟨A,n,cap,rfl,HO.out,by rw[Hga.out];exact HBf.out⟩
theorem zt (w:World) (g:Nat) (t:ByteArray) (I:List zJ) (x:RV) (L:List xZ) (h:v7 w g t I x) (ht:t.size<=9223372036854775807) (hk:yO t=3)
    (cl:∀w' si sa sg sl sm so ss sd,m7 w' g t I x si sa sg sl sm so ss sd->Calls Tryz.prog 46 #[.slice sl.A sl.n sl.c] w' fun e w''=>∃A n cap,e = .returned (.slice A n cap)/\Own w'' w'.heap.size 122 2 A n cap (L.map zN)/\Below w'.heap.size w' w'') :
    Calls Tryz.prog 21 #[.pointer (some ⟨g,0,none⟩)] w fun e w'=>∃A n cap,e = .returned (.agg (zF ⟨3,0,.slice A n cap⟩))/\Own w' w.heap.size 122 2 A n cap (L.map zN)/\Below w.heap.size w w':=by
  obtain⟨si,sa,sg,sl,sm,so,ss,sd,h⟩:=h;have c1:=fun w=>fD t w ht;rw[hk]at c1;have hB:Below w.heap.size w (w.alloc (.cells (zF yM) 43)):=(Below.refl _ _).alloc (Nat.le_refl _) _;have h1:=h.below hB;have hg1:(w.alloc (.cells (zF yM) 43)).heap[w.heap.size]? = some (.cells (zF yM) 43 (0,0)):=heap_alloc_new w _;go_enter Tryz.func21,Tryz.ntmps21
  go_upto_region 1 with fail
  obtain⟨ga,hga⟩:∃ga,w.heap.size=ga:=⟨_,rfl⟩
  have Hga:=Lib.hid hga;rw[hga]at hg1 hB |-;obtain⟨W,hW⟩:∃W,W=w.alloc (.cells (zF yM) 43):=⟨_,rfl⟩
  rw[<-hW]at h1 hg1 hB |-;clear hW hga h;have hc0:W.cell? ⟨g,0,none⟩=some (.string t):=h1.cell 0 rfl;(go_wp2_with fail);refine(c1 _).mono ?_;rintro e w2 ⟨rfl,hb2⟩;have h2:=h1.below hb2;have hg2:=(hb2.block ga (Array.getElem?_eq_some_iff.1 hg1).1).trans hg1;have hB2:Below ga w w2:=hB.trans (hb2.mono (by have:=hB.size;have:=Hga.out;omega));have hs2:ga<w2.heap.size:=(Array.getElem?_eq_some_iff.1 hg2).1;clear hc0 h1 hg1 hB hb2 c1;have cl2:=cl w2 si sa sg sl sm so ss sd h2;have hgv:w2.cell? ⟨g,5,none⟩=some (.slice sl.A sl.n sl.c):=h2.cell 5 rfl;clear cl h2;(go_wp2_with fail);refine cl2.mono ?_;rintro e w3 ⟨A,n,cap,rfl,hown,hb3⟩;have hg3:=(hb3.block ga hs2).trans hg2;have hB3:Below ga w w3:=hB2.trans (hb3.mono (by omega));clear hg2 hB2 cl2 hgv;have hsto:=yA (P:=Tryz.prog) xI w3 ga (zF yM) (zF ⟨3,0,.slice A n cap⟩) _ hg3 (by simp) (by simp) (jF _ rfl);have hkf:z4 [ga] w3 (w3.setRow ga (zF ⟨3,0,.slice A n cap⟩)):=⟨rfl,rfl,rfl,by simp[World.setRow],fun x _ hx=>setRow_other w3 ga x _ (by simpa using hx)⟩
  have Hfin:=Lib.hid (setRow_heap w3 ga _ (zF ⟨3,0,.slice A n cap⟩) _ _ hg3);have HBf:=Lib.hid (hB3.trans (hkf.below (by have:=hB3.size;have:=Hga.out;omega) (by simp)));have HO:=Lib.hid ((hown.kept hkf (fun x hx=>by have:=hown.at_base hx;simp;omega)).mono (B':=w.heap.size) (by have:=Hga.out;omega));clear hkf hg3 hB3 hown hb3;(go_wp2_with fail);refine bodyPost_ret (results_cell_row Tryz.results21 _ _ ga 43 (zF ⟨3,0,.slice A n cap⟩) (0,0) _ rfl Hfin.out Tryz.underlying43 rfl (by rw[qK];exact xI)) rfl ?_;exact⟨A,n,cap,rfl,HO.out,by rw[Hga.out];exact HBf.out⟩
theorem zr (w:World) (g:Nat) (t:ByteArray) (I:List zJ) (x:RV) (L:List xZ) (h:v7 w g t I x) (ht:t.size<=9223372036854775807) (hk:yO t=4)
    (cl:∀w' si sa sg sl sm so ss sd,m7 w' g t I x si sa sg sl sm so ss sd->Calls Tryz.prog 47 #[.pointer (some ⟨g,6,none⟩)] w' fun e w''=>∃A n cap,e = .returned (.slice A n cap)/\Own w'' w'.heap.size 122 2 A n cap (L.map zN)/\Below w'.heap.size w' w'') :
    Calls Tryz.prog 21 #[.pointer (some ⟨g,0,none⟩)] w fun e w'=>∃A n cap,e = .returned (.agg (zF ⟨4,0,.slice A n cap⟩))/\Own w' w.heap.size 122 2 A n cap (L.map zN)/\Below w.heap.size w w':=by
  obtain⟨si,sa,sg,sl,sm,so,ss,sd,h⟩:=h;have c1:=fun w=>fD t w ht;rw[hk]at c1;have hB:Below w.heap.size w (w.alloc (.cells (zF yM) 43)):=(Below.refl _ _).alloc (Nat.le_refl _) _;have h1:=h.below hB;have hg1:(w.alloc (.cells (zF yM) 43)).heap[w.heap.size]? = some (.cells (zF yM) 43 (0,0)):=heap_alloc_new w _;go_enter Tryz.func21,Tryz.ntmps21
  go_upto_region 1 with fail
  obtain⟨ga,hga⟩:∃ga,w.heap.size=ga:=⟨_,rfl⟩
  have Hga:=Lib.hid hga;rw[hga]at hg1 hB |-;obtain⟨W,hW⟩:∃W,W=w.alloc (.cells (zF yM) 43):=⟨_,rfl⟩
  rw[<-hW]at h1 hg1 hB |-;clear hW hga h;have hc0:W.cell? ⟨g,0,none⟩=some (.string t):=h1.cell 0 rfl;(go_wp2_with fail);refine(c1 _).mono ?_;rintro e w2 ⟨rfl,hb2⟩;have h2:=h1.below hb2;have hg2:=(hb2.block ga (Array.getElem?_eq_some_iff.1 hg1).1).trans hg1;have hB2:Below ga w w2:=hB.trans (hb2.mono (by have:=hB.size;have:=Hga.out;omega));have hs2:ga<w2.heap.size:=(Array.getElem?_eq_some_iff.1 hg2).1;clear hc0 h1 hg1 hB hb2 c1;have cl2:=cl w2 si sa sg sl sm so ss sd h2;have hgv:w2.cell? ⟨g,5,none⟩=some (.slice sl.A sl.n sl.c):=h2.cell 5 rfl;clear cl h2;(go_wp2_with fail);refine cl2.mono ?_;rintro e w3 ⟨A,n,cap,rfl,hown,hb3⟩;have hg3:=(hb3.block ga hs2).trans hg2;have hB3:Below ga w w3:=hB2.trans (hb3.mono (by omega));clear hg2 hB2 cl2 hgv;have hsto:=yA (P:=Tryz.prog) xI w3 ga (zF yM) (zF ⟨4,0,.slice A n cap⟩) _ hg3 (by simp) (by simp) (jF _ rfl);have hkf:z4 [ga] w3 (w3.setRow ga (zF ⟨4,0,.slice A n cap⟩)):=⟨rfl,rfl,rfl,by simp[World.setRow],fun x _ hx=>setRow_other w3 ga x _ (by simpa using hx)⟩
  have Hfin:=Lib.hid (setRow_heap w3 ga _ (zF ⟨4,0,.slice A n cap⟩) _ _ hg3);have HBf:=Lib.hid (hB3.trans (hkf.below (by have:=hB3.size;have:=Hga.out;omega) (by simp)));have HO:=Lib.hid ((hown.kept hkf (fun x hx=>by have:=hown.at_base hx;simp;omega)).mono (B':=w.heap.size) (by have:=Hga.out;omega));clear hkf hg3 hB3 hown hb3;(go_wp2_with fail);refine bodyPost_ret (results_cell_row Tryz.results21 _ _ ga 43 (zF ⟨4,0,.slice A n cap⟩) (0,0) _ rfl Hfin.out Tryz.underlying43 rfl (by rw[qK];exact xI)) rfl ?_;exact⟨A,n,cap,rfl,HO.out,by rw[Hga.out];exact HBf.out⟩
theorem zq (w:World) (g:Nat) (t:ByteArray) (I:List zJ) (x:RV) (L:List xZ) (h:v7 w g t I x) (ht:t.size<=9223372036854775807) (hk:yO t=5)
    (cl:∀w' si sa sg sl sm so ss sd,m7 w' g t I x si sa sg sl sm so ss sd->Calls Tryz.prog 48 #[.pointer (some ⟨g,8,none⟩)] w' fun e w''=>∃A n cap,e = .returned (.slice A n cap)/\Own w'' w'.heap.size 122 2 A n cap (L.map zN)/\Below w'.heap.size w' w'') :
    Calls Tryz.prog 21 #[.pointer (some ⟨g,0,none⟩)] w fun e w'=>∃A n cap,e = .returned (.agg (zF ⟨5,0,.slice A n cap⟩))/\Own w' w.heap.size 122 2 A n cap (L.map zN)/\Below w.heap.size w w':=by
  obtain⟨si,sa,sg,sl,sm,so,ss,sd,h⟩:=h;have c1:=fun w=>fD t w ht;rw[hk]at c1;have hB:Below w.heap.size w (w.alloc (.cells (zF yM) 43)):=(Below.refl _ _).alloc (Nat.le_refl _) _;have h1:=h.below hB;have hg1:(w.alloc (.cells (zF yM) 43)).heap[w.heap.size]? = some (.cells (zF yM) 43 (0,0)):=heap_alloc_new w _;go_enter Tryz.func21,Tryz.ntmps21
  go_upto_region 1 with fail
  obtain⟨ga,hga⟩:∃ga,w.heap.size=ga:=⟨_,rfl⟩
  have Hga:=Lib.hid hga;rw[hga]at hg1 hB |-;obtain⟨W,hW⟩:∃W,W=w.alloc (.cells (zF yM) 43):=⟨_,rfl⟩
  rw[<-hW]at h1 hg1 hB |-;clear hW hga h;have hc0:W.cell? ⟨g,0,none⟩=some (.string t):=h1.cell 0 rfl;(go_wp2_with fail);refine(c1 _).mono ?_;rintro e w2 ⟨rfl,hb2⟩;have h2:=h1.below hb2;have hg2:=(hb2.block ga (Array.getElem?_eq_some_iff.1 hg1).1).trans hg1;have hB2:Below ga w w2:=hB.trans (hb2.mono (by have:=hB.size;have:=Hga.out;omega));have hs2:ga<w2.heap.size:=(Array.getElem?_eq_some_iff.1 hg2).1;clear hc0 h1 hg1 hB hb2 c1;have cl2:=cl w2 si sa sg sl sm so ss sd h2;have hgv:w2.cell? ⟨g,5,none⟩=some (.slice sl.A sl.n sl.c):=h2.cell 5 rfl;clear cl h2;(go_wp2_with fail);refine cl2.mono ?_;rintro e w3 ⟨A,n,cap,rfl,hown,hb3⟩;have hg3:=(hb3.block ga hs2).trans hg2;have hB3:Below ga w w3:=hB2.trans (hb3.mono (by omega));clear hg2 hB2 cl2 hgv;have hsto:=yA (P:=Tryz.prog) xI w3 ga (zF yM) (zF ⟨5,0,.slice A n cap⟩) _ hg3 (by simp) (by simp) (jF _ rfl);have hkf:z4 [ga] w3 (w3.setRow ga (zF ⟨5,0,.slice A n cap⟩)):=⟨rfl,rfl,rfl,by simp[World.setRow],fun x _ hx=>setRow_other w3 ga x _ (by simpa using hx)⟩
  have Hfin:=Lib.hid (setRow_heap w3 ga _ (zF ⟨5,0,.slice A n cap⟩) _ _ hg3);have HBf:=Lib.hid (hB3.trans (hkf.below (by have:=hB3.size;have:=Hga.out;omega) (by simp)));have HO:=Lib.hid ((hown.kept hkf (fun x hx=>by have:=hown.at_base hx;simp;omega)).mono (B':=w.heap.size) (by have:=Hga.out;omega));clear hkf hg3 hB3 hown hb3;(go_wp2_with fail);refine bodyPost_ret (results_cell_row Tryz.results21 _ _ ga 43 (zF ⟨5,0,.slice A n cap⟩) (0,0) _ rfl Hfin.out Tryz.underlying43 rfl (by rw[qK];exact xI)) rfl ?_;exact⟨A,n,cap,rfl,HO.out,by rw[Hga.out];exact HBf.out⟩
theorem zp (w:World) (g:Nat) (t:ByteArray) (I:List zJ) (x:RV) (h:v7 w g t I x) (ht:t.size<=9223372036854775807) (hk:yO t=1) :
    Calls Tryz.prog 21 #[.pointer (some ⟨g,0,none⟩)] w fun e w'=>e = .returned (.agg (zF ⟨1,x.tal,.slice none 0 0⟩))/\Below w.heap.size w w':=by
  obtain⟨si,sa,sg,sl,sm,so,ss,sd,h⟩:=h;have c1:=fun w=>fD t w ht;rw[hk]at c1;have hB:Below w.heap.size w (w.alloc (.cells (zF yM) 43)):=(Below.refl _ _).alloc (Nat.le_refl _) _;have h1:=h.below hB;have hg1:(w.alloc (.cells (zF yM) 43)).heap[w.heap.size]? = some (.cells (zF yM) 43 (0,0)):=heap_alloc_new w _;go_enter Tryz.func21,Tryz.ntmps21
  go_upto_region 1 with fail
  obtain⟨ga,hga⟩:∃ga,w.heap.size=ga:=⟨_,rfl⟩
  have Hga:=Lib.hid hga;rw[hga]at hg1 hB |-;obtain⟨W,hW⟩:∃W,W=w.alloc (.cells (zF yM) 43):=⟨_,rfl⟩
  rw[<-hW]at h1 hg1 hB |-;clear hW hga h;have hc0:W.cell? ⟨g,0,none⟩=some (.string t):=h1.cell 0 rfl;(go_wp2_with fail);refine(c1 _).mono ?_;rintro e w2 ⟨rfl,hb2⟩;have h2:=h1.below hb2;have hg2:=(hb2.block ga (Array.getElem?_eq_some_iff.1 hg1).1).trans hg1;have hB2:Below ga w w2:=hB.trans (hb2.mono (by have:=hB.size;have:=Hga.out;omega));have hs2:ga<w2.heap.size:=(Array.getElem?_eq_some_iff.1 hg2).1;clear hc0 h1 hg1 hB hb2 c1;have hgv:w2.cell? ⟨g,2,none⟩=some (.int .i64 x.tal):=h2.cell 2 rfl;clear h2;obtain⟨w3,rfl⟩:∃w3,w3=w2:=⟨_,rfl⟩
  have hg3:=hg2;have hB3:=hB2;clear hg2 hB2;have hsto:=yA (P:=Tryz.prog) xI w3 ga (zF yM) (zF ⟨1,x.tal,.slice none 0 0⟩) _ hg3 (by simp) (by simp) (jF _ rfl);have hkf:z4 [ga] w3 (w3.setRow ga (zF ⟨1,x.tal,.slice none 0 0⟩)):=⟨rfl,rfl,rfl,by simp[World.setRow],fun x _ hx=>setRow_other w3 ga x _ (by simpa using hx)⟩
  have Hfin:=Lib.hid (setRow_heap w3 ga _ (zF ⟨1,x.tal,.slice none 0 0⟩) _ _ hg3);have HBf:=Lib.hid (hB3.trans (hkf.below (by have:=hB3.size;have:=Hga.out;omega) (by simp)));clear hkf hg3 hB3;(go_wp2_with fail);refine bodyPost_ret (results_cell_row Tryz.results21 _ _ ga 43 (zF ⟨1,x.tal,.slice none 0 0⟩) (0,0) _ rfl Hfin.out Tryz.underlying43 rfl (by rw[qK];exact xI)) rfl ?_;exact⟨rfl,by rw[Hga.out];exact HBf.out⟩
theorem rvvalue (w:World) (g:Nat) (t:ByteArray) (I:List zJ) (x:RV) (h:v7 w g t I x) (ht:t.size<=9223372036854775807) (hk:yO t≠0) (hok:lD x) (hl:x.len<=10000) :
    Calls Tryz.prog 21 #[.pointer (some ⟨g,0,none⟩)] w fun e w'=>∃A n cap,e = .returned (.agg (zF ⟨yO t,numR (yO t) x,.slice A n cap⟩))/\Own w' w.heap.size 122 2 A n cap ((kh (yO t) x).map zN)/\Below w.heap.size w w':=by
  unfold RV.len at hl;rcases fU t with e | e | e | e | e | e
  · exact absurd e hk
  · rw[e];exact(zp w g t I x h ht e).mono fun e w' ⟨h1,h2⟩=>⟨none,0,0,h1,Own.nil _ _ _ _,h2⟩
  · rw[e];exact zu w g t I x ((kD (gR x.adds x.gone)).map gM) h ht e fun w' si sa sg sl sm so ss sd h' =>
      (rlist3 w' g x.adds x.gone ⟨sa.A,sa.n,sa.c,sg.A,sg.n,sg.c,h'.cell 3 rfl,h'.cell 4 rfl,h'.adds.1.rd,h'.gone.1.rd⟩ (by omega) (by omega)).mono fun e w'' ⟨A,cap,h1,h2,h3⟩ =>
        ⟨A,_,cap,h1,(by rw[List.map_map];exact h2),h3⟩
  · rw[e];exact zt w g t I x ((xR x.last).map mB) h ht e fun w' si sa sg sl sm so ss sd h' =>
      (rlistL w' sl.A sl.n sl.c x.last h'.last.1.rd (by have:=h'.lens;omega)).mono fun e w'' ⟨A,cap,h1,h2,h3⟩=>⟨A,_,cap,h1,h2,h3⟩
  · rw[e];exact zr w g t I x (kY (lvM x.mL x.mO)) h ht e fun w' si sa sg sl sm so ss sd h' =>
      (rmlist w' g x.mL x.mO ⟨sm.A,sm.n,sm.c,so.A,so.n,so.c,h'.cell 6 rfl,h'.cell 7 rfl,h'.mL.1.rd,h'.mO.1.rd⟩ (by omega) (by omega)).mono fun e w'' ⟨A,n,cap,h1,h2,h3⟩=>⟨A,n,cap,h1,h2,h3⟩
  · rw[e];exact zq w g t I x (mD x.sL x.sG) h ht e fun w' si sa sg sl sm so ss sd h' =>
      (rslist w' g x.sL x.sG ⟨ss.A,ss.n,ss.c,sd.A,sd.n,sd.c,h'.cell 8 rfl,h'.cell 9 rfl,h'.sL.1.rd,h'.sG.1.rd⟩ hok.sL (by omega) (by omega)).mono fun e w'' ⟨A,n,cap,h1,h2,h3⟩=>⟨A,n,cap,h1,h2,h3⟩
def pow256:Nat->Int | 0=>1 | k+1=>256*pow256 k
section
open Go.RowKit
end
section
open Go.RowKit
end
section
open Go.RowKit
end
section
open Go.RowKit
end
section
open Go.RowKit
end
section
open Go.RowKit
end
section
open Go.RowKit
end
section
open Go.RowKit
end
section
open Go.RowKit
end
section
open Go.RowKit
end
section
open Go.RowKit
end
section
open Go.RowKit
end
section
open Go.RowKit
def Small (w:World) (x:Nat):Prop:=∀o k cs,32<=k->z9 w x o k=some cs->False
theorem XI {w:World} {x:Nat} {cs:Array Value} {t:TypeId} {f:Nat×Nat} (h:w.heap[x]? = some (.cells cs t f)) (hs:cs.size<32):Small w x:=fun o k c hk hr=>by
  unfold z9 at hr;rw[h]at hr;dsimp only at hr;rw[if_neg (by omega)]at hr;cases hr
theorem SlR.kept_small {w w':World} {A:Option Addr} {n k:Nat} {R:List (Array Value)} {S:List Nat} (h:SlR w A n k R) (hk:32<=k) (hw:z4 S w w') (hs:∀x∈S,Small w x):SlR w' A n k R:=by
  refine⟨h.1,fun h0=>?_⟩;obtain⟨q,o,e,hc⟩:=h.2 h0;refine⟨q,o,e,fun i hi=>?_⟩;have hql:=zI (hc i hi);rw[hw.row hql (fun hm=>hs q hm _ _ _ hk (hc i hi)) _ _];exact hc i hi
theorem v7.small {w:World} {g:Nat} {t:ByteArray} {I:List zJ} {x:RV} (h:v7 w g t I x):Small w g:=by
  obtain⟨si,sa,sg,sl,sm,so,ss,sd,h⟩:=h;exact XI h.hp (by simp[rvC])
section
variable {w w':World} {M S:List Nat}
end
def rS (m:zG) (I:List zJ):List zJ:=if m.id∈I then I else m.id :: I
def aQ (t:ByteArray) (m:zG) (I:List zJ) (s:VSt):VSt:=if m.id∈I then s else t7 t m s
def cC (t:ByteArray) (m:zG) (I:List zJ) (x:RV):RV:=if m.id∈I then x else fE t m x
structure Told (t:ByteArray) (i:Nat) (I:List zJ) (s:VSt):Prop where
  kind:s.kind=yO t
  len:s.len<=i
  big:s.big<=9*i
  ris:s.ris
  ids:I.length<=i
structure iN (t:ByteArray) (i:Nat) (I:List zJ) (s:VSt) (x:RV):Prop extends Told t i I s where
  rel:aL x s
  ok:lD x
  xlen:x.len<=9*i
theorem Told.step {t:ByteArray} {i:Nat} {I:List zJ} {s:VSt} (h:Told t i I s) (m:zG):Told t (i+1) (rS m I) (aQ t m I s):=by
  have h1:=h.len;have h2:=h.big;have h3:=h.ids;unfold rS aQ;by_cases hm:m.id∈I
  · rw[if_pos hm,if_pos hm];exact⟨h.kind,by omega,by omega,h.ris,by omega⟩
  · rw[if_neg hm,if_neg hm];have h4:=qe t m s;have h5:=qf t m s;exact⟨(K0 t m s).trans h.kind,by omega,by omega,qd t m s h.ris,by simp;omega⟩
theorem iN.step {t:ByteArray} {i:Nat} {I:List zJ} {s:VSt} {x:RV} (h:iN t i I s x) (m:zG):iN t (i+1) (rS m I) (aQ t m I s) (cC t m I x):=by
  refine⟨h.toTold.step m,?_,?_,?_⟩
  · unfold aQ cC;by_cases hm:m.id∈I
    · rw[if_pos hm,if_pos hm];exact h.rel
    · rw[if_neg hm,if_neg hm];exact V8 h.rel h.kind.symm
  · unfold cC;by_cases hm:m.id∈I
    · rw[if_pos hm];exact h.ok
    · rw[if_neg hm];exact yb h.ok
  · have h1:=h.xlen;unfold cC;by_cases hm:m.id∈I
    · rw[if_pos hm];omega
    · rw[if_neg hm];have:=V6 t m x;omega
theorem iN.new (t:ByteArray) (hk:yO t≠0):iN t 0 [] (VSt.new (yO t)) rv0:=by
  refine⟨⟨?_,?_,?_,?_,by simp⟩,rel_new _,rvOk0,by simp[rv0,RV.len]⟩
  all_goals
    rcases fU t with e | e | e | e | e | e
    · exact absurd e hk
    all_goals (rw[e];first | rfl | trivial | exact Nat.le_refl _ | exact Ris.nil)
theorem XL (m:zG) (w:World) (g:Nat) (t:ByteArray) (I:List zJ) (x:RV) (h:v7 w g t (yF zO I) x) (hI:I.length<=1000) (hs:m.body.size<=9223372036854775807) (ht:t.size<=9223372036854775807) (hok:lD x) (hl:x.len<=10000) :
    Calls Tryz.prog 20 #[.pointer (some ⟨g,0,none⟩),.agg (zL m)] w fun e w'=>e = .returned (.bool (!decide (m.id∈I)))/\v7 w' g t (yF zO (rS m I)) (cC t m I x)/\z4 [g] w w':=by
  have hlen:=qF (c:=zO) I;by_cases hm:m.id∈I
  · refine(JY m w g t _ x h ((qI qP).2 hm) (by omega)).mono ?_;rintro e w' ⟨rfl,hb⟩;rw[decide_eq_true hm];unfold rS cC;rw[if_pos hm,if_pos hm];exact⟨rfl,h.below hb,(z4.of_below hb).mono (by simp)⟩
  · refine(JZ m w g t _ x h (fun hx=>hm ((qI qP).1 hx)) (xE qP _) (by omega) hs ht hok hl).mono ?_;rintro e w' ⟨rfl,h1,h2⟩;rw[decide_eq_false hm];unfold rS cC;rw[if_neg hm,if_neg hm,<-ids_cons];exact⟨rfl,h1,h2⟩
section
variable {t:ByteArray} {i:Nat} {I:List zJ} {s:VSt} {x:RV}
end
end
def incL (n:Nat):List UInt8:=beL 1 1++beL 4 (n+2147483648)
def id1v:zJ:=⟨1 :: List.replicate 31 0,by simp⟩
@[go_sem ↓] theorem buildId1v_run (w:World):(Instr.build 24 #[(0,.int .u8 1)]).run Tryz.prog w = .ok (.agg (idC id1v)) w:=by kernel_rfl
def caS:ByteArray:=⟨#[99,97]⟩
def YJ (x y:zG):Bool:=(x.id==y.id)&&((x.h==y.h)&&(x.body.toList==y.body.toList))
def OncePre (R:List zG) (i k:Nat):Prop:=∀a b (ha:a<R.length) (hb:b<R.length),b<a->(a<i\/(a=i/\b<k))->(R[a]).id=(R[b]).id->R[a]=R[b]
section
open Go.RowKit Stb
theorem eq_pairs (w:World) (A B:Option Addr) (n m cap cap':Nat) (X Y:List xZ) (hx:xL w A n X) (hy:xL w B m Y) (hn:n<=1000000) (hm:m<=1000000) :
    Calls Tryz.prog 60 #[.slice A n cap,.slice B m cap'] w fun e w'=>e = .returned (.bool (decide (X=Y)))/\Below w.heap.size w w':=by
  have hlx:=xL.len hx;have hly:=xL.len hy;have Hlx:=Lib.hid hlx;have Hly:=Lib.hid hly;by_cases hnm:n=m
  · subst hnm;clear hlx hly;go_enter Tryz.func60,Tryz.ntmps60
    (go_wp2_with fail);go_loopw [13] (fun i wr=>∃k:Nat,k<=n/\i = .int .i64 k/\Hid (X.take k=Y.take k)/\Below w.heap.size w wr) (fun i _=>n-(intOf i).toNat)
    case atStart=>exact⟨0,Nat.zero_le _,rfl,rfl,Below.refl _ _⟩
    case round =>
      obtain⟨k,hk,rfl,heq,hb⟩:=hrel;by_cases hlt:k<n
      · obtain⟨q,o,rfl,hr,_,_⟩:=xL.get (SlR.below hx hb) hlt (by rw[Hlx.out];exact hlt);obtain⟨q2,o2,rfl,hr2,_,_⟩:=xL.get (SlR.below hy hb) hlt (by rw[Hly.out];exact hlt);have hX:X.take (k+1)=X.take k ++ [X[k]'(by rw[Hlx.out];exact hlt)]:=by rw[List.take_add_one,List.getElem?_eq_getElem (by rw[Hlx.out];exact hlt)];rfl
        have hY:Y.take (k+1)=Y.take k ++ [Y[k]'(by rw[Hly.out];exact hlt)]:=by rw[List.take_add_one,List.getElem?_eq_getElem (by rw[Hly.out];exact hlt)];rfl
        obtain⟨x,hx'⟩:∃x,X[k]'(by rw[Hlx.out];exact hlt)=x:=⟨_,rfl⟩
        obtain⟨y,hy'⟩:∃y,Y[k]'(by rw[Hly.out];exact hlt)=y:=⟨_,rfl⟩
        rw[hx']at hr hX;rw[hy']at hr2 hY;have HX:=Lib.hid hX;have HY:=Lib.hid hY;clear hX hY;have HX':=Lib.hid hx';have HY':=Lib.hid hy';clear hx' hy';go_upto_region 6 with fail
        refine zA (Bel wr) false (by kernel_rfl) (by kernel_rfl) (by kernel_rfl) (zC wr) ?_;have hne:=zQ wr;have hS:=zC wr;have b1:=zY hr;have b2:=zY hr2;repeat(refine z6 ?_ ?_;(focus(simp only[z3];done));intro K hK;go_simp;refine hK _ ?_;clear hK K)
        refine zK ?_;intro hS;clear hne hS b1 b2 hr hr2;have hb':Below w.heap.size w wr.drew:=hb.drew;cases hpe:bR x y with
        | true =>
          have e:=(vX x y).1 hpe;have E:=Lib.hid e;clear e;(go_wp2_with fail);go_roundw
          case rel=>exact⟨k+1,by omega,by go_num,(show X.take (k+1)=Y.take (k+1) by rw[HX.out,HY.out,heq.out,E.out]),hb'⟩
          case measure=>simp[intOf];omega
        | false =>
          have hne:X≠Y:=by
            intro e;subst e;have:x=y:=HX'.out.symm.trans HY'.out;rw[(vX x y).2 this]at hpe;cases hpe
          have hd:=Lib.hid (decide_eq_false hne);clear hne;(go_wp2_with fail);go_ret;exact⟨zS (by rw[hd.out]),hb'⟩
      · have hkn:k=n:=by omega
        have e:X=Y:=by
          have:=heq.out
          rwa [List.take_of_length_le (by rw[Hlx.out];omega),List.take_of_length_le (by rw[Hly.out];omega)]at this
        have E:=Lib.hid (decide_eq_true e);clear e hkn;(go_wp2_with fail);go_ret;exact⟨zS (by rw[E.out]),hb⟩
  · have hne:X≠Y:=fun e=>hnm (by rw[<-hlx,<-hly,e]);have hd:=Lib.hid (decide_eq_false hne);have hni:((n:Int) != (m:Int))=true:=by simp;omega
    clear hne hnm hlx hly;go_enter Tryz.func60,Tryz.ntmps60
    (go_wp2_with fail);go_ret;exact⟨zS (by rw[hd.out]),Below.refl _ _⟩
theorem dsame (w:World) (k n k' n':Int) (A B:Option Addr) (m m' c c':Nat) (X Y:List xZ) (hx:xL w A m X) (hy:xL w B m' Y) (hm:m<=1000000) (hm':m'<=1000000) :
    Calls Tryz.prog 24 #[.agg (zF ⟨k,n,.slice A m c⟩),.agg (zF ⟨k',n',.slice B m' c'⟩)] w fun e w'=>e = .returned (.bool (decide (k=k'/\n=n'/\X=Y)))/\Below w.heap.size w w':=by
  have hB:Below w.heap.size w ((w.alloc (.cells (zF ⟨k,n,.slice A m c⟩) 43)).alloc (.cells (zF ⟨k',n',.slice B m' c'⟩) 43)):=((Below.refl _ _).alloc (Nat.le_refl _) _).alloc (by simp) _;have ce:=eq_pairs _ A B m m' c c' X Y (SlR.below hx hB) (SlR.below hy hB) hm hm';obtain⟨b,hb⟩:∃b,decide (X=Y)=b:=⟨_,rfl⟩
  rw[hb]at ce;have Hb:=Lib.hid hb;clear hb hx hy;by_cases h1:k=k'
  · subst h1;by_cases h2:n=n'
    · subst h2;go_enter Tryz.func24,Tryz.ntmps24
      (go_wp2_with fail);refine ce.mono ?_;rintro e w1 ⟨rfl,hb1⟩;clear ce;(go_wp2_with fail);go_ret;exact⟨zS (by rw[<-Hb.out];simp),xM hB hb1⟩
    · have hn2:(n==n')=false:=by simpa using h2
      have H2:=Lib.hid h2;clear h2 ce;go_enter Tryz.func24,Tryz.ntmps24
      (go_wp2_with fail);go_ret;exact⟨zS (by have:=H2.out;simp[this]),hB⟩
  · have hn1:(k==k')=false:=by simpa using h1
    have H1:=Lib.hid h1;clear h1 ce;go_enter Tryz.func24,Tryz.ntmps24
    (go_wp2_with fail);go_ret;exact⟨zS (by have:=H1.out;simp[this]),hB⟩
end
section
open Go.RowKit Stb
def id2v:zJ:=⟨2 :: List.replicate 31 0,by simp⟩
@[go_sem ↓] theorem buildId2v_run (w:World):(Instr.build 24 #[(0,.int .u8 2)]).run Tryz.prog w = .ok (.agg (idC id2v)) w:=by kernel_rfl
@[go_sem] theorem buildMark1 (s:ByteArray) (w:World):(bdS 45 #[(0,.agg (idC id1v)),(2,.string s)]).run Tryz.prog w = .ok (.agg (zL ⟨id1v,0,s⟩)) w:=by kernel_rfl
@[go_sem] theorem buildMark2 (s:ByteArray) (w:World):(bdS 45 #[(0,.agg (idC id2v)),(2,.string s)]).run Tryz.prog w = .ok (.agg (zL ⟨id2v,0,s⟩)) w:=by kernel_rfl
@[go_sem] theorem bsMark2_run (a b:ByteArray) (w:World):(bsS 40 2 #[(0,.agg (zL ⟨id1v,0,a⟩)),(1,.agg (zL ⟨id2v,0,b⟩))]).run Tryz.prog w = .ok (.slice (some ⟨w.heap.size,0,none⟩) 2 2) (w.alloc (.cells (zL ⟨id1v,0,a⟩++zL ⟨id2v,0,b⟩) 45)):=by kernel_rfl
end
section
open Go.RowKit Stb
def byteI (b:Int):Array Value:=#[.int .u8 b]
end
section
open Go.RowKit Stb
structure JJ (t:ByteArray) (P:List zG) (I:List zJ) (s:VSt):Prop where
  ids:∀d,d∈I↔d∈P.map zG.id
  st:fA ((qS P).filter fun m=>decide (kE t m)) s
theorem xo (t:ByteArray) (k:Int):JJ t [] [] (VSt.new k):=⟨fun _=>Iff.rfl,Z5 k⟩
theorem VS {t:ByteArray} {P:List zG} {I:List zJ} {s:VSt} (h:JJ t P I s) (m:zG):JJ t (P ++ [m]) (rS m I) (aQ t m I s):=by
  unfold rS aQ;by_cases hi:m.id∈I
  · rw[if_pos hi,if_pos hi];have hm:=(Z3 P m.id).2 ((h.ids _).1 hi);refine⟨fun d=>?_,?_⟩
    · rw[h.ids d,List.map_append,List.mem_append];refine⟨.inl,fun hh=>hh.elim id fun hh=>?_⟩;have e:d=m.id:=by simpa using hh
      rw[e];exact(h.ids _).1 hi
    · rw[mV];unfold qN;rw[if_pos hm];exact h.st
  · rw[if_neg hi,if_neg hi];have hm:m.id∉(qS P).map zG.id:=fun hh=>hi ((h.ids _).2 ((Z3 P m.id).1 hh));refine⟨fun d=>?_,?_⟩
    · rw[List.mem_cons,h.ids d,List.map_append,List.mem_append];simp[or_comm]
    · rw[mV];unfold qN;rw[if_neg hm,List.filter_append];unfold t7;by_cases hf:kE t m
      · have e:[m].filter (fun m=>decide (kE t m)) = [m]:=by simp[hf]
        rw[if_pos hf,e];exact eK h.st (fF _ hf.1).2.2.2.2.1 (fun a ha e=>hm (List.mem_map.2 ⟨a,(List.mem_filter.1 ha).1,e⟩))
      · have e:[m].filter (fun m=>decide (kE t m)) = []:=by simp[hf]
        rw[if_neg hf,e,List.append_nil];exact h.st
theorem xn {t:ByteArray} {P:List zG} {I:List zJ} {s:VSt} (h:JJ t P I s) (hk0:yO t≠0) (hk:s.kind=yO t):dN t=s.kind/\gZ t P=s.num/\wP t P=s.pairs:=by
  have hp:((qS P).filter fun m=>decide (kE t m)).Perm (kK t P):=((lI P).symm).filter _;have hr:=fU t;have h2:=Q4 hp ((lN P).sub List.filter_sublist) h.st (r6 t P) (hk.trans (XG (k:=yO t) (by omega) (by omega) _).symm);exact⟨hk.symm,(if_neg hk0).trans h2.1.symm,(if_neg hk0).trans h2.2.symm⟩
@[go_sem ↓] theorem slMark_rw (x:Value) (lo hi mx:Option Value):Instr.sliceAt 40 x lo hi mx=slS 40 x lo hi mx:=rfl
end
section
open Go.RowKit Stb
theorem SlX.none27 {w:World} {g k:Nat}:SlX w g ⟨none,0,0⟩ k []:=⟨SlW.none_,by simp[blk]⟩
theorem vl (t:ByteArray) (w:World):v7 (w.alloc (.cells (rvC t ⟨none,0,0⟩ 0 ⟨none,0,0⟩ ⟨none,0,0⟩ ⟨none,0,0⟩ ⟨none,0,0⟩ ⟨none,0,0⟩ ⟨none,0,0⟩ ⟨none,0,0⟩) 78)) w.heap.size t [] rv0 :=
  ⟨⟨none,0,0⟩,⟨none,0,0⟩,⟨none,0,0⟩,⟨none,0,0⟩,⟨none,0,0⟩,⟨none,0,0⟩,⟨none,0,0⟩,⟨none,0,0⟩,heap_alloc_new w _,SlX.none27,SlX.none27,SlX.none27,SlX.none27,SlX.none27,SlX.none27,SlX.none27,SlX.none27⟩
theorem XM (t:ByteArray) (A:Option Addr) (n cap:Nat) (R:List zG) (w:World) (hm:q9 w A n R) (hn:n<=30) (hs:∀m∈R,m.body.size<=600) (ht:t.size<=9223372036854775807) (hpl:(wP t R).length<=1000000) :
    Calls Tryz.prog 10 #[.string t,.slice A n cap] w fun e w'=>∃A2 n2 cap2,e = .returned (.tuple #[.agg (zF ⟨dN t,gZ t R,.slice A2 n2 cap2⟩),.int .i64 (xN t)])/\(xL w' A2 n2 (wP t R)/\n2<=1000000)/\Below w.heap.size w w':=by
  have hB:Below w.heap.size w (w.alloc (.cells (zF yM) 43)):=(Below.refl _ _).alloc (Nat.le_refl _) _;have hg1:(w.alloc (.cells (zF yM) 43)).heap[w.heap.size]? = some (.cells (zF yM) 43 (0,0)):=heap_alloc_new w _;have c1:=fun w=>fD t w ht;have hnx:R.length=n:=hm.len;have Hnx:=Lib.hid hnx;clear hnx;by_cases hk:yO t=0
  · have e1:gZ t R=0:=if_pos hk;have e2:wP t R = []:=if_pos hk;have e3:dN t=0:=hk;have e4:xN t=9:=if_pos hk;rw[e1,e2,e3,e4];rw[hk]at c1;clear e1 e2 e3 e4 hpl hk;go_enter Tryz.func10,Tryz.ntmps10
    go_upto_region 1 with fail
    obtain⟨ga,hga⟩:∃ga,w.heap.size=ga:=⟨_,rfl⟩
    have Hga:=Lib.hid hga;rw[hga]at hg1 hB |-;obtain⟨W,hW⟩:∃W,W=w.alloc (.cells (zF yM) 43):=⟨_,rfl⟩
    rw[<-hW]at hg1 hB |-;clear hW hga;(go_wp2_with fail);refine(c1 _).mono ?_;rintro e W4 ⟨rfl,hb1⟩;have hg4:=(hb1.block ga (Array.getElem?_eq_some_iff.1 hg1).1).trans hg1;have hB4:Below ga w W4:=hB.trans (hb1.mono (by have:=hB.size;have:=Hga.out;omega));clear hg1 hB hb1 c1;have hsto:=yA (P:=Tryz.prog) xI W4 ga (zF yM) (zF yM) _ hg4 (by simp) (by simp) (jF _ rfl);have hkf:z4 [ga] W4 (W4.setRow ga (zF yM)):=⟨rfl,rfl,rfl,by simp[World.setRow],fun x _ hx=>setRow_other W4 ga x _ (by simpa using hx)⟩
    have Hfin:=Lib.hid (setRow_heap W4 ga _ (zF yM) _ _ hg4);have HBf:=Lib.hid (hB4.trans (hkf.below (by have:=hB4.size;have:=Hga.out;omega) (by simp)));clear hkf hg4 hB4;(go_wp2_with fail);refine bodyPost_ret (yI Tryz.results10 _ _ ga 43 (zF yM) (0,0) _ rfl Hfin.out Tryz.underlying43 rfl (by rw[qK];exact xI)) rfl ?_;exact⟨none,0,0,rfl,⟨SlR.nil_,by omega⟩,by rw[Hga.out];exact HBf.out⟩
  · have e4:xN t=0:=if_neg hk;have hT0:=iN.new t hk;have hM0:=xo t (yO t);rw[e4];obtain⟨s0,hs0⟩:∃s0,VSt.new (yO t)=s0:=⟨_,rfl⟩
    rw[hs0]at hT0 hM0;have Hk:=Lib.hid hk;have HT0:=Lib.hid hT0;have HM0:=Lib.hid hM0;have Hs:=Lib.hid hs;have hkb:(yO t==0)=false:=by simpa using hk
    obtain⟨kk,hkk⟩:∃kk,yO t=kk:=⟨_,rfl⟩
    rw[hkk]at hkb;simp only[hkk]at c1;clear hk hs0 hT0 hM0 e4 hs hkk;go_enter Tryz.func10,Tryz.ntmps10
    go_upto_region 1 with fail
    obtain⟨ga,hga⟩:∃ga,w.heap.size=ga:=⟨_,rfl⟩
    have Hga:=Lib.hid hga;rw[hga]at hg1 hB |-;obtain⟨W,hW⟩:∃W,W=w.alloc (.cells (zF yM) 43):=⟨_,rfl⟩
    rw[<-hW]at hg1 hB |-;clear hW hga;(go_wp2_with fail);refine(c1 _).mono ?_;rintro e W4 ⟨rfl,hb1⟩;have hg4:=(hb1.block ga (Array.getElem?_eq_some_iff.1 hg1).1).trans hg1;have hB4:Below ga w W4:=hB.trans (hb1.mono (by have:=hB.size;have:=Hga.out;omega));clear hg1 hB hb1 c1;have hz4:ga<W4.heap.size:=(Array.getElem?_eq_some_iff.1 hg4).1;have hx0:v7 (W4.alloc (.cells #[.string t,.slice none 0 0,.int .i64 0,.slice none 0 0,.slice none 0 0,.slice none 0 0,.slice none 0 0,.slice none 0 0,.slice none 0 0,.slice none 0 0] 78)) W4.heap.size t [] rv0:=vl t W4;have hb5:Below W4.heap.size W4 (W4.alloc (.cells #[.string t,.slice none 0 0,.int .i64 0,.slice none 0 0,.slice none 0 0,.slice none 0 0,.slice none 0 0,.slice none 0 0,.slice none 0 0,.slice none 0 0] 78)):=(Below.refl _ _).alloc (Nat.le_refl _) _;have hg5:=(hb5.block ga hz4).trans hg4;have hB5:Below ga w _:=hB4.trans (hb5.mono (by omega));go_upto_region 4 with fail
    obtain⟨gx,hgxe⟩:∃gx,W4.heap.size=gx:=⟨_,rfl⟩
    obtain⟨W5,hW5⟩:∃W5,(W4.alloc (.cells #[.string t,.slice none 0 0,.int .i64 0,.slice none 0 0,.slice none 0 0,.slice none 0 0,.slice none 0 0,.slice none 0 0,.slice none 0 0,.slice none 0 0] 78))=W5:=⟨_,rfl⟩
    rw[hW5]at hx0 hg5 hB5 |-;rw[hgxe]at hx0 hz4 |-;have hmr:q9 W5 A n R:=SlR.below hm (hB5.mono (by rw[Hga.out];exact Nat.le_refl _));clear hW5 hgxe hb5 hg4 hB4;(go_wp2_with fail);go_loopw [7] (fun iv wr=>∃(i:Nat) (I:List zJ) (s:VSt) (x:RV),i<=n/\iv = .int .i64 i/\v7 wr gx t (yF zO I) x/\Hid (iN t i I s x)/\Hid (JJ t (R.take i) I s)/\z4 [gx] W5 wr) (fun iv _=>n-(intOf iv).toNat)
    case atStart=>exact⟨0,[],s0,rv0,Nat.zero_le _,rfl,hx0,HT0,HM0,z4.refl _ _⟩
    case round =>
      obtain⟨i,I,s,x,hi,rfl,hX,HT,HM,hkr⟩:=hrel;by_cases hlt:i<n
      · have hrowsr:q9 wr A n R:=SlR.kept_small hmr (by omega) hkr (fun y hy=>by rw[List.mem_singleton.1 hy];exact hx0.small);clear hx0 HT0 HM0;obtain⟨gm,om,rfl,hrow,hid,hbody⟩:=q9.get hrowsr hlt (by rw[Hnx.out];exact hlt);have hms:=Hs.out (R[i]'(by rw[Hnx.out];exact hlt)) (List.getElem_mem (by rw[Hnx.out];exact hlt));have htk:R.take (i+1)=R.take i ++ [R[i]'(by rw[Hnx.out];exact hlt)]:=by rw[List.take_add_one,List.getElem?_eq_getElem (by rw[Hnx.out];exact hlt)];rfl
        obtain⟨m,hm'⟩:∃m,R[i]'(by rw[Hnx.out];exact hlt)=m:=⟨_,rfl⟩
        rw[hm']at hrow hms htk;have cf:=XL m wr gx t I x hX (by have:=HT.out.ids;omega) (by omega) ht HT.out.ok (by have:=HT.out.xlen;omega);have hT':=HT.out.step m;have hM':=VS HM.out m;rw[<-htk]at hM';have HT':=Lib.hid hT';have HM':=Lib.hid hM';clear hm' hid hbody hT' hM' HT HM htk hms hrowsr;(go_wp2_with fail);refine cf.mono ?_;rintro e w3 ⟨rfl,hX3,hk3⟩;have hk5:z4 [gx] W5 w3:=z4.trans hkr hk3 (fun y hy=>.inl hy);clear cf hrow hkr hk3 hX;(go_wp2_with fail);go_roundw
        case rel=>exact⟨i+1,_,_,_,by omega,by go_num,hX3,HT',HM',hk5⟩
        case measure=>simp[intOf];omega
      · have e:R.take i=R:=List.take_of_length_le (by rw[Hnx.out];omega);have hM:=HM.out;rw[e]at hM;have hv:=xn hM Hk.out HT.out.kind;have c:=rvvalue wr gx t (yF zO I) x hX ht Hk.out HT.out.ok (by have:=HT.out.xlen;omega);rw[<-HT.out.kind,rel_num HT.out.rel,yc HT.out.rel,<-hv.1,<-hv.2.1,<-hv.2.2]at c;have hgr:=(hkr.block ga (Array.getElem?_eq_some_iff.1 hg5).1 (by simp;omega)).trans hg5;have hBr:Below ga w wr:=hB5.trans (hkr.below (by have:=(Array.getElem?_eq_some_iff.1 hg5).1;omega) (by simp;omega));clear hx0 HT0 HM0 hX HT HM hM e hv hkr hg5 hB5 hmr;(go_wp2_with fail);refine c.mono ?_;rintro e w6 ⟨A2,n2,cap2,rfl,hown,hb6⟩;have hzr:=(Array.getElem?_eq_some_iff.1 hgr).1;have hg6:=(hb6.block ga hzr).trans hgr;have hB6:Below ga w w6:=hBr.trans (hb6.mono (by omega));have hl2:(wP t R).length=n2:=by simpa using hown.len
        have hn2:n2<=1000000:=by omega
        have hsto:=yA (P:=Tryz.prog) xI w6 ga (zF yM) (zF ⟨dN t,gZ t R,.slice A2 n2 cap2⟩) _ hg6 (by simp) (by simp) (jF _ rfl);have hkf:z4 [ga] w6 (w6.setRow ga (zF ⟨dN t,gZ t R,.slice A2 n2 cap2⟩)):=⟨rfl,rfl,rfl,by simp[World.setRow],fun x _ hx=>setRow_other w6 ga x _ (by simpa using hx)⟩
        have Hfin:=Lib.hid (setRow_heap w6 ga _ (zF ⟨dN t,gZ t R,.slice A2 n2 cap2⟩) _ _ hg6);have HBf:=Lib.hid (hB6.trans (hkf.below (by have:=hB6.size;have:=Hga.out;omega) (by simp)));have HO:=Lib.hid (hown.kept hkf (fun x hx=>by have:=(hown.at_base hx).1;simp;omega)).slr;clear hkf hg6 hB6 hgr hBr hb6 hzr c hl2 hown hpl;(go_wp2_with fail);refine bodyPost_ret (yI Tryz.results10 _ _ ga 43 (zF ⟨dN t,gZ t R,.slice A2 n2 cap2⟩) (0,0) _ rfl Hfin.out Tryz.underlying43 rfl (by rw[qK];exact xI)) rfl ?_;exact⟨A2,n2,cap2,rfl,⟨HO.out,hn2⟩,by rw[Hga.out];exact HBf.out⟩
end
def JQ (t:ByteArray) (R:List zG) (k0 v0:Int) (Y:List xZ):Bool:=(xN t==0)&&decide (k0=dN t/\v0=gZ t R/\Y=wP t R)
theorem sW (t:ByteArray) (R:List zG):(wP t R).length<=R.length:=by
  unfold wP;split
  · exact Nat.zero_le _
  · exact Nat.le_trans (ZL t R) (Z2 R)
theorem BY (t:ByteArray) (R:List zG):JQ t R (dN t) (gZ t R) (wP t R)=(xN t==0):=by
  unfold JQ;rw[decide_eq_true ⟨rfl,rfl,rfl⟩,Bool.and_true]
theorem rsameV (w:World) (k n k' n':Int) (A B:Option Addr) (m m' c c':Nat) (X Y:List xZ) (hx:xL w A m X) (hy:xL w B m' Y) (hm:m<=1000000) (hm':m'<=1000000) :
    Calls Tryz.prog 25 #[.agg (zF ⟨k,n,.slice A m c⟩),.agg (zF ⟨k',n',.slice B m' c'⟩)] w fun e w'=>e = .returned (.bool (decide (k=k'/\n=n'/\X=Y)))/\Below w.heap.size w w':=rsame26 w k n k' n' A B m m' c c' X Y hx hy hm hm'
theorem JB (w:World) (t:ByteArray) (A A2:Option Addr) (n cap n2 c2:Nat) (R:List zG) (k0 v0:Int) (Y:List xZ) (hm:q9 w A n R) (hn:n<=20) (hs:∀m∈R,m.body.size<=600) (hp:yZ w) (ht:t.size<=9223372036854775807) (hY:xL w A2 n2 Y) (hn2:n2<=1000000) :
    Calls Tryz.prog 13 #[.string t,.slice A n cap,.agg (zF ⟨k0,v0,.slice A2 n2 c2⟩)] w fun e w'=>e = .returned (.bool (JQ t R k0 v0 Y))/\Below w.heap.size w w':=by
  have hl:=hm.len;have hoR:(qS R).length<=30:=Nat.le_trans (Z2 R) (by omega);obtain⟨V,hV⟩:∃V,zF ⟨k0,v0,.slice A2 n2 c2⟩=V:=⟨_,rfl⟩
  have hB:Below w.heap.size w (w.alloc (.cells V 43)):=(Below.refl _ _).alloc (Nat.le_refl _) _;have hr:z9 (w.alloc (.cells V 43)) w.heap.size 0 3=some V:=by rw[<-hV];simp[go_sem]
  rw[<-hV]at hB hr;have cv:=K4 t A n cap R _ (SlR.below hm hB) (by omega) hoR hs (hp.below hB) ht;have hY1:=SlR.below hY hB;obtain⟨W,hW⟩:∃W,W=w.alloc (.cells (zF ⟨k0,v0,.slice A2 n2 c2⟩) 43):=⟨_,rfl⟩
  have HW:=Lib.hid hW;rw[<-hW]at hB hr cv hY1;clear hW hV hm hp hY;go_enter Tryz.func13,Tryz.ntmps13
  go_upto_region 1 with fail
  rw[<-HW.out];(go_wp2_with fail);refine cv.mono ?_;rintro e w1 ⟨A3,n3,c3,rfl,⟨hP,hn3⟩,hb1⟩;have hr1:=(zB (hb1.block w.heap.size (zI hr)) _ _).trans hr;have hY2:=SlR.below hY1 hb1;have hB1:=xM hB hb1;obtain⟨E,hE⟩:∃E,xN t=E:=⟨_,rfl⟩
  have hT:JQ t R k0 v0 Y=((E==0)&&decide (k0=dN t/\v0=gZ t R/\Y=wP t R)):=by rw[<-hE];rfl
  rw[hE];obtain⟨kk,hkk⟩:∃k,dN t=k:=⟨_,rfl⟩
  obtain⟨nn,hnn⟩:∃k,gZ t R=k:=⟨_,rfl⟩
  obtain⟨pp,hpp⟩:∃k,wP t R=k:=⟨_,rfl⟩
  rw[hkk,hnn,hpp]at hT;rw[hpp]at hP;rw[hkk,hnn];have hB2:Below w.heap.size w (w1.alloc (.cells (zF ⟨kk,nn,.slice A3 n3 c3⟩) 43)):=hB1.alloc hB1.size _;have hba:Below w1.heap.size w1 (w1.alloc (.cells (zF ⟨kk,nn,.slice A3 n3 c3⟩) 43)):=(Below.refl _ _).alloc (Nat.le_refl _) _;have hr2:=(zB (hba.block w.heap.size (zI hr1)) _ _).trans hr1;have hr3:z9 (w1.alloc (.cells (zF ⟨kk,nn,.slice A3 n3 c3⟩) 43)) w1.heap.size 0 3=some (zF ⟨kk,nn,.slice A3 n3 c3⟩):=by simp[go_sem]
  have cs:=dsame (w1.alloc (.cells (zF ⟨kk,nn,.slice A3 n3 c3⟩) 43)) k0 v0 kk nn A2 A3 n2 n3 c2 c3 Y pp (SlR.below hY2 hba) (SlR.below hP hba) hn2 hn3;obtain⟨db,hdb⟩:∃db,decide (k0=kk/\v0=nn/\Y=pp)=db:=⟨_,rfl⟩
  rw[hdb]at cs hT;have HT:=Lib.hid hT;clear cv hr hr1 hB hb1 hB1 hba hP hY1 hY2 hT hE hkk hnn hpp hdb HW;by_cases h0:E=0
  · subst h0;have hT:=HT.out;rw[show((0:Int)==0)=true from rfl,Bool.true_and]at hT;have HT2:=Lib.hid hT;clear hT;(go_wp2_with fail);refine cs.mono ?_;rintro e w2 ⟨rfl,hb2⟩;clear cs;(go_wp2_with fail);go_ret;exact⟨by rw[HT2.out];rfl,xM hB2 hb2⟩
  · have e0:(E==0)=false:=by simpa using h0
    have hT:=HT.out;rw[e0,Bool.false_and]at hT;have HT2:=Lib.hid hT;clear hT cs;(go_wp2_with fail);go_ret;exact⟨by rw[HT2.out];rfl,hB2⟩
theorem ye (w:World) (t:ByteArray) (A A2:Option Addr) (n cap n2 c2:Nat) (R:List zG) (k0 v0:Int) (Y:List xZ) (hm:q9 w A n R) (hn:n<=20) (hs:∀m∈R,m.body.size<=600) (hp:yZ w) (ht:t.size<=9223372036854775807) (hY:xL w A2 n2 Y) (hn2:n2<=1000000) :
    Calls Tryz.prog 14 #[.string t,.slice A n cap,.agg (zF ⟨k0,v0,.slice A2 n2 c2⟩)] w fun e w'=>e = .returned (.bool (JQ t R k0 v0 Y))/\Below w.heap.size w w':=by
  have hl:=hm.len;have hpl:(wP t R).length<=1000000:=Nat.le_trans (sW t R) (by omega);obtain⟨V,hV⟩:∃V,zF ⟨k0,v0,.slice A2 n2 c2⟩=V:=⟨_,rfl⟩
  have hB:Below w.heap.size w (w.alloc (.cells V 43)):=(Below.refl _ _).alloc (Nat.le_refl _) _;have hr:z9 (w.alloc (.cells V 43)) w.heap.size 0 3=some V:=by rw[<-hV];simp[go_sem]
  rw[<-hV]at hB hr;have cv:=XM t A n cap R _ (SlR.below hm hB) (by omega) hs ht hpl;have hY1:=SlR.below hY hB;obtain⟨W,hW⟩:∃W,W=w.alloc (.cells (zF ⟨k0,v0,.slice A2 n2 c2⟩) 43):=⟨_,rfl⟩
  have HW:=Lib.hid hW;rw[<-hW]at hB hr cv hY1;clear hW hV hm hp hY;go_enter Tryz.func14,Tryz.ntmps14
  go_upto_region 1 with fail
  rw[<-HW.out];(go_wp2_with fail);refine cv.mono ?_;rintro e w1 ⟨A3,n3,c3,rfl,⟨hP,hn3⟩,hb1⟩;have hr1:=(zB (hb1.block w.heap.size (zI hr)) _ _).trans hr;have hY2:=SlR.below hY1 hb1;have hB1:=xM hB hb1;obtain⟨E,hE⟩:∃E,xN t=E:=⟨_,rfl⟩
  have hT:JQ t R k0 v0 Y=((E==0)&&decide (k0=dN t/\v0=gZ t R/\Y=wP t R)):=by rw[<-hE];rfl
  rw[hE];obtain⟨kk,hkk⟩:∃k,dN t=k:=⟨_,rfl⟩
  obtain⟨nn,hnn⟩:∃k,gZ t R=k:=⟨_,rfl⟩
  obtain⟨pp,hpp⟩:∃k,wP t R=k:=⟨_,rfl⟩
  rw[hkk,hnn,hpp]at hT;rw[hpp]at hP;rw[hkk,hnn];have hB2:Below w.heap.size w (w1.alloc (.cells (zF ⟨kk,nn,.slice A3 n3 c3⟩) 43)):=hB1.alloc hB1.size _;have hba:Below w1.heap.size w1 (w1.alloc (.cells (zF ⟨kk,nn,.slice A3 n3 c3⟩) 43)):=(Below.refl _ _).alloc (Nat.le_refl _) _;have hr2:=(zB (hba.block w.heap.size (zI hr1)) _ _).trans hr1;have hr3:z9 (w1.alloc (.cells (zF ⟨kk,nn,.slice A3 n3 c3⟩) 43)) w1.heap.size 0 3=some (zF ⟨kk,nn,.slice A3 n3 c3⟩):=by simp[go_sem]
  have cs:=rsameV (w1.alloc (.cells (zF ⟨kk,nn,.slice A3 n3 c3⟩) 43)) k0 v0 kk nn A2 A3 n2 n3 c2 c3 Y pp (SlR.below hY2 hba) (SlR.below hP hba) hn2 hn3;obtain⟨db,hdb⟩:∃db,decide (k0=kk/\v0=nn/\Y=pp)=db:=⟨_,rfl⟩
  rw[hdb]at cs hT;have HT:=Lib.hid hT;clear cv hr hr1 hB hb1 hB1 hba hP hY1 hY2 hT hE hkk hnn hpp hdb HW;by_cases h0:E=0
  · subst h0;have hT:=HT.out;rw[show((0:Int)==0)=true from rfl,Bool.true_and]at hT;have HT2:=Lib.hid hT;clear hT;(go_wp2_with fail);refine cs.mono ?_;rintro e w2 ⟨rfl,hb2⟩;clear cs;(go_wp2_with fail);go_ret;exact⟨by rw[HT2.out];rfl,xM hB2 hb2⟩
  · have e0:(E==0)=false:=by simpa using h0
    have hT:=HT.out;rw[e0,Bool.false_and]at hT;have HT2:=Lib.hid hT;clear hT cs;(go_wp2_with fail);go_ret;exact⟨by rw[HT2.out];rfl,hB2⟩
end Go.Proofs.YtgedpfebepdcmaaGreatDoor
