/- Part 13 of the texts that lead to this claim: the walks of the functions and the plain law, in order. -/
import Derived.Test.YtgedpfebepdcmaaGreatDoorMb12
namespace Go.Proofs.YtgedpfebepdcmaaGreatDoor
open Go.RowKit
set_option maxRecDepth 100000
set_option maxHeartbeats 8000000
theorem QJ {a b:List UInt8} {ha:a.length=32} {hb:b.length=32} (h:a=b):(⟨a,ha⟩:zJ)=⟨b,hb⟩:=zJ.ext' h
def aA (s:StU) (k:Nat):Array Value:=(((s.l.take k).flatMap b4U).map yW++List.replicate (32-4*k) (Value.int .u8 0)).toArray
theorem yo (s:StU):aA s 0=idC id0:=by unfold aA idC id0;simp[yW]
theorem aY (s:StU):s.l.flatMap b4U=bS s:=by simp[StU.l,bS]
theorem yq (s:StU):aA s 8=idC ⟨bS s,qD s⟩:=by
  unfold aA idC;rw[show s.l.take 8=s.l from rfl,aY];simp
theorem flat4 (L:List UInt32):(L.flatMap b4U).length=4*L.length:=by
  induction L with
  | nil=>rfl
  | cons a L ih=>rw[List.flatMap_cons,List.length_append,ih,gV,List.length_cons];omega
theorem yp (s:StU) {k:Nat} (hk:k<=8):(aA s k).size=32:=by
  have h:=flat4 (s.l.take k);have h8:=s.l_len;simp only[aA,List.size_toArray,List.length_append,List.length_map,List.length_replicate,h,List.length_take];omega
theorem km (s:StU) {k:Nat} (hk:k<8) (x:UInt32) (hx:s.l.getD k 0=x) :
    ((((aA s k).setIfInBounds (4*k) (yW (x >>> 24).toUInt8)).setIfInBounds (4*k+1) (yW (x >>> 16).toUInt8)).setIfInBounds (4*k+2) (yW (x >>> 8).toUInt8)).setIfInBounds (4*k+3) (yW x.toUInt8)=aA s (k+1):=by
  have hL:k<s.l.length:=hk;have e1:s.l.take (k+1)=s.l.take k ++ [x]:=by
    rw[List.take_add_one,List.getElem?_eq_getElem hL,<-hx,List.getD_eq_getElem?_getD,List.getElem?_eq_getElem hL];rfl
  obtain⟨P,hP⟩:∃P,((s.l.take k).flatMap b4U).map yW=P:=⟨_,rfl⟩
  have hPl:P.length=4*k:=by rw[<-hP,List.length_map,flat4,List.length_take];have:=s.l_len;omega
  apply Array.ext';unfold aA;rw[e1,List.flatMap_append,List.map_append,hP];simp only[Array.toList_setIfInBounds];rw[show 32-4*k=(28-4*k)+1+1+1+1 by omega,show 32-4*(k+1)=28-4*k by omega];simp only[List.replicate_succ,List.flatMap_cons,List.flatMap_nil,List.append_nil,b4U,List.map_cons,List.map_nil,List.append_assoc];rw[<-hPl];simp[List.set_append]
theorem w24 (x:UInt32):nU x / (16777216:Int) % (256:Int)=(((x >>> 24).toUInt8.toNat:Nat):Int):=by
  have h:=sX x 24 (by omega);rw[show((2:Int) ^ 24)=16777216 from rfl]at h;rw[h];simp[nU]
theorem w16 (x:UInt32):nU x / (65536:Int) % (256:Int)=(((x >>> 16).toUInt8.toNat:Nat):Int):=by
  have h:=sX x 16 (by omega);rw[show((2:Int) ^ 16)=65536 from rfl]at h;rw[h];simp[nU]
theorem w8 (x:UInt32):nU x / (256:Int) % (256:Int)=(((x >>> 8).toUInt8.toNat:Nat):Int):=by
  have h:=sX x 8 (by omega);rw[show((2:Int) ^ 8)=256 from rfl]at h;rw[h];simp[nU]
theorem w0 (x:UInt32):nU x % (256:Int)=((x.toUInt8.toNat:Nat):Int):=by
  simp[nU]
theorem haC_row {w:World} {g:Nat} {s:StU} {r:Value} {n:Int} {T:TypeId} (h:w.heap[g]? = some (.cells (haC s r n) T (0,0))):z9 w g 0 8=some (wsC s.l):=by
  unfold z9;rw[h];have e:(wsC s.l).size=8:=by rw[kV];rfl
  simp only[Nat.zero_add];rw[if_pos (by simp[e])];rw[<-e];simp
theorem vb (w:World) (g:Nat) (T:TypeId) (s:StU) (A:Option Addr) (m cap N:Nat) (rest:List UInt8) (hv:xT w) (hg:w.heap[g]? = some (.cells (haC s (.slice A m cap) N) T (0,0))) (h:SlW w A m cap 1 (yU rest)) (hN:N<=1000000) (hm:m=N % 64) :
    Calls Tryz.prog 51 #[.pointer (some ⟨g,0,none⟩)] w fun e w'=>e = .returned (.agg (idC ⟨bS (vO ((m+(gO N).length) / 64) s (rest++gO N)),qD _⟩))/\Below w.heap.size w w':=by
  have hgl:g<w.heap.size:=(Array.getElem?_eq_some_iff.1 hg).1;have hb0:Below w.heap.size w (w.alloc (.cells (idC id0) 24)):=(Below.refl _ _).alloc (Nat.le_refl _) _;have hg0:=(hb0.block g hgl).trans hg;obtain⟨c8,c9,c10,cf⟩:=s6 hg0;have hrow:=haC_row hg0;have cn:=XJ _ g c10;have hid:=heap_alloc_new w (.cells (idC id0) 24);have hv0:=hv.below hb0;have hsl0:=h.below hb0;have hst:=Y1 (w.alloc (.cells (idC id0) 24)) (w.heap.size+1) (by simp) (wsC (zU 8)) (by simp[fB]) s.l s.l_len 157;have hb1:Below w.heap.size w ((w.alloc (.cells (idC id0) 24)).alloc (.cells (wsC s.l) 157)):=hb0.alloc (by simp) _;have hn1:=heap_alloc_new (w.alloc (.cells (idC id0) 24)) (.cells (wsC s.l) 157);rw[show(w.alloc (.cells (idC id0) 24)).heap.size=w.heap.size+1 by simp]at hn1;have hid1:((w.alloc (.cells (idC id0) 24)).alloc (.cells (wsC s.l) 157)).heap[w.heap.size]? = some (.cells (idC id0) 24 (0,0)):=by
    rw[Below.heap_alloc _ _ _ (by simp)];exact hid
  have hv1:=hv.below hb1;have hsl1:=h.below hb1;have hg1:=(hb1.block g hgl).trans hg;have hltF:=hv.ltF;have hltK:=hv.ltK;obtain⟨M,hM⟩:∃M,m+(gO N).length=M:=⟨_,rfl⟩
  have hM64:M % 64=0:=by rw[<-hM,hm];have:=eF N;omega
  obtain⟨l,hl⟩:∃l,rest++gO N=l:=⟨_,rfl⟩
  rw[hM,hl];clear h hv hg hv0 hsl0;go_enter Tryz.func51,Tryz.ntmps51
  (go_wp2_with fail);refine cn.mono ?_;rintro e w1 ⟨rfl,rfl⟩;clear cn;go_upto_region 4 with fail
  obtain⟨ga,hga⟩:∃ga,w.heap.size=ga:=⟨_,rfl⟩
  have Hga:=Lib.hid hga;obtain⟨W,hW⟩:∃W,W=(w.alloc (.cells (idC id0) 24)).alloc (.cells (wsC s.l) 157):=⟨_,rfl⟩
  rw[<-hW]at hb1 hn1 hid1 hv1 hsl1 hg1 |-;rw[hga]at hgl hn1 hid1 hltF hltK |-;have hgaW:ga+1<W.heap.size:=(Array.getElem?_eq_some_iff.1 hn1).1;clear hb0 hg0 c8 c9 c10 cf hrow hid hst hW hga;obtain⟨c8,c9,c10,cf⟩:=s6 hg1;have ce:=sha_end W.drew A m cap rest (hsl1.kept (z4.drew W) (by simp)) N hN hm;rw[hM,hl]at ce;have HM64:=Lib.hid hM64;have hqn:g∉([]:List Nat):=by simp
  have Hm:=Lib.hid hm;clear hM hl hM64 hm;refine zA (Kp ([]:List Nat) W) false (by kernel_rfl) (by kernel_rfl) (by kernel_rfl) (zW ([]:List Nat) W) ?_;have hne:=xA ([]:List Nat) W;have hS:=zW ([]:List Nat) W;have b0:=zM c8 hqn;have b1:=zM c9 hqn;repeat(refine z6 ?_ ?_;(focus(simp only[z3];done));intro K hK;go_simp;refine hK _ ?_;clear hK K)
  refine zH ?_ ?_ ?_;(focus(exact hS));(focus(simp only[z3];done));intro K hK;go_simp;refine ce.mono ?_;rintro e w2 ⟨A',cap',rfl,ho,hb2⟩;replace hS:=QB hS hb2;refine⟨_,rfl,hS,hK _ _ ?_⟩;clear hK K;repeat(refine z6 ?_ ?_;(focus(simp only[z3];done));intro K hK;go_simp;refine hK _ ?_;clear hK K)
  refine zK ?_;intro hS;have hS0:z4 [] W w2:=hS;have hbA:∀x∈blk A',x≠ga+1:=fun x hx=>(by have:=(ho.at_base hx).1;have:W.heap.size<=W.drew.heap.size:=Nat.le_refl _;omega);have hsl2:=ho.slw;have hn2:w2.heap[ga+1]? = some (.cells (wsC s.l ++ #[]) 157 (0,0)):=by rw[hS0.block (ga+1) hgaW (by simp),hn1];simp
  have hid2:=(hS0.block ga (by omega) (by simp)).trans hid1;have hv2:=hv1.kept hS0 (by simp) (by simp);have hbw2:Below w.heap.size w w2:=hb1.trans (hS0.below hb1.size (by simp));have hg2l:ga+1<w2.heap.size:=by have:=hS0.size;omega
  clear ho ce hne hS hb2 b0 b1 c8 c9 c10 cf hg1 hsl1 hv1 hid1 hn1 hb1 hqn hS0;go_upto_region 5 with fail
  go_loopw [4] (fun sv wr=>∃(k:Nat) (A3:Option Addr) (cap3:Nat),64*k<=M/\sv = .slice A3 (M-64*k) cap3/\wr.heap[ga+1]? = some (.cells (wsC (vO k s l).l ++ #[]) 157 (0,0))/\SlW wr A3 (M-64*k) cap3 1 (yU (l.drop (64*k)))/\Hid (∀w',SlR w' A' M 1 (yU l)->SlR w' A3 (M-64*k) 1 (yU (l.drop (64*k))))/\z4 [ga+1] w2 wr) (fun sv _=>aS sv)
  case atStart=>exact⟨0,A',cap',by omega,rfl,hn2,hsl2,(show ∀w',_ from fun w' h=>h),z4.refl _ _⟩
  case round =>
    obtain⟨k,A3,cap3,hk,rfl,hgr,hsl,hrd,hkp⟩:=hrel;obtain⟨n,hn⟩:∃n,M-64*k=n:=⟨_,rfl⟩
    rw[hn]at hsl hrd |-;have Hn:=Lib.hid hn;have hvr:xT wr:=hv2.kept hkp (by simp) (by simp;omega);clear hn;by_cases hlt:0<n
    · have h64:64<=n:=by have:=Hn.out;have:=HM64.out;omega
      obtain⟨A4,c4,hrun,hrd4⟩:=hsl.hi2 jZ (m:=64) h64;have hlo:∀w0:World,(slS 89 (.slice A3 n cap3) none (some (.int .i64 64)) none).run Tryz.prog w0 = .ok (.slice A3 64 cap3) w0:=fun w0=>hsl.lo jZ (m:=64) h64 w0;have hrun':∀w0:World,(slS 89 (.slice A3 n cap3) (some (.int .i64 64)) none none).run Tryz.prog w0 = .ok (.slice A4 (n-64) c4) w0:=hrun;have hb64:kQ wr A3 64 ((l.drop (64*k)).take 64):=by
        have h1:=hsl.rd.take_ (m:=64) h64;unfold yU at h1;rw[<-List.map_take]at h1;exact h1
      have ct:=X8 wr (ga+1) 157 (vO k s l) #[] A3 cap3 ((l.drop (64*k)).take 64) hvr hgr hb64 (by show ga+1≠_;omega) (by show ga+1≠_;omega);have hst:m8 (vO k s l) ((l.drop (64*k)).take 64)=vO (k+1) s l:=(rL k s l).symm;rw[hst]at ct;clear hrun hb64 hst hgr;(go_wp2_with fail);refine ct.mono ?_;rintro e w5 ⟨rfl,hg5,hk5⟩;have hkf:z4 [ga+1] w2 w5:=z4.trans hkp hk5 (fun x hx=>.inl hx);have hl0:=hsl2.rd.kept hkf (fun x hx=>by simpa using hbA x hx);have hsl6:=hrd4 _ (hrd.out _ hl0);have hdd:(yU (l.drop (64*k))).drop 64=yU (l.drop (64*(k+1))):=by
        unfold yU;rw[<-List.map_drop,List.drop_drop,show 64*k+64=64*(k+1) by omega]
      rw[hdd]at hsl6;have hrd6:Hid (∀w',SlR w' A' M 1 (yU l)->SlR w' A4 (n-64) 1 (yU (l.drop (64*(k+1))))):=(show ∀w',_->_ from fun w' h=>by
        have:=(hrd4 w' (hrd.out w' h)).rd;rwa [hdd]at this)
      have hn2:M-64*(k+1)=n-64:=by have:=Hn.out;omega
      have Hn2:=Lib.hid hn2;have hle2:64*(k+1)<=M:=by have:=Hn.out;omega
      have Hsl6:=Lib.hid hsl6;clear ct hlo hl0 hsl6 hdd hn2 hrd4 hsl hvr hkp hrd hk5;(go_wp2_with fail);go_roundw
      case rel=>exact⟨k+1,A4,c4,hle2,(by rw[Hn2.out]),hg5,(by rw[Hn2.out];exact Hsl6.out),(by rw[Hn2.out];exact hrd6),hkf⟩
      case measure=>simp[aS];omega
    · have hkM:k=M / 64:=by have:=Hn.out;have:=HM64.out;omega
      obtain⟨F,hF⟩:∃F,vO (M / 64) s l=F:=⟨_,rfl⟩
      rw[hkM,hF]at hgr;have HF:=Lib.hid hF;have hgr':wr.heap[ga+1]? = some (.cells (wsC F.l) 157 (0,0)):=by rw[hgr];simp
      have hrow:z9 wr (ga+1) 0 8=some (wsC F.l):=by unfold z9;rw[hgr'];simp[F.l_len]
      have hidr:=(hkp.block ga (by omega) (by simp)).trans hid2;have hbr:Below w.heap.size w wr:=hbw2.trans (hkp.below hbw2.size (by simp;have:=Hga.out;omega));have hgaR:ga+1<wr.heap.size:=by have:=hkp.size;omega
      have hgn:=heap_alloc_new wr (.cells (idC id0) 24);have hbn:Below w.heap.size w (wr.alloc (.cells (idC id0) 24)):=hbr.alloc hbr.size _;have hidn:=(Below.heap_alloc wr (.cells (idC id0) 24) ga (by omega)).trans hidr;have hrown:z9 (wr.alloc (.cells (idC id0) 24)) (ga+1) 0 8=some (wsC F.l):=(zB (Below.heap_alloc wr (.cells (idC id0) 24) (ga+1) hgaR) _ _).trans hrow;clear hF hgr hgr' hsl hrd hvr hkp hkM hrow hidr hbr hn2 hsl2 hv2 hid2 hbw2 hg2l;go_upto_region 10 with fail
      obtain⟨gb,hgb⟩:∃gb,wr.heap.size=gb:=⟨_,rfl⟩
      obtain⟨V,hV⟩:∃V,V=wr.alloc (.cells (idC id0) 24):=⟨_,rfl⟩
      rw[<-hV]at hgn hbn hidn hrown |-;rw[hgb]at hgn hgaR |-;have hgbV:gb<V.heap.size:=(Array.getElem?_eq_some_iff.1 hgn).1;clear hV hgb;go_loopw [6,7,34] (fun _ _ iv wr=>∃i:Nat,i<=8/\iv = .int .i64 i/\wr.heap[gb]? = some (.cells (aA F i) 24 (0,0))/\z4 [gb] V wr) (fun _ _ iv _=>8-(intOf iv).toNat)
      case atStart=>exact⟨0,by omega,rfl,(by rw[yo];exact hgn),z4.refl _ _⟩
      case round =>
        clear hgn;obtain⟨i,hi,rfl,hc,hkp⟩:=hrel;by_cases hlt:i<8
        · obtain⟨m4,hm4⟩:∃m4:Nat,4*i=m4:=⟨_,rfl⟩
          have em:4*(i:Int)=(m4:Int):=by omega
          have l0:(m4:Int)<32:=by omega
          have l1:0<=(m4:Int)+1/\(m4:Int)+1<32:=by omega
          have l2:0<=(m4:Int)+2/\(m4:Int)+2<32:=by omega
          have l3:0<=(m4:Int)+3/\(m4:Int)+3<32:=by omega
          have t2:((m4:Int)+2).toNat=m4+2:=by omega
          have t3:((m4:Int)+3).toNat=m4+3:=by omega
          obtain⟨x,hx⟩:∃x,F.l.getD i 0=x:=⟨_,rfl⟩
          have hset:=km F hlt x hx;have e24:=w24 x;have e16:=w16 x;have e8:=w8 x;have e0:=w0 x;rw[hm4]at hset;obtain⟨b0,hb0⟩:∃b,(x >>> 24).toUInt8=b:=⟨_,rfl⟩
          obtain⟨b1,hb1⟩:∃b,(x >>> 16).toUInt8=b:=⟨_,rfl⟩
          obtain⟨b2,hb2⟩:∃b,(x >>> 8).toUInt8=b:=⟨_,rfl⟩
          obtain⟨b3,hb3⟩:∃b,x.toUInt8=b:=⟨_,rfl⟩
          rw[hb0,hb1,hb2,hb3]at hset;rw[hb0]at e24;rw[hb1]at e16;rw[hb2]at e8;rw[hb3]at e0;clear hb0 hb1 hb2 hb3;have y1:(wsC F.l)[i]? = some (.int .u32 (nU x)):=by rw[g9 F.l hlt,hx]
          have hix:=BF (t:=157) Tryz.underlying157 hlt y1 wr;have hsz:=yp F hi;have h1:=zE hc m4 (yW b0);have h2:=zE h1 (m4+1) (yW b1);have h3:=zE h2 (m4+2) (yW b2);have h4:=zE h3 (m4+3) (yW b3);rw[hset]at h4;have k1:=z4.setCell wr ⟨gb,m4,none⟩ (yW b0);have k2:=z4.setCell (wr.setCell ⟨gb,m4,none⟩ (yW b0)) ⟨gb,m4+1,none⟩ (yW b1);have k3:=z4.setCell ((wr.setCell ⟨gb,m4,none⟩ (yW b0)).setCell ⟨gb,m4+1,none⟩ (yW b1)) ⟨gb,m4+2,none⟩ (yW b2);have k4:=z4.setCell (((wr.setCell ⟨gb,m4,none⟩ (yW b0)).setCell ⟨gb,m4+1,none⟩ (yW b1)).setCell ⟨gb,m4+2,none⟩ (yW b2)) ⟨gb,m4+3,none⟩ (yW b3);have kk:=z4.trans (z4.trans (z4.trans (z4.trans hkp k1 (fun x hx=>.inl hx)) k2 (fun x hx=>.inl hx)) k3 (fun x hx=>.inl hx)) k4 (fun x hx=>.inl hx);have hat:∀ {w':World} {c:Array Value} (_:w'.heap[gb]? = some (.cells c 24 (0,0))) (_:c.size=32) (j:Nat) (_:j<32),(∃v,w'.cell? ⟨gb,j,none⟩=some v)/\w'.frozen? ⟨gb,j,none⟩=false:=fun {w' c} h hs j hj=>⟨⟨c[j]'(by omega),by rw[cell_of_row w' gb j _ _ _ h,Array.getElem?_eq_getElem]⟩,by simp[World.frozen?,h]⟩;obtain⟨⟨v0,c0⟩,f0⟩:=hat hc hsz m4 (by omega);obtain⟨⟨v1,c1⟩,f1⟩:=hat h1 (by simp[hsz]) (m4+1) (by omega);obtain⟨⟨v2,c2⟩,f2⟩:=hat h2 (by simp[hsz]) (m4+2) (by omega);obtain⟨⟨v3,c3⟩,f3⟩:=hat h3 (by simp[hsz]) (m4+3) (by omega);have H4:=Lib.hid h4;have Kk:=Lib.hid kk;clear hset hx h1 h2 h3 h4 k1 k2 k3 k4 kk hat hsz hm4 hkp hc y1;unfold yW at c1 c2 c3 f1 f2 f3;(go_wp2_with fail);go_roundw
          case rel=>exact⟨i+1,by omega,by go_num,H4.out,Kk.out⟩
          case measure=>simp[intOf];omega
        · have hi8:i=8:=by omega
          rw[hi8,yq]at hc;have hrow:z9 wr gb 0 32=some (idC ⟨bS F,qD F⟩):=by unfold z9;rw[hc];simp
          have hg2':=(hkp.block ga (by omega) (by simp;omega)).trans hidn;have hsto:=yA (P:=Tryz.prog) kI wr ga (idC id0) (idC ⟨bS F,qD F⟩) _ hg2' (by simp) (by simp) (qJ _);have Hfin:=Lib.hid (setRow_heap wr ga _ (idC ⟨bS F,qD F⟩) _ _ hg2');have hkf:z4 [ga] wr (wr.setRow ga (idC ⟨bS F,qD F⟩)):=⟨rfl,rfl,rfl,by simp[World.setRow],fun x _ hx=>setRow_other wr ga x _ (by simpa using hx)⟩
          have hkz:=z4.trans (hkp.mono (S':=[ga,gb]) (by simp)) (hkf.mono (S':=[ga,gb]) (by simp)) (fun x hx=>.inl hx);have hbz:Below w.heap.size w (wr.setRow ga (idC ⟨bS F,qD F⟩)):=hbn.trans (hkz.below hbn.size (by simp;have:=Hga.out;omega));have Hbz:=Lib.hid hbz;clear hkf hkz hbz hg2' hc hi8 hkp hidn hbn hrown;(go_wp2_with fail);exact bodyPost_ret (results_cell_row Tryz.results51 _ _ ga 24 (idC ⟨bS F,qD F⟩) (0,0) _ rfl Hfin.out Tryz.underlying24 rfl (by rw[vT];exact kI)) rfl ⟨by rw[HF.out],Hbz.out⟩
theorem rconsts (w:World):Calls Tryz.prog 31 #[] w fun e w'=>e = .returned (.slice (some ⟨w.heap.size,0,none⟩) 64 64)/\w'=w.alloc (.cells (wsC kU) 92):=by
  go_enter Tryz.func31,Tryz.ntmps31
  (go_wp2_with fail);go_ret;exact⟨rfl,by kernel_rfl⟩
theorem rstart (w:World):Calls Tryz.prog 30 #[] w fun e w'=>e = .returned (.agg (wsC qE.l))/\Below w.heap.size w w':=by
  have e:(((((((((wsC (zU 8)).setIfInBounds 0 (.int .u32 1779033703)).setIfInBounds 1 (.int .u32 3144134277)).setIfInBounds 2 (.int .u32 1013904242)).setIfInBounds 3 (.int .u32 2773480762)).setIfInBounds 4 (.int .u32 1359893119)).setIfInBounds 5 (.int .u32 2600822924)).setIfInBounds 6 (.int .u32 528734635)).setIfInBounds 7 (.int .u32 1541459225))=wsC qE.l:=by kernel_rfl
  have hst:=tA w w.heap.size rfl (wsC (zU 8)) (by simp[fB]) qE.l qE.l_len 93;have Hn:=Lib.hid (heap_alloc_new w (.cells (wsC qE.l) 93));have hb:Below w.heap.size w (w.alloc (.cells (wsC qE.l) 93)):=(Below.refl _ _).alloc (Nat.le_refl _) _;have Hb:=Lib.hid hb;clear hb;go_enter Tryz.func30,Tryz.ntmps30
  (go_wp2_with fail);exact bodyPost_ret (results_cell_row Tryz.results30 _ _ w.heap.size 93 (wsC qE.l) (0,0) _ rfl Hn.out Tryz.underlying93 rfl (by rw[kV,StU.l_len];exact r9)) rfl ⟨rfl,Hb.out⟩
def BuZ (w:World) (B:Nat) (A:Option Addr) (n cap:Nat) (bs:List UInt8):Prop :=
  bs.length=n/\∃g cur fz,A=some ⟨g,0,none⟩/\B<=g/\w.heap[g]? = some (.cells cur 5 fz)/\n<=cap/\cap<=maxLen/\cur.size=cap/\(fz.2=0\/cap<=fz.1)/\cur.toList.take n=bs.map yW
theorem BuZ.conv (w:World) (B:Nat) (hB:B<=w.heap.size) (s:ByteArray) (hs:s.size<=maxLen) :
    ∃cap,(convert 9 89 (.string s)).run Tryz.prog w = .ok (.slice (some ⟨w.heap.size,0,none⟩) s.size cap) (Go.Lib.bytesWorld w 5 s)/\BuZ (Go.Lib.bytesWorld w 5 s) B (some ⟨w.heap.size,0,none⟩) s.size cap s.data.toList/\Below w.heap.size w (Go.Lib.bytesWorld w 5 s):=by
  have hge:=grownCap_ge w s.size 0 5;have hcs:(Go.Lib.bytesCells w 5 s).size=grownCap w s.size 0 5:=by simp[Go.Lib.bytesCells];omega
  refine⟨_,Go.Lib.run_convert_string_bytes (P:=Tryz.prog) w 9 89 5 s Tryz.underlying9 Tryz.underlying89 Tryz.underlying5,⟨rfl,w.heap.size,_,_,rfl,hB,Go.Lib.bytesWorld_at_new w _ s,hge,grownCap_le_maxLen w _ _ _ hs,hcs,.inr (by rw[hcs];exact Nat.le_refl _),?_⟩,?_⟩
  · have e:s.size=(s.data.toList.map yW).length:=by simp
    show((Go.Lib.bytesCells w 5 s).toList).take s.size=_;rw[show(Go.Lib.bytesCells w 5 s).toList=s.data.toList.map yW++List.replicate (grownCap w s.size 0 5-s.size) (.int .u8 0) by simp[Go.Lib.bytesCells,yW],e,List.take_left]
  · exact⟨rfl,rfl,rfl,by rw[Go.Lib.bytesWorld_size];omega,fun k hk=>Go.Lib.bytesWorld_at_old w _ s k hk⟩
theorem BuZ.at_base {w:World} {B:Nat} {A:Option Addr} {n cap:Nat} {bs:List UInt8} (h:BuZ w B A n cap bs):∀x∈blk A,B<=x/\x<w.heap.size:=by
  obtain⟨_,g,cur,fz,rfl,hb,hg,_⟩:=h;intro x hx;simp[blk]at hx;subst hx;exact⟨hb,(Array.getElem?_eq_some_iff.1 hg).1⟩
theorem BuZ.kept {w w':World} {B:Nat} {A:Option Addr} {n cap:Nat} {bs:List UInt8} {S:List Nat} (h:BuZ w B A n cap bs) (k:z4 S w w') (hn:∀x∈blk A,x∉S):BuZ w' B A n cap bs:=by
  obtain⟨hl,g,cur,fz,rfl,hb,hg,hr⟩:=h;exact⟨hl,g,cur,fz,rfl,hb,(k.block g (Array.getElem?_eq_some_iff.1 hg).1 (hn g (by simp[blk]))).trans hg,hr⟩
theorem BuZ.bytes {w:World} {B:Nat} {A:Option Addr} {n cap:Nat} {bs:List UInt8} (h:BuZ w B A n cap bs):kQ w A n bs:=by
  obtain⟨hl,g,cur,fz,rfl,hb,hg,hnc,hcm,hcs,_,ht⟩:=h;refine⟨by rw[n8];exact hl,fun _=>⟨g,0,rfl,fun i hi=>?_⟩⟩;have hi':i<n:=by rw[n8]at hi;omega
  unfold z9;rw[hg];simp only[Nat.zero_add,Nat.mul_one];rw[if_pos (by omega)];congr 1
  have h1:cur.toList[i]? = some (yW (bs[i]'(by omega))):=by
    have h2:=congrArg (fun l=>l[i]?) ht;simp only[List.getElem?_take,if_pos hi',List.getElem?_map,List.getElem?_eq_getElem (show i<bs.length by omega),Option.map_some]at h2;exact h2
  have hic:i<cur.size:=by omega
  have h3:cur[i]'hic=yW (bs[i]'(by omega)):=by
    have:cur.toList[i]? = some cur[i]:=by rw[Array.getElem?_toList,Array.getElem?_eq_getElem hic]
    rw[this]at h1;exact Option.some.inj h1
  apply Array.ext
  · simp[yU,b9];omega
  · intro j h4 h5;simp[yU,b9]at h5;subst h5;simp[yU,b9,h3]
theorem BuZ.slw {w:World} {B:Nat} {A:Option Addr} {n cap:Nat} {bs:List UInt8} (h:BuZ w B A n cap bs):SlW w A n cap 1 (yU bs):=by
  have hb:=h.bytes;obtain⟨hl,g,cur,fz,rfl,_,hg,hnc,_⟩:=h;exact⟨hb,hnc,(fun e=>by cases e),(fun a e=>by injection e with e;rw[<-e])⟩
theorem BuZ.append {w:World} {B:Nat} {A:Option Addr} {n cap:Nat} {bs:List UInt8} (h:BuZ w B A n cap bs) (q c:Nat) (x:UInt8) (hx:w.cell? ⟨q,0,none⟩=some (yW x)) (hn:n+1<=1000000000) (hB:B<=w.heap.size) (ty:TypeId) :
    ∃A' cap' w',(Builtin.append_ #[89,89] ty #[.slice A n cap,.slice (some ⟨q,0,none⟩) 1 c]).run Tryz.prog w = .ok (.slice A' (n+1) cap') w'/\BuZ w' B A' (n+1) cap' (bs ++ [x])/\z4 (blk A) w w':=by
  obtain⟨i,z,hi,hz,hsz,hby,hzs⟩:=jZ.info;obtain⟨hl,g,cur,fz,rfl,hb,hg,hnc,hcm,hcs,hfz,ht⟩:=h;have hnews:∀(j:Nat) u,[yW x][j]? = some u->w.cell? ((⟨q,0,none⟩:Addr).add j)=some u:=by
    intro j u hu;have:j=0:=by
      have:=(List.getElem?_eq_some_iff.1 hu).1;simp at this;exact this
    subst this;simp at hu;subst hu;exact hx
  by_cases hroom:n+1<=cap
  · have hc:w.cell? ⟨g,n,none⟩=some (cur[n]'(by omega)):=by rw[cell_of_row w g n _ _ _ hg,Array.getElem?_eq_getElem]
    have hf:w.frozen? ⟨g,n,none⟩=false:=by
      simp only[World.frozen?,hg];rcases hfz with h | h
      · simp;omega
      · simp;omega
    have hg2:=zE hg n (yW x);refine⟨some ⟨g,0,none⟩,cap,w.setCell ⟨g,n,none⟩ (yW x),?_,⟨by simp[hl],g,_,fz,rfl,hb,hg2,hroom,hcm,by simp[hcs],hfz,?_⟩,z4.setCell w ⟨g,n,none⟩ _⟩
    · have hfc:=run_firstCells_some (P:=Tryz.prog) w i.size 1 ⟨q,0,none⟩ 1 c [yW x] (by simp[hsz]) hnews;have hst:(store (⟨g,n,none⟩:Addr) (yW x) .plain).run Tryz.prog w = .ok () (w.setCell ⟨g,n,none⟩ (yW x)):=by
        unfold yW;rw[run_store_int];unfold stored;rw[hc,hf];rfl
      simp[Builtin.append_,run_underlying jZ.und,sizeOf,typeInfo,hi,hsz,Builtin.lenOf,hroom,hfc,Addr.add_lit];rw[hsz]at hfc;rw[hfc];simp[storeCells,Addr.add,hst]
    · rw[Array.toList_setIfInBounds];have hnl:n<cur.toList.length:=by simp;omega
      rw[List.take_set,List.take_add_one,ht,List.getElem?_eq_getElem hnl,Option.toList_some,List.set_append_right _ _ (by simp[hl])];simp[hl]
  · have hn0:n=cap:=by omega
    have holds:∀(j:Nat) v,(bs.map yW)[j]? = some v->w.cell? ((⟨g,0,none⟩:Addr).add j)=some v:=by
      intro j v hv;have hj:j<n:=by have:=(List.getElem?_eq_some_iff.1 hv).1;simpa[hl]using this
      have e:(⟨g,0,none⟩:Addr).add j=⟨g,j,none⟩:=by unfold Addr.add;split <;> simp_all
      rw[e,cell_of_row w g j _ _ _ hg,<-Array.getElem?_toList,<-hv,<-ht,List.getElem?_take,if_pos hj]
    have hge:=grownCap_ge w (n+1) cap 5;have hcm2:grownCap w (n+1) cap 5<=maxLen:=grownCap_le_maxLen w _ _ _ (by simp only[maxLen];omega);have hr:=run_append_grow (P:=Tryz.prog) w 89 ty 5 i z jZ.und hi hz ⟨g,0,none⟩ n cap (bs.map yW) (by simp[hl,hsz]) holds ⟨q,0,none⟩ 1 c [yW x] (by simp[hsz]) hnews (by omega) (by omega) (growslice_fits (by omega) (by rw[hby];omega));refine⟨_,_,_,hr,⟨by simp[hl],w.heap.size,_,(0,0),rfl,hB,heap_alloc_new w.drew _,hge,hcm2,?_,.inl rfl,?_⟩,(z4.trans (z4.drew w) (z4.alloc _ _) (by simp)).mono (by simp)⟩
    · simp only[Array.size_append,List.size_toArray,size_zeroCells,hzs,List.length_map,hl,List.length_cons,List.length_nil];omega
    · simp only[Array.toList_append];have e:n+1=((bs.map yW) ++ [yW x]).length:=by simp[hl]
      rw[e,List.take_left];simp
theorem nD {ops:Array Oper} {Q:Exit->Act->World->Prop} {a:Act} {w:World} {rest:List Oper} {dst:Option Tmp} {s x:Operand} {ty:TypeId} {pos:String} {after:Array Edge}
    {B:Nat} {A:Option Addr} {n cap:Nat} {bs:List UInt8} (hs:a.eval s = .slice A n cap) (hown:BuZ w B A n cap bs)
    {q c:Nat} {u:UInt8} (hx:a.eval x = .slice (some ⟨q,0,none⟩) 1 c) (hu:w.cell? ⟨q,0,none⟩=some (yW u)) (hn:n+1<=1000000000) (hB:B<=w.heap.size)
    (h:∀A' cap' w',BuZ w' B A' (n+1) cap' (bs ++ [u])->z4 (blk A) w w'->wpList Tryz.prog ops Q rest (a.put dst (.slice A' (n+1) cap')) w') :
    wpList Tryz.prog ops Q ({ dst:=dst,op:=.call { callee:=.builtin .append,args:=#[s,x],argTypes:=#[89,89] },type:=ty,pos:=pos,after:=after,guard:=none } :: rest) a w:=by
  obtain⟨A',cap',w',hr,h1,h2⟩:=hown.append q c u hu hn hB ty;exact sE hs hx hr (h A' cap' w' h1 h2)
theorem SlW.mid {P:Program} {T E:TypeId} {k bytes:Nat} {w:World} {A:Option Addr} {n cap:Nat} {L:List (Array Value)} (I:yY P T E k bytes) (h:SlW w A n cap k L) {m j:Nat} (hm:m+j<=n) (hj:0<j) :
    ∃A2,(∀w0:World,(slS T (.slice A n cap) (some (.int .i64 m)) (some (.int .i64 (m+j:Nat))) none).run P w0 = .ok (.slice A2 j (cap-m)) w0)/\(∀w':World,SlR w' A n k L->SlR w' A2 j k ((L.drop m).take j)):=by
  have hle:=h.le;refine⟨if cap=m then A else A.map fun a=>a.add (m*k),fun w0=>?_,fun w' hL=>?_⟩
  · rw[dD I];unfold Instr.slice Instr.sliceBounds;simp only[Sem.run_bind,run_underlying I.und,Result.andThen_ok,Sem.run_pure,kN w0 (m+j) cap (by omega),kN w0 m (m+j) (by omega),I.sizeOf_run w0,Option.isSome_none,Bool.false_eq_true,if_false];rw[show m+j-m=j by omega]
  · have hcm:¬cap=m:=by omega
    rw[if_neg hcm];cases A with
    | none=>exact absurd (h.nil rfl) (by omega)
    | some a =>
      obtain⟨g,o,sp⟩:=a;have:sp=none:=h.plain _ rfl;subst this;have e:(⟨g,o,none⟩:Addr).add (m*k)=⟨g,o+m*k,none⟩:=by unfold Addr.add;split <;> simp_all
      simp only[Option.map_some,e];exact(hL.drop_ (m:=m) (by omega)).take_ (by omega)
theorem ZJ:∀(L:List UInt32) (i:Nat),i<4*L.length->(L.flatMap b4U).getD i 0=(b4U (L.getD (i / 4) 0)).getD (i % 4) 0
  | [],i,h=>by simp at h
  | x :: L,i,h=>by
    rw[List.flatMap_cons];by_cases h4:i<4
    · rw[ZH _ _ _ (by rw[gV];exact h4),show i / 4=0 by omega,show i % 4=i by omega];rfl
    · have ih:=ZJ L (i-4) (by simp at h;omega);rw[List.getD_eq_getElem?_getD,List.getElem?_append_right (by rw[gV];omega),gV,<-List.getD_eq_getElem?_getD,ih,show(i-4) % 4=i % 4 by omega,show i / 4=(i-4) / 4+1 by omega,List.getD_cons_succ]
theorem b4_get (x:UInt32) {b:Nat} (hb:b<4):nU x / 2 ^ (24-8*b) % (256:Int)=((((b4U x).getD b 0).toNat:Nat):Int):=by
  have h4:b=0\/b=1\/b=2\/b=3:=by omega
  rcases h4 with rfl | rfl | rfl | rfl
  · exact w24 x
  · exact w16 x
  · exact w8 x
  · have h:=w0 x;show nU x / 1 % 256=_;rw[Int.ediv_one];exact h
theorem out_get (F:StU) {i:Nat} (hi:i<32):nU (F.l.getD (i / 4) 0) / 2 ^ (24-8*(i % 4)) % (256:Int)=((((bS F).getD i 0).toNat:Nat):Int):=by
  rw[<-aY,ZJ _ _ (by rw[F.l_len];omega),b4_get _ (by omega)]
theorem rsum (w:World) (s:ByteArray) (hs:s.size<=1000000) :
    Calls Tryz.prog 16 #[.string s] w fun e w'=>e = .returned (.agg (idC (bM s.data.toList)))/\Below w.heap.size w w':=by
  obtain⟨N,hN⟩:∃N,s.size=N:=⟨_,rfl⟩
  obtain⟨l,hl⟩:∃l,s.data.toList=l:=⟨_,rfl⟩
  have hll:l.length=N:=by rw[<-hl,<-hN];rfl
  have hb0:Below w.heap.size w (w.alloc (.cells (idC id0) 24)):=(Below.refl _ _).alloc (Nat.le_refl _) _;have hid:=heap_alloc_new w (.cells (idC id0) 24);obtain⟨cap0,hcv,hz0,hbz⟩:=BuZ.conv (w.alloc (.cells (idC id0) 24)) (w.heap.size+1) (by simp) s (by simp only[maxLen];omega);rw[hl,hN]at hz0;rw[hl];have hb1:Below w.heap.size w (Go.Lib.bytesWorld (w.alloc (.cells (idC id0) 24)) 5 s):=hb0.trans (hbz.mono (by simp));have hid1:=(hbz.block w.heap.size (by simp)).trans hid;have hsN:s.size=N:=hN;rw[hN]at hs hcv;obtain⟨W,hW⟩:∃W,Go.Lib.bytesWorld (w.alloc (.cells (idC id0) 24)) 5 s=W:=⟨_,rfl⟩
  obtain⟨A0,hA0⟩:∃A0,some (⟨(w.alloc (.cells (idC id0) 24)).heap.size,0,none⟩:Addr)=A0:=⟨_,rfl⟩
  rw[hW]at hcv hz0 hb1 hid1;rw[hA0]at hcv hz0;obtain⟨ga,hga⟩:∃ga,w.heap.size=ga:=⟨_,rfl⟩
  have q1:=ZP W 128;have hsz1:ga+1<=W.heap.size:=by have:=hz0.at_base;rw[<-hA0]at this;have:=this _ (by simp[blk];rfl);omega
  have hz1:=hz0.kept (z4.alloc W (.cells #[.int .u8 128] 5)) (by simp);have hu1:(W.alloc (.cells #[.int .u8 128] 5)).cell? ⟨W.heap.size,0,none⟩=some (yW 128):=by simp[go_sem,yW]
  have Hll:=Lib.hid hll;have HN:=Lib.hid hN;have Hga:=Lib.hid hga;rw[hga]at hz1 hz0 hb1 hid1;clear hb0 hid hbz hW hA0 hll hN hl;go_enter Tryz.func16,Tryz.ntmps16
  go_wp2_with (at_builtin;refine nD rfl hz1 rfl hu1 (by omega) (by simp;omega) ?_;intro A1 cap1 w1 hz2 hk1)
  have hkA:z4 (blk A0) W w1:=z4.trans ((z4.alloc W _).mono (S':=blk A0) (by simp)) hk1 (fun x hx=>.inl hx);have hb2:Below ga w w1:=hb1.trans (hkA.below (by omega) (fun x hx=>by have:=(hz0.at_base x hx).1;omega));have hid2:=(hkA.block ga (by omega) (fun hx=>by have:=(hz0.at_base ga hx).1;omega)).trans hid1;have hl3:l ++ [128]=l++128 :: List.replicate 0 0:=rfl;rw[hl3]at hz2;have hsz2:=hkA.size;clear hz1 hu1 hk1 hkA hb1 hid1 hz0 q1 hl3 hcv;obtain⟨z,hz⟩:∃z,(119-N % 64) % 64=z:=⟨_,rfl⟩
  have Hz:=Lib.hid hz;have hz64:z<64:=by omega
  have hmz:(N+1+z) % 64=56:=by omega
  have hmn:∀j,j<z->(N+1+j) % 64≠56:=fun j hj=>(by omega);have Hmz:=Lib.hid hmz;have Hmn:=Lib.hid hmn;clear hz hmz hmn;go_loopw [3] (fun sv wr=>∃(j:Nat) (A3:Option Addr) (cap3:Nat),j<=z/\sv = .slice A3 (N+1+j) cap3/\BuZ wr (ga+1) A3 (N+1+j) cap3 (l++128 :: List.replicate j 0)/\wr.heap[ga]? = some (.cells (idC id0) 24 (0,0))/\Below ga w wr/\ga+1<=wr.heap.size) (fun sv _=>2000000-aS sv)
  case atStart=>exact⟨0,A1,cap1,by omega,rfl,hz2,hid2,hb2,by omega⟩
  case round =>
    obtain⟨j,A3,cap3,hj,rfl,ho,hidr,hb,hsz⟩:=hrel;obtain⟨ln,hln⟩:∃ln,N+1+j=ln:=⟨_,rfl⟩
    rw[hln]at ho |-;have Hln:=Lib.hid hln;have hl2:ln<=1000100:=by omega
    clear hln;by_cases hlt:j<z
    · have e1:((ln:Int) % (64:Int) != 56)=true:=by
        rw[bne_iff_ne];have:=Hmn.out j hlt;have:=Hln.out;omega
      have q1:=ZP wr 0;have ho2:=ho.kept (z4.alloc wr (.cells #[.int .u8 0] 5)) (by simp);have hr2:(wr.alloc (.cells #[.int .u8 0] 5)).cell? ⟨wr.heap.size,0,none⟩=some (yW 0):=by simp[go_sem,yW]
      go_wp2_with (at_builtin;refine nD rfl ho2 rfl hr2 (by omega) (by simp;omega) ?_;intro A4 cap4 w4 ho4 hk4)
      have hkf:z4 (blk A3) wr w4:=z4.trans ((z4.alloc wr _).mono (S':=blk A3) (by simp)) hk4 (fun x hx=>.inl hx);have hb4:Below ga w w4:=hb.trans (hkf.below (by omega) (fun x hx=>by have:=(ho.at_base x hx).1;omega));have hid4:=(hkf.block ga (by omega) (fun hx=>by have:=(ho.at_base ga hx).1;omega)).trans hidr;have hs4:=hkf.size;have hl4:l++128 :: List.replicate j 0 ++ [0]=l++128 :: List.replicate (j+1) 0:=by
        rw[List.replicate_succ'];simp
      rw[hl4]at ho4;clear hl4 hk4 ho2 hr2 q1 ho hb hkf hidr;go_roundw
      case rel=>exact⟨j+1,A4,cap4,by omega,(by rw[<-Hln.out,Nat.add_assoc]),(by rw[show N+1+(j+1)=ln+1 by have:=Hln.out;omega];exact ho4),hid4,hb4,by omega⟩
      case measure=>simp[aS];omega
    · have hjz:j=z:=by omega
      have e1:((ln:Int) % (64:Int) != 56)=false:=by
        rw[bne_eq_false_iff_eq];have:=Hmz.out;have:=Hln.out;omega
      have hln2:N+1+z=ln:=by rw[<-Hln.out,hjz]
      have Hln2:=Lib.hid hln2;obtain⟨D,hD⟩:∃D,l++128 :: List.replicate z 0=D:=⟨_,rfl⟩
      rw[hjz,hD]at ho;have HD:=Lib.hid hD;clear hjz hln2 hD hj hlt;go_upto_region 6 with fail
      go_loopw [3,5] (fun sv iv wr=>∃(i r1:Nat) (A5:Option Addr) (cap5:Nat),i+r1=8/\iv = .int .i64 ((r1:Int)-1)/\sv = .slice A5 (ln+i) cap5/\BuZ wr (ga+1) A5 (ln+i) cap5 (D++(mZ N).take i)/\wr.heap[ga]? = some (.cells (idC id0) 24 (0,0))/\Below ga w wr/\ga+1<=wr.heap.size) (fun _ iv _=>(intOf iv+1).toNat)
      case atStart=>exact⟨0,8,A3,cap3,rfl,rfl,rfl,(by rw[List.take_zero,List.append_nil];exact ho),hidr,hb,hsz⟩
      case round =>
        clear ho hb hidr hsz;obtain⟨i,r1,A5,cap5,hir,rfl,rfl,ho,hidr,hb,hsz⟩:=hrel;by_cases hlt:0<r1
        · obtain⟨r,hr⟩:∃r:Nat,r1=r+1:=⟨r1-1,by omega⟩
          have er:(r1:Int)-1=(r:Int):=by omega
          have hr7:r<8:=by omega
          have h7r:7-i=r:=by omega
          obtain⟨c,hc⟩:∃c,UInt8.ofNat (N*8 / 2 ^ (8*r))=c:=⟨_,rfl⟩
          have htk:=Z8 (n:=N) (i:=i) (by omega) (by omega);rw[h7r,hc]at htk;have eb:(N:Int)*(8:Int) / 2 ^ (8*r) % (256:Int)=((c.toNat:Nat):Int):=by
            rw[<-hc];have h3:((N*8 / 2 ^ (8*r):Nat):Int)=(N:Int)*(8:Int) / 2 ^ (8*r):=by simp
            rw[<-h3]
            simp
          have q1:=ZP wr ((c.toNat:Nat):Int);have hr2:(wr.alloc (.cells #[.int .u8 ((c.toNat:Nat):Int)] 5)).cell? ⟨wr.heap.size,0,none⟩=some (yW c):=by simp[go_sem,yW]
          have ho2:=ho.kept (z4.alloc wr (.cells #[.int .u8 ((c.toNat:Nat):Int)] 5)) (by simp);have Htk:=Lib.hid htk;have hi8:i<8:=by omega
          have Hir:=Lib.hid hir;have Hr:=Lib.hid hr;clear hc hr htk h7r hir;go_wp2_with (at_builtin;refine nD rfl ho2 rfl hr2 (by omega) (by simp;omega) ?_;intro A6 cap6 w6 ho6 hk6)
          have hkf:z4 (blk A5) wr w6:=z4.trans ((z4.alloc wr _).mono (S':=blk A5) (by simp)) hk6 (fun x hx=>.inl hx);have hb6:Below ga w w6:=hb.trans (hkf.below (by omega) (fun x hx=>by have:=(ho.at_base x hx).1;omega));have hid6:=(hkf.block ga (by omega) (fun hx=>by have:=(ho.at_base ga hx).1;omega)).trans hidr;have hs6:=hkf.size;have hl6:D++(mZ N).take i ++ [c]=D++(mZ N).take (i+1):=by rw[Htk.out];simp
          rw[hl6]at ho6;clear hl6 hk6 ho2 hr2 q1 ho hb Htk eb hkf hidr;(go_wp2_with fail);go_roundw
          case rel=>exact⟨i+1,r,A6,cap6,(by have:=Hir.out;have:=Hr.out;omega),rfl,rfl,ho6,hid6,hb6,by omega⟩
          case measure=>simp[intOf];omega
        · have hr0:r1=0:=by omega
          have hi8:i=8:=by omega
          have hneg:((r1:Int)-1)<0:=by omega
          obtain⟨E,hE⟩:∃E,l++gO N=E:=⟨_,rfl⟩
          have hfull:D++(mZ N).take i=E:=by
            rw[hi8,List.take_of_length_le (by rw[dH];omega),<-HD.out,<-hE];unfold gO;rw[Hz.out];simp
          rw[hfull]at ho;obtain⟨M,hM⟩:∃M,ln+i=M:=⟨_,rfl⟩
          have hM64:M % 64=0:=by have h1:=Hln2.out;have h2:=Hmz.out;omega
          have hEl:E.length=M:=by rw[<-hE,List.length_append,Hll.out,tJ,Hz.out,<-hM,hi8];have:=Hln2.out;omega
          have hMb:M<=1000200:=by omega
          rw[hM]at ho |-;have hfin:(⟨bS (vO (M / 64) qE E),qD _⟩:zJ)=bM l:=by
            unfold bM;apply QJ;unfold shaU;rw[Hll.out,hE,hEl]
          have Hfin:=Lib.hid hfin;have HM64:=Lib.hid hM64;have HEl:=Lib.hid hEl;have c1:=fun w=>rstart w;have c2:=fun w=>rconsts w;clear hfull hM hM64 hEl hfin hE hi8 hr0 hir;(go_wp2_with fail);refine(c1 _).mono ?_;rintro e w5 ⟨rfl,hb5⟩;have hst:=tA w5 w5.heap.size rfl (wsC (zU 8)) (by simp[fB]) qE.l qE.l_len 93;have hk5:z4 [] wr (w5.alloc (.cells (wsC qE.l) 93)):=z4.trans (z4.of_below hb5) (z4.alloc w5 _) (by simp);have hn5:=heap_alloc_new w5 (.cells (wsC qE.l) 93);have hs5:=hb5.size;(go_wp2_with fail);refine(c2 _).mono ?_;rintro e w6 ⟨rfl,rfl⟩;obtain⟨gh,hgh⟩:∃gh,w5.heap.size=gh:=⟨_,rfl⟩
          obtain⟨V,hV⟩:∃V,V=w5.alloc (.cells (wsC qE.l) 93):=⟨_,rfl⟩
          have hVs:V.heap.size=gh+1:=by rw[hV,<-hgh];simp
          rw[<-hV]at hk5 hn5 |-;rw[hgh]at hn5 hs5 |-;rw[hVs];have hk6:z4 [] wr (V.alloc (.cells (wsC kU) 92)):=z4.trans hk5 (z4.alloc V _) (by simp);have hgk:=heap_alloc_new V (.cells (wsC kU) 92);rw[hVs]at hgk;have hgh6:=(Below.heap_alloc V (.cells (wsC kU) 92) gh (by omega)).trans hn5;have ho6:=ho.kept hk6 (by simp);have hid6:=(hk6.block ga (by omega) (by simp)).trans hidr;have hb6:Below ga w (V.alloc (.cells (wsC kU) 92)):=hb.trans (hk6.below (by omega) (by simp));have hA5:=ho.at_base;obtain⟨U,hU⟩:∃U,U=V.alloc (.cells (wsC kU) 92):=⟨_,rfl⟩
          have hUs:U.heap.size=gh+2:=by rw[hU];simp[hVs]
          rw[<-hU]at hgk hgh6 ho6 hid6 hb6 |-;have hA6:∀x∈blk A5,x≠gh:=fun x hx=>(by have:=(hA5 x hx).2;omega);have HA6:=Lib.hid hA6;have hgaU:ga<gh:=by omega
          have hUl:gh+1<U.heap.size:=by omega
          clear hU hV hgh hk5 hn5 hst hb5 ho hidr hb hk6 hVs hUs hA5 hA6 c1 c2;go_upto_region 12 with fail
          go_loopw [8] (fun iv wr=>∃(k m:Nat),64*k=m/\m<=M/\iv = .int .i64 m/\wr.heap[gh]? = some (.cells (wsC (vO k qE E).l) 93 (0,0))/\z4 [gh] U wr) (fun iv _=>M+64-(intOf iv).toNat)
          case atStart=>exact⟨0,0,rfl,by omega,rfl,hgh6,z4.refl _ _⟩
          case round =>
            clear hgh6;obtain⟨k,m,hkm,hmM,rfl,hc,hkp⟩:=hrel;by_cases hlt2:m<M
            · have hm64:m+64<=M:=by have:=HM64.out;omega
              have hzr:=ho6.kept hkp (fun x hx=>by simpa using HA6.out x hx);obtain⟨A7,hrun,hrd⟩:=hzr.slw.mid jZ (m:=m) (j:=64) hm64 (by omega);have hrun':∀w0:World,(slS 89 (.slice A5 M cap5) (some (.int .i64 m)) (some (.int .i64 ((m:Int)+64))) none).run Tryz.prog w0 = .ok (.slice A7 64 (cap5-m)) w0:=fun w0=>by
                have h:=hrun w0
                rwa [show((m+64:Nat):Int)=(m:Int)+64 by omega]at h
              have hb64:kQ wr A7 64 ((E.drop m).take 64):=by
                have h:=hrd wr hzr.slw.rd;unfold yU at h;rw[<-List.map_drop,<-List.map_take]at h;exact h
              have hkr:=(hkp.block (gh+1) hUl (by simp)).trans hgk;have cb:=rblock wr.drew (vO k qE E) A7 (cap5-m) ((E.drop m).take 64) (gh+1) 64 92 (hb64.kept (z4.drew wr) (by simp)) hkr;have hst2:m8 (vO k qE E) ((E.drop m).take 64)=vO (k+1) qE E:=by rw[rL,hkm]
              rw[hst2]at cb;have hw64:IntKind.i64.wrap ((m:Int)+64)=(m:Int)+64:=by simp[IntKind.wrap,IntKind.bits,IntKind.signed];omega
              have hgr:gh<wr.heap.size:=(Array.getElem?_eq_some_iff.1 hc).1;have hrowr:z9 wr gh 0 8=some (wsC (vO k qE E).l):=by unfold z9;rw[hc];simp[StU.l_len]
              clear hrun hrd hb64 hzr hkr hst2;go_upto_region 14 with fail
              have q1:gh∉([]:List Nat):=by simp
              refine xB (Kp ([]:List Nat) wr) false (by kernel_rfl) (by kernel_rfl) (by kernel_rfl) (by kernel_rfl) (zW ([]:List Nat) wr) ?_;have hne:=xA ([]:List Nat) wr;have hS:=zW ([]:List Nat) wr;have b0:=j5 hrowr q1;repeat(refine z6 ?_ ?_;(focus(simp only[z3];done));intro K hK;go_simp;refine hK _ ?_;clear hK K)
              refine zH ?_ ?_ ?_;(focus(exact hS));(focus(simp only[z3];done));intro K hK;go_simp;refine cb.mono ?_;rintro e w7 ⟨rfl,hb7⟩;have hk7:z4 [] wr w7:=z4.trans (z4.drew wr) (z4.of_below hb7) (by simp);replace hS:=QB hS hb7;refine⟨_,rfl,hS,hK _ _ ?_⟩;clear hK K;have hc7:=(hk7.block gh hgr (by simp)).trans hc;have hsto:=yA (P:=Tryz.prog) r9 w7 gh (wsC (vO k qE E).l) (wsC (vO (k+1) qE E).l) _ hc7 (by simp[StU.l_len]) (by simp[StU.l_len]) (lG _);have hc8:=setRow_heap w7 gh _ (wsC (vO (k+1) qE E).l) _ _ hc7;have hk8:z4 [gh] w7 (w7.setRow gh (wsC (vO (k+1) qE E).l)):=⟨rfl,rfl,rfl,by simp[World.setRow],fun x _ hx=>setRow_other w7 gh x _ (by simpa using hx)⟩
              have hkf:z4 [gh] U (w7.setRow gh (wsC (vO (k+1) qE E).l)):=z4.trans (z4.trans hkp (hk7.mono (S':=[gh]) (by simp)) (fun x hx=>.inl hx)) hk8 (fun x hx=>.inl hx);repeat(refine z6 ?_ ?_;(focus(simp only[z3];done));intro K hK;go_simp;refine hK _ ?_;clear hK K)
              refine jS ?_ ?_;(focus(simp only[z3];done));intro K hK;go_simp;refine hK _ _ ?_;clear hK K;clear hne hS b0 hrowr hc hc7 hk7 hk8 hkp hb7 cb hsto hrun';(go_wp2_with fail);go_roundw
              case rel=>exact⟨k+1,m+64,by omega,by omega,by go_num,hc8,hkf⟩
              case measure=>simp[intOf];omega
            · have hmM2:m=M:=by omega
              have hkM:k=M / 64:=by omega
              obtain⟨F,hF⟩:∃F,vO (M / 64) qE E=F:=⟨_,rfl⟩
              rw[hkM,hF]at hc;rw[hF]at Hfin;have hgr:gh<wr.heap.size:=(Array.getElem?_eq_some_iff.1 hc).1;have hidr:=(hkp.block ga (by omega) (by simp;omega)).trans hid6;have hbr:Below ga w wr:=hb6.trans (hkp.below (by omega) (by simp;omega));have ha:=z4.alloc wr (.cells (idC id0) 24);have hgn:=heap_alloc_new wr (.cells (idC id0) 24);have hcn:=(ha.block gh hgr (by simp)).trans hc;have hidn:=(ha.block ga (by omega) (by simp)).trans hidr;have hbn:Below ga w (wr.alloc (.cells (idC id0) 24)):=hbr.trans (ha.below (by omega) (by simp));clear hF hkM hmM2 hkp hidr hbr ha hc hid6 hb6 ho6 hgk;go_upto_region 17 with fail
              obtain⟨gb,hgb⟩:∃gb,wr.heap.size=gb:=⟨_,rfl⟩
              obtain⟨V,hV⟩:∃V,V=wr.alloc (.cells (idC id0) 24):=⟨_,rfl⟩
              rw[<-hV]at hgn hbn hidn hcn |-;rw[hgb]at hgn hgr |-;have hgbV:gb<V.heap.size:=(Array.getElem?_eq_some_iff.1 hgn).1;clear hV hgb;go_loopw [10] (fun iv wr=>∃i:Nat,i<=32/\iv = .int .i64 i/\wr.heap[gb]? = some (.cells (idA (bS F) i) 24 (0,0))/\z4 [gb] V wr) (fun iv _=>32-(intOf iv).toNat)
              case atStart=>exact⟨0,by omega,rfl,(by rw[eU];exact hgn),z4.refl _ _⟩
              case round =>
                clear hgn;obtain⟨i,hi,rfl,hc,hkp⟩:=hrel;by_cases hlt3:i<32
                · have hcr:=(hkp.block gh (by omega) (by simp;omega)).trans hcn;have x0:wr.cell? ⟨gh,i / 4,none⟩=some (.int .u32 (nU (F.l.getD (i / 4) 0))):=dX hcr (by rw[F.l_len];omega);have hog:=out_get F hlt3;have hos:=qD F;have hset:=BG (bS F) i (by omega) hlt3;have hb9:(bS F).getD i 0=(bS F)[i]'(by omega):=by rw[List.getD_eq_getElem?_getD,List.getElem?_eq_getElem (by omega)];rfl
                  rw[hb9]at hog;obtain⟨bb,hbb⟩:∃bb,(bS F)[i]'(by omega)=bb:=⟨_,rfl⟩
                  rw[hbb]at hog hset;obtain⟨x,hx⟩:∃x,F.l.getD (i / 4) 0=x:=⟨_,rfl⟩
                  rw[hx]at hog x0;obtain⟨a4,ha4⟩:∃a4,i / 4=a4:=⟨_,rfl⟩
                  obtain⟨r4,hr4⟩:∃r4,i % 4=r4:=⟨_,rfl⟩
                  obtain⟨sh,hsh⟩:∃sh,24-8*r4=sh:=⟨_,rfl⟩
                  rw[ha4]at x0;rw[hr4,hsh]at hog;have e1:(i:Int) / (4:Int)=(a4:Int):=by omega
                  have e2:(i:Int) % (4:Int)=(r4:Int):=by omega
                  have e3:(24:Int)-8*(r4:Int)=(sh:Int):=by omega
                  have l4:(a4:Int)<8:=by omega
                  have lsh:(sh:Int)<=32:=by omega
                  have hsz:=QL (bS F) i (by omega) (by omega);have hck:∃v,wr.cell? ⟨gb,i,none⟩=some v:=⟨(idA (bS F) i)[i]'(by omega),by rw[cell_of_row wr gb i _ _ _ hc,Array.getElem?_eq_getElem]⟩
                  obtain⟨v9,x9⟩:=hck;have f9:wr.frozen? ⟨gb,i,none⟩=false:=by simp[World.frozen?,hc]
                  have hc2:=zE hc i (.int .u8 ((bb.toNat:Nat):Int));have hset':(idA (bS F) i).setIfInBounds i (.int .u8 ((bb.toNat:Nat):Int))=idA (bS F) (i+1):=hset;rw[hset']at hc2;have hk2:z4 [gb] V (wr.setCell ⟨gb,i,none⟩ (.int .u8 ((bb.toNat:Nat):Int))):=z4.trans hkp (z4.setCell wr ⟨gb,i,none⟩ _) (fun x hx=>.inl hx);have Hc2:=Lib.hid hc2;clear hset hset' hc2 hsz hbb hb9 hos hx ha4 hr4 hsh hc hkp hcr;(go_wp2_with fail);go_roundw
                  case rel=>exact⟨i+1,by omega,by go_num,Hc2.out,hk2⟩
                  case measure=>simp[intOf];omega
                · have hi32:i=(bS F).length:=by rw[qD];omega
                  have hfull:=QM (bS F) (.inl (qD F));rw[hi32,hfull]at hc;have hid9:kS (bS F)=bM l:=by rw[<-Hfin.out];unfold kS;rw[dif_pos (qD F)]
                  rw[hid9]at hc;have hrow:z9 wr gb 0 32=some (idC (bM l)):=by unfold z9;rw[hc];simp
                  have hg2':=(hkp.block ga (by omega) (by simp;omega)).trans hidn;have hsto:=yA (P:=Tryz.prog) kI wr ga (idC id0) (idC (bM l)) _ hg2' (by simp) (by simp) (qJ _);have Hrow:=Lib.hid (setRow_heap wr ga _ (idC (bM l)) _ _ hg2');have hkf:z4 [ga] wr (wr.setRow ga (idC (bM l))):=⟨rfl,rfl,rfl,by simp[World.setRow],fun x _ hx=>setRow_other wr ga x _ (by simpa using hx)⟩
                  have hkz:=z4.trans (hkp.mono (S':=[ga,gb]) (by simp)) (hkf.mono (S':=[ga,gb]) (by simp)) (fun x hx=>.inl hx);have hbz:Below ga w (wr.setRow ga (idC (bM l))):=hbn.trans (hkz.below (by omega) (by simp;omega));have Hbz:=Lib.hid hbz;clear hkf hkz hbz hg2' hc hkp hidn hbn hfull hi32 hid9 hcn;(go_wp2_with fail);exact bodyPost_ret (results_cell_row Tryz.results16 _ _ ga 24 (idC (bM l)) (0,0) _ rfl Hrow.out Tryz.underlying24 rfl (by rw[vT];exact kI)) rfl ⟨rfl,by rw[Hga.out];exact Hbz.out⟩
theorem cQ {P:Program} {fn:Func} {p q:Tmp} {ty:TypeId} (h:fn.results = #[.cell p ty,.tmp q]) (tmps:Array Value) (w:World) (g:Nat) (t:TypeId) (cs:Array Value) (fr:Nat×Nat) (d:TypeDesc)
    (hp:tmps.getD p undef = .pointer (some ⟨g,0,none⟩)) (hg:w.heap[g]? = some (.cells cs t fr))
    (hu:P.underlying ty=some d) (hd:(match d with | .struct _ | .array _ _=>true | _=>false)=true) (hi:(P.info? ty).map (·.size)=some cs.size) :
    (results fn tmps).run P w = .ok (.tuple #[.agg cs,tmps.getD q undef]) w:=by
  have hp':tmps[p]?.getD undef = .pointer (some ⟨g,0,none⟩):=by simpa using hp
  simp[results,h,hp',asAddr,run_loadVar_row w g t ty cs fr d hg hu hd hi]
theorem sA {s:ByteArray} (h:xN s=0):s.size<=12:=by
  by_cases hf:vG s=true
  · exact(pB hf).2
  · have h1:yO s=0:=if_neg hf;have h2:xN s=9:=if_pos h1;rw[h2]at h;exact absurd h (by decide)
theorem KS (w:World) (s:ByteArray) (hv:xT w) (hs:s.size<=1000000) :
    Calls Tryz.prog 22 #[.string s] w fun e w'=>e = .returned (.agg (idC (bM s.data.toList)))/\Below w.heap.size w w':=by
  have hb0:Below w.heap.size w (w.alloc (.cells (idC id0) 24)):=(Below.refl _ _).alloc (Nat.le_refl _) _;have hid:=heap_alloc_new w (.cells (idC id0) 24);have hv0:=hv.below hb0;have c1:=sha_new _ hv0;have hltF:=hv.ltF;have hltK:=hv.ltK;have hll:s.data.toList.length=s.size:=rfl;have hfin:(⟨bS (vO ((s.size % 64+(gO s.size).length) / 64) (vO (s.size / 64) qE s.data.toList) (s.data.toList.drop (64*(s.size / 64))++gO s.size)),qD _⟩:zJ)=bM s.data.toList:=by
    unfold bM;apply QJ;rw[JW,hll,List.length_append,List.length_drop,hll,show s.size-64*(s.size / 64)=s.size % 64 by omega]
  have Hfin:=Lib.hid hfin;clear hfin hll hv;obtain⟨ga,hga⟩:∃ga,w.heap.size=ga:=⟨_,rfl⟩
  have Hga:=Lib.hid hga;rw[show(w.alloc (.cells (idC id0) 24)).heap.size=w.heap.size+1 by simp]at c1;go_enter Tryz.func22,Tryz.ntmps22
  (go_wp2_with fail);refine c1.mono ?_;rintro e w1 ⟨rfl,rfl⟩;have hg1:=heap_alloc_new (w.alloc (.cells (idC id0) 24)) (.cells (haC qE (.slice none 0 0) 0) 159);rw[show(w.alloc (.cells (idC id0) 24)).heap.size=w.heap.size+1 by simp]at hg1;have hb1:=hb0.alloc (by simp) (.cells (haC qE (.slice none 0 0) 0) 159);have hid1:=(Below.heap_alloc (w.alloc (.cells (idC id0) 24)) (.cells (haC qE (.slice none 0 0) 0) 159) w.heap.size (by simp)).trans hid;have hv1:xT ((w.alloc (.cells (idC id0) 24)).alloc (.cells (haC qE (.slice none 0 0) 0) 159)):=hv0.kept (z4.alloc _ _) (by simp) (by simp);obtain⟨W,hW⟩:∃W,W=(w.alloc (.cells (idC id0) 24)).alloc (.cells (haC qE (.slice none 0 0) 0) 159):=⟨_,rfl⟩
  rw[<-hW]at hg1 hb1 hid1 hv1 |-;rw[hga]at hg1 hb1 hid1 hltF hltK |-;have hgW:ga+1<W.heap.size:=(Array.getElem?_eq_some_iff.1 hg1).1;have c2:=zm W (ga+1) 159 qE s hv1 hg1 hs (by show ga+1≠_;omega) (by show ga+1≠_;omega);clear hW hb0 hid hv0 c1 hga;(go_wp2_with fail);refine c2.mono ?_;rintro e w2 ⟨rfl,A,cap,hg2,hsl2,hk2⟩;have hid2:=(hk2.block ga (by omega) (by simp)).trans hid1;have hv2:=hv1.kept hk2 (by simp) (by simp;omega);have hb2:Below ga w w2:=hb1.trans (hk2.below (by omega) (by simp));have c3:=vb w2 (ga+1) 159 _ A _ cap s.size _ hv2 hg2 hsl2 hs rfl;rw[Hfin.out]at c3;have hs2:=hk2.size;clear c2 hg1 hb1 hid1 hv1 hg2 hsl2 hk2 hv2 Hfin;(go_wp2_with fail);refine c3.mono ?_;rintro e w3 ⟨rfl,hb3⟩;have hid3:=(hb3.block ga (by omega)).trans hid2;have hsto:=yA (P:=Tryz.prog) kI w3 ga (idC id0) (idC (bM s.data.toList)) _ hid3 (by simp) (by simp) (qJ _);have Hfin:=Lib.hid (setRow_heap w3 ga _ (idC (bM s.data.toList)) _ _ hid3);have hkf:z4 [ga] w3 (w3.setRow ga (idC (bM s.data.toList))):=⟨rfl,rfl,rfl,by simp[World.setRow],fun x _ hx=>setRow_other w3 ga x _ (by simpa using hx)⟩
  have hb3s:=hb3.size;have hbz:Below ga w (w3.setRow ga (idC (bM s.data.toList))):=(hb2.trans (hb3.mono (by omega))).trans (hkf.below (by omega) (by simp));have Hbz:=Lib.hid hbz;clear hkf hbz hid3 hid2 hb3 hb2 c3;(go_wp2_with fail);exact bodyPost_ret (results_cell_row Tryz.results22 _ _ ga 24 (idC (bM s.data.toList)) (0,0) _ rfl Hfin.out Tryz.underlying24 rfl (by rw[vT];exact kI)) rfl ⟨rfl,by rw[Hga.out];exact Hbz.out⟩
theorem hd_put (w:World) (h:HdV) (A:Option Addr) (c:Nat) (hT:y8 w A h.ps.length h.ps) (hn:h.ps.length<=1000000) (ht:h.tp.size<=9223372036854775807) :
    Calls Tryz.prog 66 #[.agg (hdC (hdO h A c))] w fun e w'=>∃s:ByteArray,e = .returned (.tuple #[.string s,.int .i64 (hdE h)])/\(hdE h=0->s.data.toList=hdB h)/\Below w.heap.size w w':=by
  have hB:Below w.heap.size w (w.alloc (.cells (hdC (hdO h A c)) 30)):=(Below.refl _ _).alloc (Nat.le_refl _) _;have hr:z9 (w.alloc (.cells (hdC (hdO h A c)) 30)) w.heap.size 0 38=some (hdC (hdO h A c)):=by simp[go_sem]
  have hT0:=SlR.below hT hB;have cc:=hd_check _ h A c hT0 hn ht;obtain⟨E,hE⟩:∃E,hdE h=E:=⟨_,rfl⟩
  rw[hE]at cc |-;have HE:=Lib.hid hE;obtain⟨W,hW⟩:∃W,W=w.alloc (.cells (hdC (hdO h A c)) 30):=⟨_,rfl⟩
  rw[<-hW]at hB hr hT0 cc;have HW:=Lib.hid hW;obtain⟨g,hg⟩:∃g,w.heap.size=g:=⟨_,rfl⟩
  have Hg:=Lib.hid hg;have hgW:g<W.heap.size:=by rw[hW,<-hg];simp
  rw[hg]at hB hr;clear hE hW hT;go_enter Tryz.func66,Tryz.ntmps66
  go_upto_region 1 with fail
  rw[<-HW.out];clear hg;(go_wp2_with fail);refine cc.mono ?_;rintro e w2 ⟨rfl,hb2⟩;have hB2:Below g w w2:=hB.trans (hb2.mono (by omega));clear cc;by_cases h0:E=0
  · subst h0;have hok:=hdE_ok HE.out;have hr2:=(zB (hb2.block g hgW) 0 38).trans hr;have hT2:=SlR.below hT0 hb2;have hg2:g<w2.heap.size:=zI hr2;obtain⟨H,hH⟩:∃H:Nat,h.ht=H:=⟨h.ht.toNat,by have:=hok.ht;omega⟩
    obtain⟨au,hau⟩:∃au:Nat,h.au=au:=⟨h.au.toNat,by have:=hok.au;omega⟩
    obtain⟨sq,hsq⟩:∃sq:Nat,h.sq=sq:=⟨h.sq.toNat,by have:=hok.sq;omega⟩
    obtain⟨sz,hsz⟩:∃sz:Nat,h.sz=sz:=⟨h.sz.toNat,by have:=hok.sz;omega⟩
    have htp:=sA hok.tp;have hps:=hok.ps;have b1:H<256 ^ 4:=by have:=hok.ht;omega
    have b3:au<256 ^ 1:=by have:=hok.au;omega
    have b4:sq<256 ^ 4:=by have:=hok.sq;omega
    have b5:sz<256 ^ 2:=by have:=hok.sz;omega
    have hdb:hdB h=beL 1 h.ps.length++h.ps.flatMap zJ.l++beL 4 H++beL 1 h.tp.size++h.tp.data.toList++beL 1 au++beL 4 sq++beL 2 sz++h.cm.l:=by
      unfold hdB;rw[hH,hau,hsq,hsz];rfl
    have Hdb:=Lib.hid hdb;have cl:∀(w':World),w'.heap[g]? = w2.heap[g]?->w'.cell? ⟨g,0,none⟩=some (.slice A h.ps.length c)/\w'.cell? ⟨g,1,none⟩=some (.int .i64 H)/\w'.cell? ⟨g,2,none⟩=some (.string h.tp)/\w'.cell? ⟨g,3,none⟩=some (.int .i64 au)/\w'.cell? ⟨g,4,none⟩=some (.int .i64 sq)/\w'.cell? ⟨g,5,none⟩=some (.int .i64 sz)/\z9 w' g 6 32=some (idC h.cm):=fun w' hw=>by
      have hr3:=(zB hw 0 38).trans hr2;have x0:=z8 hr3 (j:=0) (by omega);have x1:=z8 hr3 (j:=1) (by omega);have x2:=z8 hr3 (j:=2) (by omega);have x3:=z8 hr3 (j:=3) (by omega);have x4:=z8 hr3 (j:=4) (by omega);have x5:=z8 hr3 (j:=5) (by omega);have x6:=zV hr3 (j:=6) (m:=32) (by omega);simp only[wX,tR,rA,eX,eW,eV,Nat.zero_add]at x0 x1 x2 x3 x4 x5 x6;rw[hdC_e6]at x6;simp only[hdO,hH,hau,hsq,hsz]at x0 x1 x2 x3 x4 x5 x6;exact⟨x0,x1,x2,x3,x4,x5,x6⟩
    have Hcl:=Lib.hid cl;obtain⟨x0,_⟩:=cl w2 rfl;obtain⟨S,hS0⟩:∃S,h.ps=S:=⟨_,rfl⟩
    rw[hS0]at hT2 x0 hps Hdb Hcl;clear cl hdb hr2 hH hau hsq hsz hok hS0 hr hT0;go_upto_region 4 with fail
    refine zA (Bel w2) false (by kernel_rfl) (by kernel_rfl) (by kernel_rfl) (zC w2) ?_;have hne:=zQ w2;have hS:=zC w2;have c0:=zP x0;repeat(refine z6 ?_ ?_;(focus(simp only[z3];done));intro K hK;go_simp;refine hK _ ?_;clear hK K)
    refine zH ?_ ?_ ?_;(focus(exact hS));(focus(simp only[z3];done));intro K hK;go_simp;refine(wnew _).mono ?_;rintro e w3 ⟨rfl,hw3,hb3⟩;have h23:=hS.size;replace hS:=yN hS hb3;refine⟨_,rfl,hS,hK _ _ ?_⟩;clear hK K;repeat(refine z6 ?_ ?_;(focus(simp only[z3];done));intro K hK;go_simp;refine hK _ ?_;clear hK K)
    refine zH ?_ ?_ ?_;(focus(exact hS));(focus(simp only[z3];done));intro K hK;go_simp;refine(BU _ _ _ _ _ _ hw3 S.length 1 (by omega) (by omega) (by simp)).mono ?_;rintro e W3 ⟨rfl,AW,capW,hwW,hkW,hsubW⟩;simp only[List.nil_append]at hwW;have hwW':wM W3 (w2.heap.size+1) w2.heap.size AW capW (beL 1 S.length):=hwW;have hk23:z4 [] w2 w3:=z4.of_below hS;have hbel:Below w2.heap.size w2 W3:=(hS:Below w2.heap.size w2 w3).trans (hkW.below hk23.size (by show ∀x∈w2.heap.size :: blk none,_;simp[blk]));refine⟨_,rfl,hbel,hK _ _ ?_⟩;clear hK K;repeat(refine z6 ?_ ?_;(focus(simp only[z3];done));intro K hK;go_simp;refine hK _ ?_;clear hK K)
    refine zK ?_;intro hS;clear hne hS c0 hw3 hb3 hkW hk23 h23 hwW;obtain⟨gw,hgw⟩:∃gw,w2.heap.size=gw:=⟨_,rfl⟩
    have hAW:∀x∈blk AW,gw<x:=fun x hx=>(by have:=(hwW'.own.at_base hx).1;omega);have hB3:Below g w W3:=hB2.trans (hbel.mono (by omega));have hg3:=hbel.block g hg2;have hT3:=SlR.below hT2 hbel;have hTb:∀x∈blk A,x<gw\/S.length=0:=fun x hx=>by
      by_cases h0:S.length=0
      · exact .inr h0
      · left
        obtain⟨q,o,rfl,hq⟩:=y8.get hT2 (i:=0) (by omega) (by omega);simp[blk]at hx;subst hx;have:=zI hq;omega
    have HTb:=Lib.hid hTb;have hgg:g<gw:=by omega
    rw[hgw]at hwW' hbel;simp only[hgw];have hgwl:gw<W3.heap.size:=hwW'.lt;clear hgw hTb hT2 hB2 hg2 hbel hsubW;obtain⟨_,_,_⟩:=Hcl.out W3 hg3;go_upto_region 6 with fail
    go_loopw [7,21] (fun _ i wr=>∃k:Nat,k<=S.length/\i = .int .i64 (k:Nat)/\mH W3 (gw+1) gw AW (beL 1 S.length++(S.take k).flatMap zJ.l) wr) (fun _ i _=>S.length-(intOf i).toNat)
    case atStart=>exact⟨0,Nat.zero_le _,rfl,AW,capW,by simpa using hwW',z4.refl _ _,fun x hx=>.inl hx⟩
    case round =>
      clear hwW';obtain⟨k,hk,rfl,A4,cap4,hw4,hk4,hsub4⟩:=hrel;by_cases hlt:k<S.length
      · have hdis:∀x∈blk A,x∉gw :: blk AW:=fun x hx=>by
          have h1:=HTb.out x hx;simp only[List.mem_cons,not_or];exact⟨by omega,fun hy=>by have:=hAW x hy;omega⟩
        have hLr:=hT3.kept hk4 hdis;obtain⟨q,o,rfl,hr⟩:=y8.get hLr hlt hlt;have htk:(S.take (k+1)).flatMap zJ.l=(S.take k).flatMap zJ.l++(S[k]).l:=by rw[List.take_add_one,List.getElem?_eq_getElem hlt,List.flatMap_append];simp only[Option.toList_some,List.flatMap_cons,List.flatMap_nil,List.append_nil]
        have hbl:=dI zJ.l 32 (S.take k) (fun x hx=>by rw[x.h];exact Nat.le_refl _);have htl:(S.take k).length=k:=by simp;omega
        rw[htl]at hbl;obtain⟨x,hx⟩:∃x,S[k]'hlt=x:=⟨_,rfl⟩
        rw[hx]at hr htk;have Htk:=Lib.hid htk;clear hx htk hLr htl hdis;have hbl0:(beL 1 S.length++(S.take k).flatMap zJ.l).length<=300000000:=by rw[List.length_append,vL];omega
        obtain⟨bs0,hbs0⟩:∃bs0,beL 1 S.length++(S.take k).flatMap zJ.l=bs0:=⟨_,rfl⟩
        have Hbs0:=Lib.hid hbs0;rw[hbs0]at hw4 hbl0;clear hbs0 hbl;have hb5:Below wr.heap.size wr (wr.alloc (.cells (idC x) 24)):=(Below.refl _ _).alloc (Nat.le_refl _) _;have hw5:=hw4.below hb5;have hk5:z4 [] wr (wr.alloc (.cells (idC x) 24)):=z4.alloc _ _;have hbox:z9 (wr.alloc (.cells (idC x) 24)) wr.heap.size 0 32=some (idC x):=by simp[go_sem]
        have hconv:∀c,(convert 89 9 (.slice (some ⟨wr.heap.size,0,none⟩) 32 c)).run Tryz.prog (wr.alloc (.cells (idC x) 24)) = .ok (.string ⟨x.l.toArray⟩) (wr.alloc (.cells (idC x) 24)):=fun c=>ZF hbox;have e3:(⟨x.l.toArray⟩:ByteArray).size=32:=by show x.l.toArray.size=32;simp[x.h]
        have e4:(⟨x.l.toArray⟩:ByteArray).data.toList=x.l:=by simp
        have cw:=wraw _ (gw+1) gw A4 cap4 bs0 hw5 ⟨x.l.toArray⟩ (by rw[e3];omega);rw[e4]at cw;clear e3 e4 hbox;(go_wp2_with fail);refine cw.mono ?_;rintro e w6 ⟨rfl,hst⟩;have hst2:=j7 hw4 hk4 hsub4 (j7 hw5 (hk5.mono (S':=gw :: blk A4) (by simp)) (fun x hx=>.inl hx) hst);rw[<-Hbs0.out,List.append_assoc,<-Htk.out]at hst2;have Hst:=Lib.hid hst2;clear hst hst2 hconv cw hb5 hw5 hk5 hw4 hk4 hsub4;(go_wp2_with fail);go_roundw
        case rel=>exact⟨k+1,by omega,by go_num,Hst.out⟩
        case measure=>simp[intOf];omega
      · have hkL:S.take k=S:=List.take_of_length_le (by omega);rw[hkL]at hw4;obtain⟨P0,hP0⟩:∃P0,beL 1 S.length++S.flatMap zJ.l=P0:=⟨_,rfl⟩
        have hbl:=dI zJ.l 32 S (fun x hx=>by rw[x.h];exact Nat.le_refl _);have hPl:P0.length<=200:=by rw[<-hP0,List.length_append,vL];omega
        rw[hP0]at hw4;have HP0:=Lib.hid hP0;have hA4:∀x∈blk A4,gw<x:=fun x hx=>(by have:=(hw4.own.at_base hx).1;omega);have hgn:g∉gw :: blk AW:=by
          simp only[List.mem_cons,not_or];exact⟨by omega,fun hy=>by have:=hAW g hy;omega⟩
        have hgn4:g∉gw :: blk A4:=by
          simp only[List.mem_cons,not_or];exact⟨by omega,fun hy=>by have:=hA4 g hy;omega⟩
        have hgr:=(hk4.block g (by omega) hgn).trans hg3;have hB4:Below g w wr:=hB3.trans (hk4.below (B:=g) (by omega) (fun x hx=>by
          rcases List.mem_cons.1 hx with rfl | hx
          · omega
          · have:=hAW x hx;omega))
        have hwrl:gw<wr.heap.size:=hw4.lt;obtain⟨_,x1,x2,_⟩:=Hcl.out wr hgr;have e1:h.tp.data.toList.length=h.tp.size:=Array.length_toList;have E1:=Lib.hid e1;clear hkL hP0 hbl e1 hk4 hsub4 hg3 hB3 hgn;go_upto_region 10 with fail
        have hst:mH wr (gw+1) gw A4 P0 wr.drew:=⟨A4,cap4,hw4.kept (z4.drew wr) (by simp) (by simp),(z4.drew wr).mono (by simp),fun x hx=>.inl hx⟩
        refine zA (Kp (gw :: blk A4) wr) false (by kernel_rfl) (by kernel_rfl) (by kernel_rfl) (zW (gw :: blk A4) wr) ?_;have hne:=xA (gw :: blk A4) wr;have hS:=zW (gw :: blk A4) wr;have c1:=zM x1 hgn4;have c2:=zM x2 hgn4;repeat(refine z6 ?_ ?_;(focus(simp only[z3];done));intro K hK;go_simp;refine hK _ ?_;clear hK K)
        refine zH ?_ ?_ ?_;(focus(exact hS));(focus(simp only[z3];done));intro K hK;go_simp;obtain⟨Ai,capi,hwi,hki,hsubi⟩:=hst;refine(BU _ _ _ _ _ _ hwi H 4 (by omega) b1 (by omega)).mono ?_;rintro e w' ⟨rfl,hst'⟩;replace hst:=j7 hwi hki hsubi hst';have hS:=hst.choose_spec.choose_spec.2.1;refine⟨_,rfl,hS,hK _ _ ?_⟩;clear hK K hwi hki hsubi hst';repeat(refine z6 ?_ ?_;(focus(simp only[z3];done));intro K hK;go_simp;refine hK _ ?_;clear hK K)
        refine zH ?_ ?_ ?_;(focus(exact hS));(focus(simp only[z3];done));intro K hK;go_simp;obtain⟨Ai,capi,hwi,hki,hsubi⟩:=hst;refine(BU _ _ _ _ _ _ hwi h.tp.size 1 (by omega) (by omega) (by rw[List.length_append,vL];omega)).mono ?_;rintro e w' ⟨rfl,hst'⟩;replace hst:=j7 hwi hki hsubi hst';have hS:=hst.choose_spec.choose_spec.2.1;refine⟨_,rfl,hS,hK _ _ ?_⟩;clear hK K hwi hki hsubi hst';repeat(refine z6 ?_ ?_;(focus(simp only[z3];done));intro K hK;go_simp;refine hK _ ?_;clear hK K)
        refine zH ?_ ?_ ?_;(focus(exact hS));(focus(simp only[z3];done));intro K hK;go_simp;obtain⟨Ai,capi,hwi,hki,hsubi⟩:=hst;refine(wraw _ _ _ _ _ _ hwi h.tp (by simp only[List.length_append,vL];omega)).mono ?_;rintro e w' ⟨rfl,hst'⟩;replace hst:=j7 hwi hki hsubi hst';have hS:=hst.choose_spec.choose_spec.2.1;refine⟨_,rfl,hS,hK _ _ ?_⟩;clear hK K hwi hki hsubi hst';repeat(refine z6 ?_ ?_;(focus(simp only[z3];done));intro K hK;go_simp;refine hK _ ?_;clear hK K)
        refine zK ?_;intro hS;obtain⟨A5,cap5,hw5,hk5,hsub5⟩:=hst;obtain⟨w5,rfl⟩:∃w5,w5=w':=⟨w',rfl⟩
        have hgr5:=(hk5.block g (by omega) hgn4).trans hgr;have hB5:Below g w w5:=hB4.trans (hk5.below (B:=g) (by omega) (fun x hx=>by
          rcases List.mem_cons.1 hx with rfl | hx
          · omega
          · have:=hA4 x hx;omega))
        obtain⟨_,_,_,x3,x4,x5,x6⟩:=Hcl.out w5 hgr5;obtain⟨P1,hP1⟩:∃P1,P0++beL 4 H++beL 1 h.tp.size++h.tp.data.toList=P1:=⟨_,rfl⟩
        have hPl1:P1.length<=300:=by rw[<-hP1];simp only[List.length_append,vL];have:=E1.out;omega
        rw[hP1]at hw5;have HP1:=Lib.hid hP1;have hA5:∀x∈blk A5,gw<x:=fun x hx=>(by have:=(hw5.own.at_base hx).1;omega);have hgn5:g∉gw :: blk A5:=by
          simp only[List.mem_cons,not_or];exact⟨by omega,fun hy=>by have:=hA5 g hy;omega⟩
        have hw5l:gw<w5.heap.size:=hw5.lt;clear hP1 hne hS c1 c2 hk5 hsub5 hgr hB4 hw4 hA4 hgn4 x1 x2;go_upto_region 11 with fail
        have hconv:∀(y:Subtype (Kp (gw :: blk A5) w5)) c,(convert 89 9 (.slice (some ⟨g,6,none⟩) 32 c)).run Tryz.prog y.1 = .ok (.string ⟨h.cm.l.toArray⟩) y.1:=fun y c=>ZF (j5 x6 hgn5 y);have e3:(⟨h.cm.l.toArray⟩:ByteArray).size=32:=by show h.cm.l.toArray.size=32;simp[h.cm.h]
        have e4:(⟨h.cm.l.toArray⟩:ByteArray).data.toList=h.cm.l:=by simp
        have E3:=Lib.hid e3;have E4:=Lib.hid e4;clear e3 e4;have hst:mH w5 (gw+1) gw A5 P1 w5.drew:=⟨A5,cap5,hw5.kept (z4.drew w5) (by simp) (by simp),(z4.drew w5).mono (by simp),fun x hx=>.inl hx⟩
        refine zA (Kp (gw :: blk A5) w5) false (by kernel_rfl) (by kernel_rfl) (by kernel_rfl) (zW (gw :: blk A5) w5) ?_;have hne:=xA (gw :: blk A5) w5;have hS:=zW (gw :: blk A5) w5;have c3:=zM x3 hgn5;have c4:=zM x4 hgn5;have c5:=zM x5 hgn5;repeat(refine z6 ?_ ?_;(focus(simp only[z3];done));intro K hK;go_simp;refine hK _ ?_;clear hK K)
        refine zH ?_ ?_ ?_;(focus(exact hS));(focus(simp only[z3];done));intro K hK;go_simp;obtain⟨Ai,capi,hwi,hki,hsubi⟩:=hst;refine(BU _ _ _ _ _ _ hwi au 1 (by omega) b3 (by omega)).mono ?_;rintro e w' ⟨rfl,hst'⟩;replace hst:=j7 hwi hki hsubi hst';have hS:=hst.choose_spec.choose_spec.2.1;refine⟨_,rfl,hS,hK _ _ ?_⟩;clear hK K hwi hki hsubi hst';repeat(refine z6 ?_ ?_;(focus(simp only[z3];done));intro K hK;go_simp;refine hK _ ?_;clear hK K)
        refine zH ?_ ?_ ?_;(focus(exact hS));(focus(simp only[z3];done));intro K hK;go_simp;obtain⟨Ai,capi,hwi,hki,hsubi⟩:=hst;refine(BU _ _ _ _ _ _ hwi sq 4 (by omega) b4 (by rw[List.length_append,vL];omega)).mono ?_;rintro e w' ⟨rfl,hst'⟩;replace hst:=j7 hwi hki hsubi hst';have hS:=hst.choose_spec.choose_spec.2.1;refine⟨_,rfl,hS,hK _ _ ?_⟩;clear hK K hwi hki hsubi hst';repeat(refine z6 ?_ ?_;(focus(simp only[z3];done));intro K hK;go_simp;refine hK _ ?_;clear hK K)
        refine zH ?_ ?_ ?_;(focus(exact hS));(focus(simp only[z3];done));intro K hK;go_simp;obtain⟨Ai,capi,hwi,hki,hsubi⟩:=hst;refine(BU _ _ _ _ _ _ hwi sz 2 (by omega) b5 (by simp only[List.length_append,vL];omega)).mono ?_;rintro e w' ⟨rfl,hst'⟩;replace hst:=j7 hwi hki hsubi hst';have hS:=hst.choose_spec.choose_spec.2.1;refine⟨_,rfl,hS,hK _ _ ?_⟩;clear hK K hwi hki hsubi hst';repeat(refine z6 ?_ ?_;(focus(simp only[z3];done));intro K hK;go_simp;refine hK _ ?_;clear hK K)
        refine zH ?_ ?_ ?_;(focus(exact hS));(focus(simp only[z3];done));intro K hK;go_simp;obtain⟨Ai,capi,hwi,hki,hsubi⟩:=hst;refine(wraw _ _ _ _ _ _ hwi ⟨h.cm.l.toArray⟩ (by rw[E3.out];simp only[List.length_append,vL];omega)).mono ?_;rintro e w' ⟨rfl,hst'⟩;replace hst:=j7 hwi hki hsubi hst';have hS:=hst.choose_spec.choose_spec.2.1;refine⟨_,rfl,hS,hK _ _ ?_⟩;clear hK K hwi hki hsubi hst';repeat(refine z6 ?_ ?_;(focus(simp only[z3];done));intro K hK;go_simp;refine hK _ ?_;clear hK K)
        refine zK ?_;intro hS;obtain⟨A6,cap6,hw6,hk6,hsub6⟩:=hst;obtain⟨w6,rfl⟩:∃w6,w6=w':=⟨w',rfl⟩
        have hB6:Below g w w6:=hB5.trans (hk6.below (B:=g) (by omega) (fun x hx=>by
          rcases List.mem_cons.1 hx with rfl | hx
          · omega
          · have:=hA5 x hx;omega))
        have heq:P1++beL 1 au++beL 4 sq++beL 2 sz++(⟨h.cm.l.toArray⟩:ByteArray).data.toList=hdB h:=by
          rw[Hdb.out,E4.out,<-HP1.out,<-HP0.out]
        rw[heq]at hw6;have HB6:=Lib.hid hB6;clear hne hS c3 c4 c5 hk6 hsub6 hgr5 hB5 hw5 hA5 hgn5 x3 x4 x5 x6 hconv heq hB6;(go_wp2_with fail);refine(wdone _ _ _ _ _ _ hw6).mono ?_;rintro e w7 ⟨rfl,rfl⟩;(go_wp2_with fail);go_ret2;refine⟨_,rfl,?_,by rw[Hg.out];exact HB6.out⟩;first | trivial | rfl | simp
  · have hb:(E != 0)=true:=by rw[bne_iff_ne];exact h0
    have H0:=Lib.hid h0;clear h0;(go_wp2_with fail);go_ret2;exact⟨⟨#[]⟩,rfl,fun h=>absurd h H0.out,by rw[Hg.out];exact hB2⟩
theorem hd_ident (w:World) (h:HdV) (A:Option Addr) (c:Nat) (hv:xT w) (hT:y8 w A h.ps.length h.ps) (hn:h.ps.length<=1000000) (ht:h.tp.size<=9223372036854775807) :
    Calls Tryz.prog 36 #[.agg (hdC (hdO h A c))] w fun e w'=>e = .returned (.tuple #[.agg (idC (hdI h)),.int .i64 (hdE h)])/\Below w.heap.size w w':=by
  have hB:Below w.heap.size w ((w.alloc (.cells (hdC (hdO h A c)) 30)).alloc (.cells (idC id0) 24)):=((Below.refl _ _).alloc (Nat.le_refl _) _).alloc (by simp) _;have hr:z9 ((w.alloc (.cells (hdC (hdO h A c)) 30)).alloc (.cells (idC id0) 24)) w.heap.size 0 38=some (hdC (hdO h A c)):=by
    rw[zB (Below.heap_alloc _ _ _ (by simp))];simp[go_sem]
  have hid:=heap_alloc_new (w.alloc (.cells (hdC (hdO h A c)) 30)) (.cells (idC id0) 24);rw[show(w.alloc (.cells (hdC (hdO h A c)) 30)).heap.size=w.heap.size+1 by simp]at hid;have cp:=hd_put _ h A c (SlR.below hT hB) hn ht;have hv0:=hv.below hB;obtain⟨W,hW⟩:∃W,W=(w.alloc (.cells (hdC (hdO h A c)) 30)).alloc (.cells (idC id0) 24):=⟨_,rfl⟩
  rw[<-hW]at hB hr hid cp hv0;have HW:=Lib.hid hW;obtain⟨g,hg⟩:∃g,w.heap.size=g:=⟨_,rfl⟩
  have Hg:=Lib.hid hg;have hgW:g+1<W.heap.size:=by rw[hW,<-hg];simp
  rw[hg]at hB hr hid;obtain⟨E,hE⟩:∃E,hdE h=E:=⟨_,rfl⟩
  have hI:hdI h=if E=0 then bM (hdB h)else id0:=by rw[<-hE];rfl
  have hbz:E=0->(hdB h).length<=1000000:=fun e0=>by
    have hok:=hdE_ok (hE.trans e0);have h1:=sA hok.tp;have h2:=hok.ps;have h3:=dI zJ.l 32 h.ps (fun x hx=>by rw[x.h];exact Nat.le_refl _);have h4:h.tp.data.toList.length=h.tp.size:=Array.length_toList;have h5:(h.ps.flatMap (·.l)).length<=h.ps.length*32:=h3;unfold hdB;simp only[List.length_append,vL,h4,h.cm.h];omega
  rw[hE]at cp;obtain⟨I,hII⟩:∃I,hdI h=I:=⟨_,rfl⟩
  rw[hII]at hI;rw[hII,hE];have HI:=Lib.hid hI;clear hW hT hE hI hII hv;go_enter Tryz.func36,Tryz.ntmps36
  go_upto_region 1 with fail
  rw[<-HW.out];clear hg;(go_wp2_with fail);refine cp.mono ?_;rintro e w2 ⟨s,rfl,hs,hb2⟩;have hid2:=(hb2.block (g+1) hgW).trans hid;have hB2:Below g w w2:=hB.trans (hb2.mono (by omega));have hg2:g+1<w2.heap.size:=by have:=hb2.size;omega
  have hv2:=hv0.below hb2;clear cp hr hid hb2 hv0;by_cases h0:E=0
  · have hE0:(E != 0)=false:=by rw[bne_eq_false_iff_eq];exact h0
    have hsd:=hs h0;have hss:s.size<=1000000:=by have h1:=hbz h0;rw[<-hsd]at h1;exact h1
    have cs:=KS w2 s hv2 hss;rw[hsd]at cs;have Hif:Hid (I=bM (hdB h)):=(show _=_ by rw[HI.out,if_pos h0])
    have H0:=Lib.hid h0;clear hs hsd h0 hbz;(go_wp2_with fail);refine cs.mono ?_;rintro e w3 ⟨rfl,hb3⟩;have hid3:=(hb3.block (g+1) hg2).trans hid2;have hst:=yA (P:=Tryz.prog) kI w3 (g+1) (idC id0) (idC (bM (hdB h))) _ hid3 (by simp) (by simp) (qJ _);have Hrow:=Lib.hid (setRow_heap w3 (g+1) _ (idC (bM (hdB h))) _ _ hid3);have hk:z4 [g+1] w3 (w3.setRow (g+1) (idC (bM (hdB h)))):=⟨rfl,rfl,rfl,by simp[World.setRow],fun x _ hx=>setRow_other w3 (g+1) x _ (by simpa using hx)⟩
    have hbF:Below g w (w3.setRow (g+1) (idC (bM (hdB h)))):=(hB2.trans (hb3.mono (by omega))).trans (hk.below (by have:=hb3.size;omega) (by simp));have HbF:=Lib.hid hbF;clear hk hbF hid3 hid2 hb3 hB2 cs;(go_wp2_with fail);refine bodyPost_ret (cQ Tryz.results36 _ _ (g+1) 24 (idC (bM (hdB h))) (0,0) _ rfl Hrow.out Tryz.underlying24 rfl (by rw[vT];exact kI)) rfl ?_;exact⟨by rw[Hif.out,H0.out];rfl,by rw[Hg.out];exact HbF.out⟩
  · have hE0:(E != 0)=true:=by rw[bne_iff_ne];exact h0
    have Hif:Hid (I=id0):=(show _=_ by rw[HI.out,if_neg h0])
    have hst:=yA (P:=Tryz.prog) kI w2 (g+1) (idC id0) (idC id0) _ hid2 (by simp) (by simp) (qJ _);have Hrow:=Lib.hid (setRow_heap w2 (g+1) _ (idC id0) _ _ hid2);have hk:z4 [g+1] w2 (w2.setRow (g+1) (idC id0)):=⟨rfl,rfl,rfl,by simp[World.setRow],fun x _ hx=>setRow_other w2 (g+1) x _ (by simpa using hx)⟩
    have hbF:Below g w (w2.setRow (g+1) (idC id0)):=hB2.trans (hk.below (by omega) (by simp));have HbF:=Lib.hid hbF;clear hk hbF hid2 hB2 hs h0 hbz;(go_wp2_with fail);refine bodyPost_ret (cQ Tryz.results36 _ _ (g+1) 24 (idC id0) (0,0) _ rfl Hrow.out Tryz.underlying24 rfl (by rw[vT];exact kI)) rfl ?_;exact⟨by rw[Hif.out];rfl,by rw[Hg.out];exact HbF.out⟩
structure j9 where
  h:HdV
  A:Option Addr
  c:Nat
abbrev hdR (x:j9):Array Value:=hdC (hdO x.h x.A x.c)
def lkH:List (zJ×j9)->zJ->Option j9
  | [],_=>none
  | q :: L,p=>if q.1=p then some q.2 else lkH L p
theorem YK (L:List (zJ×j9)) (q:zJ×j9) (p:zJ):lkH (L ++ [q]) p=match lkH L p with | some x=>some x | none=>if q.1=p then some q.2 else none:=by
  induction L with
  | nil=>rfl
  | cons a L ih =>
    rw[List.cons_append,lkH,lkH];by_cases h:a.1=p
    · rw[if_pos h,if_pos h]
    · rw[if_neg h,if_neg h,ih]
theorem lkH_some {L:List (zJ×j9)} {p:zJ} {x:j9} (h:lkH L p=some x):(p,x)∈L:=by
  induction L with
  | nil=>cases h
  | cons a L ih =>
    rw[lkH]at h;by_cases e:a.1=p
    · rw[if_pos e]at h;injection h with h;subst h;subst e;simp
    · rw[if_neg e]at h;exact List.mem_cons_of_mem _ (ih h)
theorem Q6 {L:List (zJ×j9)} {p:zJ}:lkH L p=none↔p∉L.map (·.1):=by
  induction L with
  | nil=>simp[lkH]
  | cons a L ih =>
    rw[lkH];by_cases e:a.1=p
    · rw[if_pos e];simp[e]
    · rw[if_neg e,ih,List.map_cons,List.mem_cons,not_or];exact⟨fun h=>⟨fun h2=>e h2.symm,h⟩,fun h=>h.2⟩
def tS (L:List (zJ×j9)) (ps:List zJ):Bool:=ps.any fun p=>(lkH L p).isNone
def dG (L:List (zJ×j9)) (ps:List zJ):Int:=ps.foldl (fun m p=>match lkH L p with | some x=>max m x.h.ht | none=>m) 0
abbrev okA (_:zJ):Prop:=True
abbrev idVA (x:zJ):Value:=.agg (idC x)
abbrev hdVA (x:j9):Value:=.agg (hdR x)
def dV (w:World) (b:Nat) (L:List (zJ×j9)):Prop:=∃M es clk,qT w b idVA hdVA okA M es clk/\∀p,lkH M p=lkH L p
theorem dV.kept {w w':World} {b:Nat} {L:List (zJ×j9)} {S:List Nat} (h:dV w b L) (k:z4 S w w') (hb:b∉S):dV w' b L:=by
  obtain⟨M,es,clk,hm,hl⟩:=h;exact⟨M,es,clk,hm.kept k hb,hl⟩
theorem dV.below {w w':World} {b:Nat} {L:List (zJ×j9)} (h:dV w b L) (k:Below w.heap.size w w'):dV w' b L:=h.kept (z4.of_below k) (by simp)
theorem dV.hit {w:World} {b:Nat} {L:List (zJ×j9)} (h:dV w b L) {p:zJ} {x:j9} (hx:lkH L p=some x) (comma:Bool) :
    (Instr.lookup 56 (.map (some b)) (.agg (idC p)) comma).run Tryz.prog w = .ok (if comma then .tuple #[.agg (hdR x),.bool true]else .agg (hdR x)) w:=by
  obtain⟨M,es,clk,hm,hl⟩:=h;exact hm.hit p6 Tryz.underlying56 trivial (lkH_some ((hl p).trans hx)) comma
theorem dV.miss {w:World} {b:Nat} {L:List (zJ×j9)} (h:dV w b L) {p:zJ} (hx:lkH L p=none) (comma:Bool) :
    (Instr.lookup 56 (.map (some b)) (.agg (idC p)) comma).run Tryz.prog w = .ok (if comma then .tuple #[.agg (hdC hd0),.bool false]else .agg (hdC hd0)) w:=by
  obtain⟨M,es,clk,hm,hl⟩:=h;exact hm.miss p6 Tryz.underlying56 (JP w) trivial (Q6.1 ((hl p).trans hx)) comma
theorem dV.put {w:World} {b:Nat} {L:List (zJ×j9)} (h:dV w b L) {p:zJ} (x:j9) (hx:lkH L p=none) :
    ∃w',(Instr.mapUpdate 56 (.map (some b)) (.agg (idC p)) (.agg (hdR x))).run Tryz.prog w = .ok () w'/\dV w' b (L ++ [(p,x)])/\z4 [b] w w':=by
  obtain⟨M,es,clk,hm,hl⟩:=h;obtain⟨w',es',clk',hr,hm',hk⟩:=hm.update p6 Tryz.underlying56 (k:=p) (v:=x) trivial;refine⟨w',hr,⟨_,es',clk',hm',fun q=>?_⟩,hk⟩;have hno:=Q6.1 ((hl p).trans hx);have e:gB M p x=M ++ [(p,x)]:=if_neg hno;rw[e,YK,YK,hl q]
theorem dV.same {w:World} {b:Nat} {L:List (zJ×j9)} (h:dV w b L) {q:zJ×j9} {x:j9} (hx:lkH L q.1=some x):dV w b (L ++ [q]):=by
  obtain⟨M,es,clk,hm,hl⟩:=h;refine⟨M,es,clk,hm,fun p=>?_⟩;rw[hl p,YK];cases h2:lkH L p with
  | some y=>rfl
  | none =>
    by_cases e:q.1=p
    · rw[<-e,hx]at h2;cases h2
    · rw[if_neg e]
theorem VZ (L:List (zJ×j9)) (R:List zJ) {k:Nat} (hk:k<R.length):tS L (R.take (k+1))=(tS L (R.take k)||(lkH L R[k]).isNone):=by
  unfold tS;rw[List.take_add_one,List.getElem?_eq_getElem hk,List.any_append];simp
theorem VO (L:List (zJ×j9)) (R:List zJ) {k:Nat} (hk:k<R.length):dG L (R.take (k+1))=match lkH L R[k]with | some x=>max (dG L (R.take k)) x.h.ht | none=>dG L (R.take k):=by
  unfold dG;rw[List.take_add_one,List.getElem?_eq_getElem hk,Option.toList_some,List.foldl_append];rfl
theorem YH (L:List (zJ×j9)) (R:List zJ):0<=dG L R:=by
  unfold dG;have:∀(R:List zJ) (m:Int),0<=m->0<=R.foldl (fun m p=>match lkH L p with | some x=>max m x.h.ht | none=>m) m:=by
    intro R;induction R with
    | nil=>intro m h;exact h
    | cons p R ih =>
      intro m h;rw[List.foldl_cons];apply ih;split
      · exact Int.le_trans h (Int.le_max_left _ _)
      · exact h
  exact this R 0 (by omega)
theorem BI:hd0.ps.oneCell'=true:=rfl
theorem BH (x:j9):(hdO x.h x.A x.c).ps.oneCell'=true:=rfl
theorem jb (w:World) (b:Nat) (L:List (zJ×j9)) (x:j9) (hm:dV w b L) (hT:y8 w x.A x.h.ps.length x.h.ps) (hn:x.h.ps.length<=1000000) :
    Calls Tryz.prog 34 #[.map (some b),.agg (hdR x)] w fun e w'=>e = .returned (.bool (!tS L x.h.ps))/\Below w.heap.size w w':=by
  have hB:Below w.heap.size w (w.alloc (.cells (hdR x) 30)):=(Below.refl _ _).alloc (Nat.le_refl _) _;have x0:(w.alloc (.cells (hdR x) 30)).cell? ⟨w.heap.size,0,none⟩=some (.slice x.A x.h.ps.length x.c):=by simp[go_sem,hdO]
  obtain⟨R,hR⟩:∃R,x.h.ps=R:=⟨_,rfl⟩
  rw[hR]at x0 hT hn |-;go_enter Tryz.func34,Tryz.ntmps34
  go_upto_region 2 with fail
  go_loopw [6,7,8,12] (fun _ _ _ n wr=>∃k:Nat,k<=R.length/\n = .int .i64 k/\Hid (tS L (R.take k)=false)/\Below w.heap.size w wr) (fun _ _ _ n _=>R.length-(intOf n).toNat)
  case atStart=>exact⟨0,Nat.zero_le _,rfl,(show _=_ from rfl),hB⟩
  case round =>
    obtain⟨k,hk,rfl,hg,hb⟩:=hrel;by_cases hlt:k<R.length
    · obtain⟨q,o,hqe,hr⟩:=y8.get (SlR.below hT hb) hlt hlt;have hgs:=VZ L R hlt;rw[hg.out,Bool.false_or]at hgs;obtain⟨p,hp⟩:∃p,R[k]'hlt=p:=⟨_,rfl⟩
      rw[hp]at hr hgs;have hba:Below wr.heap.size wr (wr.alloc (.cells (idC p) 24)):=(Below.refl _ _).alloc (Nat.le_refl _) _;have hmr:=(hm.below hb).below hba;cases hlk:lkH L p with
      | some y =>
        have hl:(Instr.lookup 56 (.map (some b)) (.agg (idC p)) true).run Tryz.prog (wr.alloc (.cells (idC p) 24)) = .ok (.tuple #[.agg (hdR y),.bool true]) (wr.alloc (.cells (idC p) 24)):=hmr.hit hlk true;have ho:=BH y;rw[hlk]at hgs;have Hgs:Hid (tS L (R.take (k+1))=false):=hgs;have hb2:Below w.heap.size w ((wr.alloc (.cells (idC p) 24)).alloc (.cells (hdR y) 30)):=(hb.alloc hb.size _).alloc (by have:=hb.size;simp;omega) _;clear hgs hlk hp hmr hg;(go_wp2_with fail);go_roundw
        case rel=>exact⟨k+1,by omega,by go_num,Hgs,hb2⟩
        case measure=>simp[intOf];omega
      | none =>
        have hl:(Instr.lookup 56 (.map (some b)) (.agg (idC p)) true).run Tryz.prog (wr.alloc (.cells (idC p) 24)) = .ok (.tuple #[.agg (hdC hd0),.bool false]) (wr.alloc (.cells (idC p) 24)):=hmr.miss hlk true;have ho:=BI;have hgo:tS L R=true:=by
          unfold tS;rw[List.any_eq_true];exact⟨p,by rw[<-hp];exact List.getElem_mem hlt,by rw[hlk];rfl⟩
        have Hgo:=Lib.hid hgo;have hb2:Below w.heap.size w ((wr.alloc (.cells (idC p) 24)).alloc (.cells (hdC hd0) 30)):=(hb.alloc hb.size _).alloc (by have:=hb.size;simp;omega) _;clear hgs hlk hp hmr hg hgo;(go_wp2_with fail);go_ret;exact⟨zS (by rw[Hgo.out];rfl),hb2⟩
    · have hkR:R.take k=R:=List.take_of_length_le (by omega);have Hg:Hid (tS L R=false):=(show _=_ by rw[<-hkR];exact hg.out)
      clear hkR hg;(go_wp2_with fail);go_ret;exact⟨zS (by rw[Hg.out];rfl),hb⟩
theorem ja (w:World) (b:Nat) (L:List (zJ×j9)) (x:j9) (hm:dV w b L) (hT:y8 w x.A x.h.ps.length x.h.ps) (hn:x.h.ps.length<=1000000) :
    Calls Tryz.prog 38 #[.map (some b),.agg (hdR x)] w fun e w'=>e = .returned (.int .i64 (dG L x.h.ps))/\Below w.heap.size w w':=by
  have hB:Below w.heap.size w (w.alloc (.cells (hdR x) 30)):=(Below.refl _ _).alloc (Nat.le_refl _) _;have x0:(w.alloc (.cells (hdR x) 30)).cell? ⟨w.heap.size,0,none⟩=some (.slice x.A x.h.ps.length x.c):=by simp[go_sem,hdO]
  obtain⟨R,hR⟩:∃R,x.h.ps=R:=⟨_,rfl⟩
  rw[hR]at x0 hT hn |-;go_enter Tryz.func38,Tryz.ntmps38
  go_upto_region 3 with fail
  go_loopw [5,7,11] (fun m _ n wr=>∃(k:Nat) (v:Int),k<=R.length/\n = .int .i64 k/\m = .int .i64 v/\Hid (dG L (R.take k)=v)/\Below w.heap.size w wr) (fun _ _ n _=>R.length-(intOf n).toNat)
  case atStart=>exact⟨0,0,Nat.zero_le _,rfl,rfl,(show _=_ from rfl),hB⟩
  case round =>
    obtain⟨k,v,hk,rfl,rfl,hg,hb⟩:=hrel;by_cases hlt:k<R.length
    · obtain⟨q,o,hqe,hr⟩:=y8.get (SlR.below hT hb) hlt hlt;have hgs:=VO L R hlt;have hnn:=YH L (R.take k);rw[hg.out]at hgs hnn;obtain⟨p,hp⟩:∃p,R[k]'hlt=p:=⟨_,rfl⟩
      rw[hp]at hr hgs;have hba:Below wr.heap.size wr (wr.alloc (.cells (idC p) 24)):=(Below.refl _ _).alloc (Nat.le_refl _) _;have hmr:=(hm.below hb).below hba;have hb2:Below w.heap.size w (wr.alloc (.cells (idC p) 24)):=hb.alloc hb.size _;cases hlk:lkH L p with
      | some y =>
        have hl:(Instr.lookup 56 (.map (some b)) (.agg (idC p)) false).run Tryz.prog (wr.alloc (.cells (idC p) 24)) = .ok (.agg (hdR y)) (wr.alloc (.cells (idC p) 24)):=hmr.hit hlk false;rw[hlk]at hgs;have Hgs:Hid (dG L (R.take (k+1))=max v y.h.ht):=hgs;clear hgs hlk hp hmr hg;(go_wp2_with fail);have he:(if v<(hdO y.h y.A y.c).ht then(hdO y.h y.A y.c).ht else v)=max v y.h.ht:=by
          show(if v<y.h.ht then y.h.ht else v)=max v y.h.ht;split <;> omega
        exact⟨⟨k+1,_,by omega,rfl,rfl,(by first|exact(show _=_ from Hgs.out.trans he.symm)|exact(show _=_ from Hgs.out)),hb2⟩,by simp only[intOf];omega⟩
      | none =>
        have hl:(Instr.lookup 56 (.map (some b)) (.agg (idC p)) false).run Tryz.prog (wr.alloc (.cells (idC p) 24)) = .ok (.agg (hdC hd0)) (wr.alloc (.cells (idC p) 24)):=hmr.miss hlk false;rw[hlk]at hgs;have Hgs:Hid (dG L (R.take (k+1))=v):=hgs;clear hgs hlk hp hmr hg;(go_wp2_with fail);have he:(if v<hd0.ht then hd0.ht else v)=v:=by
          show(if v<(0:Int)then(0:Int)else v)=v;split <;> omega
        exact⟨⟨k+1,_,by omega,rfl,rfl,(by first|exact(show _=_ from Hgs.out.trans he.symm)|exact(show _=_ from Hgs.out)|exact(show _=_ from Hgs.out.trans (by show v=max v (0:Int);omega))),hb2⟩,by simp only[intOf];omega⟩
    · have hkR:R.take k=R:=List.take_of_length_le (by omega);have Hg:Hid (dG L R=v):=(show _=_ by rw[<-hkR];exact hg.out)
      clear hkR hg;(go_wp2_with fail);go_ret;exact⟨yB Hg.out.symm,hb⟩
structure KN (w:World) (g b:Nat) (L:List (zJ×j9)) (x:j9):Prop where
  box:w.cell? ⟨g,0,none⟩=some (.map (some b))
  kn:dV w b L
  ids:y8 w x.A x.h.ps.length x.h.ps
  len:x.h.ps.length<=1000000
  tps:x.h.tp.size<=9223372036854775807
  ht:0<=x.h.ht/\x.h.ht<=4611686018427387904
  vars:xT w
theorem KN.below {w w':World} {g b:Nat} {L:List (zJ×j9)} {x:j9} (a:KN w g b L x) (hb:Below w.heap.size w w'):KN w' g b L x :=
  ⟨(hb.cell (p:=⟨g,0,none⟩) (World.block_lt_of_cell? w _ a.box)).trans a.box,a.kn.below hb,SlR.below a.ids hb,a.len,a.tps,a.ht,a.vars.below hb⟩
theorem ar_1 (w:World) (g b:Nat) (L:List (zJ×j9)) (i:zJ) (x:j9) (a:KN w g b L x) :
    Calls Tryz.prog 33 #[.agg (idC i),.agg (hdR x),.pointer (some ⟨g,0,none⟩)] w fun e w'=>e = .returned (.bool (!tS L x.h.ps))/\Below w.heap.size w w':=by
  have hB:Below w.heap.size w ((w.alloc (.cells (idC i) 24)).alloc (.cells (hdR x) 30)):=((Below.refl _ _).alloc (Nat.le_refl _) _).alloc (by simp) _;have a1:=a.below hB;have hr:z9 ((w.alloc (.cells (idC i) 24)).alloc (.cells (hdR x) 30)) (w.heap.size+1) 0 38=some (hdR x):=by simp[go_sem]
  have xb:=a1.box;have cc:=jb _ b L x a1.kn a1.ids a1.len;clear a a1;go_enter Tryz.func33,Tryz.ntmps33
  (go_wp2_with fail);refine cc.mono ?_;rintro e w2 ⟨rfl,hb⟩;have hz:=xM hB hb;clear cc hb hB xb hr;(go_wp2_with fail);go_ret;exact⟨rfl,hz⟩
theorem ar_3 (w:World) (g b:Nat) (L:List (zJ×j9)) (i:zJ) (x:j9) (a:KN w g b L x) :
    Calls Tryz.prog 37 #[.agg (idC i),.agg (hdR x),.pointer (some ⟨g,0,none⟩)] w fun e w'=>e = .returned (.bool (x.h.ht-1==dG L x.h.ps))/\Below w.heap.size w w':=by
  have hB:Below w.heap.size w ((w.alloc (.cells (idC i) 24)).alloc (.cells (hdR x) 30)):=((Below.refl _ _).alloc (Nat.le_refl _) _).alloc (by simp) _;have a1:=a.below hB;have hr:z9 ((w.alloc (.cells (idC i) 24)).alloc (.cells (hdR x) 30)) (w.heap.size+1) 0 38=some (hdR x):=by simp[go_sem]
  have x1:((w.alloc (.cells (idC i) 24)).alloc (.cells (hdR x) 30)).cell? ⟨w.heap.size+1,1,none⟩=some (.int .i64 x.h.ht):=by
    have:=z8 hr (j:=1) (by omega);simpa only[tR,Nat.zero_add,hdO]using this
  have xb:=a1.box;have cc:=ja ((w.alloc (.cells (idC i) 24)).alloc (.cells (hdR x) 30)).drew b L x (a1.kn.below (Below.refl _ _).drew) (SlR.below a1.ids (Below.refl _ _).drew) a1.len;obtain⟨t,ht⟩:∃t,x.h.ht=t:=⟨_,rfl⟩
  have hbd:=a.ht;rw[ht]at x1 hbd;rw[ht];obtain⟨m,hm⟩:∃m,dG L x.h.ps=m:=⟨_,rfl⟩
  rw[hm]at cc;rw[hm];have hw:=IntWalk.i64_in (t-1) (by omega);clear a a1 ht hm;obtain⟨W,hW⟩:∃W,W=(w.alloc (.cells (idC i) 24)).alloc (.cells (hdR x) 30):=⟨_,rfl⟩
  have HW:=Lib.hid hW;rw[<-hW]at hB hr x1 xb cc;clear hW;go_enter Tryz.func37,Tryz.ntmps37
  go_upto_region 1 with fail
  rw[<-HW.out];refine zA (Bel W) false (by kernel_rfl) (by kernel_rfl) (by kernel_rfl) (zC W) ?_;have hne:=zQ W;have hS:=zC W;have c0:=zP xb;have c1:=zP x1;have c2:=zY hr;repeat(refine z6 ?_ ?_;(focus(simp only[z3];done));intro K hK;go_simp;refine hK _ ?_;clear hK K)
  refine zH ?_ ?_ ?_;(focus(exact hS));(focus(simp only[z3];done));intro K hK;go_simp;refine(cc).mono ?_;rintro e w' ⟨rfl,hb⟩;replace hS:=yN hS hb;refine⟨_,rfl,hS,hK _ _ ?_⟩;clear hK K hb;repeat(refine z6 ?_ ?_;(focus(simp only[z3];done));intro K hK;go_simp;refine hK _ ?_;clear hK K)
  refine zK ?_;intro hS;have hS':Below W.heap.size W w':=hS;have hz:=xM hB hS';clear hS hne c0 c1 c2 hS';(go_wp2_with fail);go_ret;exact⟨rfl,hz⟩
theorem ar_2 (w:World) (g b:Nat) (L:List (zJ×j9)) (i:zJ) (x:j9) (a:KN w g b L x) :
    Calls Tryz.prog 35 #[.agg (idC i),.agg (hdR x)] w fun e w'=>e = .returned (.bool (decide (hdE x.h=0/\hdI x.h=i)))/\Below w.heap.size w w':=by
  have hB:Below w.heap.size w ((w.alloc (.cells (idC i) 24)).alloc (.cells (hdR x) 30)):=((Below.refl _ _).alloc (Nat.le_refl _) _).alloc (by simp) _;have a1:=a.below hB;have hr:z9 ((w.alloc (.cells (idC i) 24)).alloc (.cells (hdR x) 30)) (w.heap.size+1) 0 38=some (hdR x):=by simp[go_sem]
  have hi:z9 ((w.alloc (.cells (idC i) 24)).alloc (.cells (hdR x) 30)) w.heap.size 0 32=some (idC i):=by
    rw[zB (Below.heap_alloc _ _ _ (by simp))];simp[go_sem]
  have cc:=hd_ident _ x.h x.A x.c a1.vars a1.ids a1.len a1.tps;obtain⟨E,hE⟩:∃E,hdE x.h=E:=⟨_,rfl⟩
  obtain⟨I,hI⟩:∃I,hdI x.h=I:=⟨_,rfl⟩
  rw[hE,hI]at cc;rw[hE,hI];obtain⟨W,hW⟩:∃W,W=(w.alloc (.cells (idC i) 24)).alloc (.cells (hdR x) 30):=⟨_,rfl⟩
  have HW:=Lib.hid hW;have hi0:w.heap.size<W.heap.size:=by rw[hW];simp;omega
  rw[<-hW]at hB hr hi cc;clear hW a a1 hE hI;go_enter Tryz.func35,Tryz.ntmps35
  go_upto_region 1 with fail
  rw[<-HW.out];(go_wp2_with fail);refine cc.mono ?_;rintro e w2 ⟨rfl,hb⟩;have hz:=xM hB hb;have hi2:=(zB (hb.block w.heap.size hi0) _ _).trans hi;have hi3:z9 (w2.alloc (.cells (idC I) 24)) w.heap.size 0 32=some (idC i):=by
    rw[zB (Below.heap_alloc _ _ _ (zI hi2))];exact hi2
  have hz2:Below w.heap.size w (w2.alloc (.cells (idC I) 24)):=hz.alloc hz.size _;clear cc hb hr hB hi hi2 hz;by_cases h0:E=0
  · by_cases h1:I=i
    · have Hd:=Lib.hid (decide_eq_true (And.intro h0 h1));have h1':(I==i)=true:=by simp[h1]
      clear h1;(go_wp2_with fail);go_ret;exact⟨zS (by rw[Hd.out]),hz2⟩
    · have Hd:=Lib.hid (decide_eq_false (fun h=>h1 h.2:¬(E=0/\I=i)));have h1':(I==i)=false:=by simp[h1]
      clear h1;(go_wp2_with fail);go_ret;exact⟨zS (by rw[Hd.out]),hz2⟩
  · have Hd:=Lib.hid (decide_eq_false (fun h=>h0 h.1:¬(E=0/\I=i)));(go_wp2_with fail);go_ret;exact⟨zS (by rw[Hd.out]),hz2⟩
def JA (k:Nat):FuncId:=[33,35,37].getD k 0
def qz (g k:Nat):Array Value:=if k=1 then #[]else #[.pointer (some ⟨g,0,none⟩)]
def KI (L:List (zJ×j9)) (q:zJ×j9) (k:Nat):Bool:=[!tS L q.2.h.ps,decide (hdE q.2.h=0/\hdI q.2.h=q.1),q.2.h.ht-1==dG L q.2.h.ps].getD k false
theorem aud_any (w:World) (g b:Nat) (L:List (zJ×j9)) (q:zJ×j9) (a:KN w g b L q.2) (k:Nat) (hk:k<3) :
    Calls Tryz.prog (JA k) (#[.agg (idC q.1),.agg (hdR q.2)]++qz g k) w fun e w'=>e = .returned (.bool (KI L q k))/\Below w.heap.size w w':=by
  have h3:k=0\/k=1\/k=2:=by omega
  rcases h3 with rfl | rfl | rfl
  · exact ar_1 w g b L q.1 q.2 a
  · exact ar_2 w g b L q.1 q.2 a
  · exact ar_3 w g b L q.1 q.2 a
def lB (g k:Nat):Array Value:=#[.int .i64 (k+1:Nat),.func (.func (JA k)) #[] (qz g k)]
def dL (g:Nat):Array Value:=#[.int .i64 1,.func (.func 33) #[] #[.pointer (some ⟨g,0,none⟩)],.int .i64 2,.func (.func 35) #[] #[],.int .i64 3,.func (.func 37) #[] #[.pointer (some ⟨g,0,none⟩)]]
theorem J9 (g k:Nat) (hk:k<3):(dL g).extract (k*2) (k*2+2)=lB g k:=by
  have h3:k=0\/k=1\/k=2:=by omega
  rcases h3 with rfl | rfl | rfl <;> (simp[dL,lB,JA,qz])
theorem auds_any (w:World) (b:Nat) :
    Calls Tryz.prog 17 #[.map (some b)] w fun e w'=>e = .returned (.slice (some ⟨w.heap.size+1,0,none⟩) 3 3)/\w'=(w.alloc (.cells #[.map (some b)] 56)).alloc (.cells (dL w.heap.size) 62):=by
  go_enter Tryz.func17,Tryz.ntmps17
  (go_wp2_with fail);go_ret;exact⟨rfl,by unfold dL;rfl⟩
theorem qu (args:Array Value) (w:World):∀k,k<3->(callFunc (JA k) args).run Tryz.prog w = .ok (.enter (JA k) args) w
  | 0,_=>by kernel_rfl
  | 1,_=>by kernel_rfl
  | 2,_=>by kernel_rfl
  | k+3,h=>absurd h (by omega)
theorem call_aud (k:Nat) (hk:k<3) (args:Array Value) (w:World):(callFunc (JA k) args).run Tryz.prog w = .ok (.enter (JA k) args) w:=qu args w k hk
structure Fnd where
  k:Int
  i:Int
def qR (x:Fnd):Array Value:=#[.int .i64 x.k] ++ #[.int .i64 x.i]
@[simp] theorem wI (x:Fnd):(qR x).size=2:=by simp[qR]
@[go_sem] theorem fndC_g0 (x:Fnd):(qR x)[0]? = some (.int .i64 x.k):=by first | (simp[qR,Array.getElem?_append];done) | (rw[show qR x=((#[]:Array Value)) ++ #[.int .i64 x.k]++(#[.int .i64 x.i])from by apply Array.ext';simp[qR]];exact xS _ _ _ _ (by simp))
@[go_sem] theorem fndC_g1 (x:Fnd):(qR x)[1]? = some (.int .i64 x.i):=by first | (simp[qR,Array.getElem?_append];done) | (rw[show qR x=(#[.int .i64 x.k]) ++ #[.int .i64 x.i]++((#[]:Array Value))from by apply Array.ext';simp[qR]];exact xS _ _ _ _ (by simp))
@[go_sem] theorem fndC_all (x:Fnd):(qR x).extract 0 2=qR x:=by have:=Array.extract_size (xs:=qR x);rwa [wI]at this
theorem tV (x:Fnd):∀u∈(qR x).toList,u.oneCell'=true:=by
  intro u hu;simp only[qR,Array.toList_append,List.mem_append]at hu;rcases hu with hu | hu
  · simp at hu;subst hu;rfl
  · simp at hu;subst hu;rfl
def pE:Fnd:=⟨0,0⟩
theorem Fnd_ext {x y:Fnd} (h:x.k=y.k/\x.i=y.i):x=y:=by cases x;cases y;simp_all
instance:DecidableEq Fnd:=fun x y=>if h:x.k=y.k/\x.i=y.i then isTrue (Fnd_ext h)else isFalse (fun e=>h (by subst e;simp))
@[go_sem ↓] theorem X2 (w:World):(zeroValue 34).run Tryz.prog w = .ok (.agg (qR pE)) w:=by
  have h:(Tryz.prog.info? 34).bind (·.zero)=some (.agg (qR pE)):=by kernel_rfl
  cases hi:Tryz.prog.info? 34 with
  | none=>rw[hi]at h;cases h
  | some i =>
    rw[hi]at h;have hz:i.zero=some (.agg (qR pE)):=h;simp[zeroValue,typeInfo,hi,hz]
@[go_sem ↓] theorem loadFnd_rw (a:Addr):loadVar 34 a=ldS 34 a:=rfl
@[go_sem ↓] theorem storeFnd_rw (a:Addr) (v:Value):storeVar 34 a v=stS 34 a v:=rfl
theorem qi:Tryz.prog.underlying 34=some (.struct (Tryz.prog.fieldsOf 34)):=by kernel_rfl
theorem yi (w:World):((Tryz.prog.fieldsOf 34).mapM fun (f:Field)=>do pure (f.offset,<-sizeOf f.type)).run Tryz.prog w = .ok #[(0,1),(1,1)] w:=by kernel_rfl
@[go_sem ↓] theorem buildFnd_rw (parts:Array (Nat×Value)):Instr.build 34 parts=bdS 34 parts:=rfl
@[go_sem] theorem buildFnd (a0:Int) (a1:Int) (w:World):(bdS 34 #[(0,.int .i64 a0),(1,.int .i64 a1)]).run Tryz.prog w = .ok (.agg (qR ⟨a0,a1⟩)) w:=by
  refine vB w qi _ (X2 w) _ (yi w) [(0,.int .i64 a0),(1,.int .i64 a1)] _ ?_;rw[show qR pE=(#[]:Array Value) ++ #[.int .i64 0]++(#[.int .i64 0])from by first | (simp[qR,pE,Array.append_assoc];done) | (apply Array.ext';simp[qR,pE])];rw[xD (off:=0) (size:=1) rfl (by simp) (by simp) (by simp[Value.cells])];rw[show(#[]:Array Value)++(Value.int .i64 a0).cells++(#[.int .i64 0])=(#[.int .i64 a0]) ++ #[.int .i64 0]++(#[]:Array Value)from by first | (simp[Value.cells,Array.append_assoc];done) | (apply Array.ext';simp[Value.cells];done) | (apply Array.ext';simp only[Array.toList_append];simp[Value.cells])];rw[xD (off:=1) (size:=1) rfl (by simp) (by simp) (by simp[Value.cells])];first | (simp[Instr.fill,qR,Array.append_assoc,Value.cells];done) | (simp only[Instr.fill,qR];congr 1;apply Array.ext';simp[Value.cells];done) | (simp only[Instr.fill,qR];congr 1;done) | (simp only[Instr.fill,qR];done)
@[go_sem ↓] theorem ZV (w:World):(zeroValue 64).run Tryz.prog w = .ok (.agg (qR pE)) w:=by
  have h:(Tryz.prog.info? 64).bind (·.zero)=some (.agg (qR pE)):=by kernel_rfl
  cases hi:Tryz.prog.info? 64 with
  | none=>rw[hi]at h;cases h
  | some i =>
    rw[hi]at h;have hz:i.zero=some (.agg (qR pE)):=h;simp[zeroValue,typeInfo,hi,hz]
@[go_sem ↓] theorem loadRFnd_rw (a:Addr):loadVar 64 a=ldS 64 a:=rfl
@[go_sem ↓] theorem storeRFnd_rw (a:Addr) (v:Value):storeVar 64 a v=stS 64 a v:=rfl
theorem K3:Tryz.prog.underlying 64=some (.struct (Tryz.prog.fieldsOf 64)):=by kernel_rfl
theorem VB (w:World):((Tryz.prog.fieldsOf 64).mapM fun (f:Field)=>do pure (f.offset,<-sizeOf f.type)).run Tryz.prog w = .ok #[(0,1),(1,1)] w:=by kernel_rfl
@[go_sem ↓] theorem buildRFnd_rw (parts:Array (Nat×Value)):Instr.build 64 parts=bdS 64 parts:=rfl
@[go_sem] theorem buildRFnd (a0:Int) (a1:Int) (w:World):(bdS 64 #[(0,.int .i64 a0),(1,.int .i64 a1)]).run Tryz.prog w = .ok (.agg (qR ⟨a0,a1⟩)) w:=by
  refine vB w K3 _ (ZV w) _ (VB w) [(0,.int .i64 a0),(1,.int .i64 a1)] _ ?_;rw[show qR pE=(#[]:Array Value) ++ #[.int .i64 0]++(#[.int .i64 0])from by first | (simp[qR,pE,Array.append_assoc];done) | (apply Array.ext';simp[qR,pE])];rw[xD (off:=0) (size:=1) rfl (by simp) (by simp) (by simp[Value.cells])];rw[show(#[]:Array Value)++(Value.int .i64 a0).cells++(#[.int .i64 0])=(#[.int .i64 a0]) ++ #[.int .i64 0]++(#[]:Array Value)from by first | (simp[Value.cells,Array.append_assoc];done) | (apply Array.ext';simp[Value.cells];done) | (apply Array.ext';simp only[Array.toList_append];simp[Value.cells])];rw[xD (off:=1) (size:=1) rfl (by simp) (by simp) (by simp[Value.cells])];first | (simp[Instr.fill,qR,Array.append_assoc,Value.cells];done) | (simp only[Instr.fill,qR];congr 1;apply Array.ext';simp[Value.cells];done) | (simp only[Instr.fill,qR];congr 1;done) | (simp only[Instr.fill,qR];done)
theorem pF:yY Tryz.prog 31 34 2 16 :=
  .of (z:=.agg (qR pE)) Tryz.underlying31 (by kernel_rfl) (by kernel_rfl) (by kernel_rfl) (wI _) (by omega)
@[go_sem ↓] theorem bsFnd_rw (n:Nat) (parts:Array (Nat×Value)):Instr.buildSlice 31 n parts=bsS 31 n parts:=rfl
@[go_sem] theorem bsFnd_run (w:World) (x:Fnd):(bsS 31 1 #[(0,.agg (qR x))]).run Tryz.prog w = .ok (.slice (some ⟨w.heap.size,0,none⟩) 1 1) (w.alloc (.cells (qR x) 34)) :=
  k8 pF (by omega) w (qR x) (wI x)
theorem rE:yY Tryz.prog 35 64 2 16 :=
  .of (z:=.agg (qR pE)) Tryz.underlying35 (by kernel_rfl) (by kernel_rfl) (by kernel_rfl) (wI _) (by omega)
@[go_sem ↓] theorem bsRFnd_rw (n:Nat) (parts:Array (Nat×Value)):Instr.buildSlice 35 n parts=bsS 35 n parts:=rfl
@[go_sem] theorem bsRFnd_run (w:World) (x:Fnd):(bsS 35 1 #[(0,.agg (qR x))]).run Tryz.prog w = .ok (.slice (some ⟨w.heap.size,0,none⟩) 1 1) (w.alloc (.cells (qR x) 64)) :=
  k8 rE (by omega) w (qR x) (wI x)
abbrev JI (w:World) (B:Nat) (A:Option Addr) (cap:Nat) (R:List Fnd):Prop:=Own w B 34 2 A R.length cap (R.map qR)
abbrev OwnRf (w:World) (B:Nat) (A:Option Addr) (cap:Nat) (R:List Fnd):Prop:=Own w B 64 2 A R.length cap (R.map qR)
abbrev KM (w:World) (A:Option Addr) (n:Nat) (R:List j9):Prop:=SlR w A n 38 (R.map hdR)
theorem KM.get {w:World} {A:Option Addr} {n:Nat} {R:List j9} (h:KM w A n R) {i:Nat} (hi:i<n) (hR:i<R.length):∃g o,A=some ⟨g,o,none⟩/\z9 w g (o+i*38) 38=some (hdR R[i]):=by
  obtain⟨g,o,e,hr⟩:=h.at_ hi;rw[List.getElem_map]at hr;exact⟨g,o,e,hr⟩
structure iR (w:World) (x:j9):Prop where
  ids:y8 w x.A x.h.ps.length x.h.ps
  len:x.h.ps.length<=1000000
  tps:x.h.tp.size<=9223372036854775807
  ht:0<=x.h.ht/\x.h.ht<=4611686018427387904
theorem iR.below {w w':World} {x:j9} (a:iR w x) (hb:Below w.heap.size w w'):iR w' x:=⟨SlR.below a.ids hb,a.len,a.tps,a.ht⟩
def tU (L:List (zJ×j9)) (i:Nat) (q:zJ×j9):Nat->List Fnd
  | 0=>[]
  | k+1=>tU L i q k++if KI L q k=true then[]else[⟨((k+1:Nat):Int),i⟩]
def lZ (L:List (zJ×j9)):Nat->List Fnd
  | 0=>[]
  | i+1=>lZ L i++match L[i]? with | some q=>tU L i q 3 | none=>[]
theorem QR (L:List (zJ×j9)) (i:Nat) (q:zJ×j9) (k:Nat):(tU L i q k).length<=k:=by
  induction k with
  | zero=>exact Nat.le_refl _
  | succ k ih=>rw[tU,List.length_append];split <;> simp <;> omega
theorem fndN_len (L:List (zJ×j9)) (n:Nat):(lZ L n).length<=n*3:=by
  induction n with
  | zero=>exact Nat.le_refl _
  | succ n ih =>
    rw[lZ,List.length_append];cases h:L[n]? with
    | some q=>have:=QR L n q 3;simp only;omega
    | none=>simp;omega
theorem qg (L:List (zJ×j9)) {i:Nat} (hi:i<L.length):lZ L (i+1)=lZ L i++tU L i L[i] 3:=by
  rw[lZ,List.getElem?_eq_getElem hi]
theorem infoAr:(Tryz.prog.info? 62).map (·.size)=some 2:=by kernel_rfl
@[go_sem ↓] theorem loadAr_rw (a:Addr):loadVar 62 a=ldS 62 a:=rfl
@[go_sem ↓] theorem storeAr_rw (a:Addr) (v:Value):storeVar 62 a v=stS 62 a v:=rfl
@[go_sem] theorem loadAr_run (w:World) (g o:Nat):(ldS 62 ⟨g,o,none⟩).run Tryz.prog w=match z9 w g o 2 with | some cs=>.ok (.agg cs) w | none=>(loadVar 62 ⟨g,o,none⟩).run Tryz.prog w :=
  vD Tryz.underlying62 rfl infoAr w g o
@[go_sem] theorem storeAr_run (w:World) (g:Nat) (hg:g=w.heap.size) (z:Array Value) (hz:z.size=2) (b k:Nat) (e:TypeId):(stS 62 ⟨g,0,none⟩ (.agg (lB b k))).run Tryz.prog (w.alloc (.cells z e)) = .ok () (w.alloc (.cells (lB b k) e)) :=
  hg ▸ qB infoAr w z (lB b k) hz rfl (by intro u hu;simp[lB]at hu;rcases hu with rfl | rfl <;> rfl)
structure sN (w:World) (g gr b:Nat):Prop where
  box:w.cell? ⟨g,0,none⟩=some (.map (some b))
  row:∀k,k<3->z9 w gr (k*2) 2=some (lB g k)
theorem sN.lt {w:World} {g gr b:Nat} (h:sN w g gr b):g<w.heap.size/\gr<w.heap.size:=⟨World.block_lt_of_cell? w _ h.box,zI (h.row 0 (by omega))⟩
theorem sN.kept {w w':World} {g gr b:Nat} {S:List Nat} (h:sN w g gr b) (k:z4 S w w') (h1:g∉S) (h2:gr∉S):sN w' g gr b :=
  ⟨(k.cell (p:=⟨g,0,none⟩) h.lt.1 h1).trans h.box,fun j hj=>(k.row h.lt.2 h2 _ _).trans (h.row j hj)⟩
theorem sN.below {w w':World} {g gr b:Nat} (h:sN w g gr b) (k:Below w.heap.size w w'):sN w' g gr b:=h.kept (z4.of_below k) (by simp) (by simp)
theorem sN.made (w:World) (b:Nat):sN ((w.alloc (.cells #[.map (some b)] 56)).alloc (.cells (dL w.heap.size) 62)) w.heap.size (w.heap.size+1) b:=by
  refine⟨?_,fun k hk=>?_⟩
  · have hn:=heap_alloc_new w (.cells #[.map (some b)] 56);have hn2:=(Below.heap_alloc (w.alloc (.cells #[.map (some b)] 56)) (.cells (dL w.heap.size) 62) w.heap.size (by simp)).trans hn;rw[cell_of_row _ _ 0 _ _ _ hn2];rfl
  · have hn:=heap_alloc_new (w.alloc (.cells #[.map (some b)] 56)) (.cells (dL w.heap.size) 62);rw[show(w.alloc (.cells #[.map (some b)] 56)).heap.size=w.heap.size+1 by simp]at hn;unfold z9;rw[hn];simp only;rw[if_pos (by show k*2+2<=6;omega),J9 _ _ hk]
def tH (L:List (zJ×ByteArray)):Nat->List Fnd
  | 0=>[]
  | k+1=>tH L k++match L[k]? with | some q=>if bM q.2.data.toList=q.1 then[]else[⟨2,k⟩] | none=>[]
def wF (L:List (zJ×ByteArray)):Nat->Int
  | 0=>0
  | k+1=>wF L k+match L[k]? with | some q=>(q.2.size:Int) | none=>0
def sI (q:Int) (L:List (zJ×ByteArray)):List Fnd:=tH L L.length++if q<wF L L.length then[⟨4,wF L L.length⟩]else[]
theorem aW (L:List (zJ×ByteArray)) {k:Nat} (h:k<L.length):tH L (k+1)=tH L k++if bM (L[k]).2.data.toList=(L[k]).1 then[]else[⟨2,k⟩]:=by
  rw[tH,List.getElem?_eq_getElem h]
theorem aX (L:List (zJ×ByteArray)) {k:Nat} (h:k<L.length):wF L (k+1)=wF L k+((L[k]).2.size:Int):=by
  rw[wF,List.getElem?_eq_getElem h]
theorem tG (L:List (zJ×ByteArray)) (k:Nat):(tH L k).length<=k:=by
  induction k with
  | zero=>exact Nat.le_refl _
  | succ k ih =>
    rw[tH,List.length_append];cases L[k]? with
    | none=>simp;omega
    | some q=>simp only;split <;> simp <;> omega
theorem YC (L:List (zJ×ByteArray)) (h:∀q∈L,q.2.size<=1000):∀k,0<=wF L k/\wF L k<=(k:Int)*1000
  | 0=>by simp[wF]
  | k+1=>by
    have ih:=YC L h k;rw[wF];cases hq:L[k]? with
    | none=>simp only;omega
    | some q=>have:=h q (List.mem_of_getElem? hq);simp only;omega
theorem kf (q:Int) (L:List (zJ×ByteArray)):(sI q L).length<=L.length+1:=by
  unfold sI;have:=tG L L.length;rw[List.length_append];split <;> simp <;> omega
theorem zip_min {α β:Type} (S:List α) (B:List β):(if(B.length:Int)<(S.length:Int)then(B.length:Int)else(S.length:Int))=(((S.zip B).length:Nat):Int):=by
  rw[List.length_zip];split <;> omega
abbrev strR1 (s:ByteArray):Array Value:=#[.string s]
abbrev aK (w:World) (A:Option Addr) (n:Nat) (B:List ByteArray):Prop:=SlR w A n 1 (B.map strR1)
theorem aK.get {w:World} {A:Option Addr} {n:Nat} {B:List ByteArray} (h:aK w A n B) {i:Nat} (hi:i<n) (hB:i<B.length):∃g o,A=some ⟨g,o,none⟩/\w.cell? ⟨g,o+i,none⟩=some (.string B[i]):=by
  obtain⟨g,o,e,hr⟩:=h.at_ hi;rw[List.getElem_map]at hr;have:=z8 hr (j:=0) (by omega);exact⟨g,o,e,by simpa using this⟩
theorem JC (w:World) (Q:Int) (A1 A2:Option Addr) (c1 c2:Nat) (S:List zJ) (B:List ByteArray) (hS:y8 w A1 S.length S) (hB:aK w A2 B.length B) (hS20:S.length<=20) (hB20:B.length<=20) (hb:∀b∈B,b.size<=1000) (hv:xT w) :
    Calls Tryz.prog 11 #[.int .i64 Q,.slice A1 S.length c1,.slice A2 B.length c2] w fun e w'=>∃A cap,e = .returned (.slice A (sI Q (S.zip B)).length cap)/\JI w' w.heap.size A cap (sI Q (S.zip B))/\Below w.heap.size w w':=by
  obtain⟨L,hL⟩:∃L,S.zip B=L:=⟨_,rfl⟩
  have hmin:(if(B.length:Int)<(S.length:Int)then(B.length:Int)else(S.length:Int))=((L.length:Nat):Int):=by rw[<-hL];exact zip_min S B
  have hll:L.length<=S.length/\L.length<=B.length:=by rw[<-hL,List.length_zip];omega
  have hLg:∀j (hj:j<L.length) (h1:j<S.length) (h2:j<B.length),L[j]'hj=(S[j]'h1,B[j]'h2):=fun j hj h1 h2=>(by subst hL;exact List.getElem_zip);have hsz:∀q∈L,q.2.size<=1000:=fun q hq=>hb _ (List.of_mem_zip (by rw[hL];exact hq:q∈S.zip B)).2;rw[hL];have hdef:sI Q L=tH L L.length++if Q<wF L L.length then[⟨4,wF L L.length⟩]else[]:=rfl;have Hdef:=Lib.hid hdef;obtain⟨N,hN⟩:∃N,sI Q L=N:=⟨_,rfl⟩
  rw[hN]at Hdef |-;clear hL hb hdef hN;go_enter Tryz.func11,Tryz.ntmps11
  go_upto_region 3 with fail
  go_cut [14,15] (fun v iv wx=>v = .int .i64 L.length/\iv = .int .i64 0/\w=wx)
  case first =>
    by_cases hlt:(B.length:Int)<(S.length:Int)
    · rw[if_pos hlt]at hmin;go_wp2_with fail
      go_meet
      exact⟨by first|rfl|(congr 1;omega),rfl,rfl⟩
    · rw[if_neg hlt]at hmin;go_wp2_with fail
      go_meet
      exact⟨by first|rfl|(congr 1;omega),rfl,rfl⟩
  case rest =>
  obtain⟨rfl,rfl,hwc⟩:=hcut;subst hwc;clear hmin;go_upto_region 4 with fail
  go_loopw [7,8,9,15] (fun out av _ iv wr=>∃(k:Nat) (A:Option Addr) (cap:Nat),k<=L.length/\iv = .int .i64 k/\av = .int .i64 (wF L k)/\out = .slice A (tH L k).length cap/\JI wr w.heap.size A cap (tH L k)/\Below w.heap.size w wr) (fun _ _ _ iv _=>L.length-(intOf iv).toNat)
  case atStart=>exact⟨0,none,0,Nat.zero_le _,rfl,rfl,rfl,Own.nil _ _ _ _,Below.refl _ _⟩
  case round =>
    obtain⟨k,A,cap,hk,rfl,rfl,rfl,hown,hb⟩:=hrel;by_cases hlt:k<L.length
    · skip;obtain⟨q1,o1,hq1,hr1⟩:=y8.get (SlR.below hS hb) (i:=k) (by omega) (by omega);obtain⟨q2,o2,hq2,hr2⟩:=aK.get (SlR.below hB hb) (i:=k) (by omega) (by omega);have hkS:k<S.length:=by omega
      have hkB:k<B.length:=by omega
      have hst:=aW L hlt;have hsa:=aX L hlt;have hbd:=YC L hsz k;have hgz:(L[k]'hlt).2.size<=1000:=hsz _ (List.getElem_mem hlt);have hLk:=hLg k hlt (by omega) (by omega);obtain⟨x,hx⟩:∃x,S[k]'(by omega)=x:=⟨_,rfl⟩
      obtain⟨s,hs⟩:∃s,B[k]'(by omega)=s:=⟨_,rfl⟩
      rw[hx]at hr1 hLk;rw[hs]at hr2 hLk;rw[hLk]at hst hsa hgz;simp only at hst hsa hgz;obtain⟨F,hF⟩:∃F,tH L k=F:=⟨_,rfl⟩
      have hFl:F.length<=20:=by rw[<-hF];have:=tG L k;omega
      obtain⟨a,ha⟩:∃a,wF L k=a:=⟨_,rfl⟩
      rw[hF]at hown hst |-;rw[ha]at hsa hbd |-;have hbd2:0<=a/\a<=20000:=by omega
      have hcv:=fun (v:World) (h:Below wr.heap.size wr v)=>KS v s ((hv.below hb).below h) (by omega);clear hx hs hF ha hLk;subst hq1;subst hq2;obtain⟨D,hD⟩:∃D,bM s.data.toList=D:=⟨_,rfl⟩
      rw[hD]at hst;simp only[hD]at hcv;have Hst:=Lib.hid hst;have Hsa:=Lib.hid hsa;clear hst hsa hbd hD;by_cases hD:D=x
      · have e1:(D==x)=true:=by simp[hD]
        have hs:=Hst.out;rw[if_pos hD,List.append_nil]at hs;have Hs:=Lib.hid hs;clear hs hD;go_upto_region 7 with fail
        refine zA (Bel wr) false (by kernel_rfl) (by kernel_rfl) (by kernel_rfl) (zC wr) ?_;have hne:=zQ wr;have hS:=zC wr;have b1:=zY hr1;have b2:=zP hr2;repeat(refine z6 ?_ ?_;(focus(simp only[z3];done));intro K hK;go_simp;refine hK _ ?_;clear hK K)
        refine zH ?_ ?_ ?_;(focus(exact hS));(focus(simp only[z3];done));intro K hK;go_simp;refine(hcv _ hS).mono ?_;rintro e w' ⟨rfl,hb⟩;replace hS:=yN hS hb;refine⟨_,rfl,hS,hK _ _ ?_⟩;clear hK K hb;repeat(refine z6 ?_ ?_;(focus(simp only[z3];done));intro K hK;go_simp;refine hK _ ?_;clear hK K)
        refine zK ?_;intro hS;have hbw:=xM hb (show Below wr.heap.size wr w' from hS);have how:=hown.below (show Below wr.heap.size wr w' from hS);clear hS hne b1 b2 hr1 hr2 hcv hown hb;(go_wp2_with fail);go_roundw
        case rel=>exact⟨k+1,A,cap,by omega,by go_num,by rw[Hsa.out],by rw[Hs.out],by rw[Hs.out];exact how,hbw⟩
        case measure=>simp[intOf];omega
      · have e1:(D==x)=false:=by simp[hD]
        have hs:=Hst.out;rw[if_neg hD]at hs;have Hs:=Lib.hid hs;clear hs hD;go_upto_region 7 with fail
        refine zA (Bel wr) false (by kernel_rfl) (by kernel_rfl) (by kernel_rfl) (zC wr) ?_;have hne:=zQ wr;have hS:=zC wr;have b1:=zY hr1;have b2:=zP hr2;repeat(refine z6 ?_ ?_;(focus(simp only[z3];done));intro K hK;go_simp;refine hK _ ?_;clear hK K)
        refine zH ?_ ?_ ?_;(focus(exact hS));(focus(simp only[z3];done));intro K hK;go_simp;refine(hcv _ hS).mono ?_;rintro e w' ⟨rfl,hb⟩;replace hS:=yN hS hb;refine⟨_,rfl,hS,hK _ _ ?_⟩;clear hK K hb;repeat(refine z6 ?_ ?_;(focus(simp only[z3];done));intro K hK;go_simp;refine hK _ ?_;clear hK K)
        refine zK ?_;intro hS;have hbw:=xM hb (show Below wr.heap.size wr w' from hS);have how:=hown.below (show Below wr.heap.size wr w' from hS);clear hS hne b1 b2 hr1 hr2 hcv hown hb;have hbx:Below w'.heap.size w' (w'.alloc (.cells (qR ⟨2,k⟩) 34)):=(Below.refl _ _).alloc (Nat.le_refl _) _;have ho7:=how.below hbx;have hrow7:z9 (w'.alloc (.cells (qR ⟨2,k⟩) 34)) w'.heap.size 0 2=some (qR ⟨2,k⟩):=by simp[go_sem]
        have hz7:=hbw.size;go_wp2_with (at_builtin;refine yX pF rfl ho7 rfl hrow7 (tV _) (by omega) (by omega) (by simp;omega) ?_;intro A2 cap2 w7 hownA hkA hsubA)
        have hbA:Below w.heap.size w w7:=(hbw.alloc hz7 _).trans (hkA.below (B:=w.heap.size) (by simp;omega) fun y hy=>(ho7.at_base hy).1);clear hbx ho7 hrow7 hz7 hkA hsubA;(go_wp2_with fail);go_roundw
        case rel=>exact⟨k+1,A2,cap2,by omega,by go_num,by rw[Hsa.out],by rw[Hs.out];simp,by rw[Hs.out];show Own _ _ _ _ _ _ _ _;rw[List.map_append,List.length_append];exact hownA,hbA⟩
        case measure=>simp[intOf];omega
    · have hkL:k=L.length:=by omega
      subst hkL;have hFl:=tG L L.length;obtain⟨F,hF⟩:∃F,tH L L.length=F:=⟨_,rfl⟩
      obtain⟨a,ha⟩:∃a,wF L L.length=a:=⟨_,rfl⟩
      rw[hF]at hown Hdef hFl |-;rw[ha]at Hdef |-;have hbw:=hb;clear hF ha hb;by_cases hq:Q<a
      · have hd:=Hdef.out;rw[if_pos hq]at hd;have Hd:=Lib.hid hd;clear hd;have hbx:Below wr.heap.size wr (wr.alloc (.cells (qR ⟨4,a⟩) 34)):=(Below.refl _ _).alloc (Nat.le_refl _) _;have ho7:=hown.below hbx;have hrow7:z9 (wr.alloc (.cells (qR ⟨4,a⟩) 34)) wr.heap.size 0 2=some (qR ⟨4,a⟩):=by simp[go_sem]
        have hz7:=hbw.size;go_wp2_with (at_builtin;refine yX pF rfl ho7 rfl hrow7 (tV _) (by omega) (by omega) (by simp;omega) ?_;intro A2 cap2 w7 hownA hkA hsubA)
        have hbA:Below w.heap.size w w7:=(hbw.alloc hz7 _).trans (hkA.below (B:=w.heap.size) (by simp;omega) fun y hy=>(ho7.at_base hy).1);clear hbx ho7 hrow7 hz7 hkA hsubA;(go_wp2_with fail);go_ret;exact⟨A2,cap2,by rw[Hd.out];simp,by rw[Hd.out];show Own _ _ _ _ _ _ _ _;rw[List.map_append,List.length_append];exact hownA,hbA⟩
      · have hd:=Hdef.out;rw[if_neg hq,List.append_nil]at hd;have Hd:=Lib.hid hd;clear hd;(go_wp2_with fail);go_ret;exact⟨A,cap,by rw[Hd.out];rfl,by rw[Hd.out];exact hown,hbw⟩
theorem Y9 (w:World) (Q:Int) (A1 A2:Option Addr) (c1 c2:Nat) (S:List zJ) (B:List ByteArray) (hS:y8 w A1 S.length S) (hB:aK w A2 B.length B) (hS20:S.length<=20) (hB20:B.length<=20) (hb:∀b∈B,b.size<=1000) :
    Calls Tryz.prog 12 #[.int .i64 Q,.slice A1 S.length c1,.slice A2 B.length c2] w fun e w'=>∃A cap,e = .returned (.slice A (sI Q (S.zip B)).length cap)/\OwnRf w' w.heap.size A cap (sI Q (S.zip B))/\Below w.heap.size w w':=by
  obtain⟨L,hL⟩:∃L,S.zip B=L:=⟨_,rfl⟩
  have hll:L.length<=S.length/\L.length<=B.length/\(L.length=S.length\/L.length=B.length):=by rw[<-hL,List.length_zip];omega
  have hLg:∀j (hj:j<L.length) (h1:j<S.length) (h2:j<B.length),L[j]'hj=(S[j]'h1,B[j]'h2):=fun j hj h1 h2=>(by subst hL;exact List.getElem_zip);have hsz:∀q∈L,q.2.size<=1000:=fun q hq=>hb _ (List.of_mem_zip (by rw[hL];exact hq:q∈S.zip B)).2;rw[hL];have hdef:sI Q L=tH L L.length++if Q<wF L L.length then[⟨4,wF L L.length⟩]else[]:=rfl;have Hdef:=Lib.hid hdef;obtain⟨N,hN⟩:∃N,sI Q L=N:=⟨_,rfl⟩
  rw[hN]at Hdef |-;clear hL hb hdef hN;go_enter Tryz.func12,Tryz.ntmps12
  go_upto_region 4 with fail
  go_loopw [7,8,9] (fun out av iv wr=>∃(k:Nat) (A:Option Addr) (cap:Nat),k<=L.length/\iv = .int .i64 k/\av = .int .i64 (wF L k)/\out = .slice A (tH L k).length cap/\OwnRf wr w.heap.size A cap (tH L k)/\Below w.heap.size w wr) (fun _ _ iv _=>L.length-(intOf iv).toNat)
  case atStart=>exact⟨0,none,0,Nat.zero_le _,rfl,rfl,rfl,Own.nil _ _ _ _,Below.refl _ _⟩
  case round =>
    obtain⟨k,A,cap,hk,rfl,rfl,rfl,hown,hb⟩:=hrel;by_cases hlt:k<L.length
    · skip;obtain⟨q1,o1,hq1,hr1⟩:=y8.get (SlR.below hS hb) (i:=k) (by omega) (by omega);obtain⟨q2,o2,hq2,hr2⟩:=aK.get (SlR.below hB hb) (i:=k) (by omega) (by omega);have hkS:k<S.length:=by omega
      have hkB:k<B.length:=by omega
      have hst:=aW L hlt;have hsa:=aX L hlt;have hbd:=YC L hsz k;have hgz:(L[k]'hlt).2.size<=1000:=hsz _ (List.getElem_mem hlt);have hLk:=hLg k hlt (by omega) (by omega);obtain⟨x,hx⟩:∃x,S[k]'(by omega)=x:=⟨_,rfl⟩
      obtain⟨s,hs⟩:∃s,B[k]'(by omega)=s:=⟨_,rfl⟩
      rw[hx]at hr1 hLk;rw[hs]at hr2 hLk;rw[hLk]at hst hsa hgz;simp only at hst hsa hgz;obtain⟨F,hF⟩:∃F,tH L k=F:=⟨_,rfl⟩
      have hFl:F.length<=20:=by rw[<-hF];have:=tG L k;omega
      obtain⟨a,ha⟩:∃a,wF L k=a:=⟨_,rfl⟩
      rw[hF]at hown hst |-;rw[ha]at hsa hbd |-;have hbd2:0<=a/\a<=20000:=by omega
      have hcv:=fun (v:World) (h:Below wr.heap.size wr v)=>rsum v s (by omega);clear hx hs hF ha hLk;subst hq1;subst hq2;obtain⟨D,hD⟩:∃D,bM s.data.toList=D:=⟨_,rfl⟩
      rw[hD]at hst;simp only[hD]at hcv;have Hst:=Lib.hid hst;have Hsa:=Lib.hid hsa;clear hst hsa hbd hD;by_cases hD:D=x
      · have e1:(D==x)=true:=by simp[hD]
        have hs:=Hst.out;rw[if_pos hD,List.append_nil]at hs;have Hs:=Lib.hid hs;clear hs hD;go_upto_region 6 with fail
        refine zA (Bel wr) false (by kernel_rfl) (by kernel_rfl) (by kernel_rfl) (zC wr) ?_;have hne:=zQ wr;have hS:=zC wr;have b1:=zY hr1;have b2:=zP hr2;repeat(refine z6 ?_ ?_;(focus(simp only[z3];done));intro K hK;go_simp;refine hK _ ?_;clear hK K)
        refine zH ?_ ?_ ?_;(focus(exact hS));(focus(simp only[z3];done));intro K hK;go_simp;refine(hcv _ hS).mono ?_;rintro e w' ⟨rfl,hb⟩;replace hS:=yN hS hb;refine⟨_,rfl,hS,hK _ _ ?_⟩;clear hK K hb;repeat(refine z6 ?_ ?_;(focus(simp only[z3];done));intro K hK;go_simp;refine hK _ ?_;clear hK K)
        refine zK ?_;intro hS;have hq2l:=World.block_lt_of_cell? wr _ hr2;have hr3:=(Below.cell (show Below wr.heap.size wr w' from hS) (p:=⟨q2,o2+k,none⟩) hq2l).trans hr2;have hq2o:q2<w.heap.size:=SlR.old hB rfl (by omega);have hbw:=xM hb (show Below wr.heap.size wr w' from hS);have how:=hown.below (show Below wr.heap.size wr w' from hS);clear hS hne b1 b2 hr1 hr2 hcv hown hb;(go_wp2_with fail);go_roundw
        case rel=>exact⟨k+1,A,cap,by omega,by go_num,by rw[Hsa.out],by rw[Hs.out],by rw[Hs.out];exact how,hbw⟩
        case measure=>simp[intOf];omega
      · have e1:(D==x)=false:=by simp[hD]
        have hs:=Hst.out;rw[if_neg hD]at hs;have Hs:=Lib.hid hs;clear hs hD;go_upto_region 6 with fail
        refine zA (Bel wr) false (by kernel_rfl) (by kernel_rfl) (by kernel_rfl) (zC wr) ?_;have hne:=zQ wr;have hS:=zC wr;have b1:=zY hr1;have b2:=zP hr2;repeat(refine z6 ?_ ?_;(focus(simp only[z3];done));intro K hK;go_simp;refine hK _ ?_;clear hK K)
        refine zH ?_ ?_ ?_;(focus(exact hS));(focus(simp only[z3];done));intro K hK;go_simp;refine(hcv _ hS).mono ?_;rintro e w' ⟨rfl,hb⟩;replace hS:=yN hS hb;refine⟨_,rfl,hS,hK _ _ ?_⟩;clear hK K hb;repeat(refine z6 ?_ ?_;(focus(simp only[z3];done));intro K hK;go_simp;refine hK _ ?_;clear hK K)
        refine zK ?_;intro hS;have hq2l:=World.block_lt_of_cell? wr _ hr2;have hr3:=(Below.cell (show Below wr.heap.size wr w' from hS) (p:=⟨q2,o2+k,none⟩) hq2l).trans hr2;have hq2o:q2<w.heap.size:=SlR.old hB rfl (by omega);have hbw:=xM hb (show Below wr.heap.size wr w' from hS);have how:=hown.below (show Below wr.heap.size wr w' from hS);clear hS hne b1 b2 hr1 hr2 hcv hown hb;have hbx:Below w'.heap.size w' (w'.alloc (.cells (qR ⟨2,k⟩) 64)):=(Below.refl _ _).alloc (Nat.le_refl _) _;have ho7:=how.below hbx;have hrow7:z9 (w'.alloc (.cells (qR ⟨2,k⟩) 64)) w'.heap.size 0 2=some (qR ⟨2,k⟩):=by simp[go_sem]
        have hz7:=hbw.size;go_wp2_with (at_builtin;refine yX rE rfl ho7 rfl hrow7 (tV _) (by omega) (by omega) (by simp;omega) ?_;intro A2 cap2 w7 hownA hkA hsubA;have hr4:=(hkA.cell (p:=⟨q2,o2+k,none⟩) (by show q2<_;simp;omega) (fun h=>by have h2:=(ho7.at_base h).1;have h3:w.heap.size<=q2:=h2;omega)).trans ((hbx.cell (p:=⟨q2,o2+k,none⟩) (by show q2<_;omega)).trans hr3))
        have hbA:Below w.heap.size w w7:=(hbw.alloc hz7 _).trans (hkA.below (B:=w.heap.size) (by simp;omega) fun y hy=>(ho7.at_base hy).1);clear hbx ho7 hrow7 hz7 hkA hsubA;(go_wp2_with fail);go_roundw
        case rel=>exact⟨k+1,A2,cap2,by omega,by go_num,by rw[Hsa.out],by rw[Hs.out];simp,by rw[Hs.out];show Own _ _ _ _ _ _ _ _;rw[List.map_append,List.length_append];exact hownA,hbA⟩
        case measure=>simp[intOf];omega
    · have hkL:k=L.length:=by omega
      subst hkL;go_upto_region 4 with fail
      go_cut [19] (fun v wx=>v = .bool false/\wr=wx)
      case first =>
        by_cases h1:L.length<S.length
        · have h2:¬L.length<B.length:=by omega
          go_wp2_with fail
          go_meet
          exact⟨rfl,rfl⟩
        · go_wp2_with fail
          go_meet
          exact⟨rfl,rfl⟩
      case rest =>
      obtain⟨rfl,rfl⟩:=hcut;have hFl:=tG L L.length;obtain⟨F,hF⟩:∃F,tH L L.length=F:=⟨_,rfl⟩
      obtain⟨a,ha⟩:∃a,wF L L.length=a:=⟨_,rfl⟩
      rw[hF]at hown Hdef hFl |-;rw[ha]at Hdef |-;have hbw:=hb;clear hF ha hb;by_cases hq:Q<a
      · have hd:=Hdef.out;rw[if_pos hq]at hd;have Hd:=Lib.hid hd;clear hd;have hbx:Below wr.heap.size wr (wr.alloc (.cells (qR ⟨4,a⟩) 64)):=(Below.refl _ _).alloc (Nat.le_refl _) _;have ho7:=hown.below hbx;have hrow7:z9 (wr.alloc (.cells (qR ⟨4,a⟩) 64)) wr.heap.size 0 2=some (qR ⟨4,a⟩):=by simp[go_sem]
        have hz7:=hbw.size;go_wp2_with (at_builtin;refine yX rE rfl ho7 rfl hrow7 (tV _) (by omega) (by omega) (by simp;omega) ?_;intro A2 cap2 w7 hownA hkA hsubA;skip)
        have hbA:Below w.heap.size w w7:=(hbw.alloc hz7 _).trans (hkA.below (B:=w.heap.size) (by simp;omega) fun y hy=>(ho7.at_base hy).1);clear hbx ho7 hrow7 hz7 hkA hsubA;(go_wp2_with fail);go_ret;exact⟨A2,cap2,by rw[Hd.out];simp,by rw[Hd.out];show Own _ _ _ _ _ _ _ _;rw[List.map_append,List.length_append];exact hownA,hbA⟩
      · have hd:=Hdef.out;rw[if_neg hq,List.append_nil]at hd;have Hd:=Lib.hid hd;clear hd;(go_wp2_with fail);go_ret;exact⟨A,cap,by rw[Hd.out];rfl,by rw[Hd.out];exact hown,hbw⟩
end Go.Proofs.YtgedpfebepdcmaaGreatDoor
