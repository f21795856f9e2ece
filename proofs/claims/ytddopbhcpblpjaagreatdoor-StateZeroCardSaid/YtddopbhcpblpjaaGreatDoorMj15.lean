/- Part 15 of the texts that lead to this claim: the walks of the functions and the plain law, in order. -/
import Derived.Test.YtddopbhcpblpjaaGreatDoorMj14
namespace Go.Proofs.YtddopbhcpblpjaaGreatDoor
open Go.RowKit
open List hiding and get max min or set
open Go.Proofs.Tryz
open World
set_option maxRecDepth 100000
set_option maxHeartbeats 8000000
variable {L1 L2:List (List Nat)}{F Fd Fs M O a d:List Nat}{g n:Nat}{w w':World}{x:fU}{b t:ByteArray}{v:VwX}{X:StX}{D:List HdX}{S:List Pay}{i:zA}{R:List (ByteArray×Nat)}{ats:Array TypeId}
def AddRes(X:StX)(F:List Nat)(g:Nat)(h:HdV)(w:World)(e:Ending)(w':World):Prop :=
 ∃F',e=.returned (.tuple #[.agg (idC (if fZ X.D h=0 then hdI h else id0)),.int .i64 (fZ X.D h)])/\k7 w' g F' (vZ X.D h)/\(∀y∈F',y∈F\/w.heap.size<=y)/\z8 F w w'
theorem dag_add(w:World)(g:Nat)(F:List Nat)(n:Nat)(X:StX)(h:k7 w g F X.D)(hX:kK n X)(hn:n<=100000)(hS:xV w)(x:fU)(hT:zW w x.A x.h.ps.length x.h.ps)(i8:x.h.ps.length<=100000)(i7:fD x.h.tp)(hA:x.A=none->x.c=0)(n5:∀y∈blk x.A,y∉F) :
  Calls prog 84 #[.pointer (some ⟨g,0,none⟩),.agg (hdR x)] w λe w'=>AddRes X F g x.h w e w':=by
 obtain⟨hv,A0,c0⟩:=x;have hB:Below w.heap.size w ((w.alloc (.cells (hdR ⟨hv,A0,c0⟩) 44)).alloc (.cells (idC id0) 23)):=(bA).alloc sI _;have e3:z9 ((w.alloc (.cells (hdR ⟨hv,A0,c0⟩) 44)).alloc (.cells (idC id0) 23)) w.heap.size 0 38=some (hdR ⟨hv,A0,c0⟩):=by
  rw[zG (Below.heap_alloc _ _ _ sI)];simp[go_sem,hdR]
 have x1:((w.alloc (.cells (hdR ⟨hv,A0,c0⟩) 44)).alloc (.cells (idC id0) 23)).heap[w.heap.size+1]?=some (.cells (idC id0) 23 (0,0)):=by
  have:=heap_alloc_new (w.alloc (.cells (hdR ⟨hv,A0,c0⟩) 44)) (.cells (idC id0) 23)
  rwa [(sI:(w.alloc (.cells (hdR ⟨hv,A0,c0⟩) 44)).heap.size=w.heap.size+1)]at this
 obtain⟨W,hW⟩:=eR ((w.alloc (.cells (hdR ⟨hv,A0,c0⟩) 44)).alloc (.cells (idC id0) 23))
 obtain⟨ga,l4⟩:=eX w.heap.size
 rw[<-hW]at hB e3 x1;rw[l4]at e3 x1;have cN:Calls prog 60 #[.pointer (some ⟨g,0,none⟩)] W λe w'=>e=.returned (.bool false)/\W=w':=by
  obtain⟨bh,bp,bt,bc,N,Tm,Cm,hi,_⟩:=h;exact lU W g bh (hi.c0 W hB).1
 have cv:=ve W g F X.D (h.below hB) hX.nd ⟨hv,A0,c0⟩ (SlR.below hT hB) i8 (by show hv.tp.size<=_;have:hv.tp.size<=maxLen:=i7;unfold maxLen at this;omega);obtain⟨V,hV⟩:=eX (fZ X.D hv)
 have cv:Calls prog 145 #[.pointer (some ⟨g,0,none⟩),.agg (hdR ⟨hv,A0,c0⟩)] W λe w'=>e=.returned (.int .i64 V)/\Below W.heap.size W w':=by rw[<-hV];exact cv
 have HW:=dH hW;have HB:=dH hB;have i4:=dH l4;have HV:=dH hV;have n4:ga+1<W.heap.size:=(aG x1).1;have a4:=dH h;clear hW hB l4 hV h;go_enter func84,ntmps84
 (go_wp2_with fail);rw[<-HW.out,i4.out];refine cN.mono ?_;rintro e w' ⟨rfl,rfl⟩;clear cN;(go_wp2_with fail);refine cv.mono ?_;rintro e w1 ⟨rfl,j4⟩;have d7:=dH (HB.out.trans (j4.mono HB.out.size));have a9:=((z8.of_below j4).row (zD e3) sI _ _).trans e3;have x2:=(j4.block (ga+1) n4).trans x1;clear cv e3 j4 x1 n4;by_cases d2:V=0
 ·have p6:(V != 0)=false:=by rw[bne_eq_false_iff_eq];exact d2
  have c4:fZ X.D hv=0:=HV.out.trans d2;obtain⟨o3,e7,_⟩:=verX_ok c4;have ci:=hd_ident w1 hv A0 c0 (hS.below d7.out) (SlR.below hT d7.out) (by show hv.ps.length<=_;have:hv.ps.length<=100000:=i8;omega) (by show hv.tp.size<=_;have:hv.tp.size<=maxLen:=i7;unfold maxLen at this;omega);rw[o3]at ci;obtain⟨I,hI⟩:=eX (hdI hv)
  rw[hI]at ci;have HI:=dH hI;have m6:=dH d2;have r:=dH c4;have q1:=dH e7;clear hI d2 c4 o3 e7;(go_wp2_with fail);refine ci.mono ?_;rintro e w2 ⟨rfl,j3⟩;have h9:Below w1.heap.size w1 (w2.alloc (.cells (idC I) 23)):=j3.alloc j3.size _;have e4:z9 (w2.alloc (.cells (idC I) 23)) w2.heap.size 0 32=some (idC I):=by simp[go_sem]
  obtain⟨Z,hZ⟩:=eR (w2.alloc (.cells (idC I) 23))
  obtain⟨gb,j0⟩:=eX w2.heap.size
  have l2:w1.heap.size<=gb:=by rw[<-j0];exact j3.size
  rw[<-hZ]at h9 e4;rw[j0]at e4;have m0:=dH (d7.out.trans (h9.mono d7.out.size));have c5:=((z8.of_below h9).row (zD a9) sI _ _).trans a9;have x3:=(h9.block (ga+1) (aG x2).1).trans x2;have cH:=dag_has Z g F X.D (a4.out.below m0.out) hX.nd I;obtain⟨t,ht⟩:=eX (decide (I∈qR X.D))
  rw[ht]at cH;have HZ:=dH hZ;have q7:=dH j0;have Ht:=dH ht;have l3:ga+1<w1.heap.size:=(aG x2).1;have p4:ga+1<gb:=oM;clear ci j3 h9 hZ j0 ht a9 x2 l2 l3;(go_wp2_with fail);rw[<-HZ.out,q7.out];refine cH.mono ?_;rintro e w4 ⟨rfl,h8⟩;have c2:=dH (m0.out.trans (h8.mono m0.out.size));have T:=((z8.of_below h8).row (zD c5) sI _ _).trans c5;have b4:=((z8.of_below h8).row (zD e4) sI _ _).trans e4;have x4:=(h8.block (ga+1) (aG x3).1).trans x3;clear cH c5 e4 x3 h8;cases t with
  | true =>
   have m9:=zX (P:=prog) xP w4 (ga+1) (idC id0) (idC I) _ x4 sI sI (yN _);have a3:=dH (setRow_heap w4 (ga+1) _ (idC I) _ _ x4);have hk:=lP w4 (ga+1) (idC I);have d1:=c2.out.trans (hk.below c2.out.size (oS i4.out));have HF:=dH (And.intro (a4.out.below d1) ((z8.of_below d1).mono (S':=F) sI));clear hk d1 x4 T;(go_wp2_with fail);refine bodyPost_ret (yU results84 _ _ (ga+1) 23 (idC I) (0,0) _ rfl a3.out underlying23 rfl (by rw[xM];exact xP)) rfl ?_;refine⟨F,by rw[r.out,if_pos rfl,HI.out];rfl,?_,λy hy=>.inl hy,HF.out.2⟩;rw[show vZ X.D hv=X.D from if_neg λhh=>hh.2 (by rw[HI.out];exact of_decide_eq_true Ht.out)];exact HF.out.1
  | false =>
   have b5:hdI hv∉qR X.D:=by rw[HI.out];exact of_decide_eq_false Ht.out
   obtain⟨bh,bp,bt,bc,N,Tm,Cm,g6,hF⟩:=a4.out;have hG:=dH (g6.g'.below c2.out);have p5:=g6.c0 w4 c2.out;obtain⟨n6,l5,j2,j1⟩:=p5;have H:=g6.lt;rw[i4.out]at H;have Lg:g<ga:=H g sI;have Lh:bh<ga:=H bh sI;have Lp:bp<ga:=H bp sI;have Lt:bt<ga:=H bt sI;have Lc:bc<ga:=H bc sI;have m8:I∉N.map (·.1):=λhm=>by
    have e:=(g6.perm.map (·.id)).mem_iff (a:=I);rw[map_map]at e;exact b5 (by rw[HI.out];exact e.1 hm)
   have p7:=dH m8;have m3:=dH H;have hD:((⟨I,hv⟩:HdX) :: X.D).Perm (vZ X.D hv):=by rw[ki r.out b5,HI.out];exact(pW _ _).symm
   have HD:=dH hD;have d5:=dH hF;have E:=dH b5;have far:=hG.out.far;obtain⟨a0,f2,f3,f4,f5,f6,f7,f8,f9,o4⟩:=far;clear g6 hF b5 a4 H m8 hD;have l0:ga<w4.heap.size:=zD T;have g7:gb<w4.heap.size:=zD b4;have m4:Hid (w.heap.size<=w4.heap.size):=dH c2.out.size;have cc:=fun (V:World) (hV:Below w4.heap.size w4 V)=>QP V ⟨hv,A0,c0⟩ (SlR.below hT (c2.out.trans (hV.mono c2.out.size))) (by show hv.ps.length<=_;have:hv.ps.length<=100000:=i8;omega) hA;go_upto_region 9 with fail
   refine kX [bh] w4 ?_;intro c8 hS;have b1:=zF n6 (S:=[bh]) (by simpa using f2);have b2:=zY b4 (S:=[bh]) sO;have b3:=zY T (S:=[bh]) sO;refine lQ ?_;intro K hK;refine(cc _ ((Below.refl _ _).drew)).mono ?_;rintro e w5 ⟨A',c',rfl,ho,l7⟩;have h7:Below w4.heap.size w4 w5:=((Below.refl _ _).drew).trans l7;replace hS:=bM hS l7;refine⟨_,rfl,hS,hK _ _ ?_⟩;clear hK K;obtain⟨w6,p2,n2,j5,b9⟩:=hG.out.putH h7 p7.out (x:=⟨hv,A',c'⟩) ho HD.out;refine lH ?_;intro K hK;refine zH (yA hS n2 sI) (λhS=>?_);refine hK _ _ ?_;clear hK K;refine zC ?_;intro hS;have K6:z8 [bh] w4 w6:=hS;have m1:=dH (show z8 F w w6 from z8.trans ((z8.of_below c2.out).mono (S':=F) sI) (K6.mono (S':=F) (λy hy=>.inl (by rw[d5.out,mem_singleton.1 hy];simp))) (λy hy=>.inl hy));have a8:=(K6.row l0 sO _ _).trans T;have c6:=(K6.row g7 sO _ _).trans b4;have x6:=(K6.block (ga+1) oM sO).trans x4;have n8:zW w6 A0 hv.ps.length hv.ps:=SlR.kept hT m1.out n5;have c3:=dH b9;have p0:w4.heap.size<=w6.heap.size:=K6.size;obtain⟨D',l9⟩:=eX (vZ X.D hv)
   rw[l9]at j5;obtain⟨N',o0⟩:=eX (N ++ [(I,(⟨hv,A',c'⟩:fU))])
   rw[o0]at j5 c3;have d6:=dH l9;have q9:=dH j5;clear c8 hS b1 b2 b3 cc p2 n2 j5 b9 ho l7 h7 K6 o0 l9 T b4 x4 n6 l5 j2 j1 hG f2 f3 f4 f5 a0 HD;have q0:w6.cell? ⟨ga,0,none⟩=some (.slice A0 hv.ps.length c0):=by have:=zB a8 (j:=0) oM;rw[Nat.zero_add]at this;rw[this];simp[hdR,hdO,hdC]
   obtain⟨R,hR⟩:=eX hv.ps
   have HR:=dH hR;simp only[hR]at q0 n8 i8;clear hR;go_upto_region 11 with fail
   go_loopw [10,45] (λ_ i wr=>∃k:Nat,k<=R.length/\i=.int .i64 k/\Hid (gF wr g D' ((R.take k).reverse++JJ X.D) (j8 X.D) (vA X.D) bh bp bt bc N' Tm Cm)/\Hid (z8 [bp] w6 wr)) (λ_ i _=>R.length-(intOf i).toNat)
   case atStart=>exact⟨0,zL,rfl,q9,dH (z8.refl _ _)⟩
   case round =>
    obtain⟨k,hk,rfl,hg,i9⟩:=hrel;by_cases H:k<R.length
    ·have n7:zW wr A0 R.length R:=SlR.kept n8 i9.out (λy hy=>by
      have h1:=n5 y hy;simp only[mem_singleton];intro e;exact h1 (by rw[d5.out,e];simp))
     obtain⟨q,o,rfl,hr⟩:=zW.get n7 H H;have k2:(R.take (k+1)).reverse++JJ X.D=R[k] :: ((R.take k).reverse++JJ X.D):=by rw[take_succ_eq_append_getElem H,reverse_append];rfl
     obtain⟨p,hp⟩:=eX (R[k]'H)
     rw[hp]at hr k2;have j6:Below wr.heap.size wr (wr.alloc (.cells (idC p) 23)):=bA;have k3:z9 (wr.alloc (.cells (idC p) 23)) wr.heap.size 0 32=some (idC p):=by simp[go_sem]
     have h0:=hg.out.below j6;have l6:=hg.out.far.2.2.2.2.2.2.2.1;obtain⟨Y,hY⟩:=eR (wr.alloc (.cells (idC p) 23))
     obtain⟨gp,k9⟩:=eX wr.heap.size
     rw[<-hY]at k3 h0 j6;rw[k9]at k3;have l5:Y.cell? ⟨g,1,none⟩=some (.map (some bp)):=by rw[cell_of_row Y g 1 _ _ _ h0.heap];rfl
     have l1:g∉[bp]:=by simpa using h0.far.2.2.1
     have k8:gp∉[bp]:=sO;obtain⟨w7,p1,k6,o2⟩:=(h0.below ((Below.refl _ _).drew)).putP p;have HY:=dH hY;have q5:=dH k9;have p8:=dH k2;have q8:=dH o2;have q4:=dH (z8.trans i9.out (z8.trans ((z8.of_below j6).mono (S':=[bp]) sI) (z8.trans ((z8.drew Y).mono (S':=[bp]) sI) k6 (λy hy=>.inl hy)) (λy hy=>.inl hy)) (λy hy=>.inl hy));clear hp k2 j6 h0 l6 hY k9 o2 n7;go_upto_region 13 with fail
     rw[<-HY.out,q5.out];refine kX [bp] Y ?_;intro c8 hS;have b1:=zF l5 l1;have b2:=zY k3 k8;refine lQ ?_;intro K hK;refine zH (yA hS k6 sI) (λhS=>?_);refine hK _ _ ?_;clear hK K;refine zC ?_;intro hS;clear c8 hS b1 b2 p1 k6;(go_wp2_with fail);go_roundw
     case rel=>exact⟨k+1,oM,by go_num,dH (by rw[p8.out];exact q8.out),q4⟩
     case measure=>exact sZ
    ·have n1:R.take k=R:=take_of_length_le oM;have i6:Hid (gF wr g D' (R.reverse++JJ X.D) (j8 X.D) (vA X.D) bh bp bt bc N' Tm Cm):=dH (by rw[<-n1];exact hg.out);have Kr:=i9.out;have a7:=(Kr.row (zD a8) sO _ _).trans a8;have b0:=(Kr.row (zD c6) sO _ _).trans c6;have xr:=(Kr.block (ga+1) (aG x6).1 sO).trans x6;have far:=i6.out.far;obtain⟨a0,f2,f3,f4,f5,f6,f7,f8,f9,o4⟩:=far;have j2:wr.cell? ⟨g,2,none⟩=some (.map (some bt)):=by rw[cell_of_row wr g 2 _ _ _ i6.out.heap];rfl
     have q2:wr.cell? ⟨ga,2,none⟩=some (.string hv.tp):=by have:=zB a7 (j:=2) oM;rw[Nat.zero_add]at this;rw[this];simp[hdR,hdO,hdC]
     obtain⟨⟨As,ns,cs⟩,e9,c7,e0,O⟩:=i6.out.tm.getK dB underlying92 i7;have p3:∀y∈slF Tm,y<ga:=λy hy=>m3.out y (by simp[hy]);have b6:∀y∈blk As,y<ga:=λy hy=>p3 y (O y hy);have h5:bt∉blk As:=λhm=>(a0 bt (by simp[O bt hm])).2.2.2.1 rfl;have h4:g∉blk As:=λhm=>(a0 g (by simp[O g hm])).1 rfl;have J:ga∉blk As:=λhm=>(oH (b6 ga hm));have B:gb∉blk As:=λhm=>(oH (b6 gb hm));have k5:∀y:Subtype (Kp (blk As) wr),(Instr.lookup 92 (.map (some bt)) (.string hv.tp) false).run prog y.1=.ok (.slice As ns cs) y.1:=λy=>e9 y.1 _ y.2 h5;obtain⟨t1,t2⟩:=tps_add hX r.out E.out hv.tp;rw[if_pos rfl,HI.out]at t2;rw[d6.out]at t1 t2;have s:(j8 X.D hv.tp).length=ns:=by simpa using c7.len
     have U:ns<=100000:=by rw[<-s];exact Nat.le_trans (by unfold j8;simpa using length_filter_le _ X.D) (Nat.le_trans hX.len hn)
     obtain⟨a1,a2,_⟩:=rC hX r.out;rw[d6.out]at a1;have i0:I∉j8 X.D hv.tp:=λhm=>E.out (by rw[HI.out];exact(Y8 hv.tp).subset hm);have cp:=dag_put wr.drew g D' (ZT.below ⟨bh,bp,bt,bc,N',i6.out.toH⟩ ((Below.refl _ _).drew)) a1 ⟨As,ns,cs⟩ (j8 X.D hv.tp) (c7.below ((Below.refl _ _).drew)) U I t1 i0;unfold slV at cp;have q3:=dH a1;have p9:=dH e0;have o7:=dH Kr;have r0:=dH t2;clear e9 c7 t1 t2 s a1 a2 i0 hg i9 n1 q0 a8 c6 x6 Kr e0;go_upto_region 15 with fail
     refine kF (blk As) wr ?_;intro c8 hS;have b1:=zF j2 (S:=blk As) h4;have b2:=zF q2 (S:=blk As) J;have b3:=zY b0 (S:=blk As) B;refine lQ ?_;intro K hK;refine cp.mono ?_;rintro e w9 ⟨⟨A9,n9,c9⟩,rfl,k4,e8,f0,e1⟩;have f:z8 (blk As) wr w9:=z8.trans ((z8.drew wr).mono (S':=blk As) sI) f0 (λy hy=>.inl hy);replace hS:=f;refine⟨_,rfl,hS,hK _ _ ?_⟩;clear hK K;obtain⟨a6,d8,e6,g0,b7,M⟩:=i6.out.putT i7 p9.out f e8 e1;unfold slV at e6;refine lZ ?_;refine qY ?_ ?_;(focus(simp only[yL];done));intro K hK;go_simp;refine hK _ _ ?_;clear hK K;have i3:z8 (bt :: blk As) wr a6:=z8.trans (f.mono (S':=bt :: blk As) (λy hy=>.inl (mem_cons_of_mem _ hy))) (g0.mono (S':=bt :: blk As) sI) (λy hy=>.inl hy);have b8:∀y,y≠bt->y∉blk As->y∉bt :: blk As:=λy h1 h2 h3=>(mem_cons.1 h3).elim h1 h2;have g9:=b8 ga oM J;have g8:=b8 gb oM B;have c1:=(i3.row (zD a7) g9 _ _).trans a7;have G:=(i3.row (zD b0) g8 _ _).trans b0;have k1:=(i3.block (ga+1) (aG xr).1 (b8 (ga+1) oM λhm=>oH (b6 _ hm))).trans xr;have far:=b7.far;obtain⟨g1,g2,g3,g4,g5,_,_,_,_,_⟩:=far;have j1:a6.cell? ⟨g,3,none⟩=some (.map (some bc)):=by rw[cell_of_row a6 g 3 _ _ _ b7.heap];rfl
     have q6:z9 a6 ga 6 32=some (idC hv.cm):=by have:=yD c1 (j:=6) (m:=32) oM;rw[Nat.zero_add]at this;rw[this];exact congrArg some (QH _)
     have o5:∀y∈bt :: blk As,y∈F:=λy hy=>by
      rw[d5.out];rcases mem_cons.1 hy with e | e
      ·rw[e];simp
      ·simp[O y e]
     have i5:=dH i3;have m7:=dH o5;have d4:=dH b7;have d3:=dH M;clear c8 hS b1 b2 b3 e6 g0 b7 M k4 e8 f0 e1 f i3 o5 k5 a7 b0 xr j2 q2 O b6 J B g9 g8 b8 h5 h4 a0 f2 f3 f4 f5 f6 f7 f8 f9 o4 U;obtain⟨⟨Ac,nc,cc⟩,e9,c7,e0,O⟩:=d4.out.cm.getK j7 underlying93 (k:=hv.cm) trivial;have b6:∀y∈blk Ac,y<ga:=λy hy=>m3.out y (by simp[O y hy]);have h6:bc∉blk Ac:=λhm=>(g1 bc (by simp[O bc hm])).2.2.2.2.1 rfl;have h4:g∉blk Ac:=λhm=>(g1 g (by simp[O g hm])).1 rfl;have J:ga∉blk Ac:=λhm=>(oH (b6 ga hm));have B:gb∉blk Ac:=λhm=>(oH (b6 gb hm));have k5:∀y:Subtype (Kp (blk Ac) a6),(Instr.lookup 93 (.map (some bc)) (.agg (idC hv.cm)) false).run prog y.1=.ok (.slice Ac nc cc) y.1:=λy=>e9 y.1 _ y.2 h6;obtain⟨t1,t2⟩:=cms_add hX r.out E.out hv.cm;rw[if_pos rfl,HI.out]at t2;rw[d6.out]at t1 t2;have s:(vA X.D hv.cm).length=nc:=by simpa using c7.len
     have U:nc<=100000:=by rw[<-s];exact Nat.le_trans (by unfold vA;simpa using length_filter_le _ X.D) (Nat.le_trans hX.len hn)
     have i0:I∉vA X.D hv.cm:=λhm=>E.out (by rw[HI.out];exact(zl hv.cm).subset hm);have cp:=dag_put a6.drew g D' (ZT.below ⟨bh,bp,bt,bc,N',d4.out.toH⟩ ((Below.refl _ _).drew)) q3.out ⟨Ac,nc,cc⟩ (vA X.D hv.cm) (c7.below ((Below.refl _ _).drew)) U I t1 i0;unfold slV at cp;have m2:=dH e0;have r1:=dH t2;clear e9 c7 t1 t2 s i0 e0;go_upto_region 16 with fail
     refine kF (blk Ac) a6 ?_;intro c8 hS;have b1:=zF j1 (S:=blk Ac) h4;have b2:=zY q6 (S:=blk Ac) J;have b3:=zY G (S:=blk Ac) B;refine lQ ?_;intro K hK;refine cp.mono ?_;rintro e o9 ⟨⟨A9,n9,c9⟩,rfl,k4,e8,f0,e1⟩;have f:z8 (blk Ac) a6 o9:=z8.trans ((z8.drew a6).mono (S':=blk Ac) sI) f0 (λy hy=>.inl hy);replace hS:=f;refine⟨_,rfl,hS,hK _ _ ?_⟩;clear hK K;obtain⟨a5,d9,e5,f1,i1,L⟩:=d4.out.putC m2.out f e8 e1;unfold slV at e5;refine lZ ?_;refine qY ?_ ?_;(focus(simp only[yL];done));intro K hK;go_simp;refine hK _ _ ?_;clear hK K;have j9:z8 (bc :: blk Ac) a6 a5:=z8.trans (f.mono (S':=bc :: blk Ac) (λy hy=>.inl (mem_cons_of_mem _ hy))) (f1.mono (S':=bc :: blk Ac) sI) (λy hy=>.inl hy);have b8:∀y,y≠bc->y∉blk Ac->y∉bc :: blk Ac:=λy h1 h2 h3=>(mem_cons.1 h3).elim h1 h2;have n0:=(j9.row (zD G) (b8 gb oM B) _ _).trans G;have k0:=(j9.block (ga+1) (aG k1).1 (b8 (ga+1) oM λhm=>oH (b6 _ hm))).trans k1;have o6:∀y∈bc :: blk Ac,y∈F\/w.heap.size<=y:=λy hy=>by
      rcases mem_cons.1 hy with e | e
      ·left;rw[d5.out,e];simp
      ·left;rw[d5.out];simp[O y e]
     have n3:∀y,w4.heap.size<=y->w.heap.size<=y:=λy hy=>Nat.le_trans m4.out hy;have z6:=m1.out.size;have zr:=o7.out.size;have o8:=i5.out.size;have KA:z8 F w a5:=z8.trans (z8.trans (z8.trans m1.out (o7.out.mono (S':=F) (λy hy=>.inl (by rw[d5.out,mem_singleton.1 hy];simp))) (λy hy=>.inl hy)) (i5.out.mono (S':=F) (λy hy=>.inl (m7.out y hy))) (λy hy=>.inl hy)) j9 o6;have m9:=zX (P:=prog) xP a5 (ga+1) (idC id0) (idC I) _ k0 sI sI (yN _);have a3:=dH (setRow_heap a5 (ga+1) _ (idC I) _ _ k0);have d0:=lP a5 (ga+1) (idC I);have o1:fH a5 g D' bh bp bt bc N' d8 d9:=i1.toIn
      (λz=>by
       have h1:=par_add (X:=X) r.out E.out z;rw[d6.out]at h1;rw[h1,mem_append,mem_reverse,HR.out];exact Or.comm)
      (λt=>by
       have h1:=(tps_add hX r.out E.out t).2;rw[d6.out,HI.out]at h1;rw[h1];by_cases e:t=hv.tp
       ·rw[if_pos e.symm,if_pos e,e]
       ·rw[if_neg (λe2=>e e2.symm),if_neg e])
      (λt=>by
       have h1:=(cms_add hX r.out E.out t).2;rw[d6.out,HI.out]at h1;rw[h1];by_cases e:t=hv.cm
       ·rw[if_pos e.symm,if_pos e,e]
       ·rw[if_neg (λe2=>e e2.symm),if_neg e])
     have l8:∀y∈g :: bh :: bp :: bt :: bc :: (psF N'++slF d8++slF d9),(y∈F/\y<ga)\/w4.heap.size<=y:=λy hy=>by
      have d:y∈g :: bh :: bp :: bt :: bc :: (psF N++slF Tm++slF Cm)->(y∈F/\y<ga)\/w4.heap.size<=y:=λh=>.inl ⟨by rw[d5.out];exact h,m3.out y h⟩;simp only[mem_cons,mem_append]at hy d;rcases hy with e | e | e | e | e | (e | e) | e
      ·exact d (by simp[e])
      ·exact d (by simp[e])
      ·exact d (by simp[e])
      ·exact d (by simp[e])
      ·exact d (by simp[e])
      ·rcases c3.out y e with e | e
       ·exact d (by simp[e])
       ·exact .inr e
      ·rcases d3.out y e with e | e
       ·exact d (by simp[e])
       ·exact .inr oM
      ·rcases L y e with e | e
       ·exact d (by simp[e])
       ·exact .inr oM
     have i2:k7 (a5.setRow (ga+1) (idC I)) g (g :: bh :: bp :: bt :: bc :: (psF N'++slF d8++slF d9)) D':=k7.kept ⟨bh,bp,bt,bc,N',d8,d9,o1,rfl⟩ d0 (λy hy=>by
      simp only[mem_singleton];rcases l8 y hy with⟨_,h1⟩ | h1 <;> omega)
     have KZ:z8 F w (a5.setRow (ga+1) (idC I)):=z8.trans KA d0 (λy hy=>.inr (by rw[mem_singleton.1 hy,i4.out];omega));have m5:=dH (And.intro i2 (And.intro (λy hy=>(l8 y hy).imp And.left (n3 y)) KZ):k7 (a5.setRow (ga+1) (idC I)) g (g :: bh :: bp :: bt :: bc :: (psF N'++slF d8++slF d9)) D'/\(∀y∈g :: bh :: bp :: bt :: bc :: (psF N'++slF d8++slF d9),y∈F\/w.heap.size<=y)/\z8 F w (a5.setRow (ga+1) (idC I)));clear c8 hS b1 b2 b3 e5 f1 i1 L k4 e8 f0 e1 f j9 KA KZ i2 l8 o1 d0 o6 b8 k5 j1 q6 O b6 J B h6 h4 g1 g2 g3 g4 g5 U k0 G c1 k1 n3 z6 zr o8;(go_wp2_with fail);refine bodyPost_ret (yU results84 _ _ (ga+1) 23 (idC I) (0,0) _ rfl a3.out underlying23 rfl (by rw[xM];exact xP)) rfl ?_;refine⟨_,by rw[r.out,if_pos rfl,HI.out];rfl,?_,m5.out.2.1,m5.out.2.2⟩;rw[d6.out];exact m5.out.1
 ·have p6:(V != 0)=true:=by rw[bne_iff_ne];exact d2
  have m6:=dH d2;have m9:=zX (P:=prog) xP w1 (ga+1) (idC id0) (idC id0) _ x2 sI sI (yN _);have a3:=dH (setRow_heap w1 (ga+1) _ (idC id0) _ _ x2);have hk:=lP w1 (ga+1) (idC id0);have d1:=d7.out.trans (hk.below d7.out.size (oS i4.out));have HF:=dH (And.intro (a4.out.below d1) ((z8.of_below d1).mono (S':=F) sI));clear hk d1 x2 a9 d2;(go_wp2_with fail);refine bodyPost_ret (yU results84 _ _ (ga+1) 23 (idC id0) (0,0) _ rfl a3.out underlying23 rfl (by rw[xM];exact xP)) rfl ?_;refine⟨F,by rw[HV.out,if_neg m6.out];rfl,?_,λy hy=>.inl hy,HF.out.2⟩;rw[show vZ X.D hv=X.D from if_neg λhh=>m6.out (HV.out.symm.trans hh.1)];exact HF.out.1
section
def v7(L:List (List Nat)):Prop:=L.Pairwise λa b=>∀x∈a,x∉b
theorem v7.set{a':List Nat}(h:v7 (L1++a :: L2))(hl:∀b∈L1++L2,∀x∈b,x<n)(ha:∀x∈a',x∈a\/n<=x):v7 (L1++a' :: L2):=by
 unfold v7 at h |-;rw[pairwise_append,pairwise_cons]at h |-;obtain⟨h1,⟨h2,h3⟩,h4⟩:=h;refine⟨h1,⟨λb hb x hx d=>?_,h3⟩,λc hc b hb=>?_⟩
 ·rcases ha x hx with e | e
  ·exact h2 b hb x e d
  ·have:=hl b (mem_append_right _ hb) x d;omega
 ·rcases mem_cons.1 hb with rfl | hb
  ·intro x hx d;rcases ha x d with e | e
   ·exact h4 c hc a sI x hx e
   ·have:=hl c (mem_append_left _ hc) x hx;omega
  ·exact h4 c hc b (by simp[hb])
theorem v7.ne(h:v7 (L1++a :: L2)):∀b∈L1++L2,∀x∈b,x∉a:=by
 unfold v7 at h;rw[pairwise_append,pairwise_cons]at h;obtain⟨_,⟨h2,_⟩,h4⟩:=h;intro b hb x hx d;rcases mem_append.1 hb with hb | hb
 ·exact h4 b hb a sI x hx d
 ·exact h2 b hb x d hx
structure VwP where
 g:Nat
 b:Nat
 O:List Nat
 v:Value
def vwF(p:VwX×VwP):List Nat:=p.2.g :: p.2.b :: p.2.O
structure Y5(w:World)(M:List Nat)(p:VwX×VwP):Prop where
 view:yR w p.2.g p.1.t p.2.b p.1.I p.2.v
 st:kZ w p.2.O M p.2.v p.1.s
 gO:p.2.g∉p.2.b :: p.2.O
 bO:p.2.b∉p.2.O
 lt:∀x∈vwF p,x<w.heap.size
 t:fD p.1.t
abbrev stC(gd gs bo bv:Nat):Array Value:=#[.pointer (some ⟨gd,0,none⟩),.pointer (some ⟨gs,0,none⟩),.map (some bo),.map (some bv)]
def vR(g bo bv:Nat)(Fd Fs:List Nat)(N:List (VwX×VwP)):List (List Nat):=[g] :: [bo] :: [bv] :: Fd :: Fs :: N.map vwF
structure fR(w:World)(g gd gs bo bv:Nat)(Fd Fs M:List Nat)(N:List (VwX×VwP))(X:StX):Prop where
 heap:w.heap[g]?=some (.cells (stC gd gs bo bv) 32 (0,0))
 dag:k7 w gd Fd X.D
 sto:v6 w gs Fs X.q X.S
 own:jM w bo X.O
 vs:∃R es clk,yK w bv Value.string fA fD R es clk/\R.Perm (N.map λp=>(p.1.t,p.2.g))
 vw:∀p∈N,Y5 w M p
 vx:N.map (·.1)=X.V
 dis:v7 (vR g bo bv Fd Fs N)
def dK(F:List Nat):Prop:=1∉F/\0∉F/\2∉F
def xG(w:World)(g:Nat)(F M:List Nat)(X:StX):Prop :=
 ∃gd gs bo bv Fd Fs N,fR w g gd gs bo bv Fd Fs M N X/\F=(vR g bo bv Fd Fs N).flatten/\(∀x∈F,x∈M)/\(∀x∈M,x<w.heap.size)/\dK F
structure dA(w:World):Prop where
 parts:qD w
 sha:xV w
theorem dA.kept{w w':World}{S:List Nat}(h:dA w)(k:z8 S w w')(hS:dK S):dA w':=⟨h.parts.kept k hS.1,h.sha.kept k hS.2.1 hS.2.2⟩
theorem dA.below{w w':World}(h:dA w)(k:Below w.heap.size w w'):dA w':=⟨h.parts.below k,h.sha.below k⟩
theorem dA.lt{w:World}(h:dA w){n:Nat}(hn:w.heap.size<=n):n≠1/\n≠0/\n≠2:=by
 have:=h.parts.lt;have:=h.sha.ltF;have:=h.sha.ltK;exact⟨oM,oM,oM⟩
theorem dK.more(h:dA w){F':List Nat}(hF:dK F)(hs:∀y∈F',y∈F\/w.heap.size<=y):dK F':=by
 refine⟨λhx=>?_,λhx=>?_,λhx=>?_⟩
 ·rcases hs _ hx with e | e
  ·exact hF.1 e
  ·exact(h.lt e).1 rfl
 ·rcases hs _ hx with e | e
  ·exact hF.2.1 e
  ·exact(h.lt e).2.1 rfl
 ·rcases hs _ hx with e | e
  ·exact hF.2.2 e
  ·exact(h.lt e).2.2 rfl
section
variable {w w':World} {g gd gs bo bv:Nat} {F Fd Fs M S:List Nat} {N:List (VwX×VwP)} {X:StX}
theorem bG{x:Nat}:x∈(vR g bo bv Fd Fs N).flatten↔x=g\/x=bo\/x=bv\/x∈Fd\/x∈Fs\/∃p∈N,x∈vwF p:=by
 unfold vR;rw[mem_flatten];constructor
 ·rintro⟨l,hl,hx⟩;simp only[mem_cons,mem_map]at hl;rcases hl with rfl | rfl | rfl | rfl | rfl | ⟨p,hp,rfl⟩
  ·exact .inl (mem_singleton.1 hx)
  ·exact .inr (.inl (mem_singleton.1 hx))
  ·exact .inr (.inr (.inl (mem_singleton.1 hx)))
  ·exact .inr (.inr (.inr (.inl hx)))
  ·exact .inr (.inr (.inr (.inr (.inl hx))))
  ·exact .inr (.inr (.inr (.inr (.inr ⟨p,hp,hx⟩))))
 ·rintro(rfl | rfl | rfl | hx | hx | ⟨p,hp,hx⟩)
  ·exact⟨[x],sI,sI⟩
  ·exact⟨[x],sI,sI⟩
  ·exact⟨[x],sI,sI⟩
  ·exact⟨Fd,sI,hx⟩
  ·exact⟨Fs,sI,hx⟩
  ·exact⟨vwF p,by simp only[mem_cons,mem_map];exact .inr (.inr (.inr (.inr (.inr ⟨p,hp,rfl⟩)))),hx⟩
theorem Y5.kept{p:VwX×VwP}(h:Y5 w M p)(k:z8 S w w')(hS:∀x∈vwF p,x∉S)(hM:∀x∈S,x∈M\/w.heap.size<=x):Y5 w' M p :=
 ⟨h.view.kept k (hS _ (by simp[vwF])) (hS _ (by simp[vwF])),h.st.kept k (λx hx=>hS x (by simp[vwF,hx])) hM,h.gO,h.bO,λx hx=>Nat.lt_of_lt_of_le (h.lt x hx) k.size,h.t⟩
theorem kZ.moreM{w:World}{O M M':List Nat}{v:Value}{s:VSt}(h:kZ w O M v s)(hs:∀x∈M,x∈M')(hn:∀x∈M',x∈M\/w.heap.size<=x):kZ w O M' v s:=by
 cases s with
 | s N G =>
  obtain⟨g,bn,bb,bg,e,h1,rfl⟩:=h;exact⟨g,bn,bb,bg,e,h1.moreM hs hn,rfl⟩
 | _=>exact h
theorem Y5.moreM{M':List Nat}{p:VwX×VwP}(h:Y5 w M p)(hs:∀x∈M,x∈M')(hn:∀x∈M',x∈M\/w.heap.size<=x):Y5 w M' p:=⟨h.view,h.st.moreM hs hn,h.gO,h.bO,h.lt,h.t⟩
theorem fR.moreM{M':List Nat}(h:fR w g gd gs bo bv Fd Fs M N X)(hs:∀x∈M,x∈M')(hn:∀x∈M',x∈M\/w.heap.size<=x):fR w g gd gs bo bv Fd Fs M' N X:=⟨h.heap,h.dag,h.sto,h.own,h.vs,λp hp=>(h.vw p hp).moreM hs hn,h.vx,h.dis⟩
theorem fR.kept(h:fR w g gd gs bo bv Fd Fs M N X)(k:z8 S w w')(hF:∀x∈(vR g bo bv Fd Fs N).flatten,x∉S)(hM:∀x∈S,x∈M\/w.heap.size<=x):fR w' g gd gs bo bv Fd Fs M N X:=by
 obtain⟨R,es,d,hm,hp⟩:=h.vs;have hF:=λx=>λhx=>hF x (bG.2 hx);exact⟨(k.block g (aG h.heap).1 (hF g (.inl rfl))).trans h.heap,h.dag.kept k λx hx=>hF x (by simp[hx]),h.sto.kept k λx hx=>hF x (by simp[hx]),h.own.kept k (hF bo sI),
  ⟨R,es,d,hm.kept k (hF bv sI),hp⟩,λp hp=>(h.vw p hp).kept k (λx hx=>hF x (.inr (.inr (.inr (.inr (.inr ⟨p,hp,hx⟩)))))) hM,h.vx,h.dis⟩
theorem fR.lt(h:fR w g gd gs bo bv Fd Fs M N X):∀b∈vR g bo bv Fd Fs N,∀x∈b,x<w.heap.size:=by
 obtain⟨R,es,d,hm,hp⟩:=h.vs;intro b hb x hx;have hx:x∈(vR g bo bv Fd Fs N).flatten:=mem_flatten.2 ⟨b,hb,hx⟩;rcases bG.1 hx with e | e | e | e | e | ⟨p,hp,e⟩
 ·rw[e];exact(aG h.heap).1
 ·rw[e];exact h.own.lt
 ·rw[e];exact hm.lt
 ·exact h.dag.lt x e
 ·exact h.sto.lt x e
 ·exact(h.vw p hp).lt x e
theorem xG.kept(h:xG w g F M X)(k:z8 S w w')(hF:∀x∈F,x∉S)(hM:∀x∈S,x∈M\/w.heap.size<=x):xG w' g F M X:=by
 obtain⟨gd,gs,bo,bv,Fd,Fs,N,h,rfl,h2,h3,hv⟩:=h;exact⟨gd,gs,bo,bv,Fd,Fs,N,h.kept k hF hM,rfl,h2,λx hx=>Nat.lt_of_lt_of_le (h3 x hx) k.size,hv⟩
theorem xG.below(h:xG w g F M X)(k:Below w.heap.size w w'):xG w' g F M X:=h.kept (z8.of_below k) sI sI
theorem xG.lt(h:xG w g F M X):∀x∈F,x<w.heap.size:=by
 obtain⟨gd,gs,bo,bv,Fd,Fs,N,h,rfl,h2,h3,hv⟩:=h;exact λx hx=>h3 x (h2 x hx)
theorem xG.ltM(h:xG w g F M X):∀x∈M,x<w.heap.size:=by
 obtain⟨gd,gs,bo,bv,Fd,Fs,N,h,rfl,h2,h3,hv⟩:=h;exact h3
theorem xG.no(h:xG w g F M X):dK F:=by
 obtain⟨gd,gs,bo,bv,Fd,Fs,N,h,rfl,h2,h3,hv⟩:=h;exact hv
end
end
structure VwNew(w':World)(g:Nat)(t:ByteArray)(b:Nat)(O:List Nat)(v:Value)(s:VSt):Prop where
 view:yR w' g t b [] v
 st:∀M,(∀x∈O,x∈M)->kZ w' O M v s
 gO:g∉b :: O
 bO:b∉O
 lt:∀x∈b :: O,x<w'.heap.size
theorem nG{w2 w3:World}{b:Nat}{v:Value}{s:VSt}(hv:yR w' g t b [] v)(hs:∀M,(∀x∈O,x∈M)->kZ w3 O M v s)(hO:∀x∈O,w2.heap.size<=x/\x<w3.heap.size)(hb:Below w3.heap.size w3 w')(hg:g=w3.heap.size)(d:b<w2.heap.size):VwNew w' g t b O v s:=by
 refine⟨hv,λM hM=>(hs M hM).below hb,?_,?_,?_⟩
 ·intro hx;rcases mem_cons.1 hx with h | h
  ·exact hv.ne h
  ·have:=(hO _ h).2;omega
 ·intro h;have:=(hO _ h).1;omega
 ·intro x hx;rcases mem_cons.1 hx with h | h
  ·rw[h];exact hv.ids.lt
  ·have:=(hO _ h).2;have:=hb.size;omega
theorem vnew_m(t:ByteArray)(w:World)(ht:t.size<=9223372036854775807)(B:yF t≠0) :
  Calls prog 42 #[.string t] w λe w'=>∃g b O v,e=.returned (.tuple #[.pointer (some ⟨g,0,none⟩),.int .i64 0])/\VwNew w' g t b O v (VSt.new (yF t))/\(∀x∈g :: b :: O,w.heap.size<=x)/\Below w.heap.size w w':=by
 rcases fE t with h | h | h | h | h | h
 ·exact absurd h B
 ·have hf:∀w,Calls prog 100 #[.int .i64 1] w λe w'=>∃gs,e=.returned (.iface 101 (.pointer (some ⟨gs,0,none⟩)))/\(xF w' gs 0/\w.heap.size<=gs)/\Below w.heap.size w w':=λw=>(zx w).mono λe w' ⟨h1,h2,h3⟩=>⟨_,h1,⟨h2,lR⟩,h3⟩;refine(JA t w ht 1 h oM _ _ hf).mono ?_;rintro e w' ⟨g,b,gs,w2,w3,rfl,hv,⟨hz,A⟩,d,f,hg,y,j,hB⟩;have r:=d.size;refine⟨g,b,[gs],.iface 101 (.pointer (some ⟨gs,0,none⟩)),rfl,?_,λx hx=>by simp at hx;omega,hB⟩;rw[h];refine nG (s:=.t 0) (w2:=w2) hv (λ_ _=>⟨gs,rfl,hz,rfl⟩) (λx hx=>?_) f hg j;obtain rfl:x=gs:=by simpa using hx
  exact⟨A,hz.lt⟩
 ·refine(JA t w ht 2 h oM _ _ yb).mono ?_;rintro e w' ⟨g,b,gs,w2,w3,rfl,hv,⟨bl,bg,hz,z1,z2,z3⟩,d,f,hg,y,j,hB⟩;have r:=d.size;refine⟨g,b,[gs,bl,bg],.iface 102 (.pointer (some ⟨gs,0,none⟩)),rfl,?_,λx hx=>by simp at hx;omega,hB⟩;rw[h];refine nG (s:=.b [] []) (w2:=w2) hv (λ_ _=>⟨gs,bl,bg,rfl,hz,rfl⟩) (λx hx=>?_) f hg j;have h1:=hz.lt.1;have h2:=hz.live.lt;have h3:=hz.gone.lt;simp at hx;rcases hx with rfl | rfl | rfl <;> omega
 ·refine(JA t w ht 3 h oM _ _ ya).mono ?_;rintro e w' ⟨g,b,gs,w2,w3,rfl,hv,⟨bl,hz,z1,z2⟩,d,f,hg,y,j,hB⟩;have r:=d.size;refine⟨g,b,[gs,bl],.iface 104 (.pointer (some ⟨gs,0,none⟩)),rfl,?_,λx hx=>by simp at hx;omega,hB⟩;rw[h];refine nG (s:=.l []) (w2:=w2) hv (λ_ _=>⟨gs,bl,rfl,hz,rfl⟩) (λx hx=>?_) f hg j;have h1:=hz.lt;simp at hx;rcases hx with rfl | rfl <;> omega
 ·refine(JA t w ht 4 h oM _ _ zz).mono ?_;rintro e w' ⟨g,b,gs,w2,w3,rfl,hv,⟨bl,bg,hz,z1,z2,z3⟩,d,f,hg,y,j,hB⟩;have r:=d.size;refine⟨g,b,[gs,bl,bg],.iface 105 (.pointer (some ⟨gs,0,none⟩)),rfl,?_,λx hx=>by simp at hx;omega,hB⟩;rw[h];refine nG (s:=.m [] []) (w2:=w2) hv (λ_ _=>⟨gs,bl,bg,rfl,hz,rfl⟩) (λx hx=>?_) f hg j;have h1:=hz.lt.1;have h2:=hz.live.lt;have h3:=hz.over.lt;simp at hx;rcases hx with rfl | rfl | rfl <;> omega
 ·refine(JA t w ht 5 h oM _ _ zy).mono ?_;rintro e w' ⟨g,b,gs,w2,w3,rfl,hv,⟨bn,bb,bg,hz,z1,z2,z3,z4⟩,d,f,hg,y,j,hB⟩;have r:=d.size;have k:=hz [bn,bb,bg] sI sI sI;refine⟨g,b,[gs,bn,bb,bg],.iface 106 (.pointer (some ⟨gs,0,none⟩)),rfl,?_,λx hx=>by simp at hx;omega,hB⟩;rw[h];refine nG (s:=.s [] []) (w2:=w2) hv (λM hM=>⟨gs,bn,bb,bg,rfl,hz M (hM _ sI) (hM _ sI) (hM _ sI),rfl⟩) (λx hx=>?_) f hg j;have h1:=k.ltg;obtain⟨_,_,hn⟩:=k.nodes;obtain⟨_,_,_,D,_⟩:=k.behind;have h4:=k.gone.lt;have h2:=hn.lt;have h3:=D.lt;simp at hx;rcases hx with rfl | rfl | rfl | rfl <;> omega
theorem vw_fold(m:j6)(w:World)(M:List Nat)(p:VwX×VwP)(h:Y5 w M p)(hs:∀x∈vwF p,x∈M)(hM:∀x∈M,x<w.heap.size)(hv:qD w)(L:1∉vwF p)(hb:m.body.size<=9223372036854775807)(hk:yF p.1.t=p.1.s.kind)(hl:p.1.s.len<=1000) :
  Calls prog 148 #[.pointer (some ⟨p.2.g,0,none⟩),.agg (y8 m)] w λe w'=>(∃b,e=.returned (.bool b))/\Y5 w' M (wR m p.1,p.2)/\z8 (vwF p) w w':=by
 obtain⟨⟨t,I,s⟩,⟨g,b,O,v⟩⟩:=p;obtain⟨r,B,gO,bO,lt,tO⟩:=h;have bO:b∉O:=bO;have gO:g∉b :: O:=gO;by_cases hm:m.id∈I
 ·rw[show wR m ⟨t,I,s⟩=⟨t,I,s⟩ from if_pos hm];refine(vfold_old m w g t b I v r hm).mono ?_;rintro e w' ⟨rfl,k⟩;exact⟨⟨_,rfl⟩,⟨r.below k,B.below k,gO,bO,λx hx=>Nat.lt_of_lt_of_le (lt x hx) k.size,tO⟩,(z8.of_below k).mono sI⟩
 rw[show wR m ⟨t,I,s⟩=⟨t,m.id :: I,lT t m s⟩ from if_neg hm];have J:g∉O:=λhx=>gO (mem_cons_of_mem _ hx);have G:∀x∈O,x∉[b]:=λx hx H=>bO (by have:x=b:=by simpa using H
                                                                                                                                           rwa [<-this])
 have F:∀x∈[b],x∈M\/w.heap.size<=x:=λx hx=>.inl (hs x (by rw[mem_singleton.1 hx];simp[vwF]));have tl:t.size<=9223372036854775807:=by have:t.size<=maxLen:=tO;unfold maxLen at this;omega
 refine(vfold_new m w g t b I v r hm hv (λe=>L (by simp[vwF,e])) hb tl (λw'=>Y5 w' M (⟨t,m.id :: I,lT t m s⟩,⟨g,b,O,v⟩)/\z8 (vwF (⟨t,I,s⟩,⟨g,b,O,v⟩)) w w') ?_ ?_).mono ?_
 ·intro hf w' f d;have e:lT t m s=s:=if_neg hf;rw[e];exact⟨⟨f,B.kept d G F,gO,bO,λx hx=>Nat.lt_of_lt_of_le (lt x hx) d.size,tO⟩,d.mono (S':=vwF (⟨t,I,s⟩,⟨g,b,O,v⟩)) (by simp[vwF])⟩
 ·intro hf w1 A c f d N D;have e:lT t m s=doS m (opO m.body.data.toList) s:=if_pos hf;rw[e];have j:=opO_ok _ hf.1;have y:kZ w1 O M v s:=B.kept d G F;refine(vdoes m _ A c w1 g t b (m.id :: I) v O M s f y (λx hx=>Nat.lt_of_lt_of_le (hM x hx) d.size) ⟨hf.2.trans hk,j.2.2.2.1,j.2.2.2.2.1,j.2.2.2.2.2.1,opO_lo _ hf.1,j.2.2.2.2.2.2.2⟩ D.slr hl).mono ?_;rintro e w' ⟨rfl,h1,E⟩;exact⟨rfl,⟨f.kept E J bO,h1,gO,bO,λx hx=>Nat.lt_of_lt_of_le (lt x hx) (Nat.le_trans d.size E.size),tO⟩,z8.trans (d.mono (S':=vwF (⟨t,I,s⟩,⟨g,b,O,v⟩)) (by simp[vwF])) (E.mono (S':=vwF (⟨t,I,s⟩,⟨g,b,O,v⟩)) (λx hx=>.inl (by simp[vwF,hx]))) iL⟩
 ·rintro e w' ⟨rfl,h1,h2⟩;exact⟨⟨_,rfl⟩,h1,h2⟩
theorem B8(w:World)(g gd:Nat)(h:w.cell? ⟨g,0,none⟩=some (.pointer (some ⟨gd,0,none⟩))):Calls prog 23 #[.pointer (some ⟨g,0,none⟩)] w λe w'=>e=.returned (.bool false)/\w=w':=by
 go_enter func23,ntmps23
 (go_wp2_with fail);go_ret;exact⟨rfl,rfl⟩
structure kJ(n:Nat)(X:StX):Prop where
 nd:(qR X.D).Nodup
 ok:∀x∈X.D,hdE x.h=0/\x.id=hdI x.h
 len:X.D.length<=n
 body:∀p∈X.S,p.body.size<=512
 nv:(X.V.map (·.t)).Nodup
 vw:∀v∈X.V,VOk X.D v
theorem kK.pre(h:kK n X):kJ n X:=⟨h.nd,h.ok,h.len,λp hp=>(h.body p hp).2.2,h.nv,h.vw⟩
def Z9(X:StX)(i:zA):ByteArray:=match qE X.D X.S i with | some b=>b | none=>⟨#[]⟩
def eG(X:StX)(i:zA):Int:=match qE X.D X.S i with | some _=>0 | none=>7
theorem hdR_cm(h:z9 w g 0 38=some (hdR x)):z9 w g 6 32=some (idC x.h.cm):=by
 have:=yD h (j:=6) (m:=32) oM;rw[Nat.zero_add]at this;rw[this];exact congrArg some (QH _)
theorem hdR_sz(h:z9 w g 0 38=some (hdR x)):w.cell? ⟨g,5,none⟩=some (.int .i64 x.h.sz):=by
 have:=zB h (j:=5) oM;rw[Nat.zero_add]at this;rw[this];simp[hdR,hdO,hdC]
theorem hdR_tp(h:z9 w g 0 38=some (hdR x)):w.cell? ⟨g,2,none⟩=some (.string x.h.tp):=by
 have:=zB h (j:=2) oM;rw[Nat.zero_add]at this;rw[this];simp[hdR,hdO,hdC]
theorem hdR_ht(h:z9 w g 0 38=some (hdR x)):w.cell? ⟨g,1,none⟩=some (.int .i64 x.h.ht):=by
 have:=zB h (j:=1) oM;rw[Nat.zero_add]at this;rw[this];simp[hdR,hdO,hdC]
def hdZ:fU:=⟨⟨[],0,⟨#[]⟩,0,0,0,id0⟩,none,0⟩
def Got(D:List HdX)(i:zA)(x:fU)(E:Int):Prop:=(kV D i=some x.h/\E=0)\/(kV D i=none/\E=7/\x=hdZ)
theorem dag_got(w:World)(g:Nat)(F:List Nat)(n:Nat)(X:StX)(h:k7 w g F X.D)(hX:kJ n X)(a:zA) :
  Calls prog 29 #[.pointer (some ⟨g,0,none⟩),.agg (idC a)] w λe w'=>∃x E,e=.returned (.tuple #[.agg (hdR x),.int .i64 E])/\Got X.D a x E/\Below w.heap.size w w':=by
 refine(dag_get w g F X.D h hX.nd a (λx hx=>by obtain⟨y,hy,_,e⟩:=pZ hx;have:=(a9 (hX.ok y hy).1).ps;rw[<-e];omega)).mono ?_;rintro e w' ⟨⟨x,A',c',h1,rfl,_⟩ | ⟨h1,rfl⟩,hb⟩
 ·exact⟨⟨x,A',c'⟩,0,rfl,.inl ⟨h1,rfl⟩,hb⟩
 ·exact⟨hdZ,7,rfl,.inr ⟨h1,rfl,rfl⟩,hb⟩
theorem Y9(w:World)(g:Nat)(h:w.heap[g]?=some (.cells (hdC hd0) 44 (0,0)))(x:fU) :
  ∃w2,(stS 44 ⟨g,0,none⟩ (.agg (hdR x))).run prog w=.ok () w2/\z9 w2 g 0 38=some (hdR x)/\z8 [g] w w2 :=
 ⟨_,zX (P:=prog) v4 w g (hdC hd0) (hdR x) _ h sI (by simp[hdR]) (bY _ (sR x)),by unfold z9;rw[setRow_heap w g _ (hdR x) _ _ h];simp[hdR],lP w g (hdR x)⟩
theorem st_payload(w:World)(g gd gs bo bv:Nat)(Fd Fs:List Nat)(X:StX)(hg:w.heap[g]?=some (.cells (stC gd gs bo bv) 32 (0,0)))(hd:k7 w gd Fd X.D)(hs:v6 w gs Fs X.q X.S)(n:Nat)(hX:kJ n X)(i:zA) :
  Calls prog 8 #[.pointer (some ⟨g,0,none⟩),.agg (idC i)] w λe w'=>e=.returned (.tuple #[.string (Z9 X i),.int .i64 (eG X i)])/\Below w.heap.size w w':=by
 have hB:Below w.heap.size w (w.alloc (.cells (idC i) 23)):=bA;have hr:z9 (w.alloc (.cells (idC i) 23)) w.heap.size 0 32=some (idC i):=by simp[go_sem]
 obtain⟨W,hW⟩:=eR (w.alloc (.cells (idC i) 23))
 obtain⟨ga,G⟩:=eX w.heap.size
 rw[<-hW]at hB hr;rw[G]at hr;have H:=(hB.block g (aG hg).1).trans hg;have c0:W.cell? ⟨g,0,none⟩=some (.pointer (some ⟨gd,0,none⟩)):=by rw[cell_of_row W g 0 _ _ _ H];rfl
 have c1:W.cell? ⟨g,1,none⟩=some (.pointer (some ⟨gs,0,none⟩)):=by rw[cell_of_row W g 1 _ _ _ H];rfl
 have cN:=B8 W g gd c0;have cD:=fun (V:World) (hV:Below W.heap.size W V)=>dag_got V gd Fd n X ((hd.below hB).below hV) hX i;have Hs:=dH (hs.kept (z8.of_below hB) sI);obtain⟨Bd,J⟩:=eX (Z9 X i)
 obtain⟨E,hE⟩:=eX (eG X i)
 rw[J,hE];have HW:=dH hW;have HB:=dH hB;have a1:=dH G;have A:=dH J;have HE:=dH hE;clear hW hB G J hE hg H hd hs;go_enter func8,ntmps8
 (go_wp2_with fail);rw[<-HW.out,a1.out];refine cN.mono ?_;rintro e w' ⟨rfl,rfl⟩;clear cN;go_upto_region 3 with fail
 go_cut [6,7] (λp ev wx=>∃gh x E,p=.pointer (some ⟨gh,0,none⟩)/\ev=.int .i64 E/\z9 wx gh 0 38=some (hdR x)/\Got X.D i x E/\Below W.heap.size W wx)
 case first =>
  refine vE (.loose 0 (.loose 1 (.loose 2 (.loose 3 (.loose 4 (.two 5 (.loose 6 (.loose 7 (.loose 8 (.one 9 (.one 10 (.loose 11 .done)))))) 9 (.one 5 (.loose 6 (.loose 7 (.loose 8 (.one 10 (.loose 11 .done)))))))))))) (Bel W) false kR kR kR kR (qC W) ?_;have t:=lW W;have hS:=qC W;have b1:=zJ c0;have b2:=zV hr;refine tZ ?_;refine YM ?_ ?_
  ·skip;refine tH ?_;intro K hK;refine(cD _ hS).mono ?_;rintro e w1 ⟨x,E,rfl,f,y⟩;replace hS:=xZ hS y;refine⟨_,rfl,hS,hK _ _ ?_⟩;clear hK K;refine tZ ?_;have O:Below w1.heap.size w1 (w1.alloc (.cells (hdC hd0) 44)):=bA;have xz:=heap_alloc_new w1 (.cells (hdC hd0) 44);have m:=Below.size hS;have Hn:=dH (xZ hS O);refine tH ?_;intro K hK;refine zH Hn.out (λk=>?_);refine hK _ _ ?_;clear hK K hS;have hS:=k;obtain⟨w3,F,d,r⟩:=Y9 _ _ xz x;have H3:=dH (Below.trans hS (r.below (Below.size hS) sO));refine tH ?_;intro K hK;refine zH H3.out (λk=>?_);refine hK _ _ ?_;clear hK K hS;have hS:=k;refine tZ ?_;refine kP ?_;intro hS;clear xz O F r;go_wp2_with fail
   go_meet
   exact⟨_,x,E,rfl,rfl,d,f,H3.out⟩
  ·skip;have M:=dH (show Below W.heap.size W (W.drew.alloc (.cells (hdC hd0) 44))from((Below.refl _ _).drew).alloc lR _);have xz:(W.drew.alloc (.cells (hdC hd0) 44)).heap[W.heap.size]?=some (.cells (hdC hd0) 44 (0,0)):=heap_alloc_new W.drew (.cells (hdC hd0) 44);refine tH ?_;intro K hK;refine zH M.out (λk=>?_);refine hK _ _ ?_;clear hK K hS;have hS:=k;refine tH ?_;intro K hK;refine(cD _ M.out).mono ?_;rintro e w1 ⟨x,E,rfl,f,y⟩;have H1:=dH (xZ M.out y);refine⟨_,rfl,H1.out,hK _ _ ?_⟩;clear hK K hS;have hS:=H1.out;refine tZ ?_;have N:=(y.block W.heap.size sI).trans xz;obtain⟨w3,F,d,r⟩:=Y9 _ _ N x;have H3:=dH (Below.trans H1.out (r.below (Below.size H1.out) sI));refine tH ?_;intro K hK;refine zH H3.out (λk=>?_);refine hK _ _ ?_;clear hK K hS;have hS:=k;refine tZ ?_;refine kP ?_;intro hS;clear xz N F r;go_wp2_with fail
   go_meet
   exact⟨_,x,E,rfl,rfl,d,f,H3.out⟩
 case rest =>
 obtain⟨gh,x,E0,rfl,rfl,s,f,j⟩:=hcut;rcases f with⟨h0,rfl⟩ | ⟨h0,rfl,rfl⟩
 rotate_left
 ·have a0:=yM HB.out j;have h1:qE X.D X.S i=none:=by unfold qE;rw[h0]
  have e1:Bd=⟨#[]⟩:=by rw[<-A.out];unfold Z9;rw[h1]
  have e2:E=7:=by rw[<-HE.out];unfold eG;rw[h1]
  subst e1;subst e2;clear cD h0 h1 s j;(go_wp2_with fail);go_ret2;exact⟨rfl,a0⟩
 obtain⟨Z,rfl⟩:=eR wc
 obtain⟨h,A',c'⟩:=x;have h0:kV X.D i=some h:=h0;have z1:=(j.cell (p:=⟨g,1,none⟩) (block_lt_of_cell? W _ c1)).trans c1;have I:=hdR_cm s;have m:=hdR_sz s;have cS:=sto_get Z.drew gs Fs X.q X.S h.cm (Hs.out.kept ((z8.of_below j).trans (z8.drew Z) sI) sI);have T:=dH (yM HB.out j);have hp:qE X.D X.S i=match jH X.S h.cm with | none=>none | some p=>if(p.body.size:Int)=h.sz then some p.body else none:=by unfold qE;rw[h0];rfl
 have Hp:=dH hp;clear cD h0 j s hr c0 c1 hp;go_upto_region 6 with fail
 cases h2:jH X.S h.cm with
 | none =>
  rw[h2]at cS;dsimp only at cS;have h1:qE X.D X.S i=none:=by rw[Hp.out,h2]
  have e1:Bd=⟨#[]⟩:=by rw[<-A.out];unfold Z9;rw[h1]
  have e2:E=7:=by rw[<-HE.out];unfold eG;rw[h1]
  subst e1;subst e2;clear h1 h2;refine lX Z ?_;intro t hS;have b1:=zJ z1;have b2:=zV I;refine lZ ?_;refine lC (cS) ?_;clear hS;intro w' hS;refine lZ ?_;refine zC ?_;intro hS;have j:=yM T.out hS;clear t hS b1 b2 cS m;(go_wp2_with fail);go_ret2;exact⟨rfl,j⟩
 | some p =>
  rw[h2]at cS;dsimp only at cS;obtain⟨B,L⟩:=eX p.body
  rw[L]at cS;have R:Hid (qE X.D X.S i=if(B.size:Int)=h.sz then some B else none):=dH (by rw[Hp.out,h2];subst L;rfl);clear h2 L;refine lX Z ?_;intro t hS;have b1:=zJ z1;have b2:=zV I;refine lZ ?_;refine lC (cS) ?_;clear hS;intro w' hS;refine lZ ?_;refine zC ?_;intro hS;have Y:=(Below.cell (p:=⟨gh,5,none⟩) (show Below Z.heap.size Z w' from hS) (block_lt_of_cell? Z _ m)).trans m;have j:=yM T.out hS;clear t hS b1 b2 cS m I;by_cases hq:(B.size:Int)=h.sz
  ·have U:((B.size:Int) != h.sz)=false:=by rw[bne_eq_false_iff_eq];exact hq
   have h1:qE X.D X.S i=some B:=by rw[R.out,if_pos hq]
   have e1:Bd=B:=by rw[<-A.out];unfold Z9;rw[h1]
   have e2:E=0:=by rw[<-HE.out];unfold eG;rw[h1]
   subst e1;subst e2;clear h1 hq;(go_wp2_with fail);go_ret2;exact⟨rfl,j⟩
  ·have U:((B.size:Int) != h.sz)=true:=by rw[bne_iff_ne];exact hq
   have h1:qE X.D X.S i=none:=by rw[R.out,if_neg hq]
   have e1:Bd=⟨#[]⟩:=by rw[<-A.out];unfold Z9;rw[h1]
   have e2:E=7:=by rw[<-HE.out];unfold eG;rw[h1]
   subst e1;subst e2;clear h1 hq;(go_wp2_with fail);go_ret2;exact⟨rfl,j⟩
section
theorem ZF(h:yF t≠0):t.size<=12:=by
 unfold yF at h;split at h
 ·exact(mK ‹_›).2
 ·contradiction
theorem wL(h:yF t≠0):fD t:=by have:=ZF h;show _<=maxLen;unfold maxLen;omega
theorem hdE_tp{h:HdV}(e:hdE h=0):yF h.tp≠0:=by
 have:=(a9 e).tp;unfold j5 at this;split at this
 ·cases this
 ·assumption
theorem zeroVwP(w:World):(zeroValue 63).run prog w=.ok (.pointer none) w:=kR
section
variable {w w':World} {g gd gs bo bv:Nat} {Fd Fs M:List Nat} {N:List (VwX×VwP)} {X:StX}
theorem fR.look(h:fR w g gd gs bo bv Fd Fs M N X)(ht:fD t) :
  (∃p∈N,p.1.t=t/\∀w2 S,z8 S w w2->bv∉S->(Instr.lookup 30 (.map (some bv)) (.string t) true).run prog w2=.ok (.tuple #[.pointer (some ⟨p.2.g,0,none⟩),.bool true]) w2/\(Instr.lookup 30 (.map (some bv)) (.string t) false).run prog w2=.ok (.pointer (some ⟨p.2.g,0,none⟩)) w2) \/
  (t∉X.V.map (·.t)/\∀w2 S,z8 S w w2->bv∉S->(Instr.lookup 30 (.map (some bv)) (.string t) true).run prog w2=.ok (.tuple #[.pointer none,.bool false]) w2):=by
 obtain⟨R,es,f,hm,hp⟩:=h.vs;by_cases hx:t∈R.map (·.1)
 ·obtain⟨q,hq,rfl⟩:=mem_map.1 hx;obtain⟨p,d,e⟩:=mem_map.1 (hp.mem_iff.1 hq);refine .inl ⟨p,d,by rw[<-e],λw2 S hk hb=>?_⟩;have e2:q.2=p.2.g:=by rw[<-e]
  rw[<-e2];exact⟨(hm.kept hk hb).hit dB underlying30 ht hq true,(hm.kept hk hb).hit dB underlying30 ht hq false⟩
 ·refine .inr ⟨λhV=>hx ?_,λw2 S hk hb=>(hm.kept hk hb).miss dB underlying30 (zeroVwP w2) ht hx true⟩;rw[<-h.vx,map_map]at hV;obtain⟨p,d,e⟩:=mem_map.1 hV;exact mem_map.2 ⟨(p.1.t,p.2.g),hp.mem_iff.2 (mem_map.2 ⟨p,d,rfl⟩),e⟩
theorem fR.turned(h:fR w g gd gs bo bv Fd Fs M N X){p:VwX×VwP}(hp:p∈N){v':VwX}(ht:v'.t=p.1.t)(k:(X.V.map (·.t)).Nodup)(hk:z8 (vwF p) w w')(hM:∀x∈vwF p,x∈M)(hw:Y5 w' M (v',p.2)) :
  ∃N',fR w' g gd gs bo bv Fd Fs M N' ⟨X.q,X.D,X.O,X.S,X.V.map λv=>if v.t=p.1.t then v' else v⟩/\N'.map vwF=N.map vwF:=by
 have A:(N.map λq=>q.1.t).Nodup:=by rw[<-h.vx,map_map]at k;exact k
 have f:∀q∈N,q.1.t=p.1.t->q=p:=λq hq e=>nX A hq hp e;have m:(N.map λq=>if q.1.t=p.1.t then(v',q.2)else q).map vwF=N.map vwF:=by
  rw[map_map];refine map_congr_left λq _=>?_;show vwF (if q.1.t=p.1.t then(v',q.2)else q)=vwF q;split <;> rfl
 obtain⟨L1,L2,hN⟩:=append_of_mem hp;have d:∀b∈([g] :: [bo] :: [bv] :: Fd :: Fs :: L1.map vwF)++L2.map vwF,∀x∈b,x∉vwF p:=by
  have hd:=h.dis;unfold vR at hd;rw[hN,map_append,map_cons,show[g] :: [bo] :: [bv] :: Fd :: Fs :: (L1.map vwF++vwF p :: L2.map vwF)=([g] :: [bo] :: [bv] :: Fd :: Fs :: L1.map vwF)++vwF p :: L2.map vwF from rfl]at hd;exact hd.ne
 have hg:∀x∈[g],x∉vwF p:=d [g] sI;have E:∀x∈[bo],x∉vwF p:=d [bo] sI;have B:∀x∈[bv],x∉vwF p:=d [bv] sI;have G:=d Fd sI;have F:=d Fs sI;have hq:∀q∈N,q≠p->∀x∈vwF q,x∉vwF p:=λq hq y=>by
  rw[hN]at hq;rcases mem_append.1 hq with hq | hq
  ·exact d (vwF q) (mem_append_left _ (by simp only[mem_cons];exact .inr (.inr (.inr (.inr (.inr (mem_map_of_mem hq)))))))
  ·rcases mem_cons.1 hq with hq | hq
   ·exact absurd hq y
   ·exact d (vwF q) (mem_append_right _ (mem_map_of_mem hq))
 obtain⟨R,es,H,hm,s⟩:=h.vs;refine⟨N.map λq=>if q.1.t=p.1.t then(v',q.2)else q,⟨(hk.block g (aG h.heap).1 (hg g sI)).trans h.heap,h.dag.kept hk G,h.sto.kept hk F,h.own.kept hk (E bo sI),
  ⟨R,es,H,hm.kept hk (B bv sI),?_⟩,?_,?_,?_⟩,m⟩
 ·refine s.trans ?_;rw[map_map];refine Perm.of_eq (map_congr_left λq hq=>?_);show(q.1.t,q.2.g)=((if q.1.t=p.1.t then(v',q.2)else q).1.t,(if q.1.t=p.1.t then(v',q.2)else q).2.g)
  split
  ·rw[ht];simp_all
  ·rfl
 ·intro q' r;obtain⟨q,j,rfl⟩:=mem_map.1 r;by_cases e:q.1.t=p.1.t
  ·rw[if_pos e,f q j e];exact hw
  ·rw[if_neg e];exact(h.vw q j).kept hk (hq q j (λh=>e (by rw[h]))) (λx hx=>.inl (hM x hx))
 ·rw[map_map];show N.map (λq=>(if q.1.t=p.1.t then(v',q.2)else q).1)=X.V.map λv=>if v.t=p.1.t then v' else v;rw[<-h.vx,map_map];refine map_congr_left λq _=>?_;show _=if q.1.t=p.1.t then v' else q.1;split <;> rfl
 ·show v7 ([g] :: [bo] :: [bv] :: Fd :: Fs :: (N.map λq=>if q.1.t=p.1.t then(v',q.2)else q).map vwF);rw[m];exact h.dis
end
theorem QL(h:qE D S i=none)(v:VwX):jG D S v i=v:=by
 unfold jG;rw[h];split
 ·rename_i e;cases e
 ·rfl
theorem KD{x:HdV}(h:kV D i=some x)(ht:v.t≠x.tp):jG D S v i=v:=by
 unfold jG;rw[h];split
 ·rename_i h1 h2 h3;injection h2 with h2;subst h2;rw[if_neg ht]
 ·rfl
theorem jq{x:HdV}(h:kV D i=some x)(hb:qE D S i=some b)(ht:v.t=x.tp):jG D S v i=wR ⟨i,x.ht,b⟩ v:=by
 unfold jG;rw[h,hb];exact if_pos ht
theorem ZK(X:StX)(L:List zA){k:Nat}(hk:k<L.length):qA X (L.take (k+1))=⟨X.q,X.D,X.O,X.S,(qA X (L.take k)).V.map λv=>jG X.D X.S v L[k]⟩:=by
 show(⟨X.q,X.D,X.O,X.S,X.V.map λv=>(L.take (k+1)).foldl (jG X.D X.S) v⟩:StX)=⟨X.q,X.D,X.O,X.S,(X.V.map λv=>(L.take k).foldl (jG X.D X.S) v).map λv=>jG X.D X.S v L[k]⟩
 rw[map_map];congr 1
 refine map_congr_left λv _=>?_;rw[take_succ_eq_append_getElem hk,foldl_append];rfl
theorem foldV_t(m:j6)(v:VwX):(wR m v).t=v.t:=by unfold wR;split <;> rfl
theorem foldsX_nil(X:StX):qA X []=X:=by unfold qA;simp
theorem map_turn{V:List VwX}(hn:(V.map (·.t)).Nodup){p:VwX}(hp:p∈V){f:VwX->VwX}(hf:∀v,v.t≠p.t->f v=v):V.map f=V.map λv=>if v.t=p.t then f p else v:=by
 refine map_congr_left λv hv=>?_;by_cases e:v.t=p.t
 ·rw[if_pos e,nX hn hv hp e]
 ·rw[if_neg e,hf v e]
theorem kJ.folds(h:kJ n X)(L:List zA):kJ n (qA X L):=by
 refine⟨h.nd,h.ok,h.len,h.body,?_,λv hv=>?_⟩
 ·rw[KC];exact h.nv
 ·obtain⟨v0,h0,rfl⟩:=mem_map.1 hv;exact QK X.S L (h.vw v0 h0)
theorem jo(X:StX)(L:List zA){k:Nat}(hk:k<L.length)(h:∀v∈(qA X (L.take k)).V,jG X.D X.S v L[k]=v):qA X (L.take (k+1))=qA X (L.take k):=by
 rw[ZK X L hk];have:(qA X (L.take k)).V.map (λv=>jG X.D X.S v L[k])=(qA X (L.take k)).V:=by
  rw[map_congr_left h,map_id']
 rw[this];rfl
theorem paidX_body(h:qE D S i=some b):∃p∈S,p.body=b:=by
 unfold qE at h;split at h
 ·cases h
 split at h
 ·cases h
 rename_i p e
 split at h
 ·injection h with h;exact⟨p,(jP e).1,h⟩
 ·cases h
theorem XK(h:kV D i=none):qE D S i=none:=by unfold qE;rw[h]
theorem kJ.view(h:kJ n X)(hv:v∈X.V):yF v.t=v.s.kind/\v.s.len<=100+n:=by
 have h1:=h.vw v hv;refine⟨h1.kind,Nat.le_trans h1.len ?_⟩;have h2:v.I.length<=(j8 X.D v.t).length:=gA h1.nd h1.mem;have h3:=YR (D:=X.D) v.t;have h4:=h.len;omega
end
theorem st_foldIn(w:World)(g gd gs bo bv:Nat)(Fd Fs F M:List Nat)(N:List (VwX×VwP))(n:Nat)(X:StX)(h:fR w g gd gs bo bv Fd Fs M N X)(hF:F=(vR g bo bv Fd Fs N).flatten)(e9:∀x∈F,x∈M)(hM:∀x∈M,x<w.heap.size)(a9:dK F)(hv:dA w)(hX:kJ n X)(hn:n<=800)(A:Option Addr)(c:Nat)(L:List zA)(hL:zW w A L.length L)(h5:L.length<=1000000)(hA:∀y∈blk A,y∉F) :
  Calls prog 86 #[.pointer (some ⟨g,0,none⟩),.slice A L.length c] w λe w'=>e=.returned (.tuple #[])/\(∃N',fR w' g gd gs bo bv Fd Fs M N' (qA X L)/\N'.map vwF=N.map vwF)/\z8 F w w':=by
 have HF:=dH hF;have f2:=dH a9;have HX:=dH hX;have H:=dH h;have f7:=dH e9;have h4:g<w.heap.size:=(aG h.heap).1;clear h hF a9 hX e9;go_enter func86,ntmps86
 (go_wp2_with fail);go_loopw [14] (λiv wr=>∃(k:Nat) (Nk:List (VwX×VwP)),k<=L.length/\iv=.int .i64 k/\Hid (fR wr g gd gs bo bv Fd Fs M Nk (qA X (L.take k)))/\Hid (Nk.map vwF=N.map vwF)/\Hid (z8 F w wr)) (λiv _=>L.length-(intOf iv).toNat)
 case atStart=>exact⟨0,N,zL,rfl,dH (by rw[take_zero,foldsX_nil];exact H.out),(show _=_ from rfl),dH (z8.refl _ _)⟩
 case round =>
  obtain⟨k,Nk,hk,rfl,b5,b4,a4⟩:=hrel;by_cases b0:k<L.length
  ·have e5:zW wr A L.length L:=SlR.kept hL a4.out hA;obtain⟨q,o,rfl,hr⟩:=zW.get e5 b0 b0;obtain⟨i,hi⟩:=eX (L[k]'b0)
   rw[hi]at hr;have f:=ZK X L b0;rw[hi]at f;have hB:Below wr.heap.size wr (wr.alloc (.cells (idC i) 23)):=bA;have a8:z9 (wr.alloc (.cells (idC i) 23)) wr.heap.size 0 32=some (idC i):=by simp[go_sem]
   obtain⟨Y,hY⟩:=eR (qA X (L.take k))
   have HY:=dH hY;have hD:X.D=Y.D:=by rw[hY];rfl
   have e6:X.S=Y.S:=by rw[hY];rfl
   have T:(∀v∈Y.V,jG X.D X.S v i=v)->qA X (L.take (k+1))=Y:=λhh=>(by rw[hY];exact jo X L b0 (by rw[<-hY,hi];exact hh));have a3:kJ n Y:=by rw[hY];exact HX.out.folds _
   rw[<-hY]at b5 f;have U:=dH T;have hW:=b5.out.kept (z8.of_below hB) sI sI;have b6:=dH f;have HD:=dH hD;have f5:=dH e6;have J:=dH a3;have Z:=dH ((hv.kept a4.out f2.out).below hB);obtain⟨W,c7⟩:=eR (wr.alloc (.cells (idC i) 23))
   obtain⟨ga,c6⟩:=eX wr.heap.size
   rw[<-c7]at hB a8 hW Z;rw[c6]at a8;have c0:W.cell? ⟨g,0,none⟩=some (.pointer (some ⟨gd,0,none⟩)):=by rw[cell_of_row W g 0 _ _ _ hW.heap];rfl
   have c3:W.cell? ⟨g,3,none⟩=some (.map (some bv)):=by rw[cell_of_row W g 3 _ _ _ hW.heap];rfl
   have cD:=fun (V:World) (hV:Below W.heap.size W V)=>dag_got V gd Fd n Y (hW.dag.below hV) a3 i;have m:=dH hW;have g7:=dH c7;have g6:=dH c6;have HB:=dH hB;have Hi:=dH hi;clear hW c7 c6 hB f hD e6 a3 hY e5 hi b5 T;go_upto_region 3 with fail
   rw[<-g7.out,g6.out]
   go_cut [6,7] (λp ev wx=>∃gh x E,p=.pointer (some ⟨gh,0,none⟩)/\ev=.int .i64 E/\z9 wx gh 0 38=some (hdR x)/\Got Y.D i x E/\Below W.heap.size W wx)
   case first =>
    refine vE (.loose 0 (.loose 1 (.loose 2 (.loose 3 (.loose 4 (.two 5 (.loose 6 (.loose 7 (.loose 8 (.one 9 (.one 10 (.loose 11 .done)))))) 9 (.one 5 (.loose 6 (.loose 7 (.loose 8 (.one 10 (.loose 11 .done)))))))))))) (Bel W) false kR kR kR kR (qC W) ?_;have b8:=lW W;have hS:=qC W;have b1:=zJ c0;have b2:=zV a8;refine tZ ?_;refine YM ?_ ?_
    ·skip;refine tH ?_;intro K hK;refine(cD _ hS).mono ?_;rintro e w1 ⟨x,E,rfl,j,B⟩;replace hS:=xZ hS B;refine⟨_,rfl,hS,hK _ _ ?_⟩;clear hK K;refine tZ ?_;have e4:Below w1.heap.size w1 (w1.alloc (.cells (hdC hd0) 44)):=bA;have xz:=heap_alloc_new w1 (.cells (hdC hd0) 44);have h3:=Below.size hS;have Hn:=dH (xZ hS e4);refine tH ?_;intro K hK;refine zH Hn.out (λa5=>?_);refine hK _ _ ?_;clear hK K hS;have hS:=a5;obtain⟨w3,c2,r,I⟩:=Y9 _ _ xz x;have H3:=dH (Below.trans hS (I.below (Below.size hS) sO));refine tH ?_;intro K hK;refine zH H3.out (λa5=>?_);refine hK _ _ ?_;clear hK K hS;have hS:=a5;refine tZ ?_;refine kP ?_;intro hS;clear xz e4 c2 I;go_wp2_with fail
     go_meet
     exact⟨_,x,E,rfl,rfl,r,j,H3.out⟩
    ·skip;have d6:=dH (show Below W.heap.size W (W.drew.alloc (.cells (hdC hd0) 44))from((Below.refl _ _).drew).alloc lR _);have xz:(W.drew.alloc (.cells (hdC hd0) 44)).heap[W.heap.size]?=some (.cells (hdC hd0) 44 (0,0)):=heap_alloc_new W.drew (.cells (hdC hd0) 44);refine tH ?_;intro K hK;refine zH d6.out (λa5=>?_);refine hK _ _ ?_;clear hK K hS;have hS:=a5;refine tH ?_;intro K hK;refine(cD _ d6.out).mono ?_;rintro e w1 ⟨x,E,rfl,j,B⟩;have H1:=dH (xZ d6.out B);refine⟨_,rfl,H1.out,hK _ _ ?_⟩;clear hK K hS;have hS:=H1.out;refine tZ ?_;have d7:=(B.block W.heap.size sI).trans xz;obtain⟨w3,c2,r,I⟩:=Y9 _ _ d7 x;have H3:=dH (Below.trans H1.out (I.below (Below.size H1.out) sI));refine tH ?_;intro K hK;refine zH H3.out (λa5=>?_);refine hK _ _ ?_;clear hK K hS;have hS:=a5;refine tZ ?_;refine kP ?_;intro hS;clear xz d7 c2 I;go_wp2_with fail
     go_meet
     exact⟨_,x,E,rfl,rfl,r,j,H3.out⟩
   case rest =>
   obtain⟨gh,x,E,rfl,rfl,c1,j,b3⟩:=hcut;obtain⟨V,rfl⟩:=eR wc
   have hV:=m.out.kept (z8.of_below b3) sI sI;have cP:=st_payload V g gd gs bo bv Fd Fs Y hV.heap hV.dag hV.sto n J.out i;have a1:=((z8.of_below b3).row (zD a8) sI _ _).trans a8;have d3:=(b3.cell (p:=⟨g,3,none⟩) (block_lt_of_cell? W _ c3)).trans c3;have a7:=dH j;have f4:=dH b3;clear cD hV a8 c3 c0 j b3;have d9:fD x.h.tp:=by
    rcases a7.out with⟨h0,_⟩ | ⟨_,_,rfl⟩
    ·obtain⟨y,hy,_,e⟩:=pZ h0;rw[<-e];exact wL (hdE_tp (J.out.ok y hy).1)
    ·show 0<=maxLen;unfold maxLen;omega
   have g1:=m.out.look d9;clear d9;(go_wp2_with fail);refine cP.mono ?_;rintro e w1 ⟨rfl,B⟩;have a0:=dH (f4.out.trans (B.mono f4.out.size));have a2:=((z8.of_below B).row (zD a1) sI _ _).trans a1;have G:=((z8.of_below B).row (zD c1) sI _ _).trans c1;have b9:=(B.cell (p:=⟨g,3,none⟩) (block_lt_of_cell? V _ d3)).trans d3;have d2:=hdR_tp G;have d1:=hdR_ht G;clear cP B a1 d3 c1;obtain⟨PB,c9⟩:=eX (Z9 Y i)
   obtain⟨PE,c8⟩:=eX (eG Y i)
   rw[c9,c8];have g8:=dH c9;have f6:=dH c8;clear c9 c8;go_upto_region 5 with fail
   rcases g1 with⟨p,hp,hpt,hl⟩ | ⟨a9,hl⟩
   ·have c5:∀y:Subtype (Bel w1),(Instr.lookup 30 (.map (some bv)) (.string x.h.tp) true).run prog y.1=.ok (.tuple #[.pointer (some ⟨p.2.g,0,none⟩),.bool true]) y.1:=λy=>(hl y.1 [] (z8.of_below (a0.out.trans (y.2.mono a0.out.size))) sI).1;have Hp:=dH hp;have f0:=dH hpt;clear hl hp hpt;refine lX w1 ?_;intro b8 hS;have b1:=zJ b9;have b2:=zJ d2;refine lZ ?_;refine zC ?_;intro hS;have f8:z9 w1.drew ga 0 32=some (idC i):=a2;have h6:w1.drew.cell? ⟨gh,1,none⟩=some (.int .i64 x.h.ht):=d1;have R:=dH (a0.out.trans (((Below.refl _ _).drew).mono a0.out.size));clear b8 hS b1 b2 c5 a2 d1 d2 b9 G;cases hpd:qE Y.D Y.S i with
    | none =>
     have e7:PE=7:=by rw[<-f6.out];unfold eG;rw[hpd]
     subst e7;have d:=U.out (λv _=>QL (by rw[HD.out,f5.out];exact hpd) v);have s:=dH (show fR w1.drew g gd gs bo bv Fd Fs M Nk (qA X (L.take (k+1))) by rw[d];exact m.out.kept (z8.of_below R.out) sI sI);have d5:=dH (z8.trans a4.out ((z8.of_below (HB.out.trans (R.out.mono HB.out.size))).mono (S':=F) sI) (λy hy=>.inl hy));clear hpd d;(go_wp2_with fail);go_roundw
     case rel=>exact⟨k+1,Nk,oM,by go_num,s,b4,d5⟩
     case measure=>exact sZ
    | some b =>
     have e0:PE=0:=by rw[<-f6.out];unfold eG;rw[hpd]
     have eb:PB=b:=by rw[<-g8.out];unfold Z9;rw[hpd]
     subst e0;subst eb;have hd0:kV Y.D i=some x.h:=by
      rcases a7.out with⟨h0,_⟩ | ⟨h0,_⟩
      ·exact h0
      ·rw[XK h0]at hpd;cases hpd
     have c4:p.1∈Y.V:=by rw[<-m.out.vx];exact mem_map_of_mem Hp.out
     obtain⟨e2,g0⟩:=J.out.view c4;have g2:PB.size<=512:=by
      obtain⟨q,hq,rfl⟩:=paidX_body hpd;exact J.out.body q hq
     have a6:=m.out.kept (z8.of_below R.out) sI sI;have b7:∀y∈vwF p,y∈F:=λy hy=>by
      rw[HF.out];have h1:vwF p∈N.map vwF:=by rw[<-b4.out];exact mem_map_of_mem Hp.out
      obtain⟨p0,f9,e0⟩:=mem_map.1 h1;exact bG.2 (.inr (.inr (.inr (.inr (.inr ⟨p0,f9,by rw[e0];exact hy⟩)))))
     have cf:=vw_fold ⟨i,x.h.ht,PB⟩ w1.drew M p (a6.vw p Hp.out) (λy hy=>f7.out y (b7 y hy)) (λy hy=>Nat.lt_of_lt_of_le (hM y hy) (Nat.le_trans a4.out.size (Nat.le_trans HB.out.size R.out.size))) (Z.out.below R.out).parts (λhy=>f2.out.1 (b7 _ hy)) (by show PB.size<=_;omega) e2 oM;have s:=dH a6;have f1:=dH b7;have g4:=dH c4;have f3:=dH hd0;have g3:=dH hpd;clear hpd hd0 c4 e2 g0 g2 a6 b7;obtain⟨⟨vt,vI,vs⟩,⟨vg,vb,vO,vv⟩⟩:=p;(go_wp2_with fail);refine cf.mono ?_;rintro e w3 ⟨⟨bb,rfl⟩,d8,I⟩;clear cf;obtain⟨N',d0,e8⟩:=s.out.turned Hp.out (foldV_t _ _) (by rw[HY.out];exact(HX.out.folds _).nv) I (λy hy=>f7.out y (f1.out y hy)) d8;have d:(⟨Y.q,Y.D,Y.O,Y.S,Y.V.map λv=>if v.t=vt then wR ⟨i,x.h.ht,PB⟩ ⟨vt,vI,vs⟩ else v⟩:StX)=qA X (L.take (k+1)):=by
      rw[b6.out];have e1:Y.V.map (λv=>jG X.D X.S v i)=Y.V.map λv=>if v.t=vt then wR ⟨i,x.h.ht,PB⟩ ⟨vt,vI,vs⟩ else v:=by
       rw[map_turn (p:=⟨vt,vI,vs⟩) (by rw[HY.out];exact(HX.out.folds _).nv) g4.out (λv hv=>by rw[HD.out];exact KD f3.out (λe=>hv (e.trans f0.out.symm)))];rw[HD.out,f5.out,jq f3.out g3.out f0.out]
      rw[e1,HY.out];rfl
     rw[d]at d0;have h2:=dH d0;have g9:=dH (e8.trans b4.out);have g5:=dH (z8.trans (z8.trans a4.out ((z8.of_below (HB.out.trans (R.out.mono HB.out.size))).mono (S':=F) sI) (λy hy=>.inl hy)) (I.mono (S':=F) (λy hy=>.inl (f1.out y hy))) (λy hy=>.inl hy));clear d8 I d0 e8 d;(go_wp2_with fail);go_roundw
     case rel=>exact⟨k+1,N',oM,by go_num,h2,g9,g5⟩
     case measure=>exact sZ
   ·have c5:∀y:Subtype (Bel w1),(Instr.lookup 30 (.map (some bv)) (.string x.h.tp) true).run prog y.1=.ok (.tuple #[.pointer none,.bool false]) y.1:=λy=>hl y.1 [] (z8.of_below (a0.out.trans (y.2.mono a0.out.size))) sI;have d4:=dH a9;clear hl a9;refine lX w1 ?_;intro b8 hS;have b1:=zJ b9;have b2:=zJ d2;refine lZ ?_;refine zC ?_;intro hS;have R:=dH (a0.out.trans (((Below.refl _ _).drew).mono a0.out.size));clear b8 hS b1 b2 c5 a2 d1 d2 b9 G;have d:=U.out (λv hv=>by
     rcases a7.out with⟨h0,_⟩ | ⟨h0,_⟩
     ·rw[HD.out];exact KD h0 (λe=>d4.out (mem_map.2 ⟨v,hv,e⟩))
     ·exact QL (by rw[HD.out];exact XK h0) v)
    have s:=dH (show fR w1.drew g gd gs bo bv Fd Fs M Nk (qA X (L.take (k+1))) by rw[d];exact m.out.kept (z8.of_below R.out) sI sI);have d5:=dH (z8.trans a4.out ((z8.of_below (HB.out.trans (R.out.mono HB.out.size))).mono (S':=F) sI) (λy hy=>.inl hy));clear d;(go_wp2_with fail);go_roundw
    case rel=>exact⟨k+1,Nk,oM,by go_num,s,b4,d5⟩
    case measure=>exact sZ
  ·have e3:L.take k=L:=take_of_length_le oM;rw[e3]at b5;clear e3;(go_wp2_with fail);go_end0;exact⟨rfl,⟨Nk,b5.out,b4.out⟩,a4.out⟩
theorem st_fold(w:World)(g:Nat)(F M:List Nat)(n:Nat)(X:StX)(h:xG w g F M X)(hv:dA w)(hX:kJ n X)(hn:n<=800)(A:Option Addr)(m c:Nat)(L:List zA)(hL:zW w A m L)(j:m<=1000000)(hA:∀y∈blk A,y∉F) :
  Calls prog 86 #[.pointer (some ⟨g,0,none⟩),.slice A m c] w λe w'=>e=.returned (.tuple #[])/\xG w' g F M (qA X L)/\z8 F w w':=by
 obtain⟨gd,gs,bo,bv,Fd,Fs,N,f,hF,h2,h3,d⟩:=h;obtain rfl:L.length=m:=by simpa using hL.1
 refine(st_foldIn w g gd gs bo bv Fd Fs F M N n X f hF h2 h3 d hv hX hn A c L hL j hA).mono ?_;rintro e w' ⟨rfl,⟨N',hN,e1⟩,hk⟩;refine⟨rfl,⟨gd,gs,bo,bv,Fd,Fs,N',hN,?_,h2,λx hx=>Nat.lt_of_lt_of_le (h3 x hx) hk.size,d⟩,hk⟩;rw[hF];unfold vR;rw[e1]
theorem isFn_mine:zt 152:=λargs w=>by kernel_rfl
theorem mine1(w:World)(gb g bo:Nat)(O:List zA)(hb:w.cell? ⟨gb,0,none⟩=some (.pointer (some ⟨g,0,none⟩)))(h2:w.cell? ⟨g,2,none⟩=some (.map (some bo)))(ho:jM w bo O)(x:zA) :
  Calls prog 152 #[.agg (idC x),.pointer (some ⟨gb,0,none⟩)] w λe w'=>e=.returned (.bool (decide (x∈O)))/\Below w.heap.size w w':=by
 have hB:Below w.heap.size w (w.alloc (.cells (idC x) 23)):=bA;have hr:z9 (w.alloc (.cells (idC x) 23)) w.heap.size 0 32=some (idC x):=by simp[go_sem]
 obtain⟨W,hW⟩:=eR (w.alloc (.cells (idC x) 23))
 obtain⟨ga,d⟩:=eX w.heap.size
 rw[<-hW]at hB hr;rw[d]at hr;have c0:=(hB.cell (p:=⟨gb,0,none⟩) (block_lt_of_cell? w _ hb)).trans hb;have c2:=(hB.cell (p:=⟨g,2,none⟩) (block_lt_of_cell? w _ h2)).trans h2;have hk:∀y:Subtype (Bel W),(Instr.lookup 29 (.map (some bo)) (.agg (idC x)) false).run prog y.1=.ok (.bool (decide (x∈O))) y.1:=λy=>jg ((ho.below hB).below y.2);obtain⟨t,ht⟩:=eX (decide (x∈O))
 rw[ht]at hk |-;have HW:=dH hW;have j:=dH d;have HB:=dH hB;clear hW d hB ht hb h2;go_enter func152,ntmps152
 go_upto_region 1 with fail
 rw[<-HW.out,j.out];refine lX W ?_;intro k hS;have b1:=zJ c0;have b2:=zJ c2;have b3:=zV hr;refine lZ ?_;refine zC ?_;intro hS;have f:=yM HB.out hS;(go_wp2_with fail);go_ret;exact⟨rfl,f⟩
theorem mine_any(X:StX)(c:zA):((vA X.D c).any λi=>decide (i∈X.O))=rT X c:=rfl
theorem st_mine(w:World)(g gd gs bo bv:Nat)(Fd Fs M:List Nat)(N:List (VwX×VwP))(n:Nat)(X:StX)(h:fR w g gd gs bo bv Fd Fs M N X)(hX:X.D.length<=1000000)(c:zA) :
  Calls prog 88 #[.pointer (some ⟨g,0,none⟩),.agg (idC c)] w λe w'=>e=.returned (.bool (rT X c))/\Below w.heap.size w w':=by
 have hB:Below w.heap.size w ((w.alloc (.cells #[.pointer (some ⟨g,0,none⟩)] 26)).alloc (.cells (idC c) 23)):=(bA).alloc sI _;have x0:((w.alloc (.cells #[.pointer (some ⟨g,0,none⟩)] 26)).alloc (.cells (idC c) 23)).cell? ⟨w.heap.size,0,none⟩=some (.pointer (some ⟨g,0,none⟩)):=by simp[go_sem]
 have hr:z9 ((w.alloc (.cells #[.pointer (some ⟨g,0,none⟩)] 26)).alloc (.cells (idC c) 23)) (w.heap.size+1) 0 32=some (idC c):=by
  have:=heap_alloc_new (w.alloc (.cells #[.pointer (some ⟨g,0,none⟩)] 26)) (.cells (idC c) 23);unfold z9;rw[(sI:w.heap.size+1=(w.alloc (.cells #[.pointer (some ⟨g,0,none⟩)] 26)).heap.size),this];simp[go_sem]
 obtain⟨W,hW⟩:=eR ((w.alloc (.cells #[.pointer (some ⟨g,0,none⟩)] 26)).alloc (.cells (idC c) 23))
 obtain⟨ga,f⟩:=eX w.heap.size
 rw[<-hW]at hB hr x0;rw[f]at hr x0;have d:=h.kept (z8.of_below hB) sI sI;have c0:W.cell? ⟨g,0,none⟩=some (.pointer (some ⟨gd,0,none⟩)):=by rw[cell_of_row W g 0 _ _ _ d.heap];rfl
 have c2:W.cell? ⟨g,2,none⟩=some (.map (some bo)):=by rw[cell_of_row W g 2 _ _ _ d.heap];rfl
 have cC:=tR W.drew gd Fd X.D ((d.dag).below ((Below.refl _ _).drew)) c hX;obtain⟨m,hm⟩:=eX (rT X c)
 have Hm:=dH hm;rw[hm];have hT:∀V,Below W.heap.size W V->∀A n cap R,zW V A n R->n<=1000000->Calls prog 151 #[.slice A n cap,.func (.func 152) #[] #[.pointer (some ⟨ga,0,none⟩)]] V λe w'=>e=.returned (.bool (R.any λi=>decide (i∈X.O)))/\Below V.heap.size V w':=λV hV A n cap R hR hn =>
  zk 152 #[] #[.pointer (some ⟨ga,0,none⟩)] isFn_mine [] V (λi=>decide (i∈X.O)) (λx w' hk=>by
   have k2:z8 [] W w':=z8.trans (z8.of_below hV) hk sI;exact mine1 w' ga g bo X.O ((k2.cell (p:=⟨ga,0,none⟩) (block_lt_of_cell? W _ x0) sI).trans x0) ((k2.cell (p:=⟨g,2,none⟩) (block_lt_of_cell? W _ c2) sI).trans c2) (d.own.kept k2 sI) x) A n cap R V (z8.refl _ _) hR hn
 have HT:=dH hT;have HW:=dH hW;have y:=dH f;have HB:=dH hB;clear hT hW f hB d h hm;have s:=QR (D:=X.D) c;go_enter func88,ntmps88
 go_upto_region 1 with fail
 rw[<-HW.out,y.out];refine lX W ?_;intro k hS;have b1:=zJ x0;have b2:=zJ c0;have b3:=zV hr;refine lQ ?_;intro K hK;refine cC.mono ?_;rintro e w1 ⟨⟨A,n,cap⟩,rfl,hn,ho,hb⟩;have r:n<=1000000:=by have:n=(vA X.D c).length:=hn;omega
 have j:=xZ hS hb;have cK:=HT.out w1 j A n cap (vA X.D c) ho.slr r;rw[mine_any,Hm.out]at cK;replace hS:=j;refine⟨_,rfl,hS,hK _ _ ?_⟩;clear hK K j;unfold slV;refine lZ ?_;refine lC (cK) ?_;clear hS;intro w' hS;refine lZ ?_;refine zC ?_;intro hS;have t:=yM HB.out hS;clear k hS b1 b2 b3 cC cK;(go_wp2_with fail);go_ret;exact⟨rfl,t⟩
section
structure j9(w:World)(g:Nat)(F M:List Nat)(Y:StX)(w':World)(F' M':List Nat):Prop where
 st:xG w' g F' M' Y
 mm:∀y∈M,y∈M'
 ff:∀y∈F',y∈F\/w.heap.size<=y
 fm:∀y∈M',y∈M\/w.heap.size<=y
 kp:z8 F w w'
theorem j9.trans{w w1 w2:World}{g:Nat}{F M F1 M1 F2 M2:List Nat}{Y Z:StX}(h:j9 w g F M Y w1 F1 M1)(k:j9 w1 g F1 M1 Z w2 F2 M2):j9 w g F M Z w2 F2 M2:=by
 have d:=h.kp.size;refine⟨k.st,λy hy=>k.mm y (h.mm y hy),λy hy=>?_,λy hy=>?_,z8.trans h.kp k.kp h.ff⟩
 ·rcases k.ff y hy with e | e
  ·exact h.ff y e
  ·exact .inr oM
 ·rcases k.fm y hy with e | e
  ·exact h.fm y e
  ·exact .inr oM
theorem j9.refl{w:World}{g:Nat}{F M:List Nat}{X:StX}(h:xG w g F M X):j9 w g F M X w F M:=⟨h,λ_ hy=>hy,λ_ hy=>.inl hy,λ_ hy=>.inl hy,z8.refl _ _⟩
theorem j9.keep{Y:StX}(h:xG w g F M X)(h':xG w' g F M Y)(k:z8 F w w'):j9 w g F M Y w' F M:=⟨h',λ_ hy=>hy,λ_ hy=>.inl hy,λ_ hy=>.inl hy,k⟩
theorem j9.below{w w':World}{g:Nat}{F M:List Nat}{X:StX}(h:xG w g F M X)(k:Below w.heap.size w w'):j9 w g F M X w' F M:=j9.keep h (h.below k) ((z8.of_below k).mono sI)
theorem j9.vars{F' M':List Nat}{Y:StX}(k:j9 w g F M Y w' F' M')(h:xG w g F M X)(hv:dA w):dA w':=hv.kept k.kp h.no
structure kY(w:World)(g gd gs bo bv:Nat)(Fd Fs F M:List Nat)(N:List (VwX×VwP))(X:StX):Prop where
 st:fR w g gd gs bo bv Fd Fs M N X
 fe:F=(vR g bo bv Fd Fs N).flatten
 fm:∀x∈F,x∈M
 ml:∀x∈M,x<w.heap.size
 no:dK F
theorem kY.at_{gd gs bo bv:Nat}{N:List (VwX×VwP)}(h:kY w g gd gs bo bv Fd Fs F M N X):xG w g F M X:=⟨gd,gs,bo,bv,Fd,Fs,N,h.st,h.fe,h.fm,h.ml,h.no⟩
theorem xG.sp(h:xG w g F M X):∃gd gs bo bv Fd Fs N,kY w g gd gs bo bv Fd Fs F M N X:=by
 obtain⟨gd,gs,bo,bv,Fd,Fs,N,h1,h2,h3,h4,h5⟩:=h;exact⟨gd,gs,bo,bv,Fd,Fs,N,h1,h2,h3,h4,h5⟩
section
variable {w w':World} {g gd gs bo bv:Nat} {Fd Fs F M S:List Nat} {N:List (VwX×VwP)} {X:StX}
theorem kY.kept(h:kY w g gd gs bo bv Fd Fs F M N X)(k:Below w.heap.size w w'):kY w' g gd gs bo bv Fd Fs F M N X:=⟨h.st.kept (z8.of_below k) sI sI,h.fe,h.fm,λx hx=>Nat.lt_of_lt_of_le (h.ml x hx) k.size,h.no⟩
theorem kY.mem{x:Nat}(h:kY w g gd gs bo bv Fd Fs F M N X)(hx:x=g\/x=bo\/x=bv\/x∈Fd\/x∈Fs\/∃p∈N,x∈vwF p):x∈F:=by rw[h.fe];exact bG.2 hx
theorem kY.newSto(h:kY w g gd gs bo bv Fd Fs F M N X){q':Int}{S':List Pay}(hq:q'=X.q)(hs:v6 w' gs d q' S')(hf:∀x∈d,x∈Fs\/w.heap.size<=x)(hk:z8 Fs w w')(hv:dA w) :
  ∃F' M',kY w' g gd gs bo bv Fd d F' M' N ⟨X.q,X.D,X.O,S',X.V⟩/\j9 w g F M ⟨X.q,X.D,X.O,S',X.V⟩ w' F' M':=by
 subst hq;have hd:=h.st.dis;unfold vR at hd;have j:=(show v7 (([g] :: [bo] :: [bv] :: [Fd])++Fs :: N.map vwF)from hd).ne;have f:∀x∈(vR g bo bv Fd d N).flatten,x∈F\/w.heap.size<=x:=λx hx=>by
  rcases bG.1 hx with e | e | e | e | e | e
  ·exact .inl (h.mem (.inl e))
  ·exact .inl (h.mem (.inr (.inl e)))
  ·exact .inl (h.mem (.inr (.inr (.inl e))))
  ·exact .inl (h.mem (.inr (.inr (.inr (.inl e)))))
  ·rcases hf x e with e | e
   ·exact .inl (h.mem (.inr (.inr (.inr (.inr (.inl e))))))
   ·exact .inr e
  ·exact .inl (h.mem (.inr (.inr (.inr (.inr (.inr e))))))
 have s:∀x∈Fs,x∈F:=λx hx=>h.mem (.inr (.inr (.inr (.inr (.inl hx)))));have r:∀x∈(vR g bo bv Fd d N).flatten++M,x∈M\/w.heap.size<=x:=λx hx=>by
  rcases mem_append.1 hx with hx | hx
  ·exact(f x hx).imp (h.fm x) id
  ·exact .inl hx
 have hm:=h.st.moreM (M':=(vR g bo bv Fd d N).flatten++M) (λx hx=>mem_append_right _ hx) r;obtain⟨R,es,B,A,t⟩:=hm.vs;have m:fR w' g gd gs bo bv Fd d ((vR g bo bv Fd d N).flatten++M) N ⟨X.q,X.D,X.O,S',X.V⟩:=by
  refine⟨(hk.block g (aG hm.heap).1 (j [g] sI g sI)).trans hm.heap,hm.dag.kept hk (j Fd sI),hs,hm.own.kept hk (j [bo] sI bo sI),⟨R,es,B,A.kept hk (j [bv] sI bv sI),t⟩,λp hp=>(hm.vw p hp).kept hk (j (vwF p) (mem_append_right _ (mem_map_of_mem hp))) (λx hx=>.inl (mem_append_right _ (h.fm x (s x hx)))),hm.vx,?_⟩;show v7 (([g] :: [bo] :: [bv] :: [Fd])++d :: N.map vwF);exact v7.set (a:=Fs) (n:=w.heap.size) hd (λb hb x hx=>h.st.lt b (by
   unfold vR;rcases mem_append.1 hb with hb | hb
   ·simp only[mem_cons,not_mem_nil,or_false]at hb |-;rcases hb with e | e | e | e <;> simp[e]
   ·simp only[mem_cons];exact .inr (.inr (.inr (.inr (.inr hb))))) x hx) hf
 have k:kY w' g gd gs bo bv Fd d _ _ N ⟨X.q,X.D,X.O,S',X.V⟩:=⟨m,rfl,λx hx=>mem_append_left _ hx,λx hx=>by
  rcases mem_append.1 hx with hx | hx
  ·obtain⟨b,hb,hx⟩:=mem_flatten.1 hx;exact m.lt b hb x hx
  ·exact Nat.lt_of_lt_of_le (h.ml x hx) hk.size,dK.more hv h.no f⟩
 exact⟨_,_,k,k.at_,λy hy=>mem_append_right _ hy,f,r,hk.mono (λx hx=>.inl (s x hx))⟩
theorem kY.newDag(h:kY w g gd gs bo bv Fd Fs F M N X){D':List HdX}(hs:k7 w' gd d D')(hf:∀x∈d,x∈Fd\/w.heap.size<=x)(hk:z8 Fd w w')(hv:dA w) :
  ∃F' M',kY w' g gd gs bo bv d Fs F' M' N ⟨X.q,D',X.O,X.S,X.V⟩/\j9 w g F M ⟨X.q,D',X.O,X.S,X.V⟩ w' F' M':=by
 have hd:=h.st.dis;unfold vR at hd;have j:=(show v7 (([g] :: [bo] :: [[bv]])++Fd :: Fs :: N.map vwF)from hd).ne;have f:∀x∈(vR g bo bv d Fs N).flatten,x∈F\/w.heap.size<=x:=λx hx=>by
  rcases bG.1 hx with e | e | e | e | e | e
  ·exact .inl (h.mem (.inl e))
  ·exact .inl (h.mem (.inr (.inl e)))
  ·exact .inl (h.mem (.inr (.inr (.inl e))))
  ·rcases hf x e with e | e
   ·exact .inl (h.mem (.inr (.inr (.inr (.inl e)))))
   ·exact .inr e
  ·exact .inl (h.mem (.inr (.inr (.inr (.inr (.inl e))))))
  ·exact .inl (h.mem (.inr (.inr (.inr (.inr (.inr e))))))
 have s:∀x∈Fd,x∈F:=λx hx=>h.mem (.inr (.inr (.inr (.inl hx))));have r:∀x∈(vR g bo bv d Fs N).flatten++M,x∈M\/w.heap.size<=x:=λx hx=>by
  rcases mem_append.1 hx with hx | hx
  ·exact(f x hx).imp (h.fm x) id
  ·exact .inl hx
 have hm:=h.st.moreM (M':=(vR g bo bv d Fs N).flatten++M) (λx hx=>mem_append_right _ hx) r;obtain⟨R,es,B,A,t⟩:=hm.vs;have m:fR w' g gd gs bo bv d Fs ((vR g bo bv d Fs N).flatten++M) N ⟨X.q,D',X.O,X.S,X.V⟩:=by
  refine⟨(hk.block g (aG hm.heap).1 (j [g] sI g sI)).trans hm.heap,hs,hm.sto.kept hk (j Fs sI),hm.own.kept hk (j [bo] sI bo sI),⟨R,es,B,A.kept hk (j [bv] sI bv sI),t⟩,λp hp=>(hm.vw p hp).kept hk (j (vwF p) (mem_append_right _ (mem_cons_of_mem _ (mem_map_of_mem hp)))) (λx hx=>.inl (mem_append_right _ (h.fm x (s x hx)))),hm.vx,?_⟩;show v7 (([g] :: [bo] :: [[bv]])++d :: Fs :: N.map vwF);exact v7.set (a:=Fd) (n:=w.heap.size) hd (λb hb x hx=>h.st.lt b (by
   unfold vR;rcases mem_append.1 hb with hb | hb
   ·simp only[mem_cons,not_mem_nil,or_false]at hb |-;rcases hb with e | e | e <;> simp[e]
   ·simp only[mem_cons]at hb |-;exact .inr (.inr (.inr (.inr hb)))) x hx) hf
 have k:kY w' g gd gs bo bv d Fs _ _ N ⟨X.q,D',X.O,X.S,X.V⟩:=⟨m,rfl,λx hx=>mem_append_left _ hx,λx hx=>by
  rcases mem_append.1 hx with hx | hx
  ·obtain⟨b,hb,hx⟩:=mem_flatten.1 hx;exact m.lt b hb x hx
  ·exact Nat.lt_of_lt_of_le (h.ml x hx) hk.size,dK.more hv h.no f⟩
 exact⟨_,_,k,k.at_,λy hy=>mem_append_right _ hy,f,r,hk.mono (λx hx=>.inl (s x hx))⟩
theorem kY.newOwn(h:kY w g gd gs bo bv Fd Fs F M N X){O':List zA}(hs:jM w' bo O')(hk:z8 [bo] w w') :
  kY w' g gd gs bo bv Fd Fs F M N ⟨X.q,X.D,O',X.S,X.V⟩/\j9 w g F M ⟨X.q,X.D,O',X.S,X.V⟩ w' F M:=by
 have hd:=h.st.dis;unfold vR at hd;have d:=(show v7 (([[g]]) ++ [bo] :: [bv] :: Fd :: Fs :: N.map vwF)from hd).ne;have j:bo∈F:=h.mem (.inr (.inl rfl));obtain⟨R,es,s,m,k⟩:=h.st.vs;have r:fR w' g gd gs bo bv Fd Fs M N ⟨X.q,X.D,O',X.S,X.V⟩ :=
  ⟨(hk.block g (aG h.st.heap).1 (d [g] sI g sI)).trans h.st.heap,h.st.dag.kept hk (d Fd sI),h.st.sto.kept hk (d Fs sI),hs,⟨R,es,s,m.kept hk (d [bv] sI bv sI),k⟩,λp hp=>(h.st.vw p hp).kept hk (d (vwF p) (mem_append_right _ (by simp only[mem_cons];exact .inr (.inr (.inr (mem_map_of_mem hp)))))) (λx hx=>.inl (h.fm x (by rw[mem_singleton.1 hx];exact j))),h.st.vx,h.st.dis⟩
 have f:kY w' g gd gs bo bv Fd Fs F M N ⟨X.q,X.D,O',X.S,X.V⟩:=⟨r,h.fe,h.fm,λx hx=>Nat.lt_of_lt_of_le (h.ml x hx) hk.size,h.no⟩
 exact⟨f,j9.keep h.at_ f.at_ (hk.mono (λx hx=>.inl (by rw[mem_singleton.1 hx];exact j)))⟩
end
end
section
theorem perm_keys{N:List (VwX×VwP)}(hp:R.Perm (N.map λp=>(p.1.t,p.2.g)))(hx:N.map (·.1)=X.V):(R.map (·.1)).Perm (X.V.map (·.t)):=by
 have:=hp.map (·.1);rw[map_map]at this;rw[<-hx,map_map];exact this
section
variable {w w1:World} {g gd gs bo bv:Nat} {Fd Fs F M:List Nat} {N:List (VwX×VwP)} {X:StX}
theorem kY.newView(h:kY w g gd gs bo bv Fd Fs F M N X)(k:Below w.heap.size w w1){vg b:Nat}{I:List zA}{v:Value}{s:VSt}(a2:yR w1 vg t b I v)(a3:kZ w1 O (M++vg :: b :: O) v s)(a7:vg∉b :: O)(a9:b∉O)(ht:fD t)(f:∀x∈vg :: b :: O,w.heap.size<=x)(Y:∀x∈vg :: b :: O,x<w1.heap.size)(a8:t∉X.V.map (·.t))(hv:dA w) :
  ∃w2,(Instr.mapUpdate 30 (.map (some bv)) (.string t) (.pointer (some ⟨vg,0,none⟩))).run prog w1=.ok () w2/\z8 [bv] w1 w2/\∃F' M' N',kY w2 g gd gs bo bv Fd Fs F' M' N' ⟨X.q,X.D,X.O,X.S,X.V ++ [⟨t,I,s⟩]⟩/\j9 w g F M ⟨X.q,X.D,X.O,X.S,X.V ++ [⟨t,I,s⟩]⟩ w2 F' M':=by
 have hd:=h.st.dis;unfold vR at hd;have m:=(show v7 (([g] :: [[bo]]) ++ [bv] :: Fd :: Fs :: N.map vwF)from hd).ne;have E:bv∈F:=h.mem (.inr (.inr (.inl rfl)));have b1:bv<w.heap.size:=h.ml _ (h.fm _ E);have U:∀x∈M++vg :: b :: O,x∈M\/w.heap.size<=x:=λx hx=>by
  rcases mem_append.1 hx with hx | hx
  ·exact .inl hx
  ·exact .inr (f x hx)
 have hm:=(h.st.moreM (M':=M++vg :: b :: O) (λx hx=>mem_append_left _ hx) U).kept (z8.of_below k) sI sI;obtain⟨R,es,b2,a5,L⟩:=hm.vs;obtain⟨w2,b0,G,hr,r,d⟩:=a5.update (k:=t) (v:=vg) dB underlying30 ht;have A:bJ R t vg=R ++ [(t,vg)]:=by
  unfold bJ;rw[if_neg];intro hx;exact a8 ((perm_keys L hm.vx).mem_iff.1 hx)
 rw[A]at r;have Z:∀x∈[bv],x∈M++vg :: b :: O\/w1.heap.size<=x:=λx hx=>.inl (mem_append_left _ (by rw[mem_singleton.1 hx];exact h.fm _ E));have B:∀x∈vg :: b :: O,x∉[bv]:=λx hx a1=>(by have:=f x hx;rw[mem_singleton]at a1;omega);obtain⟨p,hp⟩:∃p:VwX×VwP,p=(⟨t,I,s⟩,⟨vg,b,O,v⟩):=⟨_,rfl⟩
 have T:vwF p=vg :: b :: O:=by rw[hp];rfl
 have a4:Y5 w2 (M++vg :: b :: O) p:=by
  rw[hp];exact⟨a2.kept d (B vg sI) (B b sI),a3.kept d (λx hx=>B x (by simp[hx])) Z,a7,a9,λx hx=>Nat.lt_of_lt_of_le (Y x hx) d.size,ht⟩
 have a6:fR w2 g gd gs bo bv Fd Fs (M++vg :: b :: O) (N ++ [p]) ⟨X.q,X.D,X.O,X.S,X.V ++ [⟨t,I,s⟩]⟩:=by
  refine⟨(d.block g (aG hm.heap).1 (m [g] sI g sI)).trans hm.heap,hm.dag.kept d (m Fd sI),hm.sto.kept d (m Fs sI),hm.own.kept d (m [bo] sI bo sI),⟨R ++ [(t,vg)],b0,G,r,?_⟩,λq hq=>?_,?_,?_⟩
  ·rw[map_append,hp];exact L.append_right _
  ·rcases mem_append.1 hq with hq | hq
   ·exact(hm.vw q hq).kept d (m (vwF q) (mem_append_right _ (by simp only[mem_cons];exact .inr (.inr (mem_map_of_mem hq))))) Z
   ·rw[mem_singleton.1 hq];exact a4
  ·rw[map_append,hm.vx,hp];rfl
  ·show v7 ([g] :: [bo] :: [bv] :: Fd :: Fs :: (N ++ [p]).map vwF);rw[map_append,show[g] :: [bo] :: [bv] :: Fd :: Fs :: (N.map vwF ++ [p].map vwF)=([g] :: [bo] :: [bv] :: Fd :: Fs :: N.map vwF) ++ [vwF p]from rfl];unfold v7;rw[pairwise_append];refine⟨hd,pairwise_singleton _ _,λa ha c hc x hx H=>?_⟩;rw[mem_singleton.1 hc,T]at H;have h1:=h.st.lt a ha x hx;have h2:=f x H;omega
 have a0:∀x∈(vR g bo bv Fd Fs (N ++ [p])).flatten,x∈F\/x∈vg :: b :: O:=λx hx=>by
  rcases bG.1 hx with e | e | e | e | e | ⟨q,hq,e⟩
  ·exact .inl (h.mem (.inl e))
  ·exact .inl (h.mem (.inr (.inl e)))
  ·exact .inl (h.mem (.inr (.inr (.inl e))))
  ·exact .inl (h.mem (.inr (.inr (.inr (.inl e)))))
  ·exact .inl (h.mem (.inr (.inr (.inr (.inr (.inl e))))))
  ·rcases mem_append.1 hq with hq | hq
   ·exact .inl (h.mem (.inr (.inr (.inr (.inr (.inr ⟨q,hq,e⟩))))))
   ·rw[mem_singleton.1 hq,T]at e;exact .inr e
 have j:∀x∈(vR g bo bv Fd Fs (N ++ [p])).flatten,x∈F\/w.heap.size<=x:=λx hx=>(a0 x hx).imp id (f x);have J:kY w2 g gd gs bo bv Fd Fs (vR g bo bv Fd Fs (N ++ [p])).flatten (M++vg :: b :: O) (N ++ [p]) ⟨X.q,X.D,X.O,X.S,X.V ++ [⟨t,I,s⟩]⟩:=⟨a6,rfl,λx hx=>(a0 x hx).elim (λe=>mem_append_left _ (h.fm x e)) (λe=>mem_append_right _ e),λx hx=>by
  rcases mem_append.1 hx with hx | hx
  ·exact Nat.lt_of_lt_of_le (h.ml x hx) (Nat.le_trans k.size d.size)
  ·exact Nat.lt_of_lt_of_le (Y x hx) d.size,dK.more hv h.no j⟩
 exact⟨w2,hr,d,_,_,_,J,J.at_,λy hy=>mem_append_left _ hy,j,U,z8.trans ((z8.of_below k).mono (S':=F) sI) d (λx hx=>.inl (by rw[mem_singleton.1 hx];exact E))⟩
theorem kY.delView(h:kY w g gd gs bo bv Fd Fs F M N X)(ht:fD t)(ty:TypeId) :
  ∃w2,(Builtin.delete_ #[30,9] ty #[.map (some bv),.string t]).run prog w=.ok (.tuple #[]) w2/\∃F' N',kY w2 g gd gs bo bv Fd Fs F' M N' (wB X t)/\j9 w g F M (wB X t) w2 F' M:=by
 have hd:=h.st.dis;unfold vR at hd;have j:=(show v7 (([g] :: [[bo]]) ++ [bv] :: Fd :: Fs :: N.map vwF)from hd).ne;have s:bv∈F:=h.mem (.inr (.inr (.inl rfl)));obtain⟨R,es,H,B,A⟩:=h.st.vs;obtain⟨w2,G,hr,m,f⟩:=B.delete (k:=t) (ty:=ty) dB underlying30 ht;have E:∀x∈[bv],x∈M\/w.heap.size<=x:=λx hx=>.inl (by rw[mem_singleton.1 hx];exact h.fm _ s);have D:fR w2 g gd gs bo bv Fd Fs M (N.filter λp=>decide (p.1.t≠t)) (wB X t):=by
  refine⟨(f.block g (aG h.st.heap).1 (j [g] sI g sI)).trans h.st.heap,h.st.dag.kept f (j Fd sI),h.st.sto.kept f (j Fs sI),h.st.own.kept f (j [bo] sI bo sI),⟨pH R t,G,H,m,?_⟩,λq hq=>?_,?_,?_⟩
  ·have:=A.filter (λp=>decide (p.1≠t));rw[filter_map]at this;exact this
  ·have hq:=(mem_filter.1 hq).1;exact(h.st.vw q hq).kept f (j (vwF q) (mem_append_right _ (by simp only[mem_cons];exact .inr (.inr (mem_map_of_mem hq))))) E
  ·show _=X.V.filter λv=>decide (v.t≠t);rw[<-h.st.vx,filter_map];rfl
  ·show v7 ([g] :: [bo] :: [bv] :: Fd :: Fs :: (N.filter λp=>decide (p.1.t≠t)).map vwF);unfold v7;refine Pairwise.sublist ?_ hd;exact((((Sublist.map vwF filter_sublist).cons_cons Fs).cons_cons Fd).cons_cons [bv]).cons_cons [bo] |>.cons_cons [g]
 have d:∀x∈(vR g bo bv Fd Fs (N.filter λp=>decide (p.1.t≠t))).flatten,x∈F:=λx hx=>by
  rcases bG.1 hx with e | e | e | e | e | ⟨q,hq,e⟩
  ·exact h.mem (.inl e)
  ·exact h.mem (.inr (.inl e))
  ·exact h.mem (.inr (.inr (.inl e)))
  ·exact h.mem (.inr (.inr (.inr (.inl e))))
  ·exact h.mem (.inr (.inr (.inr (.inr (.inl e)))))
  ·exact h.mem (.inr (.inr (.inr (.inr (.inr ⟨q,(mem_filter.1 hq).1,e⟩)))))
 have r:kY w2 g gd gs bo bv Fd Fs (vR g bo bv Fd Fs (N.filter λp=>decide (p.1.t≠t))).flatten M (N.filter λp=>decide (p.1.t≠t)) (wB X t):=⟨D,rfl,λx hx=>h.fm x (d x hx),λx hx=>Nat.lt_of_lt_of_le (h.ml x hx) f.size,⟨λhx=>h.no.1 (d _ hx),λhx=>h.no.2.1 (d _ hx),λhx=>h.no.2.2 (d _ hx)⟩⟩
 exact⟨w2,hr,_,_,r,r.at_,λy hy=>hy,λy hy=>.inl (d y hy),λy hy=>.inl hy,f.mono (λx hx=>.inl (by rw[mem_singleton.1 hx];exact s))⟩
end
end
theorem kK.small(h:kK n X):xR X.S<=1000000:=by have:=h.bytes;have:=h.q1;omega
theorem st_evict(w:World)(g:Nat)(F M:List Nat)(n:Nat)(X:StX)(h:xG w g F M X)(hv:dA w)(hX:kK n X)(hn:n<=800)(c:zA) :
  Calls prog 37 #[.pointer (some ⟨g,0,none⟩),.agg (idC c)] w λe w'=>e=.returned (.int .i64 (pG X c))/\∃F' M',j9 w g F M (pF X c) w' F' M':=by
 obtain⟨gd,gs,bo,bv,Fd,Fs,N,h⟩:=h.sp;have hB:Below w.heap.size w (w.alloc (.cells (idC c) 23)):=bA;have hr:z9 (w.alloc (.cells (idC c) 23)) w.heap.size 0 32=some (idC c):=by simp[go_sem]
 obtain⟨W,hW⟩:=eR (w.alloc (.cells (idC c) 23))
 obtain⟨ga,E⟩:=eX w.heap.size
 rw[<-hW]at hB hr;rw[E]at hr;have s:=h.kept hB;have c1:W.cell? ⟨g,1,none⟩=some (.pointer (some ⟨gs,0,none⟩)):=by rw[cell_of_row W g 1 _ _ _ s.st.heap];rfl
 have cH:=B6 W.drew gs Fs X.q X.S c (s.st.sto.kept (z8.drew W) sI);have cM:=fun (V:World) (hV:Below W.heap.size W V)=>st_mine V g gd gs bo bv Fd Fs M N n X (s.st.kept (z8.of_below hV) sI sI) (Nat.le_trans hX.len oM) c;obtain⟨m,hm⟩:=eX (rT X c)
 rw[hm]at cM;have HX:=dH hX;have Hs:=dH h;have Z:=dH s;have HW:=dH hW;have Y:=dH E;have HB:=dH hB;have Hm:=dH hm;clear hX h s hW E hB hm;go_enter func37,ntmps37
 go_upto_region 1 with fail
 rw[<-HW.out,Y.out];obtain⟨hs,B⟩:=eX ((jH X.S c).isSome)
 rw[B]at cH;have f:c∈X.S.map (·.c)↔hs=true:=by
  rw[<-B];cases e:jH X.S c with
  | none=>simpa using dS.1 e
  | some p=>simp;exact⟨p,(jP e).1,(jP e).2⟩
 have t:=dH f;clear B f
 go_cut [15] (λv wx=>v=.bool (hs&&m)/\Below W.heap.size W wx)
 case first =>
  cases hs with
  | false =>
   refine vE (.loose 0 (.loose 1 (.loose 2 (.loose 3 (.loose 4 (.one 5 (.loose 6 (.loose 7 (.loose 8 (.one 9 (.loose 10 .done))))))))))) (Bel W) false kR kR kR kR (qC W) ?_;have A:=lW W;have hS:=qC W;have b1:=zJ c1;have b2:=zV hr;refine tZ ?_;refine tH ?_;intro K hK;refine(cH).mono ?_;rintro e w' ⟨rfl,hb⟩;replace hS:=xZ hS hb;refine⟨_,rfl,hS,hK _ _ ?_⟩;clear hK K hb;refine tZ ?_;refine tH ?_;intro K hK;refine hK _ _ ?_;clear hK K;refine tZ ?_;refine kP ?_;intro hS;go_wp2_with fail
   go_meet
   exact⟨rfl,hS⟩
  | true =>
   refine vE (.loose 0 (.loose 1 (.loose 2 (.loose 3 (.loose 4 (.one 5 (.loose 6 (.loose 7 (.loose 8 (.one 9 (.loose 10 .done))))))))))) (Bel W) false kR kR kR kR (qC W) ?_;have A:=lW W;have hS:=qC W;have b1:=zJ c1;have b2:=zV hr;refine tZ ?_;refine tH ?_;intro K hK;refine(cH).mono ?_;rintro e w' ⟨rfl,hb⟩;replace hS:=xZ hS hb;refine⟨_,rfl,hS,hK _ _ ?_⟩;clear hK K hb;refine tZ ?_;refine tH ?_;intro K hK;refine(cM _ hS).mono ?_;rintro e w' ⟨rfl,hb⟩;replace hS:=xZ hS hb;refine⟨_,rfl,hS,hK _ _ ?_⟩;clear hK K hb;refine tZ ?_;refine kP ?_;intro hS;go_wp2_with fail
   go_meet
   cases m <;> exact⟨rfl,hS⟩
 case rest =>
 obtain⟨rfl,k⟩:=hcut;obtain⟨V,rfl⟩:=eR wc
 have a2:=(k.cell (p:=⟨g,1,none⟩) (block_lt_of_cell? W _ c1)).trans c1;have a1:=((z8.of_below k).row (zD hr) sI _ _).trans hr;have G:=dH (HB.out.trans (k.mono HB.out.size));clear cH cM c1 hr;obtain⟨z,hz⟩:=eX (hs&&m)
 rw[hz];have Hz:=dH hz;clear hz;cases z with
 | true =>
  have hb:=Hz.out;have hE:pG X c=1:=by
   unfold pG;simp only[Bool.and_eq_true]at hb;rw[if_pos (t.out.2 hb.1),if_pos (by rw[Hm.out];exact hb.2)]
  have HE:=dH hE;clear hE hb;(go_wp2_with fail);go_ret;refine⟨by rw[HE.out];rfl,F,M,?_⟩;rw[show pF X c=X from if_neg (by rw[HE.out];decide)];exact j9.below Hs.out.at_ G.out
 | false =>
  have hb:=Hz.out;have hE:pG X c=(if c∈X.S.map (·.c)then 0 else 7):=by
   unfold pG;by_cases e:c∈X.S.map (·.c)
   ·rw[if_pos e,if_pos e,if_neg];rw[Hm.out];intro e2;rw[t.out.1 e,e2]at hb;cases hb
   ·rw[if_neg e,if_neg e]
  have HE:=dH hE;have cD:=sto_drop V.drew gs Fs X.q X.S c ((Z.out.st.sto.kept (z8.of_below k) sI).kept (z8.drew V) sI) HX.out.small;have R:=dH (Z.out.kept k);have U:=dH (hv.below G.out);obtain⟨r,y⟩:∃r:Int,(if c∈X.S.map (·.c)then(0:Int)else 7)=r:=⟨_,rfl⟩
  rw[y]at cD hE;have a4:=dH y;have a3:=dH hE;clear hb hE y;go_upto_region 3 with fail
  refine kX Fs V ?_;intro A hS;have hgs:g∉Fs:=by
   have hd:=R.out.st.dis;unfold vR at hd;exact(show v7 (([g] :: [bo] :: [bv] :: [Fd])++Fs :: N.map vwF)from hd).ne [g] sI g sI
  have j:ga∉Fs:=λhx=>by
   have h1:=Hs.out.ml ga (Hs.out.fm ga (Hs.out.mem (.inr (.inr (.inr (.inr (.inl hx)))))));have h2:=Y.out;omega
  have b1:=zF a2 hgs;have b2:=zY a1 j;refine lQ ?_;intro K hK;refine cD.mono ?_;rintro e w2 ⟨rfl,⟨F2,d,L⟩,J⟩;have T:=yA hS J iL;refine⟨_,rfl,T,hK _ _ ?_⟩;clear hK K;refine lZ ?_;refine zC ?_;intro hS;have I:z8 Fs V w2:=hS;obtain⟨F',M',a0,H⟩:=R.out.newSto rfl d (λx hx=>.inl (L x hx)) I U.out;have Hn:=dH ((j9.below Hs.out.at_ G.out).trans H);clear A hS T b1 b2 cD d L J a0 H I;(go_wp2_with fail);go_ret;refine⟨by rw[a3.out];rfl,F',M',?_⟩;have e:pF X c=⟨X.q,X.D,X.O,kN X.S c,X.V⟩:=by
   unfold pF;by_cases e:c∈X.S.map (·.c)
   ·rw[if_pos (by rw[HE.out,if_pos e])]
   ·rw[if_neg (by rw[HE.out,if_neg e];decide),QN e]
  rw[e];exact Hn.out
theorem kY.look1{gd gs bo bv:Nat}{N:List (VwX×VwP)}(h:kY w g gd gs bo bv Fd Fs F M N X)(ht:fD t) :
  ∃(o:Option Addr) (b:Bool),(Instr.lookup 30 (.map (some bv)) (.string t) true).run prog w=.ok (.tuple #[.pointer o,.bool b]) w/\hasT X.V t=b:=by
 rcases h.st.look ht with⟨p,hp,e,hl⟩ | ⟨hno,hl⟩
 ·refine⟨_,true,(hl w [] (z8.refl _ _) sI).1,?_⟩;rw[lS,<-h.st.vx,<-e];exact mem_map.2 ⟨p.1,mem_map_of_mem hp,rfl⟩
 ·refine⟨_,false,hl w [] (z8.refl _ _) sI,?_⟩;cases e:hasT X.V t with
  | false=>rfl
  | true=>exact absurd (lS.1 e) hno
theorem fR.lenV{gd gs bo bv:Nat}{N:List (VwX×VwP)}(h:fR w g gd gs bo bv Fd Fs M N X){ty:TypeId}(ha:ats[0]?=some 30):(Builtin.len_ ats ty #[.map (some bv)]).run prog w=.ok (.int .i64 X.V.length) w:=by
 obtain⟨R,es,d,hm,hp⟩:=h.vs;rw[hm.len underlying30 ha,hp.length_eq,<-h.vx,length_map,length_map]
theorem st_may(w:World)(g:Nat)(F M:List Nat)(X:StX)(h:xG w g F M X)(t:ByteArray)(ht:fD t) :
  Calls prog 39 #[.pointer (some ⟨g,0,none⟩),.string t] w λe w'=>e=.returned (.int .i64 (lL X t))/\w=w':=by
 obtain⟨gd,gs,bo,bv,Fd,Fs,N,h⟩:=h.sp;have c3:w.cell? ⟨g,3,none⟩=some (.map (some bv)):=by rw[cell_of_row w g 3 _ _ _ h.st.heap];rfl
 obtain⟨o,b,hl,hb⟩:=h.look1 ht;have d:=λats ty ha=>h.st.lenV (ats:=ats) (ty:=ty) ha;obtain⟨n,hn⟩:=eX X.V.length
 rw[hn]at d;have hE:lL X t=if b=true then 15 else if 8<=n then 6 else 0:=by unfold lL;rw[hb,hn]
 rw[hE];have j:=d #[30] 3 rfl;clear h hb hn hE d;cases b with
 | true =>
  go_enter func39,ntmps39
  (go_wp2_with fail);go_ret;exact⟨rfl,rfl⟩
 | false =>
  by_cases h8:8<=n
  ·have f:decide ((8:Int)<=n)=true:=sO;simp only[Bool.false_eq_true,if_false,if_pos h8];clear h8;go_enter func39,ntmps39
   (go_wp2_with fail);go_ret;exact⟨rfl,rfl⟩
  ·have f:decide ((8:Int)<=n)=false:=sO;simp only[Bool.false_eq_true,if_false,if_neg h8];clear h8;go_enter func39,ntmps39
   (go_wp2_with fail);go_ret;exact⟨rfl,rfl⟩
theorem st_unsub(w:World)(g:Nat)(F M:List Nat)(X:StX)(h:xG w g F M X)(t:ByteArray)(ht:fD t) :
  Calls prog 38 #[.pointer (some ⟨g,0,none⟩),.string t] w λe w'=>e=.returned (.int .i64 (YO X t))/\∃F' M',j9 w g F M (wB X t) w' F' M':=by
 obtain⟨gd,gs,bo,bv,Fd,Fs,N,h⟩:=h.sp;have c3:w.cell? ⟨g,3,none⟩=some (.map (some bv)):=by rw[cell_of_row w g 3 _ _ _ h.st.heap];rfl
 obtain⟨o,b,hl,hb⟩:=h.look1 ht;have hE:YO X t=if b=true then 0 else 15:=by unfold YO;rw[hb]
 rw[hE];obtain⟨w2,hd,F',N',f,d⟩:=h.delView ht 0;have Hs:=dH h;have Hn:=dH d;have Hb:=dH hb;clear h hb hE f d;cases b with
 | true =>
  go_enter func38,ntmps38
  (go_wp2_with fail);go_ret;exact⟨rfl,F',M,Hn.out⟩
 | false =>
  have e:wB X t=X:=unsubX_no (λhm=>by have:=lS.2 hm;rw[Hb.out]at this;cases this);rw[e];clear e;go_enter func38,ntmps38
  (go_wp2_with fail);go_ret;exact⟨rfl,F,M,j9.refl Hs.out.at_⟩
end Go.Proofs.YtddopbhcpblpjaaGreatDoor
