/- Part 15 of the texts that lead to this claim: the walks of the functions and the plain law, in order. -/
import Derived.Test.YtdjiaickicgdlaaGreatDoorMg14
namespace Go.Proofs.YtdjiaickicgdlaaGreatDoor
open Go.RowKit
open List hiding and get max min or set
open Go.Proofs.Tryz
open World
set_option maxRecDepth 100000
set_option maxHeartbeats 8000000
variable {L1 L2:List (List Nat)}{F Fd Fs M O a d:List Nat}{g n:Nat}{w w':World}{x:fZ}{b t:ByteArray}{v:VwX}{X:StX}{D:List HdX}{S:List Pay}{i:zB}{R:List (ByteArray×Nat)}{ats:Array TypeId}
def AddRes(X:StX)(F:List Nat)(g:Nat)(h:HdV)(w:World)(e:Ending)(w':World):Prop :=
 ∃F',e=.returned (.tuple #[.agg (idC (if gD X.D h=0 then hdI h else id0)),.int .i64 (gD X.D h)])/\kC w' g F' (kA X.D h)/\(∀y∈F',y∈F\/w.heap.size<=y)/\z9 F w w'
theorem dag_add(w:World)(g:Nat)(F:List Nat)(n:Nat)(X:StX)(h:kC w g F X.D)(hX:vP n X)(hn:n<=100000)(hS:xY w)(x:fZ)(hT:zX w x.A x.h.ps.length x.h.ps)(i8:x.h.ps.length<=100000)(i7:bU x.h.tp)(hA:x.A=none->x.c=0)(n3:∀y∈blk x.A,y∉F) :
  Calls prog 67 #[.pointer (some ⟨g,0,none⟩),.agg (hdR x)] w λe w'=>AddRes X F g x.h w e w':=by
 obtain⟨hv,A0,c0⟩:=x;have hB:Below w.heap.size w ((w.alloc (.cells (hdR ⟨hv,A0,c0⟩) 52)).alloc (.cells (idC id0) 31)):=(bA).alloc sI _;have e3:zA ((w.alloc (.cells (hdR ⟨hv,A0,c0⟩) 52)).alloc (.cells (idC id0) 31)) w.heap.size 0 38=some (hdR ⟨hv,A0,c0⟩):=by
  rw[zH (Below.heap_alloc _ _ _ sI)];simp[go_sem,hdR]
 have x1:((w.alloc (.cells (hdR ⟨hv,A0,c0⟩) 52)).alloc (.cells (idC id0) 31)).heap[w.heap.size+1]?=some (.cells (idC id0) 31 (0,0)):=by
  have:=heap_alloc_new (w.alloc (.cells (hdR ⟨hv,A0,c0⟩) 52)) (.cells (idC id0) 31)
  rwa [(sI:(w.alloc (.cells (hdR ⟨hv,A0,c0⟩) 52)).heap.size=w.heap.size+1)]at this
 obtain⟨W,hW⟩:=eR ((w.alloc (.cells (hdR ⟨hv,A0,c0⟩) 52)).alloc (.cells (idC id0) 31))
 obtain⟨ga,l2⟩:=eX w.heap.size
 rw[<-hW]at hB e3 x1;rw[l2]at e3 x1;have cN:Calls prog 98 #[.pointer (some ⟨g,0,none⟩)] W λe w'=>e=.returned (.bool false)/\W=w':=by
  obtain⟨bh,bp,bt,bc,N,Tm,Cm,hi,_⟩:=h;exact mB W g bh (hi.c0 W hB).1
 have cv:=ku W g F X.D (h.below hB) hX.nd ⟨hv,A0,c0⟩ (SlR.below hT hB) i8 (by show hv.tp.size<=_;have:hv.tp.size<=maxLen:=i7;unfold maxLen at this;omega);obtain⟨V,hV⟩:=eX (gD X.D hv)
 have cv:Calls prog 114 #[.pointer (some ⟨g,0,none⟩),.agg (hdR ⟨hv,A0,c0⟩)] W λe w'=>e=.returned (.int .i64 V)/\Below W.heap.size W w':=by rw[<-hV];exact cv
 have HW:=dH hW;have HB:=dH hB;have i4:=dH l2;have HV:=dH hV;have n2:ga+1<W.heap.size:=(aG x1).1;have a4:=dH h;clear hW hB l2 hV h;go_enter func67,ntmps67
 (go_wp2_with fail);rw[<-HW.out,i4.out];refine cN.mono ?_;rintro e w' ⟨rfl,rfl⟩;clear cN;(go_wp2_with fail);refine cv.mono ?_;rintro e w1 ⟨rfl,j5⟩;have d7:=dH (HB.out.trans (j5.mono HB.out.size));have a9:=((z9.of_below j5).row (zE e3) sI _ _).trans e3;have x2:=(j5.block (ga+1) n2).trans x1;clear cv e3 j5 x1 n2;by_cases d2:V=0
 ·have p4:(V != 0)=false:=by rw[bne_eq_false_iff_eq];exact d2
  have c4:gD X.D hv=0:=HV.out.trans d2;obtain⟨o1,e7,_⟩:=verX_ok c4;have ci:=hd_ident w1 hv A0 c0 (hS.below d7.out) (SlR.below hT d7.out) (by show hv.ps.length<=_;have:hv.ps.length<=100000:=i8;omega) (by show hv.tp.size<=_;have:hv.tp.size<=maxLen:=i7;unfold maxLen at this;omega);rw[o1]at ci;obtain⟨I,hI⟩:=eX (hdI hv)
  rw[hI]at ci;have HI:=dH hI;have m4:=dH d2;have r:=dH c4;have p8:=dH e7;clear hI d2 c4 o1 e7;(go_wp2_with fail);refine ci.mono ?_;rintro e w2 ⟨rfl,j4⟩;have h9:Below w1.heap.size w1 (w2.alloc (.cells (idC I) 31)):=j4.alloc j4.size _;have e4:zA (w2.alloc (.cells (idC I) 31)) w2.heap.size 0 32=some (idC I):=by simp[go_sem]
  obtain⟨Z,hZ⟩:=eR (w2.alloc (.cells (idC I) 31))
  obtain⟨gb,j0⟩:=eX w2.heap.size
  have l0:w1.heap.size<=gb:=by rw[<-j0];exact j4.size
  rw[<-hZ]at h9 e4;rw[j0]at e4;have l8:=dH (d7.out.trans (h9.mono d7.out.size));have c5:=((z9.of_below h9).row (zE a9) sI _ _).trans a9;have x3:=(h9.block (ga+1) (aG x2).1).trans x2;have cH:=dag_has Z g F X.D (a4.out.below l8.out) hX.nd I;obtain⟨t,ht⟩:=eX (decide (I∈qT X.D))
  rw[ht]at cH;have HZ:=dH hZ;have q4:=dH j0;have Ht:=dH ht;have l1:ga+1<w1.heap.size:=(aG x2).1;have p2:ga+1<gb:=oM;clear ci j4 h9 hZ j0 ht a9 x2 l0 l1;(go_wp2_with fail);rw[<-HZ.out,q4.out];refine cH.mono ?_;rintro e w4 ⟨rfl,h8⟩;have c2:=dH (l8.out.trans (h8.mono l8.out.size));have T:=((z9.of_below h8).row (zE c5) sI _ _).trans c5;have b4:=((z9.of_below h8).row (zE e4) sI _ _).trans e4;have x4:=(h8.block (ga+1) (aG x3).1).trans x3;clear cH c5 e4 x3 h8;cases t with
  | true =>
   have m7:=y9 (P:=prog) xU w4 (ga+1) (idC id0) (idC I) _ x4 sI sI (yN _);have a3:=dH (setRow_heap w4 (ga+1) _ (idC I) _ _ x4);have hk:=rM w4 (ga+1) (idC I);have d1:=c2.out.trans (hk.below c2.out.size (oS i4.out));have HF:=dH (And.intro (a4.out.below d1) ((z9.of_below d1).mono (S':=F) sI));clear hk d1 x4 T;(go_wp2_with fail);refine bodyPost_ret (yZ results67 _ _ (ga+1) 31 (idC I) (0,0) _ rfl a3.out underlying31 rfl (by rw[xQ];exact xU)) rfl ?_;refine⟨F,by rw[r.out,if_pos rfl,HI.out];rfl,?_,λy hy=>.inl hy,HF.out.2⟩;rw[show kA X.D hv=X.D from if_neg λhh=>hh.2 (by rw[HI.out];exact of_decide_eq_true Ht.out)];exact HF.out.1
  | false =>
   have b5:hdI hv∉qT X.D:=by rw[HI.out];exact of_decide_eq_false Ht.out
   obtain⟨bh,bp,bt,bc,N,Tm,Cm,g6,hF⟩:=a4.out;have hG:=dH (g6.g'.below c2.out);have p3:=g6.c0 w4 c2.out;obtain⟨n4,l3,j2,j1⟩:=p3;have H:=g6.lt;rw[i4.out]at H;have Lg:g<ga:=H g sI;have Lh:bh<ga:=H bh sI;have Lp:bp<ga:=H bp sI;have Lt:bt<ga:=H bt sI;have Lc:bc<ga:=H bc sI;have m6:I∉N.map (·.1):=λhm=>by
    have e:=(g6.perm.map (·.id)).mem_iff (a:=I);rw[map_map]at e;exact b5 (by rw[HI.out];exact e.1 hm)
   have p5:=dH m6;have m1:=dH H;have hD:((⟨I,hv⟩:HdX) :: X.D).Perm (kA X.D hv):=by rw[addX_new r.out b5,HI.out];exact(r8 _ _).symm
   have HD:=dH hD;have d5:=dH hF;have E:=dH b5;have far:=hG.out.far;obtain⟨a0,f2,f3,f4,f5,f6,f7,f8,f9,o2⟩:=far;clear g6 hF b5 a4 H m6 hD;have k8:ga<w4.heap.size:=zE T;have g7:gb<w4.heap.size:=zE b4;have m2:Hid (w.heap.size<=w4.heap.size):=dH c2.out.size;have cc:=fun (V:World) (hV:Below w4.heap.size w4 V)=>JD V ⟨hv,A0,c0⟩ (SlR.below hT (c2.out.trans (hV.mono c2.out.size))) (by show hv.ps.length<=_;have:hv.ps.length<=100000:=i8;omega) hA;go_upto_region 9 with fail
   refine kX [bh] w4 ?_;intro c8 hS;have b1:=zG n4 (S:=[bh]) (by simpa using f2);have b2:=zY b4 (S:=[bh]) sO;have b3:=zY T (S:=[bh]) sO;refine lQ ?_;intro K hK;refine(cc _ ((Below.refl _ _).drew)).mono ?_;rintro e w5 ⟨A',c',rfl,ho,l5⟩;have h7:Below w4.heap.size w4 w5:=((Below.refl _ _).drew).trans l5;replace hS:=bW hS l5;refine⟨_,rfl,hS,hK _ _ ?_⟩;clear hK K;obtain⟨w6,p0,n0,j6,b9⟩:=hG.out.putH h7 p5.out (x:=⟨hv,A',c'⟩) ho HD.out;refine lH ?_;intro K hK;refine zI (yC hS n0 sI) (λhS=>?_);refine hK _ _ ?_;clear hK K;refine zD ?_;intro hS;have K6:z9 [bh] w4 w6:=hS;have l9:=dH (show z9 F w w6 from z9.trans ((z9.of_below c2.out).mono (S':=F) sI) (K6.mono (S':=F) (λy hy=>.inl (by rw[d5.out,mem_singleton.1 hy];simp))) (λy hy=>.inl hy));have a8:=(K6.row k8 sO _ _).trans T;have c6:=(K6.row g7 sO _ _).trans b4;have x6:=(K6.block (ga+1) oM sO).trans x4;have n6:zX w6 A0 hv.ps.length hv.ps:=SlR.kept hT l9.out n3;have c3:=dH b9;have o8:w4.heap.size<=w6.heap.size:=K6.size;obtain⟨D',l7⟩:=eX (kA X.D hv)
   rw[l7]at j6;obtain⟨N',n7⟩:=eX (N ++ [(I,(⟨hv,A',c'⟩:fZ))])
   rw[n7]at j6 c3;have d6:=dH l7;have q7:=dH j6;clear c8 hS b1 b2 b3 cc p0 n0 j6 b9 ho l5 h7 K6 n7 l7 T b4 x4 n4 l3 j2 j1 hG f2 f3 f4 f5 a0 HD;have q0:w6.cell? ⟨ga,0,none⟩=some (.slice A0 hv.ps.length c0):=by have:=zC a8 (j:=0) oM;rw[Nat.zero_add]at this;rw[this];simp[hdR,hdO,hdC]
   obtain⟨R,hR⟩:=eX hv.ps
   have HR:=dH hR;simp only[hR]at q0 n6 i8;clear hR;go_upto_region 11 with fail
   go_loopw [10,45] (λ_ i wr=>∃k:Nat,k<=R.length/\i=.int .i64 k/\Hid (gQ wr g D' ((R.take k).reverse++V7 X.D) (jC X.D) (vD X.D) bh bp bt bc N' Tm Cm)/\Hid (z9 [bp] w6 wr)) (λ_ i _=>R.length-(intOf i).toNat)
   case atStart=>exact⟨0,zL,rfl,q7,dH (z9.refl _ _)⟩
   case round =>
    obtain⟨k,hk,rfl,hg,i9⟩:=hrel;by_cases H:k<R.length
    ·have n5:zX wr A0 R.length R:=SlR.kept n6 i9.out (λy hy=>by
      have h1:=n3 y hy;simp only[mem_singleton];intro e;exact h1 (by rw[d5.out,e];simp))
     obtain⟨q,o,rfl,hr⟩:=zX.get n5 H H;have k1:(R.take (k+1)).reverse++V7 X.D=R[k] :: ((R.take k).reverse++V7 X.D):=by rw[take_succ_eq_append_getElem H,reverse_append];rfl
     obtain⟨p,hp⟩:=eX (R[k]'H)
     rw[hp]at hr k1;have j7:Below wr.heap.size wr (wr.alloc (.cells (idC p) 31)):=bA;have k2:zA (wr.alloc (.cells (idC p) 31)) wr.heap.size 0 32=some (idC p):=by simp[go_sem]
     have h0:=hg.out.below j7;have l4:=hg.out.far.2.2.2.2.2.2.2.1;obtain⟨Y,hY⟩:=eR (wr.alloc (.cells (idC p) 31))
     obtain⟨gp,k7⟩:=eX wr.heap.size
     rw[<-hY]at k2 h0 j7;rw[k7]at k2;have l3:Y.cell? ⟨g,1,none⟩=some (.map (some bp)):=by rw[cell_of_row Y g 1 _ _ _ h0.heap];rfl
     have k9:g∉[bp]:=by simpa using h0.far.2.2.1
     have k6:gp∉[bp]:=sO;obtain⟨w7,o9,k5,o0⟩:=(h0.below ((Below.refl _ _).drew)).putP p;have HY:=dH hY;have q3:=dH k7;have p6:=dH k1;have q5:=dH o0;have q1:=dH (z9.trans i9.out (z9.trans ((z9.of_below j7).mono (S':=[bp]) sI) (z9.trans ((z9.drew Y).mono (S':=[bp]) sI) k5 (λy hy=>.inl hy)) (λy hy=>.inl hy)) (λy hy=>.inl hy));clear hp k1 j7 h0 l4 hY k7 o0 n5;go_upto_region 13 with fail
     rw[<-HY.out,q3.out];refine kX [bp] Y ?_;intro c8 hS;have b1:=zG l3 k9;have b2:=zY k2 k6;refine lQ ?_;intro K hK;refine zI (yC hS k5 sI) (λhS=>?_);refine hK _ _ ?_;clear hK K;refine zD ?_;intro hS;clear c8 hS b1 b2 o9 k5;(go_wp2_with fail);go_roundw
     case rel=>exact⟨k+1,oM,by go_num,dH (by rw[p6.out];exact q5.out),q1⟩
     case measure=>exact sZ
    ·have m9:R.take k=R:=take_of_length_le oM;have i6:Hid (gQ wr g D' (R.reverse++V7 X.D) (jC X.D) (vD X.D) bh bp bt bc N' Tm Cm):=dH (by rw[<-m9];exact hg.out);have Kr:=i9.out;have a7:=(Kr.row (zE a8) sO _ _).trans a8;have b0:=(Kr.row (zE c6) sO _ _).trans c6;have xr:=(Kr.block (ga+1) (aG x6).1 sO).trans x6;have far:=i6.out.far;obtain⟨a0,f2,f3,f4,f5,f6,f7,f8,f9,o2⟩:=far;have j2:wr.cell? ⟨g,2,none⟩=some (.map (some bt)):=by rw[cell_of_row wr g 2 _ _ _ i6.out.heap];rfl
     have q2:wr.cell? ⟨ga,2,none⟩=some (.string hv.tp):=by have:=zC a7 (j:=2) oM;rw[Nat.zero_add]at this;rw[this];simp[hdR,hdO,hdC]
     obtain⟨⟨As,ns,cs⟩,e9,c7,e0,O⟩:=i6.out.tm.getK dM underlying99 i7;have p1:∀y∈slF Tm,y<ga:=λy hy=>m1.out y (by simp[hy]);have b6:∀y∈blk As,y<ga:=λy hy=>p1 y (O y hy);have h5:bt∉blk As:=λhm=>(a0 bt (by simp[O bt hm])).2.2.2.1 rfl;have h4:g∉blk As:=λhm=>(a0 g (by simp[O g hm])).1 rfl;have J:ga∉blk As:=λhm=>(oH (b6 ga hm));have B:gb∉blk As:=λhm=>(oH (b6 gb hm));have k4:∀y:Subtype (Kp (blk As) wr),(Instr.lookup 99 (.map (some bt)) (.string hv.tp) false).run prog y.1=.ok (.slice As ns cs) y.1:=λy=>e9 y.1 _ y.2 h5;obtain⟨t1,t2⟩:=tps_add hX r.out E.out hv.tp;rw[if_pos rfl,HI.out]at t2;rw[d6.out]at t1 t2;have s:(jC X.D hv.tp).length=ns:=by simpa using c7.len
     have U:ns<=100000:=by rw[<-s];exact Nat.le_trans (by unfold jC;simpa using length_filter_le _ X.D) (Nat.le_trans hX.len hn)
     obtain⟨a1,a2,_⟩:=rJ hX r.out;rw[d6.out]at a1;have i0:I∉jC X.D hv.tp:=λhm=>E.out (by rw[HI.out];exact(YW hv.tp).subset hm);have cp:=dag_put wr.drew g D' (YI.below ⟨bh,bp,bt,bc,N',i6.out.toH⟩ ((Below.refl _ _).drew)) a1 ⟨As,ns,cs⟩ (jC X.D hv.tp) (c7.below ((Below.refl _ _).drew)) U I t1 i0;unfold slV at cp;have p9:=dH a1;have p7:=dH e0;have o5:=dH Kr;have q8:=dH t2;clear e9 c7 t1 t2 s a1 a2 i0 hg i9 m9 q0 a8 c6 x6 Kr e0;go_upto_region 15 with fail
     refine kF (blk As) wr ?_;intro c8 hS;have b1:=zG j2 (S:=blk As) h4;have b2:=zG q2 (S:=blk As) J;have b3:=zY b0 (S:=blk As) B;refine lQ ?_;intro K hK;refine cp.mono ?_;rintro e w9 ⟨⟨A9,n9,c9⟩,rfl,k3,e8,f0,e1⟩;have f:z9 (blk As) wr w9:=z9.trans ((z9.drew wr).mono (S':=blk As) sI) f0 (λy hy=>.inl hy);replace hS:=f;refine⟨_,rfl,hS,hK _ _ ?_⟩;clear hK K;obtain⟨a6,d8,e6,g0,b7,M⟩:=i6.out.putT i7 p7.out f e8 e1;unfold slV at e6;refine lZ ?_;refine j3 ?_ ?_;(focus(simp only[yO];done));intro K hK;go_simp;refine hK _ _ ?_;clear hK K;have i3:z9 (bt :: blk As) wr a6:=z9.trans (f.mono (S':=bt :: blk As) (λy hy=>.inl (mem_cons_of_mem _ hy))) (g0.mono (S':=bt :: blk As) sI) (λy hy=>.inl hy);have b8:∀y,y≠bt->y∉blk As->y∉bt :: blk As:=λy h1 h2 h3=>(mem_cons.1 h3).elim h1 h2;have g9:=b8 ga oM J;have g8:=b8 gb oM B;have c1:=(i3.row (zE a7) g9 _ _).trans a7;have G:=(i3.row (zE b0) g8 _ _).trans b0;have k0:=(i3.block (ga+1) (aG xr).1 (b8 (ga+1) oM λhm=>oH (b6 _ hm))).trans xr;have far:=b7.far;obtain⟨g1,g2,g3,g4,g5,_,_,_,_,_⟩:=far;have j1:a6.cell? ⟨g,3,none⟩=some (.map (some bc)):=by rw[cell_of_row a6 g 3 _ _ _ b7.heap];rfl
     have q6:zA a6 ga 6 32=some (idC hv.cm):=by have:=yF c1 (j:=6) (m:=32) oM;rw[Nat.zero_add]at this;rw[this];exact congrArg some (J4 _)
     have o3:∀y∈bt :: blk As,y∈F:=λy hy=>by
      rw[d5.out];rcases mem_cons.1 hy with e | e
      ·rw[e];simp
      ·simp[O y e]
     have i5:=dH i3;have m5:=dH o3;have d4:=dH b7;have d3:=dH M;clear c8 hS b1 b2 b3 e6 g0 b7 M k3 e8 f0 e1 f i3 o3 k4 a7 b0 xr j2 q2 O b6 J B g9 g8 b8 h5 h4 a0 f2 f3 f4 f5 f6 f7 f8 f9 o2 U;obtain⟨⟨Ac,nc,cc⟩,e9,c7,e0,O⟩:=d4.out.cm.getK jA underlying100 (k:=hv.cm) trivial;have b6:∀y∈blk Ac,y<ga:=λy hy=>m1.out y (by simp[O y hy]);have h6:bc∉blk Ac:=λhm=>(g1 bc (by simp[O bc hm])).2.2.2.2.1 rfl;have h4:g∉blk Ac:=λhm=>(g1 g (by simp[O g hm])).1 rfl;have J:ga∉blk Ac:=λhm=>(oH (b6 ga hm));have B:gb∉blk Ac:=λhm=>(oH (b6 gb hm));have k4:∀y:Subtype (Kp (blk Ac) a6),(Instr.lookup 100 (.map (some bc)) (.agg (idC hv.cm)) false).run prog y.1=.ok (.slice Ac nc cc) y.1:=λy=>e9 y.1 _ y.2 h6;obtain⟨t1,t2⟩:=cms_add hX r.out E.out hv.cm;rw[if_pos rfl,HI.out]at t2;rw[d6.out]at t1 t2;have s:(vD X.D hv.cm).length=nc:=by simpa using c7.len
     have U:nc<=100000:=by rw[<-s];exact Nat.le_trans (by unfold vD;simpa using length_filter_le _ X.D) (Nat.le_trans hX.len hn)
     have i0:I∉vD X.D hv.cm:=λhm=>E.out (by rw[HI.out];exact(yo hv.cm).subset hm);have cp:=dag_put a6.drew g D' (YI.below ⟨bh,bp,bt,bc,N',d4.out.toH⟩ ((Below.refl _ _).drew)) p9.out ⟨Ac,nc,cc⟩ (vD X.D hv.cm) (c7.below ((Below.refl _ _).drew)) U I t1 i0;unfold slV at cp;have m0:=dH e0;have q9:=dH t2;clear e9 c7 t1 t2 s i0 e0;go_upto_region 16 with fail
     refine kF (blk Ac) a6 ?_;intro c8 hS;have b1:=zG j1 (S:=blk Ac) h4;have b2:=zY q6 (S:=blk Ac) J;have b3:=zY G (S:=blk Ac) B;refine lQ ?_;intro K hK;refine cp.mono ?_;rintro e o7 ⟨⟨A9,n9,c9⟩,rfl,k3,e8,f0,e1⟩;have f:z9 (blk Ac) a6 o7:=z9.trans ((z9.drew a6).mono (S':=blk Ac) sI) f0 (λy hy=>.inl hy);replace hS:=f;refine⟨_,rfl,hS,hK _ _ ?_⟩;clear hK K;obtain⟨a5,d9,e5,f1,i1,L⟩:=d4.out.putC m0.out f e8 e1;unfold slV at e5;refine lZ ?_;refine j3 ?_ ?_;(focus(simp only[yO];done));intro K hK;go_simp;refine hK _ _ ?_;clear hK K;have j8:z9 (bc :: blk Ac) a6 a5:=z9.trans (f.mono (S':=bc :: blk Ac) (λy hy=>.inl (mem_cons_of_mem _ hy))) (f1.mono (S':=bc :: blk Ac) sI) (λy hy=>.inl hy);have b8:∀y,y≠bc->y∉blk Ac->y∉bc :: blk Ac:=λy h1 h2 h3=>(mem_cons.1 h3).elim h1 h2;have m8:=(j8.row (zE G) (b8 gb oM B) _ _).trans G;have j9:=(j8.block (ga+1) (aG k0).1 (b8 (ga+1) oM λhm=>oH (b6 _ hm))).trans k0;have o4:∀y∈bc :: blk Ac,y∈F\/w.heap.size<=y:=λy hy=>by
      rcases mem_cons.1 hy with e | e
      ·left;rw[d5.out,e];simp
      ·left;rw[d5.out];simp[O y e]
     have n1:∀y,w4.heap.size<=y->w.heap.size<=y:=λy hy=>Nat.le_trans m2.out hy;have z6:=l9.out.size;have zr:=o5.out.size;have o6:=i5.out.size;have KA:z9 F w a5:=z9.trans (z9.trans (z9.trans l9.out (o5.out.mono (S':=F) (λy hy=>.inl (by rw[d5.out,mem_singleton.1 hy];simp))) (λy hy=>.inl hy)) (i5.out.mono (S':=F) (λy hy=>.inl (m5.out y hy))) (λy hy=>.inl hy)) j8 o4;have m7:=y9 (P:=prog) xU a5 (ga+1) (idC id0) (idC I) _ j9 sI sI (yN _);have a3:=dH (setRow_heap a5 (ga+1) _ (idC I) _ _ j9);have d0:=rM a5 (ga+1) (idC I);have n8:fJ a5 g D' bh bp bt bc N' d8 d9:=i1.toIn
      (λz=>by
       have h1:=par_add (X:=X) r.out E.out z;rw[d6.out]at h1;rw[h1,mem_append,mem_reverse,HR.out];exact Or.comm)
      (λt=>by
       have h1:=(tps_add hX r.out E.out t).2;rw[d6.out,HI.out]at h1;rw[h1];by_cases e:t=hv.tp
       ·rw[if_pos e.symm,if_pos e,e]
       ·rw[if_neg (λe2=>e e2.symm),if_neg e])
      (λt=>by
       have h1:=(cms_add hX r.out E.out t).2;rw[d6.out,HI.out]at h1;rw[h1];by_cases e:t=hv.cm
       ·rw[if_pos e.symm,if_pos e,e]
       ·rw[if_neg (λe2=>e e2.symm),if_neg e])
     have l6:∀y∈g :: bh :: bp :: bt :: bc :: (psF N'++slF d8++slF d9),(y∈F/\y<ga)\/w4.heap.size<=y:=λy hy=>by
      have d:y∈g :: bh :: bp :: bt :: bc :: (psF N++slF Tm++slF Cm)->(y∈F/\y<ga)\/w4.heap.size<=y:=λh=>.inl ⟨by rw[d5.out];exact h,m1.out y h⟩;simp only[mem_cons,mem_append]at hy d;rcases hy with e | e | e | e | e | (e | e) | e
      ·exact d (by simp[e])
      ·exact d (by simp[e])
      ·exact d (by simp[e])
      ·exact d (by simp[e])
      ·exact d (by simp[e])
      ·rcases c3.out y e with e | e
       ·exact d (by simp[e])
       ·exact .inr e
      ·rcases d3.out y e with e | e
       ·exact d (by simp[e])
       ·exact .inr oM
      ·rcases L y e with e | e
       ·exact d (by simp[e])
       ·exact .inr oM
     have i2:kC (a5.setRow (ga+1) (idC I)) g (g :: bh :: bp :: bt :: bc :: (psF N'++slF d8++slF d9)) D':=kC.kept ⟨bh,bp,bt,bc,N',d8,d9,n8,rfl⟩ d0 (λy hy=>by
      simp only[mem_singleton];rcases l6 y hy with⟨_,h1⟩ | h1 <;> omega)
     have KZ:z9 F w (a5.setRow (ga+1) (idC I)):=z9.trans KA d0 (λy hy=>.inr (by rw[mem_singleton.1 hy,i4.out];omega));have m3:=dH (And.intro i2 (And.intro (λy hy=>(l6 y hy).imp And.left (n1 y)) KZ):kC (a5.setRow (ga+1) (idC I)) g (g :: bh :: bp :: bt :: bc :: (psF N'++slF d8++slF d9)) D'/\(∀y∈g :: bh :: bp :: bt :: bc :: (psF N'++slF d8++slF d9),y∈F\/w.heap.size<=y)/\z9 F w (a5.setRow (ga+1) (idC I)));clear c8 hS b1 b2 b3 e5 f1 i1 L k3 e8 f0 e1 f j8 KA KZ i2 l6 n8 d0 o4 b8 k4 j1 q6 O b6 J B h6 h4 g1 g2 g3 g4 g5 U j9 G c1 k0 n1 z6 zr o6;(go_wp2_with fail);refine bodyPost_ret (yZ results67 _ _ (ga+1) 31 (idC I) (0,0) _ rfl a3.out underlying31 rfl (by rw[xQ];exact xU)) rfl ?_;refine⟨_,by rw[r.out,if_pos rfl,HI.out];rfl,?_,m3.out.2.1,m3.out.2.2⟩;rw[d6.out];exact m3.out.1
 ·have p4:(V != 0)=true:=by rw[bne_iff_ne];exact d2
  have m4:=dH d2;have m7:=y9 (P:=prog) xU w1 (ga+1) (idC id0) (idC id0) _ x2 sI sI (yN _);have a3:=dH (setRow_heap w1 (ga+1) _ (idC id0) _ _ x2);have hk:=rM w1 (ga+1) (idC id0);have d1:=d7.out.trans (hk.below d7.out.size (oS i4.out));have HF:=dH (And.intro (a4.out.below d1) ((z9.of_below d1).mono (S':=F) sI));clear hk d1 x2 a9 d2;(go_wp2_with fail);refine bodyPost_ret (yZ results67 _ _ (ga+1) 31 (idC id0) (0,0) _ rfl a3.out underlying31 rfl (by rw[xQ];exact xU)) rfl ?_;refine⟨F,by rw[HV.out,if_neg m4.out];rfl,?_,λy hy=>.inl hy,HF.out.2⟩;rw[show kA X.D hv=X.D from if_neg λhh=>m4.out (HV.out.symm.trans hh.1)];exact HF.out.1
section
def vB(L:List (List Nat)):Prop:=L.Pairwise λa b=>∀x∈a,x∉b
theorem vB.set{a':List Nat}(h:vB (L1++a :: L2))(hl:∀b∈L1++L2,∀x∈b,x<n)(ha:∀x∈a',x∈a\/n<=x):vB (L1++a' :: L2):=by
 unfold vB at h |-;rw[pairwise_append,pairwise_cons]at h |-;obtain⟨h1,⟨h2,h3⟩,h4⟩:=h;refine⟨h1,⟨λb hb x hx d=>?_,h3⟩,λc hc b hb=>?_⟩
 ·rcases ha x hx with e | e
  ·exact h2 b hb x e d
  ·have:=hl b (mem_append_right _ hb) x d;omega
 ·rcases mem_cons.1 hb with rfl | hb
  ·intro x hx d;rcases ha x d with e | e
   ·exact h4 c hc a sI x hx e
   ·have:=hl c (mem_append_left _ hc) x hx;omega
  ·exact h4 c hc b (by simp[hb])
theorem vB.ne(h:vB (L1++a :: L2)):∀b∈L1++L2,∀x∈b,x∉a:=by
 unfold vB at h;rw[pairwise_append,pairwise_cons]at h;obtain⟨_,⟨h2,_⟩,h4⟩:=h;intro b hb x hx d;rcases mem_append.1 hb with hb | hb
 ·exact h4 b hb a sI x hx d
 ·exact h2 b hb x d hx
structure VwP where
 g:Nat
 b:Nat
 O:List Nat
 v:Value
def vwF(p:VwX×VwP):List Nat:=p.2.g :: p.2.b :: p.2.O
structure YT(w:World)(M:List Nat)(p:VwX×VwP):Prop where
 view:yU w p.2.g p.1.t p.2.b p.1.I p.2.v
 st:kQ w p.2.O M p.2.v p.1.s
 gO:p.2.g∉p.2.b :: p.2.O
 bO:p.2.b∉p.2.O
 lt:∀x∈vwF p,x<w.heap.size
 t:bU p.1.t
abbrev stC(gd gs bo bv:Nat):Array Value:=#[.pointer (some ⟨gd,0,none⟩),.pointer (some ⟨gs,0,none⟩),.map (some bo),.map (some bv)]
def vW(g bo bv:Nat)(Fd Fs:List Nat)(N:List (VwX×VwP)):List (List Nat):=[g] :: [bo] :: [bv] :: Fd :: Fs :: N.map vwF
structure fU(w:World)(g gd gs bo bv:Nat)(Fd Fs M:List Nat)(N:List (VwX×VwP))(X:StX):Prop where
 heap:w.heap[g]?=some (.cells (stC gd gs bo bv) 69 (0,0))
 dag:kC w gd Fd X.D
 sto:v4 w gs Fs X.q X.S
 own:jS w bo X.O
 vs:∃R es clk,yL w bv Value.string fD bU R es clk/\R.Perm (N.map λp=>(p.1.t,p.2.g))
 vw:∀p∈N,YT w M p
 vx:N.map (·.1)=X.V
 dis:vB (vW g bo bv Fd Fs N)
def dW(F:List Nat):Prop:=1∉F/\0∉F/\2∉F
def yX(w:World)(g:Nat)(F M:List Nat)(X:StX):Prop :=
 ∃gd gs bo bv Fd Fs N,fU w g gd gs bo bv Fd Fs M N X/\F=(vW g bo bv Fd Fs N).flatten/\(∀x∈F,x∈M)/\(∀x∈M,x<w.heap.size)/\dW F
structure gP(w:World):Prop where
 parts:qH w
 sha:xY w
theorem gP.kept{w w':World}{S:List Nat}(h:gP w)(k:z9 S w w')(hS:dW S):gP w':=⟨h.parts.kept k hS.1,h.sha.kept k hS.2.1 hS.2.2⟩
theorem gP.below{w w':World}(h:gP w)(k:Below w.heap.size w w'):gP w':=⟨h.parts.below k,h.sha.below k⟩
theorem gP.lt{w:World}(h:gP w){n:Nat}(hn:w.heap.size<=n):n≠1/\n≠0/\n≠2:=by
 have:=h.parts.lt;have:=h.sha.ltF;have:=h.sha.ltK;exact⟨oM,oM,oM⟩
theorem dW.more(h:gP w){F':List Nat}(hF:dW F)(hs:∀y∈F',y∈F\/w.heap.size<=y):dW F':=by
 refine⟨λhx=>?_,λhx=>?_,λhx=>?_⟩
 ·rcases hs _ hx with e | e
  ·exact hF.1 e
  ·exact(h.lt e).1 rfl
 ·rcases hs _ hx with e | e
  ·exact hF.2.1 e
  ·exact(h.lt e).2.1 rfl
 ·rcases hs _ hx with e | e
  ·exact hF.2.2 e
  ·exact(h.lt e).2.2 rfl
section
variable {w w':World} {g gd gs bo bv:Nat} {F Fd Fs M S:List Nat} {N:List (VwX×VwP)} {X:StX}
theorem bP{x:Nat}:x∈(vW g bo bv Fd Fs N).flatten↔x=g\/x=bo\/x=bv\/x∈Fd\/x∈Fs\/∃p∈N,x∈vwF p:=by
 unfold vW;rw[mem_flatten];constructor
 ·rintro⟨l,hl,hx⟩;simp only[mem_cons,mem_map]at hl;rcases hl with rfl | rfl | rfl | rfl | rfl | ⟨p,hp,rfl⟩
  ·exact .inl (mem_singleton.1 hx)
  ·exact .inr (.inl (mem_singleton.1 hx))
  ·exact .inr (.inr (.inl (mem_singleton.1 hx)))
  ·exact .inr (.inr (.inr (.inl hx)))
  ·exact .inr (.inr (.inr (.inr (.inl hx))))
  ·exact .inr (.inr (.inr (.inr (.inr ⟨p,hp,hx⟩))))
 ·rintro(rfl | rfl | rfl | hx | hx | ⟨p,hp,hx⟩)
  ·exact⟨[x],sI,sI⟩
  ·exact⟨[x],sI,sI⟩
  ·exact⟨[x],sI,sI⟩
  ·exact⟨Fd,sI,hx⟩
  ·exact⟨Fs,sI,hx⟩
  ·exact⟨vwF p,by simp only[mem_cons,mem_map];exact .inr (.inr (.inr (.inr (.inr ⟨p,hp,rfl⟩)))),hx⟩
theorem YT.kept{p:VwX×VwP}(h:YT w M p)(k:z9 S w w')(hS:∀x∈vwF p,x∉S)(hM:∀x∈S,x∈M\/w.heap.size<=x):YT w' M p :=
 ⟨h.view.kept k (hS _ (by simp[vwF])) (hS _ (by simp[vwF])),h.st.kept k (λx hx=>hS x (by simp[vwF,hx])) hM,h.gO,h.bO,λx hx=>Nat.lt_of_lt_of_le (h.lt x hx) k.size,h.t⟩
theorem kQ.moreM{w:World}{O M M':List Nat}{v:Value}{s:VSt}(h:kQ w O M v s)(hs:∀x∈M,x∈M')(hn:∀x∈M',x∈M\/w.heap.size<=x):kQ w O M' v s:=by
 cases s with
 | s N G =>
  obtain⟨g,bn,bb,bg,e,h1,rfl⟩:=h;exact⟨g,bn,bb,bg,e,h1.moreM hs hn,rfl⟩
 | _=>exact h
theorem YT.moreM{M':List Nat}{p:VwX×VwP}(h:YT w M p)(hs:∀x∈M,x∈M')(hn:∀x∈M',x∈M\/w.heap.size<=x):YT w M' p:=⟨h.view,h.st.moreM hs hn,h.gO,h.bO,h.lt,h.t⟩
theorem fU.moreM{M':List Nat}(h:fU w g gd gs bo bv Fd Fs M N X)(hs:∀x∈M,x∈M')(hn:∀x∈M',x∈M\/w.heap.size<=x):fU w g gd gs bo bv Fd Fs M' N X:=⟨h.heap,h.dag,h.sto,h.own,h.vs,λp hp=>(h.vw p hp).moreM hs hn,h.vx,h.dis⟩
theorem fU.kept(h:fU w g gd gs bo bv Fd Fs M N X)(k:z9 S w w')(hF:∀x∈(vW g bo bv Fd Fs N).flatten,x∉S)(hM:∀x∈S,x∈M\/w.heap.size<=x):fU w' g gd gs bo bv Fd Fs M N X:=by
 obtain⟨R,es,d,hm,hp⟩:=h.vs;have hF:=λx=>λhx=>hF x (bP.2 hx);exact⟨(k.block g (aG h.heap).1 (hF g (.inl rfl))).trans h.heap,h.dag.kept k λx hx=>hF x (by simp[hx]),h.sto.kept k λx hx=>hF x (by simp[hx]),h.own.kept k (hF bo sI),
  ⟨R,es,d,hm.kept k (hF bv sI),hp⟩,λp hp=>(h.vw p hp).kept k (λx hx=>hF x (.inr (.inr (.inr (.inr (.inr ⟨p,hp,hx⟩)))))) hM,h.vx,h.dis⟩
theorem fU.lt(h:fU w g gd gs bo bv Fd Fs M N X):∀b∈vW g bo bv Fd Fs N,∀x∈b,x<w.heap.size:=by
 obtain⟨R,es,d,hm,hp⟩:=h.vs;intro b hb x hx;have hx:x∈(vW g bo bv Fd Fs N).flatten:=mem_flatten.2 ⟨b,hb,hx⟩;rcases bP.1 hx with e | e | e | e | e | ⟨p,hp,e⟩
 ·rw[e];exact(aG h.heap).1
 ·rw[e];exact h.own.lt
 ·rw[e];exact hm.lt
 ·exact h.dag.lt x e
 ·exact h.sto.lt x e
 ·exact(h.vw p hp).lt x e
theorem yX.kept(h:yX w g F M X)(k:z9 S w w')(hF:∀x∈F,x∉S)(hM:∀x∈S,x∈M\/w.heap.size<=x):yX w' g F M X:=by
 obtain⟨gd,gs,bo,bv,Fd,Fs,N,h,rfl,h2,h3,hv⟩:=h;exact⟨gd,gs,bo,bv,Fd,Fs,N,h.kept k hF hM,rfl,h2,λx hx=>Nat.lt_of_lt_of_le (h3 x hx) k.size,hv⟩
theorem yX.below(h:yX w g F M X)(k:Below w.heap.size w w'):yX w' g F M X:=h.kept (z9.of_below k) sI sI
theorem yX.lt(h:yX w g F M X):∀x∈F,x<w.heap.size:=by
 obtain⟨gd,gs,bo,bv,Fd,Fs,N,h,rfl,h2,h3,hv⟩:=h;exact λx hx=>h3 x (h2 x hx)
theorem yX.ltM(h:yX w g F M X):∀x∈M,x<w.heap.size:=by
 obtain⟨gd,gs,bo,bv,Fd,Fs,N,h,rfl,h2,h3,hv⟩:=h;exact h3
theorem yX.no(h:yX w g F M X):dW F:=by
 obtain⟨gd,gs,bo,bv,Fd,Fs,N,h,rfl,h2,h3,hv⟩:=h;exact hv
end
end
structure VwNew(w':World)(g:Nat)(t:ByteArray)(b:Nat)(O:List Nat)(v:Value)(s:VSt):Prop where
 view:yU w' g t b [] v
 st:∀M,(∀x∈O,x∈M)->kQ w' O M v s
 gO:g∉b :: O
 bO:b∉O
 lt:∀x∈b :: O,x<w'.heap.size
theorem nR{w2 w3:World}{b:Nat}{v:Value}{s:VSt}(hv:yU w' g t b [] v)(hs:∀M,(∀x∈O,x∈M)->kQ w3 O M v s)(hO:∀x∈O,w2.heap.size<=x/\x<w3.heap.size)(hb:Below w3.heap.size w3 w')(hg:g=w3.heap.size)(d:b<w2.heap.size):VwNew w' g t b O v s:=by
 refine⟨hv,λM hM=>(hs M hM).below hb,?_,?_,?_⟩
 ·intro hx;rcases mem_cons.1 hx with h | h
  ·exact hv.ne h
  ·have:=(hO _ h).2;omega
 ·intro h;have:=(hO _ h).1;omega
 ·intro x hx;rcases mem_cons.1 hx with h | h
  ·rw[h];exact hv.ids.lt
  ·have:=(hO _ h).2;have:=hb.size;omega
theorem vnew_m(t:ByteArray)(w:World)(ht:t.size<=9223372036854775807)(B:yH t≠0) :
  Calls prog 38 #[.string t] w λe w'=>∃g b O v,e=.returned (.tuple #[.pointer (some ⟨g,0,none⟩),.int .i64 0])/\VwNew w' g t b O v (VSt.new (yH t))/\(∀x∈g :: b :: O,w.heap.size<=x)/\Below w.heap.size w w':=by
 rcases fG t with h | h | h | h | h | h
 ·exact absurd h B
 ·have hf:∀w,Calls prog 85 #[.int .i64 1] w λe w'=>∃gs,e=.returned (.iface 140 (.pointer (some ⟨gs,0,none⟩)))/\(xG w' gs 0/\w.heap.size<=gs)/\Below w.heap.size w w':=λw=>(xf w).mono λe w' ⟨h1,h2,h3⟩=>⟨_,h1,⟨h2,lR⟩,h3⟩;refine(JY t w ht 1 h oM _ _ hf).mono ?_;rintro e w' ⟨g,b,gs,w2,w3,rfl,hv,⟨hz,A⟩,d,f,hg,y,j,hB⟩;have r:=d.size;refine⟨g,b,[gs],.iface 140 (.pointer (some ⟨gs,0,none⟩)),rfl,?_,λx hx=>by simp at hx;omega,hB⟩;rw[h];refine nR (s:=.t 0) (w2:=w2) hv (λ_ _=>⟨gs,rfl,hz,rfl⟩) (λx hx=>?_) f hg j;obtain rfl:x=gs:=by simpa using hx
  exact⟨A,hz.lt⟩
 ·refine(JY t w ht 2 h oM _ _ xl).mono ?_;rintro e w' ⟨g,b,gs,w2,w3,rfl,hv,⟨bl,bg,hz,z1,z2,z3⟩,d,f,hg,y,j,hB⟩;have r:=d.size;refine⟨g,b,[gs,bl,bg],.iface 141 (.pointer (some ⟨gs,0,none⟩)),rfl,?_,λx hx=>by simp at hx;omega,hB⟩;rw[h];refine nR (s:=.b [] []) (w2:=w2) hv (λ_ _=>⟨gs,bl,bg,rfl,hz,rfl⟩) (λx hx=>?_) f hg j;have h1:=hz.lt.1;have h2:=hz.live.lt;have h3:=hz.gone.lt;simp at hx;rcases hx with rfl | rfl | rfl <;> omega
 ·refine(JY t w ht 3 h oM _ _ xj).mono ?_;rintro e w' ⟨g,b,gs,w2,w3,rfl,hv,⟨bl,hz,z1,z2⟩,d,f,hg,y,j,hB⟩;have r:=d.size;refine⟨g,b,[gs,bl],.iface 143 (.pointer (some ⟨gs,0,none⟩)),rfl,?_,λx hx=>by simp at hx;omega,hB⟩;rw[h];refine nR (s:=.l []) (w2:=w2) hv (λ_ _=>⟨gs,bl,rfl,hz,rfl⟩) (λx hx=>?_) f hg j;have h1:=hz.lt;simp at hx;rcases hx with rfl | rfl <;> omega
 ·refine(JY t w ht 4 h oM _ _ xh).mono ?_;rintro e w' ⟨g,b,gs,w2,w3,rfl,hv,⟨bl,bg,hz,z1,z2,z3⟩,d,f,hg,y,j,hB⟩;have r:=d.size;refine⟨g,b,[gs,bl,bg],.iface 144 (.pointer (some ⟨gs,0,none⟩)),rfl,?_,λx hx=>by simp at hx;omega,hB⟩;rw[h];refine nR (s:=.m [] []) (w2:=w2) hv (λ_ _=>⟨gs,bl,bg,rfl,hz,rfl⟩) (λx hx=>?_) f hg j;have h1:=hz.lt.1;have h2:=hz.live.lt;have h3:=hz.over.lt;simp at hx;rcases hx with rfl | rfl | rfl <;> omega
 ·refine(JY t w ht 5 h oM _ _ xg).mono ?_;rintro e w' ⟨g,b,gs,w2,w3,rfl,hv,⟨bn,bb,bg,hz,z1,z2,z3,z4⟩,d,f,hg,y,j,hB⟩;have r:=d.size;have k:=hz [bn,bb,bg] sI sI sI;refine⟨g,b,[gs,bn,bb,bg],.iface 145 (.pointer (some ⟨gs,0,none⟩)),rfl,?_,λx hx=>by simp at hx;omega,hB⟩;rw[h];refine nR (s:=.s [] []) (w2:=w2) hv (λM hM=>⟨gs,bn,bb,bg,rfl,hz M (hM _ sI) (hM _ sI) (hM _ sI),rfl⟩) (λx hx=>?_) f hg j;have h1:=k.ltg;obtain⟨_,_,hn⟩:=k.nodes;obtain⟨_,_,_,D,_⟩:=k.behind;have h4:=k.gone.lt;have h2:=hn.lt;have h3:=D.lt;simp at hx;rcases hx with rfl | rfl | rfl | rfl <;> omega
theorem vw_fold(m:j9)(w:World)(M:List Nat)(p:VwX×VwP)(h:YT w M p)(hs:∀x∈vwF p,x∈M)(hM:∀x∈M,x<w.heap.size)(hv:qH w)(L:1∉vwF p)(hb:m.body.size<=9223372036854775807)(hk:yH p.1.t=p.1.s.kind)(hl:p.1.s.len<=1000) :
  Calls prog 118 #[.pointer (some ⟨p.2.g,0,none⟩),.agg (y8 m)] w λe w'=>(∃b,e=.returned (.bool b))/\YT w' M (t9 m p.1,p.2)/\z9 (vwF p) w w':=by
 obtain⟨⟨t,I,s⟩,⟨g,b,O,v⟩⟩:=p;obtain⟨r,B,gO,bO,lt,tO⟩:=h;have bO:b∉O:=bO;have gO:g∉b :: O:=gO;by_cases hm:m.id∈I
 ·rw[show t9 m ⟨t,I,s⟩=⟨t,I,s⟩ from if_pos hm];refine(vfold_old m w g t b I v r hm).mono ?_;rintro e w' ⟨rfl,k⟩;exact⟨⟨_,rfl⟩,⟨r.below k,B.below k,gO,bO,λx hx=>Nat.lt_of_lt_of_le (lt x hx) k.size,tO⟩,(z9.of_below k).mono sI⟩
 rw[show t9 m ⟨t,I,s⟩=⟨t,m.id :: I,mA t m s⟩ from if_neg hm];have J:g∉O:=λhx=>gO (mem_cons_of_mem _ hx);have G:∀x∈O,x∉[b]:=λx hx H=>bO (by have:x=b:=by simpa using H
                                                                                                                                           rwa [<-this])
 have F:∀x∈[b],x∈M\/w.heap.size<=x:=λx hx=>.inl (hs x (by rw[mem_singleton.1 hx];simp[vwF]));have tl:t.size<=9223372036854775807:=by have:t.size<=maxLen:=tO;unfold maxLen at this;omega
 refine(vfold_new m w g t b I v r hm hv (λe=>L (by simp[vwF,e])) hb tl (λw'=>YT w' M (⟨t,m.id :: I,mA t m s⟩,⟨g,b,O,v⟩)/\z9 (vwF (⟨t,I,s⟩,⟨g,b,O,v⟩)) w w') ?_ ?_).mono ?_
 ·intro hf w' f d;have e:mA t m s=s:=if_neg hf;rw[e];exact⟨⟨f,B.kept d G F,gO,bO,λx hx=>Nat.lt_of_lt_of_le (lt x hx) d.size,tO⟩,d.mono (S':=vwF (⟨t,I,s⟩,⟨g,b,O,v⟩)) (by simp[vwF])⟩
 ·intro hf w1 A c f d N D;have e:mA t m s=doS m (opO m.body.data.toList) s:=if_pos hf;rw[e];have j:=opO_ok _ hf.1;have y:kQ w1 O M v s:=B.kept d G F;refine(vdoes m _ A c w1 g t b (m.id :: I) v O M s f y (λx hx=>Nat.lt_of_lt_of_le (hM x hx) d.size) ⟨hf.2.trans hk,j.2.2.2.1,j.2.2.2.2.1,j.2.2.2.2.2.1,opO_lo _ hf.1,j.2.2.2.2.2.2.2⟩ D.slr hl).mono ?_;rintro e w' ⟨rfl,h1,E⟩;exact⟨rfl,⟨f.kept E J bO,h1,gO,bO,λx hx=>Nat.lt_of_lt_of_le (lt x hx) (Nat.le_trans d.size E.size),tO⟩,z9.trans (d.mono (S':=vwF (⟨t,I,s⟩,⟨g,b,O,v⟩)) (by simp[vwF])) (E.mono (S':=vwF (⟨t,I,s⟩,⟨g,b,O,v⟩)) (λx hx=>.inl (by simp[vwF,hx]))) iL⟩
 ·rintro e w' ⟨rfl,h1,h2⟩;exact⟨⟨_,rfl⟩,h1,h2⟩
theorem eV(w:World)(g gd:Nat)(h:w.cell? ⟨g,0,none⟩=some (.pointer (some ⟨gd,0,none⟩))):Calls prog 29 #[.pointer (some ⟨g,0,none⟩)] w λe w'=>e=.returned (.bool false)/\w=w':=by
 go_enter func29,ntmps29
 (go_wp2_with fail);go_ret;exact⟨rfl,rfl⟩
structure vV(n:Nat)(X:StX):Prop where
 nd:(qT X.D).Nodup
 ok:∀x∈X.D,hdE x.h=0/\x.id=hdI x.h
 len:X.D.length<=n
 body:∀p∈X.S,p.body.size<=512
 nv:(X.V.map (·.t)).Nodup
 vw:∀v∈X.V,VOk X.D v
theorem vP.pre(h:vP n X):vV n X:=⟨h.nd,h.ok,h.len,λp hp=>(h.body p hp).2.2,h.nv,h.vw⟩
def Y1(X:StX)(i:zB):ByteArray:=match qI X.D X.S i with | some b=>b | none=>⟨#[]⟩
def i8(X:StX)(i:zB):Int:=match qI X.D X.S i with | some _=>0 | none=>7
theorem hdR_cm(h:zA w g 0 38=some (hdR x)):zA w g 6 32=some (idC x.h.cm):=by
 have:=yF h (j:=6) (m:=32) oM;rw[Nat.zero_add]at this;rw[this];exact congrArg some (J4 _)
theorem hdR_sz(h:zA w g 0 38=some (hdR x)):w.cell? ⟨g,5,none⟩=some (.int .i64 x.h.sz):=by
 have:=zC h (j:=5) oM;rw[Nat.zero_add]at this;rw[this];simp[hdR,hdO,hdC]
theorem hdR_tp(h:zA w g 0 38=some (hdR x)):w.cell? ⟨g,2,none⟩=some (.string x.h.tp):=by
 have:=zC h (j:=2) oM;rw[Nat.zero_add]at this;rw[this];simp[hdR,hdO,hdC]
theorem hdR_ht(h:zA w g 0 38=some (hdR x)):w.cell? ⟨g,1,none⟩=some (.int .i64 x.h.ht):=by
 have:=zC h (j:=1) oM;rw[Nat.zero_add]at this;rw[this];simp[hdR,hdO,hdC]
def hdZ:fZ:=⟨⟨[],0,⟨#[]⟩,0,0,0,id0⟩,none,0⟩
def Got(D:List HdX)(i:zB)(x:fZ)(E:Int):Prop:=(kZ D i=some x.h/\E=0)\/(kZ D i=none/\E=7/\x=hdZ)
theorem dag_got(w:World)(g:Nat)(F:List Nat)(n:Nat)(X:StX)(h:kC w g F X.D)(hX:vV n X)(a:zB) :
  Calls prog 48 #[.pointer (some ⟨g,0,none⟩),.agg (idC a)] w λe w'=>∃x E,e=.returned (.tuple #[.agg (hdR x),.int .i64 E])/\Got X.D a x E/\Below w.heap.size w w':=by
 refine(dag_get w g F X.D h hX.nd a (λx hx=>by obtain⟨y,hy,_,e⟩:=rB hx;have:=(aY (hX.ok y hy).1).ps;rw[<-e];omega)).mono ?_;rintro e w' ⟨⟨x,A',c',h1,rfl,_⟩ | ⟨h1,rfl⟩,hb⟩
 ·exact⟨⟨x,A',c'⟩,0,rfl,.inl ⟨h1,rfl⟩,hb⟩
 ·exact⟨hdZ,7,rfl,.inr ⟨h1,rfl,rfl⟩,hb⟩
theorem YX(w:World)(g:Nat)(h:w.heap[g]?=some (.cells (hdC hd0) 52 (0,0)))(x:fZ) :
  ∃w2,(stS 52 ⟨g,0,none⟩ (.agg (hdR x))).run prog w=.ok () w2/\zA w2 g 0 38=some (hdR x)/\z9 [g] w w2 :=
 ⟨_,y9 (P:=prog) kJ w g (hdC hd0) (hdR x) _ h sI (by simp[hdR]) (gX _ (cX x)),by unfold zA;rw[setRow_heap w g _ (hdR x) _ _ h];simp[hdR],rM w g (hdR x)⟩
theorem st_payload(w:World)(g gd gs bo bv:Nat)(Fd Fs:List Nat)(X:StX)(hg:w.heap[g]?=some (.cells (stC gd gs bo bv) 69 (0,0)))(hd:kC w gd Fd X.D)(hs:v4 w gs Fs X.q X.S)(n:Nat)(hX:vV n X)(i:zB) :
  Calls prog 19 #[.pointer (some ⟨g,0,none⟩),.agg (idC i)] w λe w'=>e=.returned (.tuple #[.string (Y1 X i),.int .i64 (i8 X i)])/\Below w.heap.size w w':=by
 have hB:Below w.heap.size w (w.alloc (.cells (idC i) 31)):=bA;have hr:zA (w.alloc (.cells (idC i) 31)) w.heap.size 0 32=some (idC i):=by simp[go_sem]
 obtain⟨W,hW⟩:=eR (w.alloc (.cells (idC i) 31))
 obtain⟨ga,G⟩:=eX w.heap.size
 rw[<-hW]at hB hr;rw[G]at hr;have H:=(hB.block g (aG hg).1).trans hg;have c0:W.cell? ⟨g,0,none⟩=some (.pointer (some ⟨gd,0,none⟩)):=by rw[cell_of_row W g 0 _ _ _ H];rfl
 have c1:W.cell? ⟨g,1,none⟩=some (.pointer (some ⟨gs,0,none⟩)):=by rw[cell_of_row W g 1 _ _ _ H];rfl
 have cN:=eV W g gd c0;have cD:=fun (V:World) (hV:Below W.heap.size W V)=>dag_got V gd Fd n X ((hd.below hB).below hV) hX i;have Hs:=dH (hs.kept (z9.of_below hB) sI);obtain⟨Bd,J⟩:=eX (Y1 X i)
 obtain⟨E,hE⟩:=eX (i8 X i)
 rw[J,hE];have HW:=dH hW;have HB:=dH hB;have a1:=dH G;have A:=dH J;have HE:=dH hE;clear hW hB G J hE hg H hd hs;go_enter func19,ntmps19
 (go_wp2_with fail);rw[<-HW.out,a1.out];refine cN.mono ?_;rintro e w' ⟨rfl,rfl⟩;clear cN;go_upto_region 3 with fail
 go_cut [6,7] (λp ev wx=>∃gh x E,p=.pointer (some ⟨gh,0,none⟩)/\ev=.int .i64 E/\zA wx gh 0 38=some (hdR x)/\Got X.D i x E/\Below W.heap.size W wx)
 case first =>
  refine j2 (.loose 0 (.loose 1 (.loose 2 (.loose 3 (.loose 4 (.two 5 (.loose 6 (.loose 7 (.loose 8 (.one 9 (.one 10 (.loose 11 .done)))))) 9 (.one 5 (.loose 6 (.loose 7 (.loose 8 (.one 10 (.loose 11 .done)))))))))))) (Bel W) false kR kR kR kR (xR W) ?_;have t:=dJ W;have hS:=xR W;have b1:=zK c0;have b2:=zS hr;refine tZ ?_;refine XE ?_ ?_
  ·skip;refine tH ?_;intro K hK;refine(cD _ hS).mono ?_;rintro e w1 ⟨x,E,rfl,f,y⟩;replace hS:=xL hS y;refine⟨_,rfl,hS,hK _ _ ?_⟩;clear hK K;refine tZ ?_;have O:Below w1.heap.size w1 (w1.alloc (.cells (hdC hd0) 52)):=bA;have xz:=heap_alloc_new w1 (.cells (hdC hd0) 52);have m:=Below.size hS;have Hn:=dH (xL hS O);refine tH ?_;intro K hK;refine zI Hn.out (λk=>?_);refine hK _ _ ?_;clear hK K hS;have hS:=k;obtain⟨w3,F,d,r⟩:=YX _ _ xz x;have H3:=dH (Below.trans hS (r.below (Below.size hS) sO));refine tH ?_;intro K hK;refine zI H3.out (λk=>?_);refine hK _ _ ?_;clear hK K hS;have hS:=k;refine tZ ?_;refine vH ?_;intro hS;clear xz O F r;go_wp2_with fail
   go_meet
   exact⟨_,x,E,rfl,rfl,d,f,H3.out⟩
  ·skip;have M:=dH (show Below W.heap.size W (W.drew.alloc (.cells (hdC hd0) 52))from((Below.refl _ _).drew).alloc lR _);have xz:(W.drew.alloc (.cells (hdC hd0) 52)).heap[W.heap.size]?=some (.cells (hdC hd0) 52 (0,0)):=heap_alloc_new W.drew (.cells (hdC hd0) 52);refine tH ?_;intro K hK;refine zI M.out (λk=>?_);refine hK _ _ ?_;clear hK K hS;have hS:=k;refine tH ?_;intro K hK;refine(cD _ M.out).mono ?_;rintro e w1 ⟨x,E,rfl,f,y⟩;have H1:=dH (xL M.out y);refine⟨_,rfl,H1.out,hK _ _ ?_⟩;clear hK K hS;have hS:=H1.out;refine tZ ?_;have N:=(y.block W.heap.size sI).trans xz;obtain⟨w3,F,d,r⟩:=YX _ _ N x;have H3:=dH (Below.trans H1.out (r.below (Below.size H1.out) sI));refine tH ?_;intro K hK;refine zI H3.out (λk=>?_);refine hK _ _ ?_;clear hK K hS;have hS:=k;refine tZ ?_;refine vH ?_;intro hS;clear xz N F r;go_wp2_with fail
   go_meet
   exact⟨_,x,E,rfl,rfl,d,f,H3.out⟩
 case rest =>
 obtain⟨gh,x,E0,rfl,rfl,s,f,j⟩:=hcut;rcases f with⟨h0,rfl⟩ | ⟨h0,rfl,rfl⟩
 rotate_left
 ·have a0:=yK HB.out j;have h1:qI X.D X.S i=none:=by unfold qI;rw[h0]
  have e1:Bd=⟨#[]⟩:=by rw[<-A.out];unfold Y1;rw[h1]
  have e2:E=7:=by rw[<-HE.out];unfold i8;rw[h1]
  subst e1;subst e2;clear cD h0 h1 s j;(go_wp2_with fail);go_ret2;exact⟨rfl,a0⟩
 obtain⟨Z,rfl⟩:=eR wc
 obtain⟨h,A',c'⟩:=x;have h0:kZ X.D i=some h:=h0;have z1:=(j.cell (p:=⟨g,1,none⟩) (block_lt_of_cell? W _ c1)).trans c1;have I:=hdR_cm s;have m:=hdR_sz s;have cS:=sto_get Z.drew gs Fs X.q X.S h.cm (Hs.out.kept ((z9.of_below j).trans (z9.drew Z) sI) sI);have T:=dH (yK HB.out j);have hp:qI X.D X.S i=match jN X.S h.cm with | none=>none | some p=>if(p.body.size:Int)=h.sz then some p.body else none:=by unfold qI;rw[h0];rfl
 have Hp:=dH hp;clear cD h0 j s hr c0 c1 hp;go_upto_region 6 with fail
 cases h2:jN X.S h.cm with
 | none =>
  rw[h2]at cS;dsimp only at cS;have h1:qI X.D X.S i=none:=by rw[Hp.out,h2]
  have e1:Bd=⟨#[]⟩:=by rw[<-A.out];unfold Y1;rw[h1]
  have e2:E=7:=by rw[<-HE.out];unfold i8;rw[h1]
  subst e1;subst e2;clear h1 h2;refine lX Z ?_;intro t hS;have b1:=zK z1;have b2:=zS I;refine lZ ?_;refine lC (cS) ?_;clear hS;intro w' hS;refine lZ ?_;refine zD ?_;intro hS;have j:=yK T.out hS;clear t hS b1 b2 cS m;(go_wp2_with fail);go_ret2;exact⟨rfl,j⟩
 | some p =>
  rw[h2]at cS;dsimp only at cS;obtain⟨B,L⟩:=eX p.body
  rw[L]at cS;have R:Hid (qI X.D X.S i=if(B.size:Int)=h.sz then some B else none):=dH (by rw[Hp.out,h2];subst L;rfl);clear h2 L;refine lX Z ?_;intro t hS;have b1:=zK z1;have b2:=zS I;refine lZ ?_;refine lC (cS) ?_;clear hS;intro w' hS;refine lZ ?_;refine zD ?_;intro hS;have Y:=(Below.cell (p:=⟨gh,5,none⟩) (show Below Z.heap.size Z w' from hS) (block_lt_of_cell? Z _ m)).trans m;have j:=yK T.out hS;clear t hS b1 b2 cS m I;by_cases hq:(B.size:Int)=h.sz
  ·have U:((B.size:Int) != h.sz)=false:=by rw[bne_eq_false_iff_eq];exact hq
   have h1:qI X.D X.S i=some B:=by rw[R.out,if_pos hq]
   have e1:Bd=B:=by rw[<-A.out];unfold Y1;rw[h1]
   have e2:E=0:=by rw[<-HE.out];unfold i8;rw[h1]
   subst e1;subst e2;clear h1 hq;(go_wp2_with fail);go_ret2;exact⟨rfl,j⟩
  ·have U:((B.size:Int) != h.sz)=true:=by rw[bne_iff_ne];exact hq
   have h1:qI X.D X.S i=none:=by rw[R.out,if_neg hq]
   have e1:Bd=⟨#[]⟩:=by rw[<-A.out];unfold Y1;rw[h1]
   have e2:E=7:=by rw[<-HE.out];unfold i8;rw[h1]
   subst e1;subst e2;clear h1 hq;(go_wp2_with fail);go_ret2;exact⟨rfl,j⟩
section
theorem Y6(h:yH t≠0):t.size<=12:=by
 unfold yH at h;split at h
 ·exact(mW ‹_›).2
 ·contradiction
theorem wW(h:yH t≠0):bU t:=by have:=Y6 h;show _<=maxLen;unfold maxLen;omega
theorem hdE_tp{h:HdV}(e:hdE h=0):yH h.tp≠0:=by
 have:=(aY e).tp;unfold j8 at this;split at this
 ·cases this
 ·assumption
theorem zeroVwP(w:World):(zeroValue 80).run prog w=.ok (.pointer none) w:=kR
section
variable {w w':World} {g gd gs bo bv:Nat} {Fd Fs M:List Nat} {N:List (VwX×VwP)} {X:StX}
theorem fU.look(h:fU w g gd gs bo bv Fd Fs M N X)(ht:bU t) :
  (∃p∈N,p.1.t=t/\∀w2 S,z9 S w w2->bv∉S->(Instr.lookup 67 (.map (some bv)) (.string t) true).run prog w2=.ok (.tuple #[.pointer (some ⟨p.2.g,0,none⟩),.bool true]) w2/\(Instr.lookup 67 (.map (some bv)) (.string t) false).run prog w2=.ok (.pointer (some ⟨p.2.g,0,none⟩)) w2) \/
  (t∉X.V.map (·.t)/\∀w2 S,z9 S w w2->bv∉S->(Instr.lookup 67 (.map (some bv)) (.string t) true).run prog w2=.ok (.tuple #[.pointer none,.bool false]) w2):=by
 obtain⟨R,es,f,hm,hp⟩:=h.vs;by_cases hx:t∈R.map (·.1)
 ·obtain⟨q,hq,rfl⟩:=mem_map.1 hx;obtain⟨p,d,e⟩:=mem_map.1 (hp.mem_iff.1 hq);refine .inl ⟨p,d,by rw[<-e],λw2 S hk hb=>?_⟩;have e2:q.2=p.2.g:=by rw[<-e]
  rw[<-e2];exact⟨(hm.kept hk hb).hit dM underlying67 ht hq true,(hm.kept hk hb).hit dM underlying67 ht hq false⟩
 ·refine .inr ⟨λhV=>hx ?_,λw2 S hk hb=>(hm.kept hk hb).miss dM underlying67 (zeroVwP w2) ht hx true⟩;rw[<-h.vx,map_map]at hV;obtain⟨p,d,e⟩:=mem_map.1 hV;exact mem_map.2 ⟨(p.1.t,p.2.g),hp.mem_iff.2 (mem_map.2 ⟨p,d,rfl⟩),e⟩
theorem fU.turned(h:fU w g gd gs bo bv Fd Fs M N X){p:VwX×VwP}(hp:p∈N){v':VwX}(ht:v'.t=p.1.t)(k:(X.V.map (·.t)).Nodup)(hk:z9 (vwF p) w w')(hM:∀x∈vwF p,x∈M)(hw:YT w' M (v',p.2)) :
  ∃N',fU w' g gd gs bo bv Fd Fs M N' ⟨X.q,X.D,X.O,X.S,X.V.map λv=>if v.t=p.1.t then v' else v⟩/\N'.map vwF=N.map vwF:=by
 have A:(N.map λq=>q.1.t).Nodup:=by rw[<-h.vx,map_map]at k;exact k
 have f:∀q∈N,q.1.t=p.1.t->q=p:=λq hq e=>pE A hq hp e;have m:(N.map λq=>if q.1.t=p.1.t then(v',q.2)else q).map vwF=N.map vwF:=by
  rw[map_map];refine map_congr_left λq _=>?_;show vwF (if q.1.t=p.1.t then(v',q.2)else q)=vwF q;split <;> rfl
 obtain⟨L1,L2,hN⟩:=append_of_mem hp;have d:∀b∈([g] :: [bo] :: [bv] :: Fd :: Fs :: L1.map vwF)++L2.map vwF,∀x∈b,x∉vwF p:=by
  have hd:=h.dis;unfold vW at hd;rw[hN,map_append,map_cons,show[g] :: [bo] :: [bv] :: Fd :: Fs :: (L1.map vwF++vwF p :: L2.map vwF)=([g] :: [bo] :: [bv] :: Fd :: Fs :: L1.map vwF)++vwF p :: L2.map vwF from rfl]at hd;exact hd.ne
 have hg:∀x∈[g],x∉vwF p:=d [g] sI;have E:∀x∈[bo],x∉vwF p:=d [bo] sI;have B:∀x∈[bv],x∉vwF p:=d [bv] sI;have G:=d Fd sI;have F:=d Fs sI;have hq:∀q∈N,q≠p->∀x∈vwF q,x∉vwF p:=λq hq y=>by
  rw[hN]at hq;rcases mem_append.1 hq with hq | hq
  ·exact d (vwF q) (mem_append_left _ (by simp only[mem_cons];exact .inr (.inr (.inr (.inr (.inr (mem_map_of_mem hq)))))))
  ·rcases mem_cons.1 hq with hq | hq
   ·exact absurd hq y
   ·exact d (vwF q) (mem_append_right _ (mem_map_of_mem hq))
 obtain⟨R,es,H,hm,s⟩:=h.vs;refine⟨N.map λq=>if q.1.t=p.1.t then(v',q.2)else q,⟨(hk.block g (aG h.heap).1 (hg g sI)).trans h.heap,h.dag.kept hk G,h.sto.kept hk F,h.own.kept hk (E bo sI),
  ⟨R,es,H,hm.kept hk (B bv sI),?_⟩,?_,?_,?_⟩,m⟩
 ·refine s.trans ?_;rw[map_map];refine Perm.of_eq (map_congr_left λq hq=>?_);show(q.1.t,q.2.g)=((if q.1.t=p.1.t then(v',q.2)else q).1.t,(if q.1.t=p.1.t then(v',q.2)else q).2.g)
  split
  ·rw[ht];simp_all
  ·rfl
 ·intro q' r;obtain⟨q,j,rfl⟩:=mem_map.1 r;by_cases e:q.1.t=p.1.t
  ·rw[if_pos e,f q j e];exact hw
  ·rw[if_neg e];exact(h.vw q j).kept hk (hq q j (λh=>e (by rw[h]))) (λx hx=>.inl (hM x hx))
 ·rw[map_map];show N.map (λq=>(if q.1.t=p.1.t then(v',q.2)else q).1)=X.V.map λv=>if v.t=p.1.t then v' else v;rw[<-h.vx,map_map];refine map_congr_left λq _=>?_;show _=if q.1.t=p.1.t then v' else q.1;split <;> rfl
 ·show vB ([g] :: [bo] :: [bv] :: Fd :: Fs :: (N.map λq=>if q.1.t=p.1.t then(v',q.2)else q).map vwF);rw[m];exact h.dis
end
theorem J8(h:qI D S i=none)(v:VwX):jM D S v i=v:=by
 unfold jM;rw[h];split
 ·rename_i e;cases e
 ·rfl
theorem BA{x:HdV}(h:kZ D i=some x)(ht:v.t≠x.tp):jM D S v i=v:=by
 unfold jM;rw[h];split
 ·rename_i h1 h2 h3;injection h2 with h2;subst h2;rw[if_neg ht]
 ·rfl
theorem kg{x:HdV}(h:kZ D i=some x)(hb:qI D S i=some b)(ht:v.t=x.tp):jM D S v i=t9 ⟨i,x.ht,b⟩ v:=by
 unfold jM;rw[h,hb];exact if_pos ht
theorem YB(X:StX)(L:List zB){k:Nat}(hk:k<L.length):qF X (L.take (k+1))=⟨X.q,X.D,X.O,X.S,(qF X (L.take k)).V.map λv=>jM X.D X.S v L[k]⟩:=by
 show(⟨X.q,X.D,X.O,X.S,X.V.map λv=>(L.take (k+1)).foldl (jM X.D X.S) v⟩:StX)=⟨X.q,X.D,X.O,X.S,(X.V.map λv=>(L.take k).foldl (jM X.D X.S) v).map λv=>jM X.D X.S v L[k]⟩
 rw[map_map];congr 1
 refine map_congr_left λv _=>?_;rw[take_succ_eq_append_getElem hk,foldl_append];rfl
theorem foldV_t(m:j9)(v:VwX):(t9 m v).t=v.t:=by unfold t9;split <;> rfl
theorem foldsX_nil(X:StX):qF X []=X:=by unfold qF;simp
theorem map_turn{V:List VwX}(hn:(V.map (·.t)).Nodup){p:VwX}(hp:p∈V){f:VwX->VwX}(hf:∀v,v.t≠p.t->f v=v):V.map f=V.map λv=>if v.t=p.t then f p else v:=by
 refine map_congr_left λv hv=>?_;by_cases e:v.t=p.t
 ·rw[if_pos e,pE hn hv hp e]
 ·rw[if_neg e,hf v e]
theorem vV.folds(h:vV n X)(L:List zB):vV n (qF X L):=by
 refine⟨h.nd,h.ok,h.len,h.body,?_,λv hv=>?_⟩
 ·rw[B8];exact h.nv
 ·obtain⟨v0,h0,rfl⟩:=mem_map.1 hv;exact J7 X.S L (h.vw v0 h0)
theorem ke(X:StX)(L:List zB){k:Nat}(hk:k<L.length)(h:∀v∈(qF X (L.take k)).V,jM X.D X.S v L[k]=v):qF X (L.take (k+1))=qF X (L.take k):=by
 rw[YB X L hk];have:(qF X (L.take k)).V.map (λv=>jM X.D X.S v L[k])=(qF X (L.take k)).V:=by
  rw[map_congr_left h,map_id']
 rw[this];rfl
theorem paidX_body(h:qI D S i=some b):∃p∈S,p.body=b:=by
 unfold qI at h;split at h
 ·cases h
 split at h
 ·cases h
 rename_i p e
 split at h
 ·injection h with h;exact⟨p,(jU e).1,h⟩
 ·cases h
theorem Q6(h:kZ D i=none):qI D S i=none:=by unfold qI;rw[h]
theorem vV.view(h:vV n X)(hv:v∈X.V):yH v.t=v.s.kind/\v.s.len<=100+n:=by
 have h1:=h.vw v hv;refine⟨h1.kind,Nat.le_trans h1.len ?_⟩;have h2:v.I.length<=(jC X.D v.t).length:=gH h1.nd h1.mem;have h3:=eO (D:=X.D) v.t;have h4:=h.len;omega
end
theorem st_foldIn(w:World)(g gd gs bo bv:Nat)(Fd Fs F M:List Nat)(N:List (VwX×VwP))(n:Nat)(X:StX)(h:fU w g gd gs bo bv Fd Fs M N X)(hF:F=(vW g bo bv Fd Fs N).flatten)(e9:∀x∈F,x∈M)(hM:∀x∈M,x<w.heap.size)(a9:dW F)(hv:gP w)(hX:vV n X)(hn:n<=800)(A:Option Addr)(c:Nat)(L:List zB)(hL:zX w A L.length L)(h5:L.length<=1000000)(hA:∀y∈blk A,y∉F) :
  Calls prog 69 #[.pointer (some ⟨g,0,none⟩),.slice A L.length c] w λe w'=>e=.returned (.tuple #[])/\(∃N',fU w' g gd gs bo bv Fd Fs M N' (qF X L)/\N'.map vwF=N.map vwF)/\z9 F w w':=by
 have HF:=dH hF;have f2:=dH a9;have HX:=dH hX;have H:=dH h;have f7:=dH e9;have h4:g<w.heap.size:=(aG h.heap).1;clear h hF a9 hX e9;go_enter func69,ntmps69
 (go_wp2_with fail);go_loopw [14] (λiv wr=>∃(k:Nat) (Nk:List (VwX×VwP)),k<=L.length/\iv=.int .i64 k/\Hid (fU wr g gd gs bo bv Fd Fs M Nk (qF X (L.take k)))/\Hid (Nk.map vwF=N.map vwF)/\Hid (z9 F w wr)) (λiv _=>L.length-(intOf iv).toNat)
 case atStart=>exact⟨0,N,zL,rfl,dH (by rw[take_zero,foldsX_nil];exact H.out),(show _=_ from rfl),dH (z9.refl _ _)⟩
 case round =>
  obtain⟨k,Nk,hk,rfl,b5,b4,a4⟩:=hrel;by_cases b0:k<L.length
  ·have e5:zX wr A L.length L:=SlR.kept hL a4.out hA;obtain⟨q,o,rfl,hr⟩:=zX.get e5 b0 b0;obtain⟨i,hi⟩:=eX (L[k]'b0)
   rw[hi]at hr;have f:=YB X L b0;rw[hi]at f;have hB:Below wr.heap.size wr (wr.alloc (.cells (idC i) 31)):=bA;have a8:zA (wr.alloc (.cells (idC i) 31)) wr.heap.size 0 32=some (idC i):=by simp[go_sem]
   obtain⟨Y,hY⟩:=eR (qF X (L.take k))
   have HY:=dH hY;have hD:X.D=Y.D:=by rw[hY];rfl
   have e6:X.S=Y.S:=by rw[hY];rfl
   have T:(∀v∈Y.V,jM X.D X.S v i=v)->qF X (L.take (k+1))=Y:=λhh=>(by rw[hY];exact ke X L b0 (by rw[<-hY,hi];exact hh));have a3:vV n Y:=by rw[hY];exact HX.out.folds _
   rw[<-hY]at b5 f;have U:=dH T;have hW:=b5.out.kept (z9.of_below hB) sI sI;have b6:=dH f;have HD:=dH hD;have f5:=dH e6;have J:=dH a3;have Z:=dH ((hv.kept a4.out f2.out).below hB);obtain⟨W,c7⟩:=eR (wr.alloc (.cells (idC i) 31))
   obtain⟨ga,c6⟩:=eX wr.heap.size
   rw[<-c7]at hB a8 hW Z;rw[c6]at a8;have c0:W.cell? ⟨g,0,none⟩=some (.pointer (some ⟨gd,0,none⟩)):=by rw[cell_of_row W g 0 _ _ _ hW.heap];rfl
   have c3:W.cell? ⟨g,3,none⟩=some (.map (some bv)):=by rw[cell_of_row W g 3 _ _ _ hW.heap];rfl
   have cD:=fun (V:World) (hV:Below W.heap.size W V)=>dag_got V gd Fd n Y (hW.dag.below hV) a3 i;have m:=dH hW;have g7:=dH c7;have g6:=dH c6;have HB:=dH hB;have Hi:=dH hi;clear hW c7 c6 hB f hD e6 a3 hY e5 hi b5 T;go_upto_region 3 with fail
   rw[<-g7.out,g6.out]
   go_cut [6,7] (λp ev wx=>∃gh x E,p=.pointer (some ⟨gh,0,none⟩)/\ev=.int .i64 E/\zA wx gh 0 38=some (hdR x)/\Got Y.D i x E/\Below W.heap.size W wx)
   case first =>
    refine j2 (.loose 0 (.loose 1 (.loose 2 (.loose 3 (.loose 4 (.two 5 (.loose 6 (.loose 7 (.loose 8 (.one 9 (.one 10 (.loose 11 .done)))))) 9 (.one 5 (.loose 6 (.loose 7 (.loose 8 (.one 10 (.loose 11 .done)))))))))))) (Bel W) false kR kR kR kR (xR W) ?_;have b8:=dJ W;have hS:=xR W;have b1:=zK c0;have b2:=zS a8;refine tZ ?_;refine XE ?_ ?_
    ·skip;refine tH ?_;intro K hK;refine(cD _ hS).mono ?_;rintro e w1 ⟨x,E,rfl,j,B⟩;replace hS:=xL hS B;refine⟨_,rfl,hS,hK _ _ ?_⟩;clear hK K;refine tZ ?_;have e4:Below w1.heap.size w1 (w1.alloc (.cells (hdC hd0) 52)):=bA;have xz:=heap_alloc_new w1 (.cells (hdC hd0) 52);have h3:=Below.size hS;have Hn:=dH (xL hS e4);refine tH ?_;intro K hK;refine zI Hn.out (λa5=>?_);refine hK _ _ ?_;clear hK K hS;have hS:=a5;obtain⟨w3,c2,r,I⟩:=YX _ _ xz x;have H3:=dH (Below.trans hS (I.below (Below.size hS) sO));refine tH ?_;intro K hK;refine zI H3.out (λa5=>?_);refine hK _ _ ?_;clear hK K hS;have hS:=a5;refine tZ ?_;refine vH ?_;intro hS;clear xz e4 c2 I;go_wp2_with fail
     go_meet
     exact⟨_,x,E,rfl,rfl,r,j,H3.out⟩
    ·skip;have d6:=dH (show Below W.heap.size W (W.drew.alloc (.cells (hdC hd0) 52))from((Below.refl _ _).drew).alloc lR _);have xz:(W.drew.alloc (.cells (hdC hd0) 52)).heap[W.heap.size]?=some (.cells (hdC hd0) 52 (0,0)):=heap_alloc_new W.drew (.cells (hdC hd0) 52);refine tH ?_;intro K hK;refine zI d6.out (λa5=>?_);refine hK _ _ ?_;clear hK K hS;have hS:=a5;refine tH ?_;intro K hK;refine(cD _ d6.out).mono ?_;rintro e w1 ⟨x,E,rfl,j,B⟩;have H1:=dH (xL d6.out B);refine⟨_,rfl,H1.out,hK _ _ ?_⟩;clear hK K hS;have hS:=H1.out;refine tZ ?_;have d7:=(B.block W.heap.size sI).trans xz;obtain⟨w3,c2,r,I⟩:=YX _ _ d7 x;have H3:=dH (Below.trans H1.out (I.below (Below.size H1.out) sI));refine tH ?_;intro K hK;refine zI H3.out (λa5=>?_);refine hK _ _ ?_;clear hK K hS;have hS:=a5;refine tZ ?_;refine vH ?_;intro hS;clear xz d7 c2 I;go_wp2_with fail
     go_meet
     exact⟨_,x,E,rfl,rfl,r,j,H3.out⟩
   case rest =>
   obtain⟨gh,x,E,rfl,rfl,c1,j,b3⟩:=hcut;obtain⟨V,rfl⟩:=eR wc
   have hV:=m.out.kept (z9.of_below b3) sI sI;have cP:=st_payload V g gd gs bo bv Fd Fs Y hV.heap hV.dag hV.sto n J.out i;have a1:=((z9.of_below b3).row (zE a8) sI _ _).trans a8;have d3:=(b3.cell (p:=⟨g,3,none⟩) (block_lt_of_cell? W _ c3)).trans c3;have a7:=dH j;have f4:=dH b3;clear cD hV a8 c3 c0 j b3;have d9:bU x.h.tp:=by
    rcases a7.out with⟨h0,_⟩ | ⟨_,_,rfl⟩
    ·obtain⟨y,hy,_,e⟩:=rB h0;rw[<-e];exact wW (hdE_tp (J.out.ok y hy).1)
    ·show 0<=maxLen;unfold maxLen;omega
   have g1:=m.out.look d9;clear d9;(go_wp2_with fail);refine cP.mono ?_;rintro e w1 ⟨rfl,B⟩;have a0:=dH (f4.out.trans (B.mono f4.out.size));have a2:=((z9.of_below B).row (zE a1) sI _ _).trans a1;have G:=((z9.of_below B).row (zE c1) sI _ _).trans c1;have b9:=(B.cell (p:=⟨g,3,none⟩) (block_lt_of_cell? V _ d3)).trans d3;have d2:=hdR_tp G;have d1:=hdR_ht G;clear cP B a1 d3 c1;obtain⟨PB,c9⟩:=eX (Y1 Y i)
   obtain⟨PE,c8⟩:=eX (i8 Y i)
   rw[c9,c8];have g8:=dH c9;have f6:=dH c8;clear c9 c8;go_upto_region 5 with fail
   rcases g1 with⟨p,hp,hpt,hl⟩ | ⟨a9,hl⟩
   ·have c5:∀y:Subtype (Bel w1),(Instr.lookup 67 (.map (some bv)) (.string x.h.tp) true).run prog y.1=.ok (.tuple #[.pointer (some ⟨p.2.g,0,none⟩),.bool true]) y.1:=λy=>(hl y.1 [] (z9.of_below (a0.out.trans (y.2.mono a0.out.size))) sI).1;have Hp:=dH hp;have f0:=dH hpt;clear hl hp hpt;refine lX w1 ?_;intro b8 hS;have b1:=zK b9;have b2:=zK d2;refine lZ ?_;refine zD ?_;intro hS;have f8:zA w1.drew ga 0 32=some (idC i):=a2;have h6:w1.drew.cell? ⟨gh,1,none⟩=some (.int .i64 x.h.ht):=d1;have R:=dH (a0.out.trans (((Below.refl _ _).drew).mono a0.out.size));clear b8 hS b1 b2 c5 a2 d1 d2 b9 G;cases hpd:qI Y.D Y.S i with
    | none =>
     have e7:PE=7:=by rw[<-f6.out];unfold i8;rw[hpd]
     subst e7;have d:=U.out (λv _=>J8 (by rw[HD.out,f5.out];exact hpd) v);have s:=dH (show fU w1.drew g gd gs bo bv Fd Fs M Nk (qF X (L.take (k+1))) by rw[d];exact m.out.kept (z9.of_below R.out) sI sI);have d5:=dH (z9.trans a4.out ((z9.of_below (HB.out.trans (R.out.mono HB.out.size))).mono (S':=F) sI) (λy hy=>.inl hy));clear hpd d;(go_wp2_with fail);go_roundw
     case rel=>exact⟨k+1,Nk,oM,by go_num,s,b4,d5⟩
     case measure=>exact sZ
    | some b =>
     have e0:PE=0:=by rw[<-f6.out];unfold i8;rw[hpd]
     have eb:PB=b:=by rw[<-g8.out];unfold Y1;rw[hpd]
     subst e0;subst eb;have hd0:kZ Y.D i=some x.h:=by
      rcases a7.out with⟨h0,_⟩ | ⟨h0,_⟩
      ·exact h0
      ·rw[Q6 h0]at hpd;cases hpd
     have c4:p.1∈Y.V:=by rw[<-m.out.vx];exact mem_map_of_mem Hp.out
     obtain⟨e2,g0⟩:=J.out.view c4;have g2:PB.size<=512:=by
      obtain⟨q,hq,rfl⟩:=paidX_body hpd;exact J.out.body q hq
     have a6:=m.out.kept (z9.of_below R.out) sI sI;have b7:∀y∈vwF p,y∈F:=λy hy=>by
      rw[HF.out];have h1:vwF p∈N.map vwF:=by rw[<-b4.out];exact mem_map_of_mem Hp.out
      obtain⟨p0,f9,e0⟩:=mem_map.1 h1;exact bP.2 (.inr (.inr (.inr (.inr (.inr ⟨p0,f9,by rw[e0];exact hy⟩)))))
     have cf:=vw_fold ⟨i,x.h.ht,PB⟩ w1.drew M p (a6.vw p Hp.out) (λy hy=>f7.out y (b7 y hy)) (λy hy=>Nat.lt_of_lt_of_le (hM y hy) (Nat.le_trans a4.out.size (Nat.le_trans HB.out.size R.out.size))) (Z.out.below R.out).parts (λhy=>f2.out.1 (b7 _ hy)) (by show PB.size<=_;omega) e2 oM;have s:=dH a6;have f1:=dH b7;have g4:=dH c4;have f3:=dH hd0;have g3:=dH hpd;clear hpd hd0 c4 e2 g0 g2 a6 b7;obtain⟨⟨vt,vI,vs⟩,⟨vg,vb,vO,vv⟩⟩:=p;(go_wp2_with fail);refine cf.mono ?_;rintro e w3 ⟨⟨bb,rfl⟩,d8,I⟩;clear cf;obtain⟨N',d0,e8⟩:=s.out.turned Hp.out (foldV_t _ _) (by rw[HY.out];exact(HX.out.folds _).nv) I (λy hy=>f7.out y (f1.out y hy)) d8;have d:(⟨Y.q,Y.D,Y.O,Y.S,Y.V.map λv=>if v.t=vt then t9 ⟨i,x.h.ht,PB⟩ ⟨vt,vI,vs⟩ else v⟩:StX)=qF X (L.take (k+1)):=by
      rw[b6.out];have e1:Y.V.map (λv=>jM X.D X.S v i)=Y.V.map λv=>if v.t=vt then t9 ⟨i,x.h.ht,PB⟩ ⟨vt,vI,vs⟩ else v:=by
       rw[map_turn (p:=⟨vt,vI,vs⟩) (by rw[HY.out];exact(HX.out.folds _).nv) g4.out (λv hv=>by rw[HD.out];exact BA f3.out (λe=>hv (e.trans f0.out.symm)))];rw[HD.out,f5.out,kg f3.out g3.out f0.out]
      rw[e1,HY.out];rfl
     rw[d]at d0;have h2:=dH d0;have g9:=dH (e8.trans b4.out);have g5:=dH (z9.trans (z9.trans a4.out ((z9.of_below (HB.out.trans (R.out.mono HB.out.size))).mono (S':=F) sI) (λy hy=>.inl hy)) (I.mono (S':=F) (λy hy=>.inl (f1.out y hy))) (λy hy=>.inl hy));clear d8 I d0 e8 d;(go_wp2_with fail);go_roundw
     case rel=>exact⟨k+1,N',oM,by go_num,h2,g9,g5⟩
     case measure=>exact sZ
   ·have c5:∀y:Subtype (Bel w1),(Instr.lookup 67 (.map (some bv)) (.string x.h.tp) true).run prog y.1=.ok (.tuple #[.pointer none,.bool false]) y.1:=λy=>hl y.1 [] (z9.of_below (a0.out.trans (y.2.mono a0.out.size))) sI;have d4:=dH a9;clear hl a9;refine lX w1 ?_;intro b8 hS;have b1:=zK b9;have b2:=zK d2;refine lZ ?_;refine zD ?_;intro hS;have R:=dH (a0.out.trans (((Below.refl _ _).drew).mono a0.out.size));clear b8 hS b1 b2 c5 a2 d1 d2 b9 G;have d:=U.out (λv hv=>by
     rcases a7.out with⟨h0,_⟩ | ⟨h0,_⟩
     ·rw[HD.out];exact BA h0 (λe=>d4.out (mem_map.2 ⟨v,hv,e⟩))
     ·exact J8 (by rw[HD.out];exact Q6 h0) v)
    have s:=dH (show fU w1.drew g gd gs bo bv Fd Fs M Nk (qF X (L.take (k+1))) by rw[d];exact m.out.kept (z9.of_below R.out) sI sI);have d5:=dH (z9.trans a4.out ((z9.of_below (HB.out.trans (R.out.mono HB.out.size))).mono (S':=F) sI) (λy hy=>.inl hy));clear d;(go_wp2_with fail);go_roundw
    case rel=>exact⟨k+1,Nk,oM,by go_num,s,b4,d5⟩
    case measure=>exact sZ
  ·have e3:L.take k=L:=take_of_length_le oM;rw[e3]at b5;clear e3;(go_wp2_with fail);go_end0;exact⟨rfl,⟨Nk,b5.out,b4.out⟩,a4.out⟩
theorem st_fold(w:World)(g:Nat)(F M:List Nat)(n:Nat)(X:StX)(h:yX w g F M X)(hv:gP w)(hX:vV n X)(hn:n<=800)(A:Option Addr)(m c:Nat)(L:List zB)(hL:zX w A m L)(j:m<=1000000)(hA:∀y∈blk A,y∉F) :
  Calls prog 69 #[.pointer (some ⟨g,0,none⟩),.slice A m c] w λe w'=>e=.returned (.tuple #[])/\yX w' g F M (qF X L)/\z9 F w w':=by
 obtain⟨gd,gs,bo,bv,Fd,Fs,N,f,hF,h2,h3,d⟩:=h;obtain rfl:L.length=m:=by simpa using hL.1
 refine(st_foldIn w g gd gs bo bv Fd Fs F M N n X f hF h2 h3 d hv hX hn A c L hL j hA).mono ?_;rintro e w' ⟨rfl,⟨N',hN,e1⟩,hk⟩;refine⟨rfl,⟨gd,gs,bo,bv,Fd,Fs,N',hN,?_,h2,λx hx=>Nat.lt_of_lt_of_le (h3 x hx) hk.size,d⟩,hk⟩;rw[hF];unfold vW;rw[e1]
theorem isFn_mine:yy 124:=λargs w=>by kernel_rfl
theorem mine1(w:World)(gb g bo:Nat)(O:List zB)(hb:w.cell? ⟨gb,0,none⟩=some (.pointer (some ⟨g,0,none⟩)))(h2:w.cell? ⟨g,2,none⟩=some (.map (some bo)))(ho:jS w bo O)(x:zB) :
  Calls prog 124 #[.agg (idC x),.pointer (some ⟨gb,0,none⟩)] w λe w'=>e=.returned (.bool (decide (x∈O)))/\Below w.heap.size w w':=by
 have hB:Below w.heap.size w (w.alloc (.cells (idC x) 31)):=bA;have hr:zA (w.alloc (.cells (idC x) 31)) w.heap.size 0 32=some (idC x):=by simp[go_sem]
 obtain⟨W,hW⟩:=eR (w.alloc (.cells (idC x) 31))
 obtain⟨ga,d⟩:=eX w.heap.size
 rw[<-hW]at hB hr;rw[d]at hr;have c0:=(hB.cell (p:=⟨gb,0,none⟩) (block_lt_of_cell? w _ hb)).trans hb;have c2:=(hB.cell (p:=⟨g,2,none⟩) (block_lt_of_cell? w _ h2)).trans h2;have hk:∀y:Subtype (Bel W),(Instr.lookup 66 (.map (some bo)) (.agg (idC x)) false).run prog y.1=.ok (.bool (decide (x∈O))) y.1:=λy=>vq ((ho.below hB).below y.2);obtain⟨t,ht⟩:=eX (decide (x∈O))
 rw[ht]at hk |-;have HW:=dH hW;have j:=dH d;have HB:=dH hB;clear hW d hB ht hb h2;go_enter func124,ntmps124
 go_upto_region 1 with fail
 rw[<-HW.out,j.out];refine lX W ?_;intro k hS;have b1:=zK c0;have b2:=zK c2;have b3:=zS hr;refine lZ ?_;refine zD ?_;intro hS;have f:=yK HB.out hS;(go_wp2_with fail);go_ret;exact⟨rfl,f⟩
theorem mine_any(X:StX)(c:zB):((vD X.D c).any λi=>decide (i∈X.O))=nJ X c:=rfl
theorem st_mine(w:World)(g gd gs bo bv:Nat)(Fd Fs M:List Nat)(N:List (VwX×VwP))(n:Nat)(X:StX)(h:fU w g gd gs bo bv Fd Fs M N X)(hX:X.D.length<=1000000)(c:zB) :
  Calls prog 71 #[.pointer (some ⟨g,0,none⟩),.agg (idC c)] w λe w'=>e=.returned (.bool (nJ X c))/\Below w.heap.size w w':=by
 have hB:Below w.heap.size w ((w.alloc (.cells #[.pointer (some ⟨g,0,none⟩)] 23)).alloc (.cells (idC c) 31)):=(bA).alloc sI _;have x0:((w.alloc (.cells #[.pointer (some ⟨g,0,none⟩)] 23)).alloc (.cells (idC c) 31)).cell? ⟨w.heap.size,0,none⟩=some (.pointer (some ⟨g,0,none⟩)):=by simp[go_sem]
 have hr:zA ((w.alloc (.cells #[.pointer (some ⟨g,0,none⟩)] 23)).alloc (.cells (idC c) 31)) (w.heap.size+1) 0 32=some (idC c):=by
  have:=heap_alloc_new (w.alloc (.cells #[.pointer (some ⟨g,0,none⟩)] 23)) (.cells (idC c) 31);unfold zA;rw[(sI:w.heap.size+1=(w.alloc (.cells #[.pointer (some ⟨g,0,none⟩)] 23)).heap.size),this];simp[go_sem]
 obtain⟨W,hW⟩:=eR ((w.alloc (.cells #[.pointer (some ⟨g,0,none⟩)] 23)).alloc (.cells (idC c) 31))
 obtain⟨ga,f⟩:=eX w.heap.size
 rw[<-hW]at hB hr x0;rw[f]at hr x0;have d:=h.kept (z9.of_below hB) sI sI;have c0:W.cell? ⟨g,0,none⟩=some (.pointer (some ⟨gd,0,none⟩)):=by rw[cell_of_row W g 0 _ _ _ d.heap];rfl
 have c2:W.cell? ⟨g,2,none⟩=some (.map (some bo)):=by rw[cell_of_row W g 2 _ _ _ d.heap];rfl
 have cC:=lB W.drew gd Fd X.D ((d.dag).below ((Below.refl _ _).drew)) c hX;obtain⟨m,hm⟩:=eX (nJ X c)
 have Hm:=dH hm;rw[hm];have hT:∀V,Below W.heap.size W V->∀A n cap R,zX V A n R->n<=1000000->Calls prog 123 #[.slice A n cap,.func (.func 124) #[] #[.pointer (some ⟨ga,0,none⟩)]] V λe w'=>e=.returned (.bool (R.any λi=>decide (i∈X.O)))/\Below V.heap.size V w':=λV hV A n cap R hR hn =>
  yn 124 #[] #[.pointer (some ⟨ga,0,none⟩)] isFn_mine [] V (λi=>decide (i∈X.O)) (λx w' hk=>by
   have k2:z9 [] W w':=z9.trans (z9.of_below hV) hk sI;exact mine1 w' ga g bo X.O ((k2.cell (p:=⟨ga,0,none⟩) (block_lt_of_cell? W _ x0) sI).trans x0) ((k2.cell (p:=⟨g,2,none⟩) (block_lt_of_cell? W _ c2) sI).trans c2) (d.own.kept k2 sI) x) A n cap R V (z9.refl _ _) hR hn
 have HT:=dH hT;have HW:=dH hW;have y:=dH f;have HB:=dH hB;clear hT hW f hB d h hm;have s:=JF (D:=X.D) c;go_enter func71,ntmps71
 go_upto_region 1 with fail
 rw[<-HW.out,y.out];refine lX W ?_;intro k hS;have b1:=zK x0;have b2:=zK c0;have b3:=zS hr;refine lQ ?_;intro K hK;refine cC.mono ?_;rintro e w1 ⟨⟨A,n,cap⟩,rfl,hn,ho,hb⟩;have r:n<=1000000:=by have:n=(vD X.D c).length:=hn;omega
 have j:=xL hS hb;have cK:=HT.out w1 j A n cap (vD X.D c) ho.slr r;rw[mine_any,Hm.out]at cK;replace hS:=j;refine⟨_,rfl,hS,hK _ _ ?_⟩;clear hK K j;unfold slV;refine lZ ?_;refine lC (cK) ?_;clear hS;intro w' hS;refine lZ ?_;refine zD ?_;intro hS;have t:=yK HB.out hS;clear k hS b1 b2 b3 cC cK;(go_wp2_with fail);go_ret;exact⟨rfl,t⟩
section
structure jE(w:World)(g:Nat)(F M:List Nat)(Y:StX)(w':World)(F' M':List Nat):Prop where
 st:yX w' g F' M' Y
 mm:∀y∈M,y∈M'
 ff:∀y∈F',y∈F\/w.heap.size<=y
 fm:∀y∈M',y∈M\/w.heap.size<=y
 kp:z9 F w w'
theorem jE.trans{w w1 w2:World}{g:Nat}{F M F1 M1 F2 M2:List Nat}{Y Z:StX}(h:jE w g F M Y w1 F1 M1)(k:jE w1 g F1 M1 Z w2 F2 M2):jE w g F M Z w2 F2 M2:=by
 have d:=h.kp.size;refine⟨k.st,λy hy=>k.mm y (h.mm y hy),λy hy=>?_,λy hy=>?_,z9.trans h.kp k.kp h.ff⟩
 ·rcases k.ff y hy with e | e
  ·exact h.ff y e
  ·exact .inr oM
 ·rcases k.fm y hy with e | e
  ·exact h.fm y e
  ·exact .inr oM
theorem jE.refl{w:World}{g:Nat}{F M:List Nat}{X:StX}(h:yX w g F M X):jE w g F M X w F M:=⟨h,λ_ hy=>hy,λ_ hy=>.inl hy,λ_ hy=>.inl hy,z9.refl _ _⟩
theorem jE.keep{Y:StX}(h:yX w g F M X)(h':yX w' g F M Y)(k:z9 F w w'):jE w g F M Y w' F M:=⟨h',λ_ hy=>hy,λ_ hy=>.inl hy,λ_ hy=>.inl hy,k⟩
theorem jE.below{w w':World}{g:Nat}{F M:List Nat}{X:StX}(h:yX w g F M X)(k:Below w.heap.size w w'):jE w g F M X w' F M:=jE.keep h (h.below k) ((z9.of_below k).mono sI)
theorem jE.vars{F' M':List Nat}{Y:StX}(k:jE w g F M Y w' F' M')(h:yX w g F M X)(hv:gP w):gP w':=hv.kept k.kp h.no
structure bD(w:World)(g gd gs bo bv:Nat)(Fd Fs F M:List Nat)(N:List (VwX×VwP))(X:StX):Prop where
 st:fU w g gd gs bo bv Fd Fs M N X
 fe:F=(vW g bo bv Fd Fs N).flatten
 fm:∀x∈F,x∈M
 ml:∀x∈M,x<w.heap.size
 no:dW F
theorem bD.at_{gd gs bo bv:Nat}{N:List (VwX×VwP)}(h:bD w g gd gs bo bv Fd Fs F M N X):yX w g F M X:=⟨gd,gs,bo,bv,Fd,Fs,N,h.st,h.fe,h.fm,h.ml,h.no⟩
theorem yX.sp(h:yX w g F M X):∃gd gs bo bv Fd Fs N,bD w g gd gs bo bv Fd Fs F M N X:=by
 obtain⟨gd,gs,bo,bv,Fd,Fs,N,h1,h2,h3,h4,h5⟩:=h;exact⟨gd,gs,bo,bv,Fd,Fs,N,h1,h2,h3,h4,h5⟩
section
variable {w w':World} {g gd gs bo bv:Nat} {Fd Fs F M S:List Nat} {N:List (VwX×VwP)} {X:StX}
theorem bD.kept(h:bD w g gd gs bo bv Fd Fs F M N X)(k:Below w.heap.size w w'):bD w' g gd gs bo bv Fd Fs F M N X:=⟨h.st.kept (z9.of_below k) sI sI,h.fe,h.fm,λx hx=>Nat.lt_of_lt_of_le (h.ml x hx) k.size,h.no⟩
theorem bD.mem{x:Nat}(h:bD w g gd gs bo bv Fd Fs F M N X)(hx:x=g\/x=bo\/x=bv\/x∈Fd\/x∈Fs\/∃p∈N,x∈vwF p):x∈F:=by rw[h.fe];exact bP.2 hx
theorem bD.newSto(h:bD w g gd gs bo bv Fd Fs F M N X){q':Int}{S':List Pay}(hq:q'=X.q)(hs:v4 w' gs d q' S')(hf:∀x∈d,x∈Fs\/w.heap.size<=x)(hk:z9 Fs w w')(hv:gP w) :
  ∃F' M',bD w' g gd gs bo bv Fd d F' M' N ⟨X.q,X.D,X.O,S',X.V⟩/\jE w g F M ⟨X.q,X.D,X.O,S',X.V⟩ w' F' M':=by
 subst hq;have hd:=h.st.dis;unfold vW at hd;have j:=(show vB (([g] :: [bo] :: [bv] :: [Fd])++Fs :: N.map vwF)from hd).ne;have f:∀x∈(vW g bo bv Fd d N).flatten,x∈F\/w.heap.size<=x:=λx hx=>by
  rcases bP.1 hx with e | e | e | e | e | e
  ·exact .inl (h.mem (.inl e))
  ·exact .inl (h.mem (.inr (.inl e)))
  ·exact .inl (h.mem (.inr (.inr (.inl e))))
  ·exact .inl (h.mem (.inr (.inr (.inr (.inl e)))))
  ·rcases hf x e with e | e
   ·exact .inl (h.mem (.inr (.inr (.inr (.inr (.inl e))))))
   ·exact .inr e
  ·exact .inl (h.mem (.inr (.inr (.inr (.inr (.inr e))))))
 have s:∀x∈Fs,x∈F:=λx hx=>h.mem (.inr (.inr (.inr (.inr (.inl hx)))));have r:∀x∈(vW g bo bv Fd d N).flatten++M,x∈M\/w.heap.size<=x:=λx hx=>by
  rcases mem_append.1 hx with hx | hx
  ·exact(f x hx).imp (h.fm x) id
  ·exact .inl hx
 have hm:=h.st.moreM (M':=(vW g bo bv Fd d N).flatten++M) (λx hx=>mem_append_right _ hx) r;obtain⟨R,es,B,A,t⟩:=hm.vs;have m:fU w' g gd gs bo bv Fd d ((vW g bo bv Fd d N).flatten++M) N ⟨X.q,X.D,X.O,S',X.V⟩:=by
  refine⟨(hk.block g (aG hm.heap).1 (j [g] sI g sI)).trans hm.heap,hm.dag.kept hk (j Fd sI),hs,hm.own.kept hk (j [bo] sI bo sI),⟨R,es,B,A.kept hk (j [bv] sI bv sI),t⟩,λp hp=>(hm.vw p hp).kept hk (j (vwF p) (mem_append_right _ (mem_map_of_mem hp))) (λx hx=>.inl (mem_append_right _ (h.fm x (s x hx)))),hm.vx,?_⟩;show vB (([g] :: [bo] :: [bv] :: [Fd])++d :: N.map vwF);exact vB.set (a:=Fs) (n:=w.heap.size) hd (λb hb x hx=>h.st.lt b (by
   unfold vW;rcases mem_append.1 hb with hb | hb
   ·simp only[mem_cons,not_mem_nil,or_false]at hb |-;rcases hb with e | e | e | e <;> simp[e]
   ·simp only[mem_cons];exact .inr (.inr (.inr (.inr (.inr hb))))) x hx) hf
 have k:bD w' g gd gs bo bv Fd d _ _ N ⟨X.q,X.D,X.O,S',X.V⟩:=⟨m,rfl,λx hx=>mem_append_left _ hx,λx hx=>by
  rcases mem_append.1 hx with hx | hx
  ·obtain⟨b,hb,hx⟩:=mem_flatten.1 hx;exact m.lt b hb x hx
  ·exact Nat.lt_of_lt_of_le (h.ml x hx) hk.size,dW.more hv h.no f⟩
 exact⟨_,_,k,k.at_,λy hy=>mem_append_right _ hy,f,r,hk.mono (λx hx=>.inl (s x hx))⟩
theorem bD.newDag(h:bD w g gd gs bo bv Fd Fs F M N X){D':List HdX}(hs:kC w' gd d D')(hf:∀x∈d,x∈Fd\/w.heap.size<=x)(hk:z9 Fd w w')(hv:gP w) :
  ∃F' M',bD w' g gd gs bo bv d Fs F' M' N ⟨X.q,D',X.O,X.S,X.V⟩/\jE w g F M ⟨X.q,D',X.O,X.S,X.V⟩ w' F' M':=by
 have hd:=h.st.dis;unfold vW at hd;have j:=(show vB (([g] :: [bo] :: [[bv]])++Fd :: Fs :: N.map vwF)from hd).ne;have f:∀x∈(vW g bo bv d Fs N).flatten,x∈F\/w.heap.size<=x:=λx hx=>by
  rcases bP.1 hx with e | e | e | e | e | e
  ·exact .inl (h.mem (.inl e))
  ·exact .inl (h.mem (.inr (.inl e)))
  ·exact .inl (h.mem (.inr (.inr (.inl e))))
  ·rcases hf x e with e | e
   ·exact .inl (h.mem (.inr (.inr (.inr (.inl e)))))
   ·exact .inr e
  ·exact .inl (h.mem (.inr (.inr (.inr (.inr (.inl e))))))
  ·exact .inl (h.mem (.inr (.inr (.inr (.inr (.inr e))))))
 have s:∀x∈Fd,x∈F:=λx hx=>h.mem (.inr (.inr (.inr (.inl hx))));have r:∀x∈(vW g bo bv d Fs N).flatten++M,x∈M\/w.heap.size<=x:=λx hx=>by
  rcases mem_append.1 hx with hx | hx
  ·exact(f x hx).imp (h.fm x) id
  ·exact .inl hx
 have hm:=h.st.moreM (M':=(vW g bo bv d Fs N).flatten++M) (λx hx=>mem_append_right _ hx) r;obtain⟨R,es,B,A,t⟩:=hm.vs;have m:fU w' g gd gs bo bv d Fs ((vW g bo bv d Fs N).flatten++M) N ⟨X.q,D',X.O,X.S,X.V⟩:=by
  refine⟨(hk.block g (aG hm.heap).1 (j [g] sI g sI)).trans hm.heap,hs,hm.sto.kept hk (j Fs sI),hm.own.kept hk (j [bo] sI bo sI),⟨R,es,B,A.kept hk (j [bv] sI bv sI),t⟩,λp hp=>(hm.vw p hp).kept hk (j (vwF p) (mem_append_right _ (mem_cons_of_mem _ (mem_map_of_mem hp)))) (λx hx=>.inl (mem_append_right _ (h.fm x (s x hx)))),hm.vx,?_⟩;show vB (([g] :: [bo] :: [[bv]])++d :: Fs :: N.map vwF);exact vB.set (a:=Fd) (n:=w.heap.size) hd (λb hb x hx=>h.st.lt b (by
   unfold vW;rcases mem_append.1 hb with hb | hb
   ·simp only[mem_cons,not_mem_nil,or_false]at hb |-;rcases hb with e | e | e <;> simp[e]
   ·simp only[mem_cons]at hb |-;exact .inr (.inr (.inr (.inr hb)))) x hx) hf
 have k:bD w' g gd gs bo bv d Fs _ _ N ⟨X.q,D',X.O,X.S,X.V⟩:=⟨m,rfl,λx hx=>mem_append_left _ hx,λx hx=>by
  rcases mem_append.1 hx with hx | hx
  ·obtain⟨b,hb,hx⟩:=mem_flatten.1 hx;exact m.lt b hb x hx
  ·exact Nat.lt_of_lt_of_le (h.ml x hx) hk.size,dW.more hv h.no f⟩
 exact⟨_,_,k,k.at_,λy hy=>mem_append_right _ hy,f,r,hk.mono (λx hx=>.inl (s x hx))⟩
theorem bD.newOwn(h:bD w g gd gs bo bv Fd Fs F M N X){O':List zB}(hs:jS w' bo O')(hk:z9 [bo] w w') :
  bD w' g gd gs bo bv Fd Fs F M N ⟨X.q,X.D,O',X.S,X.V⟩/\jE w g F M ⟨X.q,X.D,O',X.S,X.V⟩ w' F M:=by
 have hd:=h.st.dis;unfold vW at hd;have d:=(show vB (([[g]]) ++ [bo] :: [bv] :: Fd :: Fs :: N.map vwF)from hd).ne;have j:bo∈F:=h.mem (.inr (.inl rfl));obtain⟨R,es,s,m,k⟩:=h.st.vs;have r:fU w' g gd gs bo bv Fd Fs M N ⟨X.q,X.D,O',X.S,X.V⟩ :=
  ⟨(hk.block g (aG h.st.heap).1 (d [g] sI g sI)).trans h.st.heap,h.st.dag.kept hk (d Fd sI),h.st.sto.kept hk (d Fs sI),hs,⟨R,es,s,m.kept hk (d [bv] sI bv sI),k⟩,λp hp=>(h.st.vw p hp).kept hk (d (vwF p) (mem_append_right _ (by simp only[mem_cons];exact .inr (.inr (.inr (mem_map_of_mem hp)))))) (λx hx=>.inl (h.fm x (by rw[mem_singleton.1 hx];exact j))),h.st.vx,h.st.dis⟩
 have f:bD w' g gd gs bo bv Fd Fs F M N ⟨X.q,X.D,O',X.S,X.V⟩:=⟨r,h.fe,h.fm,λx hx=>Nat.lt_of_lt_of_le (h.ml x hx) hk.size,h.no⟩
 exact⟨f,jE.keep h.at_ f.at_ (hk.mono (λx hx=>.inl (by rw[mem_singleton.1 hx];exact j)))⟩
end
end
section
theorem K9{N:List (VwX×VwP)}(hp:R.Perm (N.map λp=>(p.1.t,p.2.g)))(hx:N.map (·.1)=X.V):(R.map (·.1)).Perm (X.V.map (·.t)):=by
 have:=hp.map (·.1);rw[map_map]at this;rw[<-hx,map_map];exact this
section
variable {w w1:World} {g gd gs bo bv:Nat} {Fd Fs F M:List Nat} {N:List (VwX×VwP)} {X:StX}
theorem bD.newView(h:bD w g gd gs bo bv Fd Fs F M N X)(k:Below w.heap.size w w1){vg b:Nat}{I:List zB}{v:Value}{s:VSt}(a2:yU w1 vg t b I v)(a3:kQ w1 O (M++vg :: b :: O) v s)(a7:vg∉b :: O)(a9:b∉O)(ht:bU t)(f:∀x∈vg :: b :: O,w.heap.size<=x)(Y:∀x∈vg :: b :: O,x<w1.heap.size)(a8:t∉X.V.map (·.t))(hv:gP w) :
  ∃w2,(Instr.mapUpdate 67 (.map (some bv)) (.string t) (.pointer (some ⟨vg,0,none⟩))).run prog w1=.ok () w2/\z9 [bv] w1 w2/\∃F' M' N',bD w2 g gd gs bo bv Fd Fs F' M' N' ⟨X.q,X.D,X.O,X.S,X.V ++ [⟨t,I,s⟩]⟩/\jE w g F M ⟨X.q,X.D,X.O,X.S,X.V ++ [⟨t,I,s⟩]⟩ w2 F' M':=by
 have hd:=h.st.dis;unfold vW at hd;have m:=(show vB (([g] :: [[bo]]) ++ [bv] :: Fd :: Fs :: N.map vwF)from hd).ne;have E:bv∈F:=h.mem (.inr (.inr (.inl rfl)));have b1:bv<w.heap.size:=h.ml _ (h.fm _ E);have U:∀x∈M++vg :: b :: O,x∈M\/w.heap.size<=x:=λx hx=>by
  rcases mem_append.1 hx with hx | hx
  ·exact .inl hx
  ·exact .inr (f x hx)
 have hm:=(h.st.moreM (M':=M++vg :: b :: O) (λx hx=>mem_append_left _ hx) U).kept (z9.of_below k) sI sI;obtain⟨R,es,b2,a5,L⟩:=hm.vs;obtain⟨w2,b0,G,hr,r,d⟩:=a5.update (k:=t) (v:=vg) dM underlying67 ht;have A:bS R t vg=R ++ [(t,vg)]:=by
  unfold bS;rw[if_neg];intro hx;exact a8 ((K9 L hm.vx).mem_iff.1 hx)
 rw[A]at r;have Z:∀x∈[bv],x∈M++vg :: b :: O\/w1.heap.size<=x:=λx hx=>.inl (mem_append_left _ (by rw[mem_singleton.1 hx];exact h.fm _ E));have B:∀x∈vg :: b :: O,x∉[bv]:=λx hx a1=>(by have:=f x hx;rw[mem_singleton]at a1;omega);obtain⟨p,hp⟩:∃p:VwX×VwP,p=(⟨t,I,s⟩,⟨vg,b,O,v⟩):=⟨_,rfl⟩
 have T:vwF p=vg :: b :: O:=by rw[hp];rfl
 have a4:YT w2 (M++vg :: b :: O) p:=by
  rw[hp];exact⟨a2.kept d (B vg sI) (B b sI),a3.kept d (λx hx=>B x (by simp[hx])) Z,a7,a9,λx hx=>Nat.lt_of_lt_of_le (Y x hx) d.size,ht⟩
 have a6:fU w2 g gd gs bo bv Fd Fs (M++vg :: b :: O) (N ++ [p]) ⟨X.q,X.D,X.O,X.S,X.V ++ [⟨t,I,s⟩]⟩:=by
  refine⟨(d.block g (aG hm.heap).1 (m [g] sI g sI)).trans hm.heap,hm.dag.kept d (m Fd sI),hm.sto.kept d (m Fs sI),hm.own.kept d (m [bo] sI bo sI),⟨R ++ [(t,vg)],b0,G,r,?_⟩,λq hq=>?_,?_,?_⟩
  ·rw[map_append,hp];exact L.append_right _
  ·rcases mem_append.1 hq with hq | hq
   ·exact(hm.vw q hq).kept d (m (vwF q) (mem_append_right _ (by simp only[mem_cons];exact .inr (.inr (mem_map_of_mem hq))))) Z
   ·rw[mem_singleton.1 hq];exact a4
  ·rw[map_append,hm.vx,hp];rfl
  ·show vB ([g] :: [bo] :: [bv] :: Fd :: Fs :: (N ++ [p]).map vwF);rw[map_append,show[g] :: [bo] :: [bv] :: Fd :: Fs :: (N.map vwF ++ [p].map vwF)=([g] :: [bo] :: [bv] :: Fd :: Fs :: N.map vwF) ++ [vwF p]from rfl];unfold vB;rw[pairwise_append];refine⟨hd,pairwise_singleton _ _,λa ha c hc x hx H=>?_⟩;rw[mem_singleton.1 hc,T]at H;have h1:=h.st.lt a ha x hx;have h2:=f x H;omega
 have a0:∀x∈(vW g bo bv Fd Fs (N ++ [p])).flatten,x∈F\/x∈vg :: b :: O:=λx hx=>by
  rcases bP.1 hx with e | e | e | e | e | ⟨q,hq,e⟩
  ·exact .inl (h.mem (.inl e))
  ·exact .inl (h.mem (.inr (.inl e)))
  ·exact .inl (h.mem (.inr (.inr (.inl e))))
  ·exact .inl (h.mem (.inr (.inr (.inr (.inl e)))))
  ·exact .inl (h.mem (.inr (.inr (.inr (.inr (.inl e))))))
  ·rcases mem_append.1 hq with hq | hq
   ·exact .inl (h.mem (.inr (.inr (.inr (.inr (.inr ⟨q,hq,e⟩))))))
   ·rw[mem_singleton.1 hq,T]at e;exact .inr e
 have j:∀x∈(vW g bo bv Fd Fs (N ++ [p])).flatten,x∈F\/w.heap.size<=x:=λx hx=>(a0 x hx).imp id (f x);have J:bD w2 g gd gs bo bv Fd Fs (vW g bo bv Fd Fs (N ++ [p])).flatten (M++vg :: b :: O) (N ++ [p]) ⟨X.q,X.D,X.O,X.S,X.V ++ [⟨t,I,s⟩]⟩:=⟨a6,rfl,λx hx=>(a0 x hx).elim (λe=>mem_append_left _ (h.fm x e)) (λe=>mem_append_right _ e),λx hx=>by
  rcases mem_append.1 hx with hx | hx
  ·exact Nat.lt_of_lt_of_le (h.ml x hx) (Nat.le_trans k.size d.size)
  ·exact Nat.lt_of_lt_of_le (Y x hx) d.size,dW.more hv h.no j⟩
 exact⟨w2,hr,d,_,_,_,J,J.at_,λy hy=>mem_append_left _ hy,j,U,z9.trans ((z9.of_below k).mono (S':=F) sI) d (λx hx=>.inl (by rw[mem_singleton.1 hx];exact E))⟩
theorem bD.delView(h:bD w g gd gs bo bv Fd Fs F M N X)(ht:bU t)(ty:TypeId) :
  ∃w2,(Builtin.delete_ #[67,9] ty #[.map (some bv),.string t]).run prog w=.ok (.tuple #[]) w2/\∃F' N',bD w2 g gd gs bo bv Fd Fs F' M N' (wO X t)/\jE w g F M (wO X t) w2 F' M:=by
 have hd:=h.st.dis;unfold vW at hd;have j:=(show vB (([g] :: [[bo]]) ++ [bv] :: Fd :: Fs :: N.map vwF)from hd).ne;have s:bv∈F:=h.mem (.inr (.inr (.inl rfl)));obtain⟨R,es,H,B,A⟩:=h.st.vs;obtain⟨w2,G,hr,m,f⟩:=B.delete (k:=t) (ty:=ty) dM underlying67 ht;have E:∀x∈[bv],x∈M\/w.heap.size<=x:=λx hx=>.inl (by rw[mem_singleton.1 hx];exact h.fm _ s);have D:fU w2 g gd gs bo bv Fd Fs M (N.filter λp=>decide (p.1.t≠t)) (wO X t):=by
  refine⟨(f.block g (aG h.st.heap).1 (j [g] sI g sI)).trans h.st.heap,h.st.dag.kept f (j Fd sI),h.st.sto.kept f (j Fs sI),h.st.own.kept f (j [bo] sI bo sI),⟨pP R t,G,H,m,?_⟩,λq hq=>?_,?_,?_⟩
  ·have:=A.filter (λp=>decide (p.1≠t));rw[filter_map]at this;exact this
  ·have hq:=(mem_filter.1 hq).1;exact(h.st.vw q hq).kept f (j (vwF q) (mem_append_right _ (by simp only[mem_cons];exact .inr (.inr (mem_map_of_mem hq))))) E
  ·show _=X.V.filter λv=>decide (v.t≠t);rw[<-h.st.vx,filter_map];rfl
  ·show vB ([g] :: [bo] :: [bv] :: Fd :: Fs :: (N.filter λp=>decide (p.1.t≠t)).map vwF);unfold vB;refine Pairwise.sublist ?_ hd;exact((((Sublist.map vwF filter_sublist).cons_cons Fs).cons_cons Fd).cons_cons [bv]).cons_cons [bo] |>.cons_cons [g]
 have d:∀x∈(vW g bo bv Fd Fs (N.filter λp=>decide (p.1.t≠t))).flatten,x∈F:=λx hx=>by
  rcases bP.1 hx with e | e | e | e | e | ⟨q,hq,e⟩
  ·exact h.mem (.inl e)
  ·exact h.mem (.inr (.inl e))
  ·exact h.mem (.inr (.inr (.inl e)))
  ·exact h.mem (.inr (.inr (.inr (.inl e))))
  ·exact h.mem (.inr (.inr (.inr (.inr (.inl e)))))
  ·exact h.mem (.inr (.inr (.inr (.inr (.inr ⟨q,(mem_filter.1 hq).1,e⟩)))))
 have r:bD w2 g gd gs bo bv Fd Fs (vW g bo bv Fd Fs (N.filter λp=>decide (p.1.t≠t))).flatten M (N.filter λp=>decide (p.1.t≠t)) (wO X t):=⟨D,rfl,λx hx=>h.fm x (d x hx),λx hx=>Nat.lt_of_lt_of_le (h.ml x hx) f.size,⟨λhx=>h.no.1 (d _ hx),λhx=>h.no.2.1 (d _ hx),λhx=>h.no.2.2 (d _ hx)⟩⟩
 exact⟨w2,hr,_,_,r,r.at_,λy hy=>hy,λy hy=>.inl (d y hy),λy hy=>.inl hy,f.mono (λx hx=>.inl (by rw[mem_singleton.1 hx];exact s))⟩
end
end
theorem vP.small(h:vP n X):xK X.S<=1000000:=by have:=h.bytes;have:=h.q1;omega
theorem st_evict(w:World)(g:Nat)(F M:List Nat)(n:Nat)(X:StX)(h:yX w g F M X)(hv:gP w)(hX:vP n X)(hn:n<=800)(c:zB) :
  Calls prog 33 #[.pointer (some ⟨g,0,none⟩),.agg (idC c)] w λe w'=>e=.returned (.int .i64 (gK X c))/\∃F' M',jE w g F M (qU X c) w' F' M':=by
 obtain⟨gd,gs,bo,bv,Fd,Fs,N,h⟩:=h.sp;have hB:Below w.heap.size w (w.alloc (.cells (idC c) 31)):=bA;have hr:zA (w.alloc (.cells (idC c) 31)) w.heap.size 0 32=some (idC c):=by simp[go_sem]
 obtain⟨W,hW⟩:=eR (w.alloc (.cells (idC c) 31))
 obtain⟨ga,E⟩:=eX w.heap.size
 rw[<-hW]at hB hr;rw[E]at hr;have s:=h.kept hB;have c1:W.cell? ⟨g,1,none⟩=some (.pointer (some ⟨gs,0,none⟩)):=by rw[cell_of_row W g 1 _ _ _ s.st.heap];rfl
 have cH:=BZ W.drew gs Fs X.q X.S c (s.st.sto.kept (z9.drew W) sI);have cM:=fun (V:World) (hV:Below W.heap.size W V)=>st_mine V g gd gs bo bv Fd Fs M N n X (s.st.kept (z9.of_below hV) sI sI) (Nat.le_trans hX.len oM) c;obtain⟨m,hm⟩:=eX (nJ X c)
 rw[hm]at cM;have HX:=dH hX;have Hs:=dH h;have Z:=dH s;have HW:=dH hW;have Y:=dH E;have HB:=dH hB;have Hm:=dH hm;clear hX h s hW E hB hm;go_enter func33,ntmps33
 go_upto_region 1 with fail
 rw[<-HW.out,Y.out];obtain⟨hs,B⟩:=eX ((jN X.S c).isSome)
 rw[B]at cH;have f:c∈X.S.map (·.c)↔hs=true:=by
  rw[<-B];cases e:jN X.S c with
  | none=>simpa using wH.1 e
  | some p=>simp;exact⟨p,(jU e).1,(jU e).2⟩
 have t:=dH f;clear B f
 go_cut [15] (λv wx=>v=.bool (hs&&m)/\Below W.heap.size W wx)
 case first =>
  cases hs with
  | false =>
   refine j2 (.loose 0 (.loose 1 (.loose 2 (.loose 3 (.loose 4 (.one 5 (.loose 6 (.loose 7 (.loose 8 (.one 9 (.loose 10 .done))))))))))) (Bel W) false kR kR kR kR (xR W) ?_;have A:=dJ W;have hS:=xR W;have b1:=zK c1;have b2:=zS hr;refine tZ ?_;refine tH ?_;intro K hK;refine(cH).mono ?_;rintro e w' ⟨rfl,hb⟩;replace hS:=xL hS hb;refine⟨_,rfl,hS,hK _ _ ?_⟩;clear hK K hb;refine tZ ?_;refine tH ?_;intro K hK;refine hK _ _ ?_;clear hK K;refine tZ ?_;refine vH ?_;intro hS;go_wp2_with fail
   go_meet
   exact⟨rfl,hS⟩
  | true =>
   refine j2 (.loose 0 (.loose 1 (.loose 2 (.loose 3 (.loose 4 (.one 5 (.loose 6 (.loose 7 (.loose 8 (.one 9 (.loose 10 .done))))))))))) (Bel W) false kR kR kR kR (xR W) ?_;have A:=dJ W;have hS:=xR W;have b1:=zK c1;have b2:=zS hr;refine tZ ?_;refine tH ?_;intro K hK;refine(cH).mono ?_;rintro e w' ⟨rfl,hb⟩;replace hS:=xL hS hb;refine⟨_,rfl,hS,hK _ _ ?_⟩;clear hK K hb;refine tZ ?_;refine tH ?_;intro K hK;refine(cM _ hS).mono ?_;rintro e w' ⟨rfl,hb⟩;replace hS:=xL hS hb;refine⟨_,rfl,hS,hK _ _ ?_⟩;clear hK K hb;refine tZ ?_;refine vH ?_;intro hS;go_wp2_with fail
   go_meet
   cases m <;> exact⟨rfl,hS⟩
 case rest =>
 obtain⟨rfl,k⟩:=hcut;obtain⟨V,rfl⟩:=eR wc
 have a2:=(k.cell (p:=⟨g,1,none⟩) (block_lt_of_cell? W _ c1)).trans c1;have a1:=((z9.of_below k).row (zE hr) sI _ _).trans hr;have G:=dH (HB.out.trans (k.mono HB.out.size));clear cH cM c1 hr;obtain⟨z,hz⟩:=eX (hs&&m)
 rw[hz];have Hz:=dH hz;clear hz;cases z with
 | true =>
  have hb:=Hz.out;have hE:gK X c=1:=by
   unfold gK;simp only[Bool.and_eq_true]at hb;rw[if_pos (t.out.2 hb.1),if_pos (by rw[Hm.out];exact hb.2)]
  have HE:=dH hE;clear hE hb;(go_wp2_with fail);go_ret;refine⟨by rw[HE.out];rfl,F,M,?_⟩;rw[show qU X c=X from if_neg (by rw[HE.out];decide)];exact jE.below Hs.out.at_ G.out
 | false =>
  have hb:=Hz.out;have hE:gK X c=(if c∈X.S.map (·.c)then 0 else 7):=by
   unfold gK;by_cases e:c∈X.S.map (·.c)
   ·rw[if_pos e,if_pos e,if_neg];rw[Hm.out];intro e2;rw[t.out.1 e,e2]at hb;cases hb
   ·rw[if_neg e,if_neg e]
  have HE:=dH hE;have cD:=sto_drop V.drew gs Fs X.q X.S c ((Z.out.st.sto.kept (z9.of_below k) sI).kept (z9.drew V) sI) HX.out.small;have R:=dH (Z.out.kept k);have U:=dH (hv.below G.out);obtain⟨r,y⟩:∃r:Int,(if c∈X.S.map (·.c)then(0:Int)else 7)=r:=⟨_,rfl⟩
  rw[y]at cD hE;have a4:=dH y;have a3:=dH hE;clear hb hE y;go_upto_region 3 with fail
  refine kX Fs V ?_;intro A hS;have hgs:g∉Fs:=by
   have hd:=R.out.st.dis;unfold vW at hd;exact(show vB (([g] :: [bo] :: [bv] :: [Fd])++Fs :: N.map vwF)from hd).ne [g] sI g sI
  have j:ga∉Fs:=λhx=>by
   have h1:=Hs.out.ml ga (Hs.out.fm ga (Hs.out.mem (.inr (.inr (.inr (.inr (.inl hx)))))));have h2:=Y.out;omega
  have b1:=zG a2 hgs;have b2:=zY a1 j;refine lQ ?_;intro K hK;refine cD.mono ?_;rintro e w2 ⟨rfl,⟨F2,d,L⟩,J⟩;have T:=yC hS J iL;refine⟨_,rfl,T,hK _ _ ?_⟩;clear hK K;refine lZ ?_;refine zD ?_;intro hS;have I:z9 Fs V w2:=hS;obtain⟨F',M',a0,H⟩:=R.out.newSto rfl d (λx hx=>.inl (L x hx)) I U.out;have Hn:=dH ((jE.below Hs.out.at_ G.out).trans H);clear A hS T b1 b2 cD d L J a0 H I;(go_wp2_with fail);go_ret;refine⟨by rw[a3.out];rfl,F',M',?_⟩;have e:qU X c=⟨X.q,X.D,X.O,vU X.S c,X.V⟩:=by
   unfold qU;by_cases e:c∈X.S.map (·.c)
   ·rw[if_pos (by rw[HE.out,if_pos e])]
   ·rw[if_neg (by rw[HE.out,if_neg e];decide),JB e]
  rw[e];exact Hn.out
theorem bD.look1{gd gs bo bv:Nat}{N:List (VwX×VwP)}(h:bD w g gd gs bo bv Fd Fs F M N X)(ht:bU t) :
  ∃(o:Option Addr) (b:Bool),(Instr.lookup 67 (.map (some bv)) (.string t) true).run prog w=.ok (.tuple #[.pointer o,.bool b]) w/\hasT X.V t=b:=by
 rcases h.st.look ht with⟨p,hp,e,hl⟩ | ⟨hno,hl⟩
 ·refine⟨_,true,(hl w [] (z9.refl _ _) sI).1,?_⟩;rw[m9,<-h.st.vx,<-e];exact mem_map.2 ⟨p.1,mem_map_of_mem hp,rfl⟩
 ·refine⟨_,false,hl w [] (z9.refl _ _) sI,?_⟩;cases e:hasT X.V t with
  | false=>rfl
  | true=>exact absurd (m9.1 e) hno
theorem fU.lenV{gd gs bo bv:Nat}{N:List (VwX×VwP)}(h:fU w g gd gs bo bv Fd Fs M N X){ty:TypeId}(ha:ats[0]?=some 67):(Builtin.len_ ats ty #[.map (some bv)]).run prog w=.ok (.int .i64 X.V.length) w:=by
 obtain⟨R,es,d,hm,hp⟩:=h.vs;rw[hm.len underlying67 ha,hp.length_eq,<-h.vx,length_map,length_map]
theorem st_may(w:World)(g:Nat)(F M:List Nat)(X:StX)(h:yX w g F M X)(t:ByteArray)(ht:bU t) :
  Calls prog 35 #[.pointer (some ⟨g,0,none⟩),.string t] w λe w'=>e=.returned (.int .i64 (m5 X t))/\w=w':=by
 obtain⟨gd,gs,bo,bv,Fd,Fs,N,h⟩:=h.sp;have c3:w.cell? ⟨g,3,none⟩=some (.map (some bv)):=by rw[cell_of_row w g 3 _ _ _ h.st.heap];rfl
 obtain⟨o,b,hl,hb⟩:=h.look1 ht;have d:=λats ty ha=>h.st.lenV (ats:=ats) (ty:=ty) ha;obtain⟨n,hn⟩:=eX X.V.length
 rw[hn]at d;have hE:m5 X t=if b=true then 15 else if 8<=n then 6 else 0:=by unfold m5;rw[hb,hn]
 rw[hE];have j:=d #[67] 3 rfl;clear h hb hn hE d;cases b with
 | true =>
  go_enter func35,ntmps35
  (go_wp2_with fail);go_ret;exact⟨rfl,rfl⟩
 | false =>
  by_cases h8:8<=n
  ·have f:decide ((8:Int)<=n)=true:=sO;simp only[Bool.false_eq_true,if_false,if_pos h8];clear h8;go_enter func35,ntmps35
   (go_wp2_with fail);go_ret;exact⟨rfl,rfl⟩
  ·have f:decide ((8:Int)<=n)=false:=sO;simp only[Bool.false_eq_true,if_false,if_neg h8];clear h8;go_enter func35,ntmps35
   (go_wp2_with fail);go_ret;exact⟨rfl,rfl⟩
theorem st_unsub(w:World)(g:Nat)(F M:List Nat)(X:StX)(h:yX w g F M X)(t:ByteArray)(ht:bU t) :
  Calls prog 34 #[.pointer (some ⟨g,0,none⟩),.string t] w λe w'=>e=.returned (.int .i64 (XG X t))/\∃F' M',jE w g F M (wO X t) w' F' M':=by
 obtain⟨gd,gs,bo,bv,Fd,Fs,N,h⟩:=h.sp;have c3:w.cell? ⟨g,3,none⟩=some (.map (some bv)):=by rw[cell_of_row w g 3 _ _ _ h.st.heap];rfl
 obtain⟨o,b,hl,hb⟩:=h.look1 ht;have hE:XG X t=if b=true then 0 else 15:=by unfold XG;rw[hb]
 rw[hE];obtain⟨w2,hd,F',N',f,d⟩:=h.delView ht 0;have Hs:=dH h;have Hn:=dH d;have Hb:=dH hb;clear h hb hE f d;cases b with
 | true =>
  go_enter func34,ntmps34
  (go_wp2_with fail);go_ret;exact⟨rfl,F',M,Hn.out⟩
 | false =>
  have e:wO X t=X:=unsubX_no (λhm=>by have:=m9.2 hm;rw[Hb.out]at this;cases this);rw[e];clear e;go_enter func34,ntmps34
  (go_wp2_with fail);go_ret;exact⟨rfl,F,M,jE.refl Hs.out.at_⟩
end Go.Proofs.YtdjiaickicgdlaaGreatDoor
