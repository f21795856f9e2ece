/- Part 4 of the texts that lead to this claim: the walks of the functions and the plain law, in order. -/
import Derived.Test.YtgfpjjppeldhbaaGreatDoorMv3
import Derived.IntWalk
namespace Go.Proofs.YtgfpjjppeldhbaaGreatDoor
open Go.RowKit
set_option maxRecDepth 100000
set_option maxHeartbeats 8000000
theorem takeO_3(l:List UInt8)(e:Int):yX 3 l e=⟨⟨3,0,⟨#[]⟩,txV l e,id0,(fP (txL l e) (txE l e)).ids⟩,(fP (txL l e) (txE l e)).l,(fP (txL l e) (txE l e)).e⟩:=rfl
theorem takeO_5(l:List UInt8)(e:Int):yX 5 l e=⟨⟨5,0,txV l e,txV (txL l e) (txE l e),id0,(fP (txL (txL l e) (txE l e)) (txE (txL l e) (txE l e))).ids⟩,(fP (txL (txL l e) (txE l e)) (txE (txL l e) (txE l e))).l,(fP (txL (txL l e) (txE l e)) (txE (txL l e) (txE l e))).e⟩:=rfl
theorem take_3(w:World)(g:Nat)(l:List UInt8)(e:Int)(h:q8 w g l e)(hp:xL w) :
  Calls Tryz.prog 134 #[.pointer (some ⟨g,0,none⟩),.int .i64 3] w λen w'=>∃A cap,en=.returned (.agg (opC (yX 3 l e).o A cap))/\Own w' w.heap.size 39 32 A (yX 3 l e).o.refs.length cap ((yX 3 l e).o.refs.map idC)/\q8 w' g (yX 3 l e).l (yX 3 l e).e/\z6 [g] w w':=by
 have D:((w.alloc (.cells (zB yT) 52)).alloc (.cells (zB ⟨3,0,⟨#[]⟩,⟨#[]⟩,id0,.slice none 0 0⟩) 52)).heap[w.heap.size]?=some (.cells (zB yT) 52 (0,0)):=by
  rw[Below.heap_alloc _ _ _ sI];exact heap_alloc_new w _
 have t:((w.alloc (.cells (zB yT) 52)).alloc (.cells (zB ⟨3,0,⟨#[]⟩,⟨#[]⟩,id0,.slice none 0 0⟩) 52)).heap[w.heap.size+1]?=some (.cells (zB ⟨3,0,⟨#[]⟩,⟨#[]⟩,id0,.slice none 0 0⟩) 52 (0,0)):=by
  have:=heap_alloc_new (w.alloc (.cells (zB yT) 52)) (.cells (zB ⟨3,0,⟨#[]⟩,⟨#[]⟩,id0,.slice none 0 0⟩) 52);simpa using this
 have a8:Below w.heap.size w ((w.alloc (.cells (zB yT) 52)).alloc (.cells (zB ⟨3,0,⟨#[]⟩,⟨#[]⟩,id0,.slice none 0 0⟩) 52)):=(bA).alloc sI _;have b3:=dE 3 _ (hp.below a8) oM;rw[show kJ 3=20 from rfl]at b3;have hE:=h.below a8;have f8:=h.lt;go_enter Tryz.func134,Tryz.ntmps134
 go_upto_region 2 with fail
 obtain⟨ga,c3⟩:=eX w.heap.size
 have e7:=dH c3;obtain⟨W,hW⟩:=eR ((w.alloc (.cells (zB yT) 52)).alloc (.cells (zB ⟨3,0,⟨#[]⟩,⟨#[]⟩,id0,.slice none 0 0⟩) 52))
 rw[<-hW]at a8 D t hE b3 |-;rw[c3]at D t f8 |-;clear hW h hp c3;have I:z6 [g,ga+1] w W:=(z6.of_below a8).mono sI;have a3:g∉[ga+1]:=sO;have b8:ga∉[g,ga+1]:=sO;have a2:ga+1∉[g]:=sO;have G:ga+1<W.heap.size:=(aG t).1;(go_wp2_with fail);refine b3.mono ?_;rintro en w1 ⟨rfl,rfl⟩;clear b3;(go_wp2_with fail);refine(vQ _ g _ _ hE).mono ?_;rintro en w2 ⟨rfl,d2,d9⟩;have f6:=yI 1 (l) (e);(go_wp2_with fail);refine(bD _ g _ _ _ d2 oM).mono ?_;rintro en w3 ⟨rfl,U,d8⟩;replace U:q8 w3 g (txL (l) (e)) (txE (l) (e)):=U;obtain⟨val,b9⟩:=eX (mkB (yV (yK 1 (l) (e)) (zK 1 (l) (e)) (zM 1 (l) (e))))
 have c7:=dH (show txV (l) (e)=val from b9);rw[b9];have f:z6 [g] W w3:=z6.trans d9 d8 iL;have b7:=(f.block (ga+1) G a2).trans t;have a7:∀j,w3.frozen? ⟨ga+1,j,none⟩=false:=λj=>(by simp[World.frozen?,b7]);have x0:w3.cell? ⟨ga+1,3,none⟩=some (.string ⟨#[]⟩):=by rw[cell_of_row w3 (ga+1) _ _ _ _ b7];simp[go_sem]
 have f0:=a7 3;have m:=zA b7 3 (.string val);rw[dN]at m;have E:=z6.setCell w3 ⟨ga+1,3,none⟩ (.string val);have a0:=U.kept E a3;have r:=((z6.trans (f.mono (S':=[g,ga+1]) sI) (E.mono (S':=[g,ga+1]) sI) iL).block ga oM b8).trans D;have y:z6 [g,ga+1] w (w3.setCell ⟨ga+1,3,none⟩ (.string val)):=z6.trans (z6.trans I (f.mono (S':=[g,ga+1]) sI) iL) (E.mono (S':=[g,ga+1]) sI) iL;have J:W.heap.size<=(w3.setCell ⟨ga+1,3,none⟩ (.string val)).heap.size:=Nat.le_trans f.size E.size;clear hE d2 d9 f6 b9 U d8 f t D b7 a7 E I;go_upto_region 12 with fail
 obtain⟨W',e0⟩:=eR (w3.setCell ⟨ga+1,3,none⟩ (.string val))
 rw[<-e0]at m a0 r y J |-;clear e0 x0 f0;have V:ga+1<W'.heap.size:=oM;clear G J;obtain⟨W,rfl⟩:∃W:World,W=W':=⟨_,rfl⟩
 have G:=V;have hE:=a0;have D:=r;have t:=m;have I:=y;clear V a0 r m y;(go_wp2_with fail);refine(vQ _ g _ _ hE).mono ?_;rintro en w3 ⟨rfl,U,f⟩;have f5:=yI 1 (txL l e) (txE l e);have c5:Hid (fP (txL l e) (txE l e)=kH (yK 1 (txL l e) (txE l e)) ⟨[],zK 1 (txL l e) (txE l e),zM 1 (txL l e) (txE l e)⟩):=by show _=_;rfl
 obtain⟨N,hN⟩:=eX (yK 1 (txL l e) (txE l e))
 rw[hN]at f5 c5 |-;clear hN;have m:=(f.block (ga+1) G a2).trans t;have r:=(f.block ga oM sO).trans D;have y:z6 [g,ga+1] w w3:=z6.trans I (f.mono (S':=[g,ga+1]) sI) iL;have a0:q8 w3 g (zK 1 (txL l e) (txE l e)) (zM 1 (txL l e) (txE l e)):=U;have h0:ga+1<w3.heap.size:=oH f.size;have c6:Hid (w.heap.size<=w3.heap.size):=by have h1:=y.size;exact h1
 clear hE U f t D I G;obtain⟨W3,rfl⟩:∃W:World,W=w3:=⟨_,rfl⟩
 (go_wp2_with fail);go_loopw [47] (λi wr=>∃(k:Nat) (s:ZD) (A:Option Addr) (cap:Nat),k<=N/\i=.int .i64 k/\s.ids.length=k/\Hid (kH N ⟨[],zK 1 (txL l e) (txE l e),zM 1 (txL l e) (txE l e)⟩=kH (N-k) s)/\wr.heap[ga+1]?=some (.cells (zB ⟨3,0,⟨#[]⟩,val,id0,.slice A s.ids.length cap⟩) 52 (0,0))/\wr.heap[ga]?=some (.cells (zB yT) 52 (0,0))/\q8 wr g s.l s.e/\Own wr W3.heap.size 39 32 A s.ids.length cap (s.ids.map idC)/\z6 [g,ga+1] w wr/\W3.heap.size<=wr.heap.size) (λi _=>N-(intOf i).toNat)
 case atStart=>exact⟨0,⟨[],zK 1 (txL l e) (txE l e),zM 1 (txL l e) (txE l e)⟩,none,0,zL,rfl,rfl,(show _=_ from rfl),m,r,a0,Own.nil _ _ _ _,y,lR⟩
 case round =>
  clear m r a0 y;obtain⟨k,s,A,cap,hk,rfl,b2,b4,t,D,hE,B,I,g8⟩:=hrel;obtain⟨ids,l3,e3⟩:=s;dsimp only at *;by_cases g9:k<N
  ·have X:=b4.out;rw[(oM:N-k=(N-(k+1))+1)]at X;have a4:kH N ⟨[],zK 1 (txL l e) (txE l e),zM 1 (txL l e) (txE l e)⟩=kH (N-(k+1)) ⟨ids ++ [q3 (yV 32 l3 e3)],zK 32 l3 e3,zM 32 l3 e3⟩:=X;have e6:=dH a4;clear b4 X a4;have b0:∀x∈blk A,W3.heap.size<=x/\x<wr.heap.size:=λx hx=>B.at_base hx;have d3:ga+1∉g :: blk A:=by
    intro hm;rcases List.mem_cons.1 hm with h1 | h1
    ·omega
    ·have:=(b0 _ h1).1;omega
   have f9:g∉blk A:=λh1=>(oH ((b0 _ h1).1));have c2:ga∉g :: blk A:=by
    intro hm;rcases List.mem_cons.1 hm with h1 | h1
    ·omega
    ·have:=(b0 _ h1).1;omega
   have x0:wr.cell? ⟨ga+1,36,none⟩=some (.slice A ids.length cap):=by rw[cell_of_row wr (ga+1) _ _ _ _ t];simp[go_sem]
   have e5:=zr wr.drew g l3 e3 (hE.kept (z6.drew wr) sI);have f7:ids.length<=255:=oM;have e8:=dH b2;clear b2;go_upto_region 14 with fail
   refine kF (g :: blk A) wr ?_;intro f4 hS;have b1:=zP x0 d3;refine lZ ?_;refine lH ?_;intro K hK;refine e5.mono ?_;rintro en w4 ⟨rfl,a9,b6⟩;replace hS:=xA hS b6 sI;refine⟨_,rfl,hS,hK _ _ ?_⟩;clear hK K e5;refine lZ ?_;refine lH ?_;intro K hK;refine zG (xP hS _) (λhS=>?_);refine hK _ _ ?_;clear hK K;obtain⟨d,hd⟩:=eX (q3 (yV 32 l3 e3))
   rw[hd]at hS |-;have Hd:=dH hd;clear hd;have L:z6 [g] wr w4:=z6.trans ((z6.drew wr).mono (S':=[g]) sI) b6 iL;have c4:=z6.alloc w4 (.cells (idC d) 39);have R:=(B.kept L (λx hx=>oS ((b0 x hx).1))).kept c4 sI;have O:z7 (w4.alloc (.cells (idC d) 39)) w4.heap.size 0 32=some (idC d):=by simp[go_sem]
   have f1:=L.size;have e2:W3.heap.size<=(w4.alloc (.cells (idC d) 39)).heap.size:=sO;refine vW xI rfl R rfl O (xG _) oM oM e2 ?_;intro A2 H w5 F d7 a1;have Y:z6 (blk A) w4 w5:=z6.trans (c4.mono (S':=blk A) sI) d7 iL;have Z:z6 (g :: blk A) wr w5:=z6.trans (L.mono (S':=g :: blk A) sI) (Y.mono (S':=g :: blk A) (λx hx=>.inl (List.mem_cons_of_mem _ hx))) iL;refine zG Z (λg0=>?_);refine lZ ?_;have c1:ga+1<wr.heap.size:=(aG t).1;have M:=(Z.block (ga+1) c1 d3).trans t;have a5:=(Z.block ga oM c2).trans D;have f0:w5.frozen? ⟨ga+1,36,none⟩=false:=by simp[World.frozen?,M]
   have d0:w5.cell? ⟨ga+1,36,none⟩=some (.slice A ids.length cap):=by rw[cell_of_row w5 (ga+1) _ _ _ _ M];simp[go_sem]
   refine vI ?_ ?_;(focus(simp only[yO];done));intro K hK;go_simp;refine hK _ _ ?_;clear hK K;have c0:=b6;have m:=zA M 36 (.slice A2 (ids.length+1) H);rw[pJ]at m;have E:=z6.setCell w5 ⟨ga+1,36,none⟩ (.slice A2 (ids.length+1) H);have g2:=(q8.kept a9 Y f9).kept E a3;have r:=(E.block ga (oH Z.size) sI).trans a5;have e4:∀x∈blk A2,x∉[ga+1]:=λx hx=>(oS ((F.at_base hx).1));have T:=F.kept E e4;have g1:z6 [g,ga+1] w (w5.setCell ⟨ga+1,36,none⟩ (.slice A2 (ids.length+1) H)):=by
    have h1:z6 [g,ga+1] w w5:=(z6.trans (I.mono (S':=g :: (ga+1) :: blk A) (by intro x hx;simp at hx |-;omega)) (Z.mono (S':=g :: (ga+1) :: blk A) (λx hx=>.inl (by rcases List.mem_cons.1 hx with h | h;exact List.mem_cons.2 (.inl h);exact List.mem_cons.2 (.inr (List.mem_cons.2 (.inr h)))))) iL).narrow (λx hx=>by
     rcases List.mem_cons.1 hx with h | h
     ·exact .inl (by simp[h])
     ·rcases List.mem_cons.1 h with h | h
      ·exact .inl (by simp[h])
      ·right;have:=(b0 x h).1;have:=c6.out;omega)
    exact z6.trans h1 (E.mono (S':=[g,ga+1]) sI) iL
   have J:W3.heap.size<=(w5.setCell ⟨ga+1,36,none⟩ (.slice A2 (ids.length+1) H)).heap.size:=by have:=Z.size;have:=E.size;omega
   have d4:(ids ++ [d]).length=ids.length+1:=sI;rw[(sI:ids.map idC ++ [idC d]=(ids ++ [d]).map idC)]at T;have c8:=dH d4;rw[Hd.out]at e6;clear d4 f0 d0 b1 f4 hS Z g0 L Y b6 c0 d7 a1 F R O c4 M a5 E a9 e2 B hE t D x0 e4 I;(go_wp2_with fail);go_roundw
   case rel=>exact⟨k+1,⟨ids ++ [d],zK 32 l3 e3,zM 32 l3 e3⟩,A2,H,oM,by go_num,by rw[c8.out,e8.out],e6,(by rw[c8.out];exact m),r,g2,(by rw[c8.out];exact T),g1,J⟩
   case measure=>exact sZ
  ·have a6:fP (txL l e) (txE l e)=⟨ids,l3,e3⟩:=by rw[c5.out,b4.out,(oM:N-k=0)];rfl
   have g3:=dH a6;have e8:=dH b2;clear b2 a6 b4 c5;have g7:Hid (w.heap.size<=W3.heap.size):=c6.out;obtain⟨W,rfl⟩:∃W:World,W=wr:=⟨_,rfl⟩
   have e9:=dH (B.mono c6.out);have c9:Hid (∀x∈blk A,ga+1<x):=λx hx=>(oH ((B.at_base hx).1));clear B;go_upto_region 16 with fail
   have f3:z7 W (ga+1) 0 37=some (zB ⟨3,0,⟨#[]⟩,val,id0,.slice A ids.length cap⟩):=by unfold z7;rw[t];simp[go_sem]
   have f2:=yU (P:=Tryz.prog) yY W ga (zB yT) (zB ⟨3,0,⟨#[]⟩,val,id0,.slice A ids.length cap⟩) _ D sI sI (jT _ rfl);have b5:z6 [ga] W (W.setRow ga (zB ⟨3,0,⟨#[]⟩,val,id0,.slice A ids.length cap⟩)):=⟨rfl,rfl,rfl,by simp[World.setRow],λx _ hx=>setRow_other W ga x _ (by simpa using hx)⟩
   have d1:=dH (setRow_heap W ga _ (zB ⟨3,0,⟨#[]⟩,val,id0,.slice A ids.length cap⟩) _ _ D);have a9:=hE.kept b5 sO;have d6:z6 [g,ga,ga+1] w (W.setRow ga (zB ⟨3,0,⟨#[]⟩,val,id0,.slice A ids.length cap⟩)):=z6.trans (I.mono (S':=[g,ga,ga+1]) (by intro x hx;simp at hx |-;omega)) (b5.mono (S':=[g,ga,ga+1]) sI) iL;have d5:z6 [g] w (W.setRow ga (zB ⟨3,0,⟨#[]⟩,val,id0,.slice A ids.length cap⟩)):=d6.narrow (λx hx=>by have:=e7.out;simp at hx |-;omega);have g6:=dH a9;have g4:=dH d5;have g5:=dH (e9.out.kept b5 (λx hx=>by have:=(e9.out.at_base hx).1;have:=e7.out;have:=c9.out x hx;simp;omega));clear a9 hE d6 d5 b5 D t a8 I;(go_wp2_with fail);refine bodyPost_ret (results_cell_row Tryz.results134 _ _ ga 52 (zB ⟨3,0,⟨#[]⟩,val,id0,.slice A ids.length cap⟩) (0,0) _ rfl d1.out Tryz.underlying52 rfl (by rw[qQ];exact yY)) rfl ?_;have e1:yX 3 l e=⟨⟨3,0,⟨#[]⟩,val,id0,ids⟩,l3,e3⟩:=by
    rw[takeO_3];rw[g3.out,c7.out]
   rw[e1];exact⟨A,cap,rfl,g5.out,g6.out,g4.out⟩
theorem take_5(w:World)(g:Nat)(l:List UInt8)(e:Int)(h:q8 w g l e)(hp:xL w) :
  Calls Tryz.prog 134 #[.pointer (some ⟨g,0,none⟩),.int .i64 5] w λen w'=>∃A cap,en=.returned (.agg (opC (yX 5 l e).o A cap))/\Own w' w.heap.size 39 32 A (yX 5 l e).o.refs.length cap ((yX 5 l e).o.refs.map idC)/\q8 w' g (yX 5 l e).l (yX 5 l e).e/\z6 [g] w w':=by
 have F:((w.alloc (.cells (zB yT) 52)).alloc (.cells (zB ⟨5,0,⟨#[]⟩,⟨#[]⟩,id0,.slice none 0 0⟩) 52)).heap[w.heap.size]?=some (.cells (zB yT) 52 (0,0)):=by
  rw[Below.heap_alloc _ _ _ sI];exact heap_alloc_new w _
 have B:((w.alloc (.cells (zB yT) 52)).alloc (.cells (zB ⟨5,0,⟨#[]⟩,⟨#[]⟩,id0,.slice none 0 0⟩) 52)).heap[w.heap.size+1]?=some (.cells (zB ⟨5,0,⟨#[]⟩,⟨#[]⟩,id0,.slice none 0 0⟩) 52 (0,0)):=by
  have:=heap_alloc_new (w.alloc (.cells (zB yT) 52)) (.cells (zB ⟨5,0,⟨#[]⟩,⟨#[]⟩,id0,.slice none 0 0⟩) 52);simpa using this
 have b5:Below w.heap.size w ((w.alloc (.cells (zB yT) 52)).alloc (.cells (zB ⟨5,0,⟨#[]⟩,⟨#[]⟩,id0,.slice none 0 0⟩) 52)):=(bA).alloc sI _;have c0:=dE 5 _ (hp.below b5) oM;rw[show kJ 5=22 from rfl]at c0;have hE:=h.below b5;have f9:=h.lt;go_enter Tryz.func134,Tryz.ntmps134
 go_upto_region 2 with fail
 obtain⟨ga,c8⟩:=eX w.heap.size
 have e9:=dH c8;obtain⟨W,hW⟩:=eR ((w.alloc (.cells (zB yT) 52)).alloc (.cells (zB ⟨5,0,⟨#[]⟩,⟨#[]⟩,id0,.slice none 0 0⟩) 52))
 rw[<-hW]at b5 F B hE c0 |-;rw[c8]at F B f9 |-;clear hW h hp c8;have I:z6 [g,ga+1] w W:=(z6.of_below b5).mono sI;have a1:g∉[ga+1]:=sO;have a8:ga∉[g,ga+1]:=sO;have a0:ga+1∉[g]:=sO;have E:ga+1<W.heap.size:=(aG B).1;(go_wp2_with fail);refine c0.mono ?_;rintro en w1 ⟨rfl,rfl⟩;clear c0;(go_wp2_with fail);refine(vQ _ g _ _ hE).mono ?_;rintro en w2 ⟨rfl,a7,b2⟩;have c4:=yI 1 (l) (e);(go_wp2_with fail);refine(bD _ g _ _ _ a7 oM).mono ?_;rintro en w3 ⟨rfl,J,b0⟩;replace J:q8 w3 g (txL (l) (e)) (txE (l) (e)):=J;obtain⟨key,a3⟩:=eX (mkB (yV (yK 1 (l) (e)) (zK 1 (l) (e)) (zM 1 (l) (e))))
 have d5:=dH (show txV (l) (e)=key from a3);rw[a3];have f:z6 [g] W w3:=z6.trans b2 b0 iL;have X:=(f.block (ga+1) E a0).trans B;have M:∀j,w3.frozen? ⟨ga+1,j,none⟩=false:=λj=>(by simp[World.frozen?,X]);have x0:w3.cell? ⟨ga+1,2,none⟩=some (.string ⟨#[]⟩):=by rw[cell_of_row w3 (ga+1) _ _ _ _ X];simp[go_sem]
 have f0:=M 2;have m:=zA X 2 (.string key);rw[sK]at m;have y:=z6.setCell w3 ⟨ga+1,2,none⟩ (.string key);have R:=J.kept y a1;have r:=((z6.trans (f.mono (S':=[g,ga+1]) sI) (y.mono (S':=[g,ga+1]) sI) iL).block ga oM a8).trans F;have t:z6 [g,ga+1] w (w3.setCell ⟨ga+1,2,none⟩ (.string key)):=z6.trans (z6.trans I (f.mono (S':=[g,ga+1]) sI) iL) (y.mono (S':=[g,ga+1]) sI) iL;have G:W.heap.size<=(w3.setCell ⟨ga+1,2,none⟩ (.string key)).heap.size:=Nat.le_trans f.size y.size;clear hE a7 b2 c4 a3 J b0 f B F X M y I;go_upto_region 7 with fail
 obtain⟨W',b6⟩:=eR (w3.setCell ⟨ga+1,2,none⟩ (.string key))
 rw[<-b6]at m R r t G |-;clear b6 x0 f0;have D:ga+1<W'.heap.size:=oM;clear E G;obtain⟨W,rfl⟩:∃W:World,W=W':=⟨_,rfl⟩
 have E:=D;have hE:=R;have F:=r;have B:=m;have I:=t;clear D R r m t;(go_wp2_with fail);refine(vQ _ g _ _ hE).mono ?_;rintro en w2 ⟨rfl,a7,b2⟩;have c4:=yI 1 (txL l e) (txE l e);(go_wp2_with fail);refine(bD _ g _ _ _ a7 oM).mono ?_;rintro en w3 ⟨rfl,J,b0⟩;replace J:q8 w3 g (txL (txL l e) (txE l e)) (txE (txL l e) (txE l e)):=J;obtain⟨val,a3⟩:=eX (mkB (yV (yK 1 (txL l e) (txE l e)) (zK 1 (txL l e) (txE l e)) (zM 1 (txL l e) (txE l e))))
 have d3:=dH (show txV (txL l e) (txE l e)=val from a3);rw[a3];have f:z6 [g] W w3:=z6.trans b2 b0 iL;have X:=(f.block (ga+1) E a0).trans B;have M:∀j,w3.frozen? ⟨ga+1,j,none⟩=false:=λj=>(by simp[World.frozen?,X]);have x0:w3.cell? ⟨ga+1,3,none⟩=some (.string ⟨#[]⟩):=by rw[cell_of_row w3 (ga+1) _ _ _ _ X];simp[go_sem]
 have f0:=M 3;have m:=zA X 3 (.string val);rw[dN]at m;have y:=z6.setCell w3 ⟨ga+1,3,none⟩ (.string val);have R:=J.kept y a1;have r:=((z6.trans (f.mono (S':=[g,ga+1]) sI) (y.mono (S':=[g,ga+1]) sI) iL).block ga oM a8).trans F;have t:z6 [g,ga+1] w (w3.setCell ⟨ga+1,3,none⟩ (.string val)):=z6.trans (z6.trans I (f.mono (S':=[g,ga+1]) sI) iL) (y.mono (S':=[g,ga+1]) sI) iL;have G:W.heap.size<=(w3.setCell ⟨ga+1,3,none⟩ (.string val)).heap.size:=Nat.le_trans f.size y.size;clear hE a7 b2 c4 a3 J b0 f B F X M y I;go_upto_region 12 with fail
 obtain⟨W',b6⟩:=eR (w3.setCell ⟨ga+1,3,none⟩ (.string val))
 rw[<-b6]at m R r t G |-;clear b6 x0 f0;have D:ga+1<W'.heap.size:=oM;clear E G;obtain⟨W,rfl⟩:∃W:World,W=W':=⟨_,rfl⟩
 have E:=D;have hE:=R;have F:=r;have B:=m;have I:=t;clear D R r m t;(go_wp2_with fail);refine(vQ _ g _ _ hE).mono ?_;rintro en w3 ⟨rfl,J,f⟩;have f7:=yI 1 (txL (txL l e) (txE l e)) (txE (txL l e) (txE l e));have d1:Hid (fP (txL (txL l e) (txE l e)) (txE (txL l e) (txE l e))=kH (yK 1 (txL (txL l e) (txE l e)) (txE (txL l e) (txE l e))) ⟨[],zK 1 (txL (txL l e) (txE l e)) (txE (txL l e) (txE l e)),zM 1 (txL (txL l e) (txE l e)) (txE (txL l e) (txE l e))⟩):=by show _=_;rfl
 obtain⟨N,hN⟩:=eX (yK 1 (txL (txL l e) (txE l e)) (txE (txL l e) (txE l e)))
 rw[hN]at f7 d1 |-;clear hN;have m:=(f.block (ga+1) E a0).trans B;have r:=(f.block ga oM sO).trans F;have t:z6 [g,ga+1] w w3:=z6.trans I (f.mono (S':=[g,ga+1]) sI) iL;have R:q8 w3 g (zK 1 (txL (txL l e) (txE l e)) (txE (txL l e) (txE l e))) (zM 1 (txL (txL l e) (txE l e)) (txE (txL l e) (txE l e))):=J;have h2:ga+1<w3.heap.size:=oH f.size;have d2:Hid (w.heap.size<=w3.heap.size):=by have h1:=t.size;exact h1
 clear hE J f B F I E;obtain⟨W3,rfl⟩:∃W:World,W=w3:=⟨_,rfl⟩
 (go_wp2_with fail);go_loopw [47] (λi wr=>∃(k:Nat) (s:ZD) (A:Option Addr) (cap:Nat),k<=N/\i=.int .i64 k/\s.ids.length=k/\Hid (kH N ⟨[],zK 1 (txL (txL l e) (txE l e)) (txE (txL l e) (txE l e)),zM 1 (txL (txL l e) (txE l e)) (txE (txL l e) (txE l e))⟩=kH (N-k) s)/\wr.heap[ga+1]?=some (.cells (zB ⟨5,0,key,val,id0,.slice A s.ids.length cap⟩) 52 (0,0))/\wr.heap[ga]?=some (.cells (zB yT) 52 (0,0))/\q8 wr g s.l s.e/\Own wr W3.heap.size 39 32 A s.ids.length cap (s.ids.map idC)/\z6 [g,ga+1] w wr/\W3.heap.size<=wr.heap.size) (λi _=>N-(intOf i).toNat)
 case atStart=>exact⟨0,⟨[],zK 1 (txL (txL l e) (txE l e)) (txE (txL l e) (txE l e)),zM 1 (txL (txL l e) (txE l e)) (txE (txL l e) (txE l e))⟩,none,0,zL,rfl,rfl,(show _=_ from rfl),m,r,R,Own.nil _ _ _ _,t,lR⟩
 case round =>
  clear m r R t;obtain⟨k,s,A,cap,hk,rfl,b9,c1,B,F,hE,H,I,g9⟩:=hrel;obtain⟨ids,l3,e3⟩:=s;dsimp only at *;by_cases h0:k<N
  ·have a2:=c1.out;rw[(oM:N-k=(N-(k+1))+1)]at a2;have a9:kH N ⟨[],zK 1 (txL (txL l e) (txE l e)) (txE (txL l e) (txE l e)),zM 1 (txL (txL l e) (txE l e)) (txE (txL l e) (txE l e))⟩=kH (N-(k+1)) ⟨ids ++ [q3 (yV 32 l3 e3)],zK 32 l3 e3,zM 32 l3 e3⟩:=a2;have e8:=dH a9;clear c1 a2 a9;have b8:∀x∈blk A,W3.heap.size<=x/\x<wr.heap.size:=λx hx=>H.at_base hx;have d8:ga+1∉g :: blk A:=by
    intro hm;rcases List.mem_cons.1 hm with h1 | h1
    ·omega
    ·have:=(b8 _ h1).1;omega
   have g0:g∉blk A:=λh1=>(oH ((b8 _ h1).1));have c7:ga∉g :: blk A:=by
    intro hm;rcases List.mem_cons.1 hm with h1 | h1
    ·omega
    ·have:=(b8 _ h1).1;omega
   have x0:wr.cell? ⟨ga+1,36,none⟩=some (.slice A ids.length cap):=by rw[cell_of_row wr (ga+1) _ _ _ _ B];simp[go_sem]
   have e7:=zr wr.drew g l3 e3 (hE.kept (z6.drew wr) sI);have f8:ids.length<=255:=oM;have f1:=dH b9;clear b9;go_upto_region 14 with fail
   refine kF (g :: blk A) wr ?_;intro f6 hS;have b1:=zP x0 d8;refine lZ ?_;refine lH ?_;intro K hK;refine e7.mono ?_;rintro en w4 ⟨rfl,b7,c3⟩;replace hS:=xA hS c3 sI;refine⟨_,rfl,hS,hK _ _ ?_⟩;clear hK K e7;refine lZ ?_;refine lH ?_;intro K hK;refine zG (xP hS _) (λhS=>?_);refine hK _ _ ?_;clear hK K;obtain⟨d,hd⟩:=eX (q3 (yV 32 l3 e3))
   rw[hd]at hS |-;have Hd:=dH hd;clear hd;have T:z6 [g] wr w4:=z6.trans ((z6.drew wr).mono (S':=[g]) sI) c3 iL;have c9:=z6.alloc w4 (.cells (idC d) 39);have Z:=(H.kept T (λx hx=>oS ((b8 x hx).1))).kept c9 sI;have Y:z7 (w4.alloc (.cells (idC d) 39)) w4.heap.size 0 32=some (idC d):=by simp[go_sem]
   have f3:=T.size;have e5:W3.heap.size<=(w4.alloc (.cells (idC d) 39)).heap.size:=sO;refine vW xI rfl Z rfl Y (xG _) oM oM e5 ?_;intro A2 O w5 L e4 a6;have a4:z6 (blk A) w4 w5:=z6.trans (c9.mono (S':=blk A) sI) e4 iL;have a5:z6 (g :: blk A) wr w5:=z6.trans (T.mono (S':=g :: blk A) sI) (a4.mono (S':=g :: blk A) (λx hx=>.inl (List.mem_cons_of_mem _ hx))) iL;refine zG a5 (λg1=>?_);refine lZ ?_;have c6:ga+1<wr.heap.size:=(aG B).1;have V:=(a5.block (ga+1) c6 d8).trans B;have b3:=(a5.block ga oM c7).trans F;have f0:w5.frozen? ⟨ga+1,36,none⟩=false:=by simp[World.frozen?,V]
   have d0:w5.cell? ⟨ga+1,36,none⟩=some (.slice A ids.length cap):=by rw[cell_of_row w5 (ga+1) _ _ _ _ V];simp[go_sem]
   refine vI ?_ ?_;(focus(simp only[yO];done));intro K hK;go_simp;refine hK _ _ ?_;clear hK K;have c5:=c3;have m:=zA V 36 (.slice A2 (ids.length+1) O);rw[pJ]at m;have y:=z6.setCell w5 ⟨ga+1,36,none⟩ (.slice A2 (ids.length+1) O);have g3:=(q8.kept b7 a4 g0).kept y a1;have r:=(y.block ga (oH a5.size) sI).trans b3;have e6:∀x∈blk A2,x∉[ga+1]:=λx hx=>(oS ((L.at_base hx).1));have U:=L.kept y e6;have g2:z6 [g,ga+1] w (w5.setCell ⟨ga+1,36,none⟩ (.slice A2 (ids.length+1) O)):=by
    have h1:z6 [g,ga+1] w w5:=(z6.trans (I.mono (S':=g :: (ga+1) :: blk A) (by intro x hx;simp at hx |-;omega)) (a5.mono (S':=g :: (ga+1) :: blk A) (λx hx=>.inl (by rcases List.mem_cons.1 hx with h | h;exact List.mem_cons.2 (.inl h);exact List.mem_cons.2 (.inr (List.mem_cons.2 (.inr h)))))) iL).narrow (λx hx=>by
     rcases List.mem_cons.1 hx with h | h
     ·exact .inl (by simp[h])
     ·rcases List.mem_cons.1 h with h | h
      ·exact .inl (by simp[h])
      ·right;have:=(b8 x h).1;have:=d2.out;omega)
    exact z6.trans h1 (y.mono (S':=[g,ga+1]) sI) iL
   have G:W3.heap.size<=(w5.setCell ⟨ga+1,36,none⟩ (.slice A2 (ids.length+1) O)).heap.size:=by have:=a5.size;have:=y.size;omega
   have d9:(ids ++ [d]).length=ids.length+1:=sI;rw[(sI:ids.map idC ++ [idC d]=(ids ++ [d]).map idC)]at U;have d4:=dH d9;rw[Hd.out]at e8;clear d9 f0 d0 b1 f6 hS a5 g1 T a4 c3 c5 e4 a6 L Z Y c9 V b3 y b7 e5 H hE B F x0 e6 I;(go_wp2_with fail);go_roundw
   case rel=>exact⟨k+1,⟨ids ++ [d],zK 32 l3 e3,zM 32 l3 e3⟩,A2,O,oM,by go_num,by rw[d4.out,f1.out],e8,(by rw[d4.out];exact m),r,g3,(by rw[d4.out];exact U),g2,G⟩
   case measure=>exact sZ
  ·have b4:fP (txL (txL l e) (txE l e)) (txE (txL l e) (txE l e))=⟨ids,l3,e3⟩:=by rw[d1.out,c1.out,(oM:N-k=0)];rfl
   have g4:=dH b4;have f1:=dH b9;clear b9 b4 c1 d1;have g8:Hid (w.heap.size<=W3.heap.size):=d2.out;obtain⟨W,rfl⟩:∃W:World,W=wr:=⟨_,rfl⟩
   have f2:=dH (H.mono d2.out);have d6:Hid (∀x∈blk A,ga+1<x):=λx hx=>(oH ((H.at_base hx).1));clear H;go_upto_region 16 with fail
   have f5:z7 W (ga+1) 0 37=some (zB ⟨5,0,key,val,id0,.slice A ids.length cap⟩):=by unfold z7;rw[B];simp[go_sem]
   have f4:=yU (P:=Tryz.prog) yY W ga (zB yT) (zB ⟨5,0,key,val,id0,.slice A ids.length cap⟩) _ F sI sI (jT _ rfl);have c2:z6 [ga] W (W.setRow ga (zB ⟨5,0,key,val,id0,.slice A ids.length cap⟩)):=⟨rfl,rfl,rfl,by simp[World.setRow],λx _ hx=>setRow_other W ga x _ (by simpa using hx)⟩
   have d7:=dH (setRow_heap W ga _ (zB ⟨5,0,key,val,id0,.slice A ids.length cap⟩) _ _ F);have b7:=hE.kept c2 sO;have e2:z6 [g,ga,ga+1] w (W.setRow ga (zB ⟨5,0,key,val,id0,.slice A ids.length cap⟩)):=z6.trans (I.mono (S':=[g,ga,ga+1]) (by intro x hx;simp at hx |-;omega)) (c2.mono (S':=[g,ga,ga+1]) sI) iL;have e0:z6 [g] w (W.setRow ga (zB ⟨5,0,key,val,id0,.slice A ids.length cap⟩)):=e2.narrow (λx hx=>by have:=e9.out;simp at hx |-;omega);have g7:=dH b7;have g5:=dH e0;have g6:=dH (f2.out.kept c2 (λx hx=>by have:=(f2.out.at_base hx).1;have:=e9.out;have:=d6.out x hx;simp;omega));clear b7 hE e2 e0 c2 F B b5 I;(go_wp2_with fail);refine bodyPost_ret (results_cell_row Tryz.results134 _ _ ga 52 (zB ⟨5,0,key,val,id0,.slice A ids.length cap⟩) (0,0) _ rfl d7.out Tryz.underlying52 rfl (by rw[qQ];exact yY)) rfl ?_;have e1:yX 5 l e=⟨⟨5,0,key,val,id0,ids⟩,l3,e3⟩:=by
    rw[takeO_5];rw[g4.out,d3.out,d5.out]
   rw[e1];exact⟨A,cap,rfl,g6.out,g7.out,g5.out⟩
theorem op_take(k:Nat)(w:World)(g:Nat)(l:List UInt8)(e:Int)(h:q8 w g l e)(hp:xL w)(h1:1<=k)(h7:k<=7) :
  Calls Tryz.prog 134 #[.pointer (some ⟨g,0,none⟩),.int .i64 k] w λen w'=>∃A cap,en=.returned (.agg (opC (yX k l e).o A cap))/\Own w' w.heap.size 39 32 A (yX k l e).o.refs.length cap ((yX k l e).o.refs.map idC)/\q8 w' g (yX k l e).l (yX k l e).e/\z6 [g] w w':=by
 have hk:k=1\/k=2\/k=3\/k=4\/k=5\/k=6\/k=7:=oM;rcases hk with rfl | rfl | rfl | rfl | rfl | rfl | rfl
 ·exact(take_1 w g l e h hp).mono λen w' hh=>⟨none,0,hh.1,Own.nil _ _ _ _,hh.2⟩
 ·exact(take_2 w g l e h hp).mono λen w' hh=>⟨none,0,hh.1,Own.nil _ _ _ _,hh.2⟩
 ·exact take_3 w g l e h hp
 ·exact(take_4 w g l e h hp).mono λen w' hh=>⟨none,0,hh.1,Own.nil _ _ _ _,hh.2⟩
 ·exact take_5 w g l e h hp
 ·exact(take_6 w g l e h hp).mono λen w' hh=>⟨none,0,hh.1,Own.nil _ _ _ _,hh.2⟩
 ·exact(take_7 w g l e h hp).mono λen w' hh=>⟨none,0,hh.1,Own.nil _ _ _ _,hh.2⟩
theorem aD(w:World)(A:Option Addr)(n cap:Nat)(R:List zE)(h:zY w A n R)(hn:n<=4294967296) :
  Calls Tryz.prog 94 #[.slice A n cap] w λe w'=>e=.returned (.bool (vO R))/\Below w.heap.size w w':=by
 have s:=dH h.len;go_enter Tryz.func94,Tryz.ntmps94
 (go_wp2_with fail);go_loopw [3] (λi wr=>∃j:Nat,(j<n\/j=0)/\i=.int .i64 ((j:Int)+1)/\Hid (vO R=vO (R.drop j))/\Below w.heap.size w wr) (λi _=>n+1-(intOf i).toNat)
 case atStart=>exact⟨0,.inr rfl,rfl,(show _=_ from rfl),Below.refl _ _⟩
 case round =>
  obtain⟨j,hj,rfl,t,hb⟩:=hrel;by_cases B:j+1<n
  ·have r:j+1<R.length:=by rw[s.out];exact B
   obtain⟨q,o,rfl,f⟩:=zY.get (SlR.below h hb) B r;obtain⟨q',o',D,g⟩:=zY.get (SlR.below h hb) (oM:j<n) (oM:j<R.length);injection D with D
   injection D with O N
   subst O;subst N;have d:vO R=(decide (zI (R[j]'oM) (R[j+1]'r)<0)&&vO (R.drop (j+1))):=by
    rw[t.out,List.drop_eq_getElem_cons (oM:j<R.length),List.drop_eq_getElem_cons r];rfl
   obtain⟨x,hx⟩:=eX (R[j]'oM)
   obtain⟨y,hy⟩:=eX (R[j+1]'r)
   rw[hx]at g d;rw[hy]at f d;clear t hx hy r;have F:((j:Int)+1<n):=oM;have J:IntKind.i64.wrap (j:Int)=j:=IntWalk.i64_in _ oM;have t1:((j:Int)+1).toNat=j+1:=oM;have t2:(0:Int)<=(j:Int)+1:=oM;have t3:(j:Int)<n:=oM;have t4:j<n:=oM;have c2:=aY x y wr.drew;by_cases hc:zI x y<0
   ·rw[decide_eq_true hc,Bool.true_and]at d;have I:=dH d;have G:¬(0<=zI x y):=oM;obtain⟨c,k⟩:=eX (zI x y);rw[k]at c2 G;clear k;clear d hc;go_upto_region 4 with fail
    refine lX wr ?_;intro E hS;have b1:=zU g;have b2:=zU f;refine lZ ?_;refine lC (c2) ?_;clear hS;intro w' hS;refine lZ ?_;refine zC ?_;intro hS;have m:Below wr.heap.size wr w':=hS;have H:=yE hb m;clear b1 b2 E hS m c2 J;(go_wp2_with fail);go_roundw
    case rel=>exact⟨j+1,.inl B,by go_num,I,H⟩
    case measure=>exact sZ
   ·rw[decide_eq_false hc,Bool.false_and]at d;have I:=dH d;have G:0<=zI x y:=oM;obtain⟨c,k⟩:=eX (zI x y);rw[k]at c2 G;clear k;clear d hc;go_upto_region 4 with fail
    refine lX wr ?_;intro E hS;have b1:=zU g;have b2:=zU f;refine lZ ?_;refine lC (c2) ?_;clear hS;intro w' hS;refine lZ ?_;refine zC ?_;intro hS;have m:Below wr.heap.size wr w':=hS;have H:=yE hb m;clear b1 b2 E hS m c2 J;(go_wp2_with fail);go_ret;exact⟨yF (by rw[I.out]),H⟩
  ·have L:vO R=true:=by
    rw[t.out];have M:(R.drop j).length<=1:=by rw[List.length_drop,s.out];omega
    generalize R.drop j=Z at M
    match Z,M with
    | [],_=>rfl
    | [_],_=>rfl
   have V:=dH L;have F:decide ((j:Int)+1<n)=false:=sO;have T:decide (j+1<n)=false:=sO;clear L t B hj;(go_wp2_with fail);go_ret;exact⟨yF (by rw[V.out]),hb⟩
def wF(o:OpV):Prop :=
 (o.k=1/\o.key=⟨#[]⟩/\o.val=⟨#[]⟩/\o.ref=id0/\o.refs = [])\/(o.k=2/\o.n=0/\o.key=⟨#[]⟩/\o.ref=id0/\o.refs = [])\/(o.k=3/\o.n=0/\o.key=⟨#[]⟩/\o.ref=id0) \/
 (o.k=4/\o.ref=id0/\o.refs = [])\/(o.k=5/\o.n=0/\o.ref=id0)\/(o.k=6/\o.n=0/\o.key=⟨#[]⟩/\o.refs = [])\/(o.k=7/\o.n=0/\o.key=⟨#[]⟩/\o.val=⟨#[]⟩/\o.refs = [])
theorem op_spare(o:OpV)(A:Option Addr)(c:Nat)(w:World)(hp:xL w)(h:wF o) :
  Calls Tryz.prog 207 #[.agg (opC o A c)] w λe w'=>e=.returned (.bool false)/\Below w.heap.size w w':=by
 obtain⟨k,n,key,val,ref,refs⟩:=o;unfold wF at h;dsimp only at h;rcases h with⟨rfl,rfl,rfl,rfl,rfl⟩ | ⟨rfl,rfl,rfl,rfl,rfl⟩ | ⟨rfl,rfl,rfl,rfl⟩ | ⟨rfl,rfl,rfl⟩ | ⟨rfl,rfl,rfl⟩ | ⟨rfl,rfl,rfl,rfl⟩ | ⟨rfl,rfl,rfl,rfl,rfl⟩
 ·show Calls Tryz.prog 207 #[.agg (zB ⟨1,n,⟨#[]⟩,⟨#[]⟩,id0,.slice A 0 c⟩)] w _;have hB:Below w.heap.size w (w.alloc (.cells (zB ⟨1,n,⟨#[]⟩,⟨#[]⟩,id0,.slice A 0 c⟩) 52)):=bA;have hr:z7 (w.alloc (.cells (zB ⟨1,n,⟨#[]⟩,⟨#[]⟩,id0,.slice A 0 c⟩) 52)) w.heap.size 0 37=some (zB ⟨1,n,⟨#[]⟩,⟨#[]⟩,id0,.slice A 0 c⟩):=by simp[go_sem]
  have d:=dE 1 _ (hp.below hB) oM;rw[show kJ 1=1 from rfl]at d;have x0:=z8 hr (j:=0) oM;have x1:=z8 hr (j:=1) oM;have x2:=z8 hr (j:=2) oM;have x3:=z8 hr (j:=3) oM;have x4:=zX hr (j:=4) (m:=32) oM;have x5:=z8 hr (j:=36) oM;simp only[qK,j6,jB,jA,qM,jO,Nat.zero_add]at x0 x1 x2 x3 x4 x5;clear hr hp;go_enter Tryz.func207,Tryz.ntmps207
  go_upto_region 1 with fail
  generalize w.alloc (.cells (zB ⟨1,n,⟨#[]⟩,⟨#[]⟩,id0,.slice A 0 c⟩) 52)=W at *;(go_wp2_with fail);refine d.mono ?_;rintro e w1 ⟨rfl,rfl⟩;(go_wp2_with fail);go_ret;exact⟨rfl,hB⟩
 ·show Calls Tryz.prog 207 #[.agg (zB ⟨2,0,⟨#[]⟩,val,id0,.slice A 0 c⟩)] w _;have hB:Below w.heap.size w (w.alloc (.cells (zB ⟨2,0,⟨#[]⟩,val,id0,.slice A 0 c⟩) 52)):=bA;have hr:z7 (w.alloc (.cells (zB ⟨2,0,⟨#[]⟩,val,id0,.slice A 0 c⟩) 52)) w.heap.size 0 37=some (zB ⟨2,0,⟨#[]⟩,val,id0,.slice A 0 c⟩):=by simp[go_sem]
  have d:=dE 2 _ (hp.below hB) oM;rw[show kJ 2=4 from rfl]at d;have x0:=z8 hr (j:=0) oM;have x1:=z8 hr (j:=1) oM;have x2:=z8 hr (j:=2) oM;have x3:=z8 hr (j:=3) oM;have x4:=zX hr (j:=4) (m:=32) oM;have x5:=z8 hr (j:=36) oM;simp only[qK,j6,jB,jA,qM,jO,Nat.zero_add]at x0 x1 x2 x3 x4 x5;clear hr hp;go_enter Tryz.func207,Tryz.ntmps207
  go_upto_region 1 with fail
  generalize w.alloc (.cells (zB ⟨2,0,⟨#[]⟩,val,id0,.slice A 0 c⟩) 52)=W at *;(go_wp2_with fail);refine d.mono ?_;rintro e w1 ⟨rfl,rfl⟩;(go_wp2_with fail);go_ret;exact⟨rfl,hB⟩
 ·show Calls Tryz.prog 207 #[.agg (zB ⟨3,0,⟨#[]⟩,val,id0,.slice A refs.length c⟩)] w _;have hB:Below w.heap.size w (w.alloc (.cells (zB ⟨3,0,⟨#[]⟩,val,id0,.slice A refs.length c⟩) 52)):=bA;have hr:z7 (w.alloc (.cells (zB ⟨3,0,⟨#[]⟩,val,id0,.slice A refs.length c⟩) 52)) w.heap.size 0 37=some (zB ⟨3,0,⟨#[]⟩,val,id0,.slice A refs.length c⟩):=by simp[go_sem]
  have d:=dE 3 _ (hp.below hB) oM;rw[show kJ 3=20 from rfl]at d;have x0:=z8 hr (j:=0) oM;have x1:=z8 hr (j:=1) oM;have x2:=z8 hr (j:=2) oM;have x3:=z8 hr (j:=3) oM;have x4:=zX hr (j:=4) (m:=32) oM;have x5:=z8 hr (j:=36) oM;simp only[qK,j6,jB,jA,qM,jO,Nat.zero_add]at x0 x1 x2 x3 x4 x5;clear hr hp;go_enter Tryz.func207,Tryz.ntmps207
  go_upto_region 1 with fail
  generalize w.alloc (.cells (zB ⟨3,0,⟨#[]⟩,val,id0,.slice A refs.length c⟩) 52)=W at *;(go_wp2_with fail);refine d.mono ?_;rintro e w1 ⟨rfl,rfl⟩;(go_wp2_with fail);go_ret;exact⟨rfl,hB⟩
 ·show Calls Tryz.prog 207 #[.agg (zB ⟨4,n,key,val,id0,.slice A 0 c⟩)] w _;have hB:Below w.heap.size w (w.alloc (.cells (zB ⟨4,n,key,val,id0,.slice A 0 c⟩) 52)):=bA;have hr:z7 (w.alloc (.cells (zB ⟨4,n,key,val,id0,.slice A 0 c⟩) 52)) w.heap.size 0 37=some (zB ⟨4,n,key,val,id0,.slice A 0 c⟩):=by simp[go_sem]
  have d:=dE 4 _ (hp.below hB) oM;rw[show kJ 4=7 from rfl]at d;have x0:=z8 hr (j:=0) oM;have x1:=z8 hr (j:=1) oM;have x2:=z8 hr (j:=2) oM;have x3:=z8 hr (j:=3) oM;have x4:=zX hr (j:=4) (m:=32) oM;have x5:=z8 hr (j:=36) oM;simp only[qK,j6,jB,jA,qM,jO,Nat.zero_add]at x0 x1 x2 x3 x4 x5;clear hr hp;go_enter Tryz.func207,Tryz.ntmps207
  go_upto_region 1 with fail
  generalize w.alloc (.cells (zB ⟨4,n,key,val,id0,.slice A 0 c⟩) 52)=W at *;(go_wp2_with fail);refine d.mono ?_;rintro e w1 ⟨rfl,rfl⟩;(go_wp2_with fail);go_ret;exact⟨rfl,hB⟩
 ·show Calls Tryz.prog 207 #[.agg (zB ⟨5,0,key,val,id0,.slice A refs.length c⟩)] w _;have hB:Below w.heap.size w (w.alloc (.cells (zB ⟨5,0,key,val,id0,.slice A refs.length c⟩) 52)):=bA;have hr:z7 (w.alloc (.cells (zB ⟨5,0,key,val,id0,.slice A refs.length c⟩) 52)) w.heap.size 0 37=some (zB ⟨5,0,key,val,id0,.slice A refs.length c⟩):=by simp[go_sem]
  have d:=dE 5 _ (hp.below hB) oM;rw[show kJ 5=22 from rfl]at d;have x0:=z8 hr (j:=0) oM;have x1:=z8 hr (j:=1) oM;have x2:=z8 hr (j:=2) oM;have x3:=z8 hr (j:=3) oM;have x4:=zX hr (j:=4) (m:=32) oM;have x5:=z8 hr (j:=36) oM;simp only[qK,j6,jB,jA,qM,jO,Nat.zero_add]at x0 x1 x2 x3 x4 x5;clear hr hp;go_enter Tryz.func207,Tryz.ntmps207
  go_upto_region 1 with fail
  generalize w.alloc (.cells (zB ⟨5,0,key,val,id0,.slice A refs.length c⟩) 52)=W at *;(go_wp2_with fail);refine d.mono ?_;rintro e w1 ⟨rfl,rfl⟩;(go_wp2_with fail);go_ret;exact⟨rfl,hB⟩
 ·show Calls Tryz.prog 207 #[.agg (zB ⟨6,0,⟨#[]⟩,val,ref,.slice A 0 c⟩)] w _;have hB:Below w.heap.size w (w.alloc (.cells (zB ⟨6,0,⟨#[]⟩,val,ref,.slice A 0 c⟩) 52)):=bA;have hr:z7 (w.alloc (.cells (zB ⟨6,0,⟨#[]⟩,val,ref,.slice A 0 c⟩) 52)) w.heap.size 0 37=some (zB ⟨6,0,⟨#[]⟩,val,ref,.slice A 0 c⟩):=by simp[go_sem]
  have d:=dE 6 _ (hp.below hB) oM;rw[show kJ 6=12 from rfl]at d;have x0:=z8 hr (j:=0) oM;have x1:=z8 hr (j:=1) oM;have x2:=z8 hr (j:=2) oM;have x3:=z8 hr (j:=3) oM;have x4:=zX hr (j:=4) (m:=32) oM;have x5:=z8 hr (j:=36) oM;simp only[qK,j6,jB,jA,qM,jO,Nat.zero_add]at x0 x1 x2 x3 x4 x5;clear hr hp;go_enter Tryz.func207,Tryz.ntmps207
  go_upto_region 1 with fail
  generalize w.alloc (.cells (zB ⟨6,0,⟨#[]⟩,val,ref,.slice A 0 c⟩) 52)=W at *;(go_wp2_with fail);refine d.mono ?_;rintro e w1 ⟨rfl,rfl⟩;(go_wp2_with fail);go_ret;exact⟨rfl,hB⟩
 ·show Calls Tryz.prog 207 #[.agg (zB ⟨7,0,⟨#[]⟩,⟨#[]⟩,ref,.slice A 0 c⟩)] w _;have hB:Below w.heap.size w (w.alloc (.cells (zB ⟨7,0,⟨#[]⟩,⟨#[]⟩,ref,.slice A 0 c⟩) 52)):=bA;have hr:z7 (w.alloc (.cells (zB ⟨7,0,⟨#[]⟩,⟨#[]⟩,ref,.slice A 0 c⟩) 52)) w.heap.size 0 37=some (zB ⟨7,0,⟨#[]⟩,⟨#[]⟩,ref,.slice A 0 c⟩):=by simp[go_sem]
  have d:=dE 7 _ (hp.below hB) oM;rw[show kJ 7=8 from rfl]at d;have x0:=z8 hr (j:=0) oM;have x1:=z8 hr (j:=1) oM;have x2:=z8 hr (j:=2) oM;have x3:=z8 hr (j:=3) oM;have x4:=zX hr (j:=4) (m:=32) oM;have x5:=z8 hr (j:=36) oM;simp only[qK,j6,jB,jA,qM,jO,Nat.zero_add]at x0 x1 x2 x3 x4 x5;clear hr hp;go_enter Tryz.func207,Tryz.ntmps207
  go_upto_region 1 with fail
  generalize w.alloc (.cells (zB ⟨7,0,⟨#[]⟩,⟨#[]⟩,ref,.slice A 0 c⟩) 52)=W at *;(go_wp2_with fail);refine d.mono ?_;rintro e w1 ⟨rfl,rfl⟩;(go_wp2_with fail);go_ret;exact⟨rfl,hB⟩
def iV(o:OpV):Bool:=!(decide (o.k=4)&&decide (o.n<0))&&(decide (o.n<2147483648)&&decide (-2147483648<=o.n))
theorem qw(o:OpV)(A:Option Addr)(c:Nat)(w:World) :
  Calls Tryz.prog 208 #[.agg (opC o A c)] w λe w'=>e=.returned (.bool (iV o))/\Below w.heap.size w w':=by
 have hB:Below w.heap.size w (w.alloc (.cells (opC o A c) 52)):=bA;have hr:z7 (w.alloc (.cells (opC o A c) 52)) w.heap.size 0 37=some (opC o A c):=by unfold opC;simp[go_sem]
 have x0:=z8 hr (j:=0) oM;have x1:=z8 hr (j:=1) oM;unfold opC at x0 x1 hB hr |-;simp only[qK,j6,Nat.zero_add]at x0 x1;clear hr;have f:iV o=(!(decide (o.k=4)&&decide (o.n<0))&&(decide (o.n<2147483648)&&decide (-2147483648<=o.n))):=rfl;obtain⟨k,n,key,val,ref,refs⟩:=o;dsimp only at *;have d:=dH f;clear f;by_cases h4:k=4
 ·subst h4;by_cases hn:n<0
  ·go_enter Tryz.func208,Tryz.ntmps208
   go_upto_region 1 with fail
   generalize w.alloc (.cells (zB ⟨((4:Nat):Int),n,key,val,ref,.slice A refs.length c⟩) 52)=W at *;(go_wp2_with fail);go_ret;exact⟨yF (by rw[d.out];simp[hn]),hB⟩
  ·go_enter Tryz.func208,Tryz.ntmps208
   go_upto_region 1 with fail
   generalize w.alloc (.cells (zB ⟨((4:Nat):Int),n,key,val,ref,.slice A refs.length c⟩) 52)=W at *;go_wp2_with fail
   all_goals
    go_ret;exact⟨yF (by rw[d.out,Bool.eq_iff_iff];simp;omega),hB⟩
 ·have hk:((k:Int)==4)=false:=sO;go_enter Tryz.func208,Tryz.ntmps208
  go_upto_region 1 with fail
  generalize w.alloc (.cells (zB ⟨(k:Int),n,key,val,ref,.slice A refs.length c⟩) 52)=W at *;go_wp2_with fail
  all_goals
   go_ret;exact⟨yF (by rw[d.out,Bool.eq_iff_iff];simp;omega),hB⟩
def Z1(o:OpV):Int:=if 16<o.key.size\/16<o.val.size then 3 else if iV o=false then 5 else if 8<o.refs.length then 6 else if vO o.refs=false then 4 else 0
theorem plain_k{o:OpV}(h:wF o):1<=o.k/\o.k<=7:=by unfold wF at h;omega
theorem zp{k:Nat}(h1:1<=k)(h7:k<=7):((kJ k:Int)==0)=false:=by
 have hk:k=1\/k=2\/k=3\/k=4\/k=5\/k=6\/k=7:=oM;rcases hk with rfl | rfl | rfl | rfl | rfl | rfl | rfl <;> decide
theorem op_check(o:OpV)(A:Option Addr)(c:Nat)(w:World)(hp:xL w)(h:wF o)(hT:zY w A o.refs.length o.refs)(hl:o.refs.length<=4294967296) :
  Calls Tryz.prog 136 #[.agg (opC o A c)] w λe w'=>e=.returned (.int .i64 (Z1 o))/\Below w.heap.size w w':=by
 have hB:Below w.heap.size w (w.alloc (.cells (opC o A c) 52)):=bA;have hr:z7 (w.alloc (.cells (opC o A c) 52)) w.heap.size 0 37=some (opC o A c):=by unfold opC;simp[go_sem]
 have hk:=plain_k h;have y:=dE o.k _ (hp.below hB) oM;have V:=zp hk.1 hk.2;have N:=λw' (hp':xL w')=>op_spare o A c w' hp' h;have D:=λw'=>qw o A c w';have E:=hp.below hB;have G:zY (w.alloc (.cells (opC o A c) 52)) A o.refs.length o.refs:=SlR.below hT hB;have F:Z1 o=if 16<o.key.size\/16<o.val.size then 3 else if iV o=false then 5 else if 8<o.refs.length then 6 else if vO o.refs=false then 4 else 0:=rfl;have x0:=z8 hr (j:=0) oM;have x2:=z8 hr (j:=2) oM;have x3:=z8 hr (j:=3) oM;have x5:=z8 hr (j:=36) oM;unfold opC at x0 x2 x3 x5 hB hr y N D E G |-;simp only[qK,jB,jA,qM,Nat.zero_add]at x0 x2 x3 x5;clear hp h hT;obtain⟨nu,T⟩:=eX (iV o)
 obtain⟨ck,B⟩:=eX (Z1 o)
 rw[T]at D F;rw[B]at F |-;clear T B;obtain⟨k,n,key,val,ref,refs⟩:=o;dsimp only at *;have I:=dH F;clear F hk;obtain⟨pk,R⟩:=eX (kJ k)
 rw[R]at y V;clear R;go_enter Tryz.func136,Tryz.ntmps136
 go_upto_region 1 with fail
 obtain⟨gb,X⟩:=eX w.heap.size
 obtain⟨W,hW⟩:=eR (w.alloc (.cells (zB ⟨(k:Int),n,key,val,ref,.slice A refs.length c⟩) 52))
 rw[<-hW]at x0 x2 x3 x5 hB hr y E G |-;rw[X]at x0 x2 x3 x5 hr |-;clear hW X;(go_wp2_with fail);refine y.mono ?_;rintro e w1 ⟨rfl,rfl⟩;clear y;(go_wp2_with fail);refine(N _ E).mono ?_;rintro e w1 ⟨rfl,r⟩;have y2:=(r.cell (p:=⟨gb,2,none⟩) (zD hr)).trans x2;have y3:=(r.cell (p:=⟨gb,3,none⟩) (zD hr)).trans x3;have y5:=(r.cell (p:=⟨gb,36,none⟩) (zD hr)).trans x5;have O:z7 w1 gb 0 37=_:=(z9 (r.block gb (zD hr)) _ _).trans hr;have Z:zY w1 A refs.length refs:=SlR.below G r;have d:=yE hB r;clear N x0 x2 x3 x5 hr G E hB r V;by_cases M:16<key.size\/16<val.size
 ·have hc:=I.out;rw[if_pos M]at hc;have Hc:=dH hc;clear hc I;by_cases U:16<key.size
  ·have f:(16:Int)<key.size:=oM;(go_wp2_with fail);go_ret;exact⟨yA (by rw[Hc.out]),d⟩
  ·have f:¬(16:Int)<key.size:=oM;have t:(16:Int)<val.size:=oM;(go_wp2_with fail);go_ret;exact⟨yA (by rw[Hc.out]),d⟩
 ·have hc:=I.out;rw[if_neg M]at hc;have Hc:=dH hc;have f:¬(16:Int)<key.size:=oM;have t:¬(16:Int)<val.size:=oM;clear hc I M;cases nu with
  | false =>
   have m:=Hc.out;rw[if_pos rfl]at m;have J:=dH m;clear m;(go_wp2_with fail);refine(D _).mono ?_;rintro e w2 ⟨rfl,g⟩;(go_wp2_with fail);go_ret;exact⟨yA (by rw[J.out]),yE d g⟩
  | true =>
   have m:=Hc.out;rw[if_neg sI]at m;have J:=dH m;clear m Hc;have z5:=λw2 (g:Below w1.heap.size w1 w2)=>(g.cell (p:=⟨gb,36,none⟩) (zD O)).trans y5;(go_wp2_with fail);refine(D _).mono ?_;rintro e w2 ⟨rfl,g⟩;have v5:=z5 w2 g;have Y:zY w2 A refs.length refs:=SlR.below Z g;have s:=yE d g;have H:=aD w2 A refs.length c refs Y oM;clear z5 D y2 y3 y5 O Z d g Y;by_cases h8:8<refs.length
   ·have hc:=J.out;rw[if_pos h8]at hc;have Hc:=dH hc;have a0:(8:Int)<refs.length:=oM;clear hc;(go_wp2_with fail);go_ret;exact⟨yA (by rw[Hc.out]),s⟩
   ·have hc:=J.out;rw[if_neg h8]at hc;have a0:¬(8:Int)<refs.length:=oM;cases hri:vO refs with
    | false =>
     rw[hri,if_pos rfl]at hc;rw[hri]at H;have Hc:=dH hc;clear hc hri;(go_wp2_with fail);refine H.mono ?_;rintro e w3 ⟨rfl,L⟩;(go_wp2_with fail);go_ret;exact⟨yA (by rw[Hc.out]),yE s L⟩
    | true =>
     rw[hri,if_neg sI]at hc;rw[hri]at H;have Hc:=dH hc;clear hc hri;(go_wp2_with fail);refine H.mono ?_;rintro e w3 ⟨rfl,L⟩;(go_wp2_with fail);go_ret;exact⟨yA (by rw[Hc.out]),yE s L⟩
theorem BG(k:Nat)(w:World)(hk:k<=9223372036854775807):Calls Tryz.prog 63 #[.int .i64 k] w λe w'=>e=.returned (.int .i64 (kL k))/\w=w':=by
 have hb:kL k=if k=1 then 1 else if k=2\/k=3 then 2 else if k=4 then 3 else if k=5 then 4 else if k=6\/k=7 then 5 else 0:=rfl;have Hb:=dH hb;clear hb;go_enter Tryz.func63,Tryz.ntmps63
 go_wp2_with fail
 all_goals
  go_ret;exact⟨yA (by rw[Hb.out];simp at *;omega),rfl⟩
theorem pI(k:Nat)(l:List UInt8)(e:Int)(h1:1<=k)(h7:k<=7):wF (yX k l e).o/\(yX k l e).o.k=k/\(yX k l e).o.refs.length<=255:=by
 have hk:k=1\/k=2\/k=3\/k=4\/k=5\/k=6\/k=7:=oM;rcases hk with rfl | rfl | rfl | rfl | rfl | rfl | rfl
 ·exact⟨.inl ⟨rfl,rfl,rfl,rfl,rfl⟩,rfl,by simp[yX]⟩
 ·exact⟨.inr (.inl ⟨rfl,rfl,rfl,rfl,rfl⟩),rfl,by simp[yX]⟩
 ·exact⟨.inr (.inr (.inl ⟨rfl,rfl,rfl,rfl⟩)),rfl,YJ _ _⟩
 ·exact⟨.inr (.inr (.inr (.inl ⟨rfl,rfl,rfl⟩))),rfl,by simp[yX]⟩
 ·exact⟨.inr (.inr (.inr (.inr (.inl ⟨rfl,rfl,rfl⟩)))),rfl,YJ _ _⟩
 ·exact⟨.inr (.inr (.inr (.inr (.inr (.inl ⟨rfl,rfl,rfl,rfl⟩))))),rfl,by simp[yX]⟩
 ·exact⟨.inr (.inr (.inr (.inr (.inr (.inr ⟨rfl,rfl,rfl,rfl,rfl⟩))))),rfl,by simp[yX]⟩
theorem JT(k:Nat)(l:List UInt8)(e:Int)(h1:1<=k)(h7:k<=7):iV (yX k l e).o=decide ((yX k l e).o.n<2147483648):=by
 have hk:k=1\/k=2\/k=3\/k=4\/k=5\/k=6\/k=7:=oM;have b4:=yI 4 l e;have b5:=yI 4 (txL (txL l e) (txE l e)) (txE (txL l e) (txE l e));rw[Bool.eq_iff_iff];rcases hk with rfl | rfl | rfl | rfl | rfl | rfl | rfl <;> simp[iV,yX] <;> omega
theorem VW(k:Nat)(l:List UInt8)(e:Int)(h1:1<=k)(h7:k<=7):Z1 (yX k l e).o=vm (yX k l e).o:=by
 have h:=JT k l e h1 h7;unfold Z1 vm;rw[h];by_cases hn:(yX k l e).o.n<2147483648
 ·rw[if_neg (show ¬(decide ((yX k l e).o.n<2147483648)=false) by simp[hn]),if_neg (oM:¬(2147483648<=(yX k l e).o.n))]
 ·rw[if_pos (sO:decide ((yX k l e).o.n<2147483648)=false),if_pos (oM:2147483648<=(yX k l e).o.n)]
theorem part_eq{k:Nat}(h:k=0\/7<k):kJ k=0:=by
 rcases h with rfl | h
 ·rfl
 ·unfold kJ;simp[List.getD,List.getElem?_eq_none (sO:[0,1,4,20,7,22,12,8].length<=k)]
@[simp] theorem bH(o:OpV)(A:Option Addr)(c:Nat):(opC o A c).size=37:=by unfold opC;simp
theorem zt(o:OpV)(A:Option Addr)(c:Nat):∀u∈(opC o A c).toList,u.oneCell'=true:=jT _ rfl
def OfRes(w:World)(l:List UInt8)(en:Ending)(w':World):Prop :=
 ∃V,en=.returned (.tuple #[.agg V,.int .i64 (opE l)])/\(opE l=0->∃A c,V=opC (opO l) A c/\Own w' w.heap.size 39 32 A (opO l).refs.length c ((opO l).refs.map idC))/\(opE l≠0->V=zB yT)/\Below w.heap.size w w'
theorem op_Of(s:ByteArray)(w:World)(hp:xL w)(hs:s.size<=9223372036854775807) :
  Calls Tryz.prog 62 #[.string s] w (OfRes w s.data.toList):=by
 obtain⟨l,hl⟩:=eX s.data.toList
 have f4:s=mkB l:=by rw[<-hl];rfl
 have g2:l.length<=9223372036854775807:=by rw[<-hl];exact hs
 have b8:Below w.heap.size w (w.alloc (.cells (zB yT) 52)):=bA;have b3:(w.alloc (.cells (zB yT) 52)).heap[w.heap.size]?=some (.cells (zB yT) 52 (0,0)):=heap_alloc_new w _;have c6:=wW s (w.alloc (.cells (zB yT) 52)) hs;have d5:=hp.below b8;rw[hl]at c6 |-;subst f4;clear hl hs;have hE:opE l=if zM 1 l 0≠0 then zM 1 l 0
  else if yK 1 l 0=0\/7<yK 1 l 0 then 10
  else if j4 (yX (yK 1 l 0) (zK 1 l 0) 0).l (yX (yK 1 l 0) (zK 1 l 0) 0).e≠0 then j4 (yX (yK 1 l 0) (zK 1 l 0) 0).l (yX (yK 1 l 0) (zK 1 l 0) 0).e
  else vm (yX (yK 1 l 0) (zK 1 l 0) 0).o:=rfl
 have hO:opO l=(yX (yK 1 l 0) (zK 1 l 0) 0).o:=rfl;have e6:=yI 1 l 0;have f7:yK 1 l 0<256:=by simpa using e6
 have HE:=dH hE;have HO:=dH hO;have f6:=hp.lt;clear hE hO e6 hp;show Calls Tryz.prog 62 #[.string (mkB l)] w _;go_enter Tryz.func62,Tryz.ntmps62
 go_upto_region 1 with fail
 obtain⟨ga,c4⟩:=eX w.heap.size
 have a0:=dH c4;obtain⟨W,hW⟩:=eR (w.alloc (.cells (zB yT) 52))
 rw[<-hW]at b8 b3 c6 d5 |-;rw[c4]at b3 |-;rw[c4]at f6;have f8:ga<W.heap.size:=(aG b3).1;clear hW c4;(go_wp2_with fail);refine c6.mono ?_;rintro en w1 ⟨rfl,a4,c5⟩;obtain⟨g,hg⟩:=eX W.heap.size
 rw[hg]at a4 f8 |-;have b2:=(c5.block ga oM).trans b3;have d3:=d5.below c5;have d4:=d3.lt;have b7:Below ga w w1:=by have:=b8.trans (c5.mono b8.size);rwa [a0.out]at this
 have hgs:=a0.out;clear c6 b8 c5 b3 d5 hg;(go_wp2_with fail);refine(vQ w1 g l 0 a4).mono ?_;rintro en w2 ⟨rfl,r,c2⟩;have j:=(c2.block ga (oH a4.lt) sO).trans b2;have c0:=d3.kept c2 (by simp;have:=d4;omega);have I:Below ga w w2:=b7.trans (c2.below (oH a4.lt) sO);obtain⟨k,hk⟩:=eX (yK 1 l 0)
 rw[hk]at HE HO f7 |-;clear a4 c2 b2 d3 b7 hk;by_cases he:zM 1 l 0=0
 ·have U:=HE.out;rw[if_neg (by rw[he];simp)]at U;rw[he]at r;have a1:=dH U;clear U he HE;have a6:=dE k w2 c0 oM;by_cases a8:k=0\/7<k
  ·have h2:=a1.out;rw[if_pos a8]at h2;rw[part_eq a8]at a6;have m:=dH h2;clear h2 a1 HO a8;(go_wp2_with fail);refine(qA w2 g _ 0 r).mono ?_;rintro en w3 ⟨rfl,rfl⟩;(go_wp2_with fail);refine a6.mono ?_;rintro en w3 ⟨rfl,rfl⟩;have T:=yU (P:=Tryz.prog) yY w2 ga (zB yT) (zB yT) _ j sI sI (jT _ rfl);have f:=dH (setRow_heap w2 ga _ (zB yT) _ _ j);have t:z6 [ga] w2 (w2.setRow ga (zB yT)):=⟨rfl,rfl,rfl,by simp[World.setRow],λx _ hx=>setRow_other w2 ga x _ (by simpa using hx)⟩
   have F:Below ga w (w2.setRow ga (zB yT)):=I.trans (t.below (oH r.lt) sI);have Y:=dH F;clear F t j r I;(go_wp2_with fail);refine bodyPost_ret (qH Tryz.results62 _ _ ga 52 (zB yT) (0,0) _ rfl f.out Tryz.underlying52 rfl (by first | (rw[qQ];exact yY) | (rw[bH];exact yY))) rfl ?_;exact⟨_,by rw[m.out];rfl,λh0=>absurd (m.out.symm.trans h0) oM,λ_=>rfl,by rw[a0.out];exact Y.out⟩
  ·have h2:=a1.out;rw[if_neg a8]at h2;have m:=dH h2;have c3:1<=k:=oM;have c1:k<=7:=oM;have c9:=zp c3 c1;have d0:=pI k (zK 1 l 0) 0 c3 c1;have d7:=VW k (zK 1 l 0) 0 c3 c1;have d8:=op_take k w2 g (zK 1 l 0) 0 r c0 c3 c1;obtain⟨pk,e4⟩:=eX (kJ k)
   rw[e4]at a6 c9;obtain⟨R,hR⟩:=eX (yX k (zK 1 l 0) 0)
   rw[hR]at m HO d0 d7 d8;obtain⟨o,l2,e2⟩:=R;dsimp only at *;have f3:=dH d0;have g1:=dH d7;clear h2 a1 a8 e4 hR d0 d7;(go_wp2_with fail);refine(qA w2 g _ 0 r).mono ?_;rintro en w3 ⟨rfl,rfl⟩;(go_wp2_with fail);refine a6.mono ?_;rintro en w3 ⟨rfl,rfl⟩;clear a6;(go_wp2_with fail);refine d8.mono ?_;rintro en w3 ⟨A,c,rfl,a5,c8,a7⟩;have b1:=(a7.block ga (oH r.lt) sO).trans j;have e5:=c0.kept a7 sO;have b6:Below ga w w3:=I.trans (a7.below (oH r.lt) sO);have d6:g<w3.heap.size:=c8.lt;have f5:=a7.size;have f9:g<w2.heap.size:=r.lt;have a2:Below w3.heap.size w3 (w3.alloc (.cells (opC o A c) 52)):=bA;have V:(w3.alloc (.cells (opC o A c) 52)).heap[ga]?=_:=(a2.block ga oM).trans b1;have c7:=c8.below a2;have d2:=e5.below a2;have J:z7 (w3.alloc (.cells (opC o A c) 52)) w3.heap.size 0 37=some (opC o A c):=by unfold opC;simp[go_sem]
   have L:=a5.below a2;have X:Below ga w (w3.alloc (.cells (opC o A c) 52)):=b6.trans (a2.mono oM);have ce:=hU _ g l2 e2 c7;have d:opC o A c=zB ⟨o.k,o.n,o.key,o.val,o.ref,.slice A o.refs.length c⟩:=rfl;rw[d];go_upto_region 8 with fail
   rw[<-d];have e0:=dH d;obtain⟨gb,e7⟩:=eX w3.heap.size
   obtain⟨W4,f0⟩:=eR (w3.alloc (.cells (opC o A c) 52))
   rw[<-f0]at V c7 d2 J L X ce |-;rw[e7]at J d6 |-;clear f0 d a2 c8 e5 b6 b1 a5 d8 a7 r c0 I j e7;(go_wp2_with fail);refine ce.mono ?_;rintro en w5 ⟨rfl,a3⟩;have H:=(a3.block ga (aG V).1).trans V;have d1:=d2.below a3;have B:z7 w5 gb 0 37=some (opC o A c):=(z9 (a3.block gb (zD J)) _ _).trans J;have E:=L.below a3;have N:Below ga w w5:=X.trans (a3.mono (oH X.size));have b0:ga<=w5.heap.size:=oH N.size;clear ce V c7 d2 J L X a3;by_cases O:j4 l2 e2=0
   ·have h2:=m.out;rw[if_neg (by rw[O];simp),<-g1.out]at h2;rw[O];have f1:zY w5 A o.refs.length o.refs:=E.slr;have cc:=op_check o A c w5 d1 f3.out.1 f1 (oH f3.out.2.2);obtain⟨ck,b4⟩:=eX (Z1 o)
    rw[b4]at h2 cc;have y:=dH h2;clear h2 m O b4 f1 d1;(go_wp2_with fail);refine cc.mono ?_;rintro en w6 ⟨rfl,b5⟩;have G:=(b5.block ga (aG H).1).trans H;have e3:z7 w6 gb 0 37=some (opC o A c):=(z9 (b5.block gb (zD B)) _ _).trans B;have D:=E.below b5;have M:Below ga w w6:=N.trans (b5.mono b0);have a9:ga<=w6.heap.size:=oH M.size;clear cc H B E N b5;cases hc0:(ck==0)with
    | true =>
     obtain rfl:ck=0:=by simpa using hc0
     have T:=yU (P:=Tryz.prog) yY w6 ga (zB yT) (opC o A c) _ G sI sI (zt o A c);have f:=dH (setRow_heap w6 ga _ (opC o A c) _ _ G);have t:z6 [ga] w6 (w6.setRow ga (opC o A c)):=⟨rfl,rfl,rfl,by simp[World.setRow],λx _ hx=>setRow_other w6 ga x _ (by simpa using hx)⟩
     have F:Below ga w (w6.setRow ga (opC o A c)):=M.trans (t.below a9 sI);have Z:Own (w6.setRow ga (opC o A c)) w.heap.size 39 32 A o.refs.length c (o.refs.map idC):=(D.mono (oH a0.out)).kept t (λx hx=>oS ((D.at_base hx).1));have Y:=dH F;have b9:=dH Z;clear F t G M Z D;(go_wp2_with fail);refine bodyPost_ret (qH Tryz.results62 _ _ ga 52 (opC o A c) (0,0) _ rfl f.out Tryz.underlying52 rfl (by first | (rw[qQ];exact yY) | (rw[bH];exact yY))) rfl ?_;exact⟨_,by rw[y.out];rfl,λ_=>⟨A,c,by rw[HO.out],by rw[HO.out];exact b9.out⟩,λh0=>absurd y.out h0,by rw[a0.out];exact Y.out⟩
    | false =>
     have e9:ck≠0:=by simpa using hc0
     have g0:(ck != 0)=true:=by simpa using hc0
     have d9:=dH e9;clear e9;have T:=yU (P:=Tryz.prog) yY w6 ga (zB yT) (zB yT) _ G sI sI (jT _ rfl);have f:=dH (setRow_heap w6 ga _ (zB yT) _ _ G);have t:z6 [ga] w6 (w6.setRow ga (zB yT)):=⟨rfl,rfl,rfl,by simp[World.setRow],λx _ hx=>setRow_other w6 ga x _ (by simpa using hx)⟩
     have F:Below ga w (w6.setRow ga (zB yT)):=M.trans (t.below a9 sI);have Y:=dH F;clear F t G M D;(go_wp2_with fail);refine bodyPost_ret (qH Tryz.results62 _ _ ga 52 (zB yT) (0,0) _ rfl f.out Tryz.underlying52 rfl (by first | (rw[qQ];exact yY) | (rw[bH];exact yY))) rfl ?_;exact⟨_,by rw[y.out];rfl,λh0=>absurd (y.out.symm.trans h0) d9.out,λ_=>rfl,by rw[a0.out];exact Y.out⟩
   ·have h2:=m.out;rw[if_pos O]at h2;obtain⟨ee,f2⟩:=eX (j4 l2 e2)
    rw[f2]at h2 O |-;have y:=dH h2;have d9:=dH O;have g0:(ee != 0)=true:=by simpa using O
    have g4:(ee==0)=false:=by simpa using O
    clear h2 m O f2 d1 B E;have T:=yU (P:=Tryz.prog) yY w5 ga (zB yT) (zB yT) _ H sI sI (jT _ rfl);have f:=dH (setRow_heap w5 ga _ (zB yT) _ _ H);have t:z6 [ga] w5 (w5.setRow ga (zB yT)):=⟨rfl,rfl,rfl,by simp[World.setRow],λx _ hx=>setRow_other w5 ga x _ (by simpa using hx)⟩
    have F:Below ga w (w5.setRow ga (zB yT)):=N.trans (t.below b0 sI);have Y:=dH F;clear F t H N;(go_wp2_with fail);refine bodyPost_ret (qH Tryz.results62 _ _ ga 52 (zB yT) (0,0) _ rfl f.out Tryz.underlying52 rfl (by first | (rw[qQ];exact yY) | (rw[bH];exact yY))) rfl ?_;exact⟨_,by rw[y.out];rfl,λh0=>absurd (y.out.symm.trans h0) d9.out,λ_=>rfl,by rw[a0.out];exact Y.out⟩
 ·have U:=HE.out;rw[if_pos he]at U;obtain⟨e1,e8⟩:=eX (zM 1 l 0)
  rw[e8]at U he r;have a1:=dH U;have He:=dH he;have g3:(e1 != 0)=true:=by simpa using he
  have O:(e1==0)=false:=by simpa using he
  clear U he HE HO e8;(go_wp2_with fail);refine(qA w2 g _ e1 r).mono ?_;rintro en w3 ⟨rfl,rfl⟩;(go_wp2_with fail);refine(qA w2 g _ e1 r).mono ?_;rintro en w3 ⟨rfl,rfl⟩;have T:=yU (P:=Tryz.prog) yY w2 ga (zB yT) (zB yT) _ j sI sI (jT _ rfl);have f:=dH (setRow_heap w2 ga _ (zB yT) _ _ j);have t:z6 [ga] w2 (w2.setRow ga (zB yT)):=⟨rfl,rfl,rfl,by simp[World.setRow],λx _ hx=>setRow_other w2 ga x _ (by simpa using hx)⟩
  have F:Below ga w (w2.setRow ga (zB yT)):=I.trans (t.below (oH r.lt) sI);have Y:=dH F;clear F t j r I;(go_wp2_with fail);refine bodyPost_ret (qH Tryz.results62 _ _ ga 52 (zB yT) (0,0) _ rfl f.out Tryz.underlying52 rfl (by first | (rw[qQ];exact yY) | (rw[bH];exact yY))) rfl ?_;exact⟨_,by rw[a1.out];rfl,λh0=>absurd (a1.out.symm.trans h0) He.out,λ_=>rfl,by rw[a0.out];exact Y.out⟩
def markC(m:yW):Array Value:=zN m
def wT(t:ByteArray)(m:yW):Prop:=opE m.body.data.toList=0/\kL (opO m.body.data.toList).k=yC t
instance (t:ByteArray) (m:yW):Decidable (wT t m):=by unfold wT;infer_instance
@[go_sem] theorem storeOp0_run(w:World)(g:Nat)(hg:g=w.heap.size)(z:Array Value)(hz:z.size=37)(e:TypeId):(stS 52 ⟨g,0,none⟩ (.agg (zB yT))).run Tryz.prog (w.alloc (.cells z e))=.ok () (w.alloc (.cells (zB yT) e)):=r9 w g hg z hz yT rfl e
theorem lM(l:List UInt8)(h:opE l=0):wF (opO l)/\1<=(opO l).k/\(opO l).k<=7/\(opO l).key.size<=16/\(opO l).val.size<=16/\(opO l).refs.length<=8/\vO (opO l).refs=true/\(opO l).n<2147483648:=by
 unfold opE at h;split at h
 ·contradiction
 split at h
 ·cases h
 split at h
 ·contradiction
 rename_i h1 h2 h3
 have hp:=pI (yK 1 l 0) (zK 1 l 0) 0 oM oM;unfold vm at h;have e:(yX (yK 1 l 0) (zK 1 l 0) 0).o=opO l:=rfl;rw[e]at h hp;split at h
 ·cases h
 split at h
 ·cases h
 split at h
 ·cases h
 split at h
 ·cases h
 rename_i k1 k2 k3 k4
 refine⟨hp.1,oM,oM,oM,oM,oM,?_,oM⟩;cases hr:vO (opO l).refs with
 | true=>rfl
 | false=>exact absurd hr k4
theorem yx(m:yW)(w:World)(g:Nat)(t:ByteArray)(b:Nat)(I:List zE)(sv:Value)(h:xE w g t b I sv)(hm:m.id∈I) :
  Calls Tryz.prog 26 #[.pointer (some ⟨g,0,none⟩),.agg (zN m)] w λe w'=>e=.returned (.bool false)/\Below w.heap.size w w':=by
 have hB:Below w.heap.size w (w.alloc (.cells (zN m) 41)):=bA;have h1:=h.below hB;have hr:z7 (w.alloc (.cells (zN m) 41)) w.heap.size 0 32=some (idC m.id):=by simp[go_sem]
 go_enter Tryz.func26,Tryz.ntmps26
 go_upto_region 1 with fail
 generalize w.alloc (.cells (zN m) 41)=W at *;have hc:=h1.cell1;have hk:∀x:Subtype (Bel W),(Instr.lookup 75 (.map (some b)) (.agg (idC m.id)) false).run Tryz.prog x.1=.ok (.bool true) x.1:=λx=>ihit (h1.ids.below x.2) hm;clear h h1 hm;refine lX W ?_;intro d hS;have b1:=zJ hc;have b2:=zU hr;refine lZ ?_;refine lH ?_;intro K hK;refine(j7 W.drew g b hc).mono ?_;rintro e w' ⟨rfl,rfl⟩;refine⟨_,rfl,hS,hK _ _ ?_⟩;clear hK K;refine lZ ?_;refine zC ?_;intro hS;(go_wp2_with fail);go_ret;exact⟨rfl,yE hB hS⟩
theorem Y6(m:yW)(w:World)(g:Nat)(t:ByteArray)(b:Nat)(I:List zE)(sv:Value)(h:xE w g t b I sv)(hm:m.id∉I)(hp:xL w)(d8:b≠0)(hs:m.body.size<=9223372036854775807)(ht:t.size<=9223372036854775807)
  (Q:World->Prop)
  (a0:¬wT t m->∀w',xE w' g t b (m.id :: I) sv->z6 [b] w w'->Q w')
  (d:wT t m->∀w1 A c,xE w1 g t b (m.id :: I) sv->z6 [b] w w1->xL w1->Own w1 w.heap.size 39 32 A (opO m.body.data.toList).refs.length c ((opO m.body.data.toList).refs.map idC) ->
   Calls Tryz.prog 64 #[.pointer (some ⟨g,0,none⟩),.agg (zN m),.agg (opC (opO m.body.data.toList) A c)] w1 λe w'=>e=.returned (.tuple #[])/\Q w') :
  Calls Tryz.prog 26 #[.pointer (some ⟨g,0,none⟩),.agg (zN m)] w λe w'=>e=.returned (.bool true)/\Q w':=by
 have hB:Below w.heap.size w (w.alloc (.cells (zN m) 41)):=bA;have h1:=h.below hB;have b4:=hp.below hB;have T:z7 (w.alloc (.cells (zN m) 41)) w.heap.size 0 34=some (zN m):=by simp[go_sem]
 have d7:=h.ids.lt;have d6:=h.lt;go_enter Tryz.func26,Tryz.ntmps26
 go_upto_region 1 with fail
 obtain⟨ga,b5⟩:=eX w.heap.size
 have a8:=dH b5;rw[b5]at T hB d7 d6 |-;obtain⟨W,hW⟩:=eR (w.alloc (.cells (zN m) 41))
 rw[<-hW]at h1 b4 T hB |-;clear hW b5;have hr:z7 W ga 0 32=some (idC m.id):=by have:=zX T (j:=0) (m:=32) oM;rwa [qZ]at this
 have L:W.cell? ⟨ga,33,none⟩=some (.string m.body):=by have:=z8 T (j:=33) oM;rwa [pQ,Nat.zero_add]at this
 have hc:=h1.cell1;have hk:∀x:Subtype (Bel W),(Instr.lookup 75 (.map (some b)) (.agg (idC m.id)) false).run Tryz.prog x.1=.ok (.bool false) x.1:=λx=>imiss (h1.ids.below x.2) hm;refine lX W ?_;intro X hS;have b1:=zJ hc;have b2:=zU hr;refine lZ ?_;refine lH ?_;intro K hK;refine(j7 W.drew g b hc).mono ?_;rintro e w' ⟨rfl,rfl⟩;refine⟨_,rfl,hS,hK _ _ ?_⟩;clear hK K;refine lZ ?_;refine zC ?_;intro hS;clear b1 b2 X hk hS;have c6:g∉[b]:=by simpa using h1.ne
 have Y:xE W.drew g t b I sv:=h1.kept (z6.drew W) sI sI;have O:xL W.drew:=b4.kept (z6.drew W) sI;have c1:Below ga w W.drew:=hB.trans ((yZ W).mono (by have:=hB.size;have:=a8.out;omega));have b0:z7 W.drew ga 0 32=some (idC m.id):=hr;have D:z7 W.drew ga 0 34=some (zN m):=T;have b8:W.drew.cell? ⟨ga,33,none⟩=some (.string m.body):=L;clear hr T L hc b4 hB;go_upto_region 3 with fail
 obtain⟨W1,c8⟩:=eR W.drew
 rw[<-c8]at Y O c1 b0 D b8 |-;clear c8 h1;have hc:=Y.cell1;obtain⟨w2,a9,d1,c5⟩:=jq (x:=m.id) (Y.ids.kept (z6.drew W1) sI);refine kX [b] W1 ?_;intro X hS;have b1:=zP hc c6;have b2:=y9 b0 (S:=[b]) sO;refine lZ ?_;refine lH ?_;intro K hK;refine zG (xA hS c5 sI) (λhS=>?_);refine hK _ _ ?_;clear hK K;refine zC ?_;intro hS;have y:z6 [b] W1 w2:=hS;have h2:xE w2 g t b (m.id :: I) sv:=⟨(y.block g Y.lt c6).trans Y.blk,d1⟩
 have a1:ga∉[b]:=sO;have b3:xL w2:=O.kept y (by simpa using λe=>d8 e.symm);have N:z7 w2 ga 0 34=some (zN m):=(y.row (zD D) a1 _ _).trans D;have b7:w2.cell? ⟨ga,33,none⟩=some (.string m.body):=(y.cell (p:=⟨ga,33,none⟩) (zD D) a1).trans b8;have d0:z6 [b] w w2:=z6.trans ((z6.of_below (c1.mono (by rw[a8.out];exact lR))).mono (S':=[b]) sI) y iL;clear b1 b2 X hS c5 d1 a9 b0 D b8 O Y c1 hc y;have c3:=op_Of m.body w2 b3 hs;obtain⟨l,hl⟩:=eX m.body.data.toList
 have Hl:=dH hl;rw[hl]at c3 d;have H:wT t m↔opE l=0/\kL (opO l).k=yC t:=by unfold wT;rw[hl]
 obtain⟨E,hE⟩:=eX (opE l)
 have d9:=dH hE;clear hl;(go_wp2_with fail);refine c3.mono ?_;rintro en w3 ⟨V,rfl,a7,J,a2⟩;rw[hE]at a7 J |-;have h3:=h2.below a2;have c4:=b3.below a2;have M:z7 w3 ga 0 34=some (zN m):=(z9 (a2.block ga (zD N)) _ _).trans N;have b9:z6 [b] w w3:=z6.trans d0 (z6.of_below a2) sI;clear c3 a2 h2 b3 N b7;by_cases h0:E=0
 ·subst h0;obtain⟨A,c,rfl,U⟩:=a7 rfl;have a6:=lM l hE;have r:=U.mono (B':=ga) (by have:=d0.size;have:=a8.out;omega);have s:wT t m↔kL (opO l).k=yC t:=by rw[H];exact⟨λh=>h.2,λh=>⟨hE,h⟩⟩
  rw[<-a8.out]at r;obtain⟨o,ho⟩:=eX (opO l)
  rw[ho]at a6 r s d |-;have d5:o.k<=9223372036854775807:=oH a6.2.2.1;have e1:=dH a6;clear a7 J U H hE ho a6;have G:Below w3.heap.size w3 (w3.alloc (.cells (opC o A c) 52)):=bA;have h4:=h3.below G;have a5:=c4.below G;have F:z7 (w3.alloc (.cells (opC o A c) 52)) ga 0 34=some (zN m):=(z9 (G.block ga (zD M)) _ _).trans M;have f:=r.below G;have B:z7 (w3.alloc (.cells (opC o A c) 52)) w3.heap.size 0 37=some (opC o A c):=by simp[go_sem]
  have R:z6 [b] w (w3.alloc (.cells (opC o A c) 52)):=z6.trans b9 (z6.of_below G) sI;clear G h3 c4 M r b9;unfold opC at h4 a5 F f B R |-;go_upto_region 5 with fail
  obtain⟨W4,a3⟩:=eR (w3.alloc (.cells (zB ⟨o.k,o.n,o.key,o.val,o.ref,.slice A o.refs.length c⟩) 52))
  rw[<-a3]at h4 a5 F f B R |-;clear a3;have b6:=z8 B (j:=0) oM;rw[qK,Nat.zero_add]at b6;have c7:=h4.cell0;have cb:=BG o.k W4.drew d5;have ck:=bI t W4.drew ht;obtain⟨B1,c2⟩:=eX (kL o.k)
  obtain⟨K1,c0⟩:=eX (yC t)
  rw[c2,c0]at s;rw[c2]at cb;rw[c0]at ck;have a4:=dH s;clear c2 c0 s;refine lX W4 ?_;intro X hS;have b1:=zJ b6;have b2:=zJ c7;refine lZ ?_;refine lH ?_;intro K hK;refine(cb).mono ?_;rintro e w' ⟨rfl,rfl⟩;refine⟨_,rfl,hS,hK _ _ ?_⟩;clear hK K;refine lZ ?_;refine lC (ck) ?_;clear hS;intro w' hS;refine lZ ?_;refine zC ?_;intro hS;have y:Below W4.heap.size W4 w':=hS;have h5:=h4.below y;have d4:=a5.below y;have d3:z7 w' ga 0 34=some (zN m):=(z9 (y.block ga (zD F)) _ _).trans F;have d2:z7 w' w3.heap.size 0 37=some (zB ⟨o.k,o.n,o.key,o.val,o.ref,.slice A o.refs.length c⟩):=(z9 (y.block w3.heap.size (zD B)) _ _).trans B;have Z:=f.below y;have c9:z6 [b] w w':=z6.trans R (z6.of_below y) sI;clear b1 b2 X hS cb ck b6 c7 h4 a5 F B f R y;obtain⟨W5,rfl⟩:∃W5,W5=w':=⟨w',rfl⟩
  cases hbb:(B1==K1)with
  | true =>
   have hf:wT t m:=a4.out.2 (by simpa using hbb);have hd:=d hf W5 A c h5 c9 d4 Z;unfold opC at hd;clear hf hbb;go_upto_region 6 with fail
   (go_wp2_with fail);refine hd.mono ?_;rintro e w6 ⟨rfl,hq⟩;have Hq:=dH hq;clear hq a0 d hd;(go_wp2_with fail);go_ret;exact⟨rfl,Hq.out⟩
  | false =>
   have hf:¬wT t m:=λh=>(by have:=a4.out.1 h;rw[beq_eq_false_iff_ne]at hbb;exact hbb this);have hq:=a0 hf W5 h5 c9;have Hq:=dH hq;clear hf hq a0 d;(go_wp2_with fail);go_ret;exact⟨rfl,Hq.out⟩
 ·have hf:¬wT t m:=λh=>h0 (by rw[<-hE];exact(H.1 h).1);have hV:=J h0;subst hV;have G:Below w3.heap.size w3 (w3.alloc (.cells (zB yT) 52)):=bA;have h4:=h3.below G;have R:z6 [b] w (w3.alloc (.cells (zB yT) 52)):=z6.trans b9 (z6.of_below G) sI;have e0:(E==0)=false:=by simpa using h0
  clear d a7 J H hE h0 G;go_upto_region 5 with fail
  obtain⟨W4,a3⟩:=eR (w3.alloc (.cells (zB yT) 52))
  rw[<-a3]at h4 R |-;clear a3;have hq:=a0 hf _ (h4.below (yZ W4)) (z6.trans R (z6.of_below (yZ W4)) sI);have Hq:=dH hq;clear hf hq a0;refine lX W4 ?_;intro X hS;refine lZ ?_;refine lH ?_;intro K hK;refine hK _ _ ?_;clear hK K;refine lZ ?_;refine lH ?_;intro K hK;refine hK _ _ ?_;clear hK K;refine lZ ?_;refine zC ?_;intro hS;(go_wp2_with fail);go_ret;exact⟨rfl,Hq.out⟩
def xO(w:World)(g:Nat)(n:Int):Prop:=w.heap[g]?=some (.cells #[.int .i64 n,.bool true] 164 (0,0))
theorem xO.lt{w:World}{g:Nat}{n:Int}(h:xO w g n):g<w.heap.size:=(aG h).1
theorem xO.kept{w w':World}{g:Nat}{n:Int}{S:List Nat}(h:xO w g n)(k:z6 S w w')(hg:g∉S):xO w' g n:=(k.block g h.lt hg).trans h
theorem xO.cell0{w:World}{g:Nat}{n:Int}(h:xO w g n):w.cell? ⟨g,0,none⟩=some (.int .i64 n):=by rw[cell_of_row w g 0 _ _ _ h];rfl
theorem xO.cell1{w:World}{g:Nat}{n:Int}(h:xO w g n):w.cell? ⟨g,1,none⟩=some (.bool true):=by rw[cell_of_row w g 1 _ _ _ h];rfl
theorem at_load(w:World)(g:Nat)(n:Int)(h:xO w g n):(callFunc 193 #[.pointer (some ⟨g,0,none⟩)]).run Tryz.prog w=.ok (.value (.int .i64 n)) w:=by
 have h0:=h.cell0;rw[run_callFunc_extern Tryz.func193 kR kR kR (e:=Extern.Atomic.loadT (.int .i64)) kR];have e:Extern.Atomic.loadT (.int .i64) #[.pointer (some ⟨g,0,none⟩)]=(do Extern.Atomic.read (.int .i64) (<-asAddr (.pointer (some ⟨g,0,none⟩)))):=rfl;rw[e];simp[Extern.Atomic.read,asAddr,go_sem,h0]
theorem at_add(w:World)(g:Nat)(n m:Int)(h:xO w g n):(callFunc 263 #[.pointer (some ⟨g,0,none⟩),.int .i64 m]).run Tryz.prog w=.ok (.value (.int .i64 (wrap64 (n+m)))) (w.setCell ⟨g,0,none⟩ (.int .i64 (wrap64 (n+m)))):=by
 have h0:=h.cell0;have hf:w.frozen? ⟨g,0,none⟩=false:=by simp[World.frozen?,show w.heap[g]?=_ from h]
 rw[run_callFunc_extern Tryz.func263 kR kR kR (e:=Extern.Atomic.update (Op.intArith .add) .i64 true) kR];have e:Extern.Atomic.update (Op.intArith .add) .i64 true #[.pointer (some ⟨g,0,none⟩),.int .i64 m]=(do
  let a <-asAddr (.pointer (some ⟨g,0,none⟩))
  let old <-Extern.Atomic.read (.int .i64) a
  let new <-Op.intArith .add .i64 (<-asInt old) (<-asInt (.int .i64 m))
  store a new .atomic
  pure (if true then new else old)):=rfl
 rw[e];have ew:wrap64 (n+m)=IntKind.i64.wrap (n+m):=(IntWalk.i64_left _).symm;simp[Extern.Atomic.read,asAddr,asInt,Op.intArith,go_sem,h0,hf,ew]
theorem tnew(w:World):Calls Tryz.prog 115 #[] w λe w'=>e=.returned (.pointer (some ⟨w.heap.size,0,none⟩))/\xO w' w.heap.size 0/\Below w.heap.size w w':=by
 have d:∀w:World,(Instr.build 164 #[(1,.bool true)]).run Tryz.prog w=.ok (.agg #[.int .i64 0,.bool true]) w:=λw=>kR;go_enter Tryz.func115,Tryz.ntmps115
 (go_wp2_with fail);go_ret;exact⟨rfl,heap_alloc_new w _,bA⟩
theorem tnone(w:World)(g:Nat)(n:Int)(h:xO w g n):Calls Tryz.prog 120 #[.pointer (some ⟨g,0,none⟩)] w λe w'=>e=.returned (.bool false)/\w=w':=by
 have h1:=h.cell1;clear h;go_enter Tryz.func120,Tryz.ntmps120
 (go_wp2_with fail);go_ret;exact⟨rfl,rfl⟩
theorem yn(w:World)(g:Nat)(n:Int)(h:xO w g n):Calls Tryz.prog 121 #[.pointer (some ⟨g,0,none⟩)] w λe w'=>e=.returned (.int .i64 n)/\w=w':=by
 have hr:=at_load w g n h;clear h;go_enter Tryz.func121,Tryz.ntmps121
 (go_wp2_with fail);go_ret;exact⟨rfl,rfl⟩
theorem at_Add(w:World)(g:Nat)(n m:Int)(h:xO w g n):Calls Tryz.prog 209 #[.pointer (some ⟨g,0,none⟩),.int .i64 m] w λe w'=>e=.returned (.int .i64 (wrap64 (n+m)))/\w'=w.setCell ⟨g,0,none⟩ (.int .i64 (wrap64 (n+m))):=by
 have hr:=at_add w g n m h;clear h;go_enter Tryz.func209,Tryz.ntmps209
 (go_wp2_with fail);go_ret;exact⟨rfl,rfl⟩
theorem tn(w:World)(g:Nat)(n:Int)(h:xO w g n):Calls Tryz.prog 57 #[.pointer (some ⟨g,0,none⟩)] w λe w'=>e=.returned (.int .i64 n)/\w=w':=by
 go_enter Tryz.func57,Tryz.ntmps57
 (go_wp2_with fail);refine(tnone _ g n h).mono ?_;rintro e w1 ⟨rfl,rfl⟩;(go_wp2_with fail);refine(yn _ g n h).mono ?_;rintro e w1 ⟨rfl,rfl⟩;(go_wp2_with fail);go_ret;exact⟨rfl,rfl⟩
theorem tinc(w:World)(g:Nat)(n m:Int)(h:xO w g n)(h1:-2147483648<=m)(h2:m<2147483648) :
  Calls Tryz.prog 137 #[.pointer (some ⟨g,0,none⟩),.int .i64 m] w λe w'=>e=.returned (.int .i64 0)/\xO w' g (wrap64 (n+m))/\z6 [g] w w':=by
 have d:xO (w.setCell ⟨g,0,none⟩ (.int .i64 (wrap64 (n+m)))) g (wrap64 (n+m)):=by
  have h0:w.heap[g]?=_:=h;unfold xO;rw[zA h0];rfl
 have j:=z6.setCell w ⟨g,0,none⟩ (.int .i64 (wrap64 (n+m)));have f:=dH d;have r:¬(2147483648<=m):=oM;have k:¬(m < -2147483648):=oM;clear d;go_enter Tryz.func137,Tryz.ntmps137
 (go_wp2_with fail);refine(tnone _ g n h).mono ?_;rintro e w1 ⟨rfl,rfl⟩;(go_wp2_with fail);refine(at_Add _ g n m h).mono ?_;rintro e w1 ⟨rfl,rfl⟩;(go_wp2_with fail);go_ret;exact⟨rfl,f.out,j⟩
theorem QY(w:World):Calls Tryz.prog 55 #[.int .i64 1] w λe w'=>e=.returned (.iface 100 (.pointer (some ⟨w.heap.size,0,none⟩)))/\xO w' w.heap.size 0/\Below w.heap.size w w':=by
 go_enter Tryz.func55,Tryz.ntmps55
 (go_wp2_with fail);refine(tnew w).mono ?_;rintro e w1 ⟨rfl,h1,hb⟩;(go_wp2_with fail);go_ret;exact⟨rfl,h1,hb⟩
theorem yq(t:ByteArray)(w:World)(ht:t.size<=9223372036854775807)(k:Int)(hk:yC t=k)(D:k≠0)(ty:TypeId)(Z:World->World->Nat->Prop)
  (hf:∀w,Calls Tryz.prog 55 #[.int .i64 k] w λe w'=>∃gs,e=.returned (.iface ty (.pointer (some ⟨gs,0,none⟩)))/\Z w w' gs/\Below w.heap.size w w') :
  Calls Tryz.prog 23 #[.string t] w λe w'=>∃g b gs w2 w3,e=.returned (.tuple #[.pointer (some ⟨g,0,none⟩),.int .i64 0])/\xE w' g t b [] (.iface ty (.pointer (some ⟨gs,0,none⟩)))/\Z w2 w3 gs/\Below w2.heap.size w2 w3/\Below w3.heap.size w3 w'/\g=w3.heap.size/\w.heap.size<=b/\b<w2.heap.size/\Below w.heap.size w w':=by
 have G:=@run_makeMap Tryz.prog;have c1:=λw=>XG t w ht;have e1:fL t=0:=by unfold fL;rw[hk,if_neg D]
 rw[e1]at c1;have c2:=λw=>bI t w ht;rw[hk]at c2;clear e1 hk D;go_enter Tryz.func23,Tryz.ntmps23
 (go_wp2_with fail);refine(c1 _).mono ?_;rintro e w1 ⟨rfl,s⟩;(go_wp2_with fail);refine(c2 _).mono ?_;rintro e w2 ⟨rfl,m⟩;(go_wp2_with fail);refine(hf _).mono ?_;rintro e w3 ⟨gs,rfl,hZ,j⟩;have hn:=yS.new (kv:=idV) (ok:=gP) w1 w1.heap.size rfl;have A:w.heap.size<=w1.heap.size:=s.size;have F:w1.heap.size+1<=w2.heap.size:=by have:=m.size;simpa using this
 have E:=j.size;have f:Below w.heap.size w (w1.alloc (.map #[] 0)):=s.alloc A _;have d:Below w.heap.size w w2:=yE f m;have y:Below w.heap.size w w3:=yE d j;have B:=(hn.below m).below j;have Hn:=dH B;have HZ:=dH hZ;clear hn B hZ s m f d c1 c2 hf;have r:Below w3.heap.size w3 (w3.alloc (.cells #[.string t,.map (some w1.heap.size),.iface ty (.pointer (some ⟨gs,0,none⟩))] 79)):=bA;have hv:xE (w3.alloc (.cells #[.string t,.map (some w1.heap.size),.iface ty (.pointer (some ⟨gs,0,none⟩))] 79)) w3.heap.size t w1.heap.size [] (.iface ty (.pointer (some ⟨gs,0,none⟩))) :=
  ⟨heap_alloc_new w3 _,Hn.out.below r⟩
 have Hv:=dH hv;clear hv;(go_wp2_with fail);go_ret2;exact⟨w3.heap.size,w1.heap.size,gs,w2,w3,rfl,Hv.out,HZ.out,j,r,rfl,A,oM,yE y r⟩
theorem zb(m:yW)(o:OpV)(A:Option Addr)(c:Nat)(w:World)(g gt:Nat)(t:ByteArray)(b:Nat)(I:List zE)(n:Int)(h:xE w g t b I (.iface 100 (.pointer (some ⟨gt,0,none⟩))))(hT:xO w gt n)(h1:-2147483648<=o.n)(h2:o.n<2147483648) :
  Calls Tryz.prog 64 #[.pointer (some ⟨g,0,none⟩),.agg (zN m),.agg (opC o A c)] w λe w'=>e=.returned (.tuple #[])/\xO w' gt (wrap64 (n+o.n))/\z6 [gt] w w':=by
 have hB:Below w.heap.size w ((w.alloc (.cells (zN m) 41)).alloc (.cells (opC o A c) 52)):=(bA).alloc sI _;have hc:=(h.below hB).cell2;have f:=hT.kept (z6.of_below hB) sI;unfold opC at hB hc f |-;have ci:=tinc _ gt n o.n f h1 h2;go_enter Tryz.func64,Tryz.ntmps64
 (go_wp2_with fail);refine ci.mono ?_;rintro e w1 ⟨rfl,h1,j⟩;have d:z6 [gt] w w1:=z6.trans ((z6.of_below hB).mono (S':=[gt]) sI) j iL;clear hB hc f ci h hT j;(go_wp2_with fail);go_end0;exact⟨rfl,h1,d⟩
@[go_sem] theorem storeValA_run(w:World)(g:Nat)(hg:g=w.heap.size)(z:Array Value)(hz:z.size=3)(k n:Int)(A:Option Addr)(m c:Nat)(e:TypeId):(stS 25 ⟨g,0,none⟩ (.agg (zQ ⟨k,n,.slice A m c⟩))).run Tryz.prog (w.alloc (.cells z e))=.ok () (w.alloc (.cells (zQ ⟨k,n,.slice A m c⟩) e)):=ZN w g hg z hz _ rfl e
theorem QX(w:World)(g gt:Nat)(t:ByteArray)(b:Nat)(I:List zE)(n:Int)(h:xE w g t b I (.iface 100 (.pointer (some ⟨gt,0,none⟩))))(hT:xO w gt n)(ht:t.size<=9223372036854775807)(hk:yC t=1) :
  Calls Tryz.prog 24 #[.pointer (some ⟨g,0,none⟩)] w λe w'=>e=.returned (.agg (zQ ⟨1,n,.slice none 0 0⟩))/\Below w.heap.size w w':=by
 have hB:Below w.heap.size w (w.alloc (.cells (zQ xZ) 25)):=bA;have h1:=h.below hB;have H:=hT.kept (z6.of_below hB) sI;have k:(w.alloc (.cells (zQ xZ) 25)).heap[w.heap.size]?=some (.cells (zQ xZ) 25 (0,0)):=heap_alloc_new w _;have c2:=λw=>bI t w ht;rw[hk]at c2;go_enter Tryz.func24,Tryz.ntmps24
 go_upto_region 1 with fail
 obtain⟨ga,E⟩:=eX w.heap.size
 have L:=dH E;rw[E]at k hB |-;obtain⟨W,hW⟩:=eR (w.alloc (.cells (zQ xZ) 25))
 rw[<-hW]at h1 H k hB |-;clear hW E;have R:=h1.cell1;(go_wp2_with fail);refine(j7 W g b R).mono ?_;rintro e w1 ⟨rfl,rfl⟩;have a3:=h1.cell0;(go_wp2_with fail);refine(c2 _).mono ?_;rintro e w2 ⟨rfl,r⟩;have h2:=h1.below r;have X:=H.kept (z6.of_below r) sI;have F:=(r.block ga (aG k).1).trans k;have Z:Below ga w w2:=hB.trans (r.mono (by have:=hB.size;have:=L.out;omega));have N:ga<w2.heap.size:=(aG F).1;clear a3 R h1 H k hB r h hT c2;have m:Below w2.heap.size w2 (w2.alloc (.cells (zQ ⟨1,0,.slice none 0 0⟩) 25)):=bA;have h3:=h2.below m;have G:=X.kept (z6.of_below m) sI;have j:=(m.block ga N).trans F;have J:Below ga w (w2.alloc (.cells (zQ ⟨1,0,.slice none 0 0⟩) 25)):=Z.trans (m.mono oM);have d:(w2.alloc (.cells (zQ ⟨1,0,.slice none 0 0⟩) 25)).heap[w2.heap.size]?=some (.cells (zQ ⟨1,0,.slice none 0 0⟩) 25 (0,0)):=heap_alloc_new w2 _;obtain⟨gv,D⟩:=eX w2.heap.size
 have a5:=dH D;clear h2 X F Z m;go_upto_region 4 with fail
 rw[D]at d N;obtain⟨W3,V⟩:=eR (w2.alloc (.cells (zQ ⟨1,0,.slice none 0 0⟩) 25))
 rw[<-V]at h3 G j J d |-;clear V D;have a2:=h3.cell2;have hf:W3.frozen? ⟨gv,1,none⟩=false:=by simp[World.frozen?,d]
 have a1:W3.cell? ⟨gv,1,none⟩=some (.int .i64 0):=by rw[cell_of_row W3 gv 1 _ _ _ d];simp[go_sem]
 (go_wp2_with fail);refine(tn W3 gt n G).mono ?_;rintro e w4 ⟨rfl,rfl⟩;have f:(zQ ⟨1,0,.slice none 0 0⟩).setIfInBounds 1 (.int .i64 n)=zQ ⟨1,n,.slice none 0 0⟩:=by apply Array.ext';simp[zQ]
 have A:(W3.setCell ⟨gv,1,none⟩ (.int .i64 n)).heap[gv]?=some (.cells (zQ ⟨1,n,.slice none 0 0⟩) 25 (0,0)):=by rw[zA d,f]
 have B:=z6.setCell W3 ⟨gv,1,none⟩ (.int .i64 n);have s:(W3.setCell ⟨gv,1,none⟩ (.int .i64 n)).heap[ga]?=some (.cells (zQ xZ) 25 (0,0)):=(B.block ga (aG j).1 sO).trans j;have y:Below ga w (W3.setCell ⟨gv,1,none⟩ (.int .i64 n)):=J.trans (B.below (oH ((aG j).1)) sO);clear f B j J h3 G a2;go_upto_region 20 with fail
 obtain⟨W4,T⟩:=eR (W3.setCell ⟨gv,1,none⟩ (.int .i64 n))
 rw[<-T]at A s y |-;clear T hf d a1;have a0:z7 W4 gv 0 3=some (zQ ⟨1,n,.slice none 0 0⟩):=by unfold z7;rw[A];simp[go_sem]
 have U:=yU (P:=Tryz.prog) qT W4 ga (zQ xZ) (zQ ⟨1,n,.slice none 0 0⟩) _ s sI sI (vT _ rfl);have O:z6 [ga] W4 (W4.setRow ga (zQ ⟨1,n,.slice none 0 0⟩)):=⟨rfl,rfl,rfl,by simp[World.setRow],λx _ hx=>setRow_other W4 ga x _ (by simpa using hx)⟩
 have M:=dH (setRow_heap W4 ga _ (zQ ⟨1,n,.slice none 0 0⟩) _ _ s);have Y:Below ga w (W4.setRow ga (zQ ⟨1,n,.slice none 0 0⟩)):=y.trans (O.below (by have:=y.size;have:=L.out;omega) sI);have a4:=dH Y;clear Y O s y A;(go_wp2_with fail);refine bodyPost_ret (results_cell_row Tryz.results24 _ _ ga 25 (zQ ⟨1,n,.slice none 0 0⟩) (0,0) _ rfl M.out Tryz.underlying25 rfl (by rw[v4];exact qT)) rfl ?_;exact⟨rfl,by rw[L.out];exact a4.out⟩
section
open Go.RowKit
abbrev okR(x:yH):Prop:=x.val.size<=maxLen
abbrev fZ(w:World)(b:Nat)(L:List yH):Prop:=yS w b rD okR L
theorem ke(w:World):(zeroValue 4).run Tryz.prog w=.ok (.bool false) w:=kR
def small(x:yH):Prop:=x.val.size<=16
theorem rA{x:yH}(h:small x):okR x:=by unfold small at h;unfold okR;simp only[maxLen];omega
section
variable {w:World} {b:Nat} {X:List yH} {x:yH}
theorem rhit(h:fZ w b X)(hk:small x)(hx:x∈X):(Instr.lookup 167 (.map (some b)) (.agg (zH x)) false).run Tryz.prog w=.ok (.bool true) w:=yS.hit (kv:=rD) (ok:=okR) h Q0 Tryz.underlying167 (rA hk) hx
theorem rmiss(h:fZ w b X)(hk:small x)(hx:x∉X):(Instr.lookup 167 (.map (some b)) (.agg (zH x)) false).run Tryz.prog w=.ok (.bool false) w:=yS.miss (kv:=rD) (ok:=okR) h Q0 Tryz.underlying167 ke (rA hk) hx
theorem rput(h:fZ w b X)(hk:small x):∃w',(Instr.mapUpdate 167 (.map (some b)) (.agg (zH x)) (.bool true)).run Tryz.prog w=.ok () w'/\fZ w' b (x :: X)/\z6 [b] w w':=yS.put h Q0 Tryz.underlying167 (rA hk)
theorem rdel(h:fZ w b X)(hk:small x)(ty:TypeId):∃w',(Builtin.delete_ #[167,171] ty #[.map (some b),.agg (zH x)]).run Tryz.prog w=.ok (.tuple #[]) w'/\fZ w' b (X.filter λy=>decide (y≠x))/\z6 [b] w w':=yS.del h Q0 Tryz.underlying167 (rA hk) ty
end
structure jC(w:World)(g bl bg:Nat)(L G:List yH):Prop where
 blk:w.heap[g]?=some (.cells #[.map (some bl),.map (some bg)] 169 (0,0))
 live:fZ w bl L
 gone:fZ w bg G
 ne:bl≠bg
 risL:Ris yG L
 risG:Ris yG G
 smL:∀x∈L,small x
 smG:∀x∈G,small x
 apart:∀x∈L,x∉G
section
variable {w w':World} {g bl bg:Nat} {L G:List yH}
theorem jC.cell0(h:jC w g bl bg L G):w.cell? ⟨g,0,none⟩=some (.map (some bl)):=by rw[cell_of_row w g 0 _ _ _ h.blk];rfl
theorem jC.cell1(h:jC w g bl bg L G):w.cell? ⟨g,1,none⟩=some (.map (some bg)):=by rw[cell_of_row w g 1 _ _ _ h.blk];rfl
theorem XX{b:Nat}{X:List yH}{cs:Array Value}{t:TypeId}{f:Nat×Nat}(h:fZ w b X)(hg:w.heap[g]?=some (.cells cs t f)):g≠b:=by
 rintro rfl;obtain⟨M,es,d,hm,_⟩:=h;rw[hm.heap]at hg;cases hg
theorem jC.nel(h:jC w g bl bg L G):g≠bl:=XX h.live h.blk
theorem jC.neg(h:jC w g bl bg L G):g≠bg:=XX h.gone h.blk
theorem jC.lt(h:jC w g bl bg L G):g<w.heap.size/\bl<w.heap.size/\bg<w.heap.size:=⟨World.block_lt_of_cell? w _ h.cell0,h.live.lt,h.gone.lt⟩
theorem jC.kept{S:List Nat}(h:jC w g bl bg L G)(k:z6 S w w')(hg:g∉S)(hl:bl∉S)(hb:bg∉S):jC w' g bl bg L G :=
 ⟨(k.block g h.lt.1 hg).trans h.blk,h.live.kept k hl,h.gone.kept k hb,h.ne,h.risL,h.risG,h.smL,h.smG,h.apart⟩
theorem jC.below(h:jC w g bl bg L G)(k:Below w.heap.size w w'):jC w' g bl bg L G:=h.kept (z6.of_below k) sI sI sI
end
theorem pZ(w:World)(g b:Nat)(h:w.cell? ⟨g,0,none⟩=some (.map (some b))):Calls Tryz.prog 122 #[.pointer (some ⟨g,0,none⟩)] w λe w'=>e=.returned (.bool false)/\w=w':=by
 have hn:=λr=>run_eql_map_nil (P:=Tryz.prog) w 167 171 4 r Tryz.underlying167;go_enter Tryz.func122,Tryz.ntmps122
 (go_wp2_with fail);go_ret;exact⟨rfl,rfl⟩
theorem bnew(w:World):Calls Tryz.prog 116 #[] w λe w'=>∃g bl bg,e=.returned (.pointer (some ⟨g,0,none⟩))/\jC w' g bl bg [] []/\w.heap.size<=g/\w.heap.size<=bl/\w.heap.size<=bg/\Below w.heap.size w w':=by
 have d:=@run_makeMap Tryz.prog;go_enter Tryz.func116,Tryz.ntmps116
 (go_wp2_with fail);go_ret;have k1:=yS.new (kv:=rD) (ok:=okR) w w.heap.size rfl;have k2:=yS.new (kv:=rD) (ok:=okR) (w.alloc (.map #[] 0)) (w.heap.size+1) sI;refine⟨w.heap.size+2,w.heap.size,w.heap.size+1,rfl,⟨?_,(k1.kept (z6.alloc _ _) sI).kept (z6.alloc _ _) sI,k2.kept (z6.alloc _ _) sI,oM,Ris.nil,Ris.nil,sI,sI,sI⟩,oM,oM,oM,((bA).alloc sI _).alloc sO _⟩;have:=heap_alloc_new ((w.alloc (.map #[] 0)).alloc (.map #[] 0)) (.cells #[.map (some w.heap.size),.map (some (w.heap.size+1))] 169 (0,0));simpa using this
def YS(s:ByteArray):Int:=if 16<s.size then 3 else 0
theorem bask(v:ByteArray)(w:World)(g b:Nat)(h:w.cell? ⟨g,0,none⟩=some (.map (some b)))(hv:v.size<=9223372036854775807):Calls Tryz.prog 210 #[.pointer (some ⟨g,0,none⟩),.string v] w λe w'=>e=.returned (.int .i64 (YS v))/\w=w':=by
 go_enter Tryz.func210,Tryz.ntmps210
 (go_wp2_with fail);refine(pZ _ _ _ h).mono ?_;rintro e w' ⟨rfl,rfl⟩;go_wp2_with fail
 all_goals
  go_ret;refine⟨yA ?_,rfl⟩;unfold YS
  first
   | rw[if_pos oM]
   | rw[if_neg oM]
def mU(L G:List yH)(x:yH):List yH:=if 16<x.val.size then L else if x∈G then L else xS yG L x
theorem badd(d:zE)(v:ByteArray)(w:World)(g bl bg:Nat)(L G:List yH)(h:jC w g bl bg L G)(hv:v.size<=9223372036854775807) :
  Calls Tryz.prog 138 #[.pointer (some ⟨g,0,none⟩),.agg (idC d),.string v] w λe w'=>e=.returned (.int .i64 (YS v))/\jC w' g bl bg (mU L G ⟨d,v⟩) G/\z6 [bl] w w':=by
 have h0:jC (w.alloc (.cells (idC d) 39)) g bl bg L G:=h.below (bA);have hc:=h0.cell0;by_cases f:16<v.size
 ·have e1:YS v=3:=if_pos f;have e2:mU L G ⟨d,v⟩=L:=if_pos f;rw[e1,e2];have j:=bask v _ g bl hc hv;rw[e1]at j;clear e1 e2 hc;go_enter Tryz.func138,Tryz.ntmps138
  (go_wp2_with fail);refine j.mono ?_;rintro e w' ⟨rfl,rfl⟩;(go_wp2_with fail);go_ret;exact⟨rfl,h0,(z6.alloc _ _).mono sI⟩
 ·have e1:YS v=0:=if_neg f;have s:small ⟨d,v⟩:=by unfold small;simp only;omega
  have j:=bask v _ g bl hc hv;rw[e1]at j;rw[e1];have r:Below w.heap.size w ((w.alloc (.cells (idC d) 39)).alloc (.cells (zH ⟨d,v⟩) 171)):=(bA).alloc sI _;have h1:=h.below r;have k:z7 ((w.alloc (.cells (idC d) 39)).alloc (.cells (zH ⟨d,v⟩) 171)) (w.heap.size+1) 0 33=some (zH ⟨d,v⟩):=by simp[go_sem]
  have R:=h.lt.2.1;clear hc e1 hv;by_cases hG:(⟨d,v⟩:yH)∈G
  ·have e2:mU L G ⟨d,v⟩=L:=by unfold mU;rw[if_neg f,if_pos hG]
   rw[e2];clear e2 f;go_enter Tryz.func138,Tryz.ntmps138
   (go_wp2_with fail);refine j.mono ?_;rintro e w' ⟨rfl,rfl⟩;go_upto_region 5 with fail
   obtain⟨W,hW⟩:=eR ((w.alloc (.cells (idC d) 39)).alloc (.cells (zH ⟨d,v⟩) 171))
   rw[<-hW]at h1 k r |-;have t:=h1.cell1;have hk:∀x:Subtype (Bel W),(Instr.lookup 167 (.map (some bg)) (.agg (zH ⟨d,v⟩)) false).run Tryz.prog x.1=.ok (.bool true) x.1:=λx=>rhit (h1.gone.below x.2) s hG;have J:=dH h0;have B:=dH hG;clear hW h0 hG j;refine lX W ?_;intro y hS;have b1:=zJ t;have b2:=zU k;refine lZ ?_;refine zC ?_;intro hS;(go_wp2_with fail);go_ret;exact⟨rfl,h1.below hS,(z6.of_below (yE r hS)).mono sI⟩
  ·have e2:mU L G ⟨d,v⟩=xS yG L ⟨d,v⟩:=by unfold mU;rw[if_neg f,if_neg hG]
   rw[e2];clear e2 f;go_enter Tryz.func138,Tryz.ntmps138
   (go_wp2_with fail);refine j.mono ?_;rintro e w' ⟨rfl,rfl⟩;go_upto_region 5 with fail
   obtain⟨W,hW⟩:=eR ((w.alloc (.cells (idC d) 39)).alloc (.cells (zH ⟨d,v⟩) 171))
   rw[<-hW]at h1 k r |-;have t:=h1.cell1;have hk:∀x:Subtype (Bel W),(Instr.lookup 167 (.map (some bg)) (.agg (zH ⟨d,v⟩)) false).run Tryz.prog x.1=.ok (.bool false) x.1:=λx=>rmiss (h1.gone.below x.2) s hG;have J:=dH h0;have B:=dH hG;clear hW h0 hG j;refine lX W ?_;intro y hS;have b1:=zJ t;have b2:=zU k;refine lZ ?_;refine zC ?_;intro hS;have h2:=h1.below hS;have m:z7 W.drew (w.heap.size+1) 0 33=some (zH ⟨d,v⟩):=k;have E:Below w.heap.size w W.drew:=yE r hS;clear b1 b2 hk t k h1 y r;go_upto_region 6 with fail
   obtain⟨W1,F⟩:=eR W.drew
   rw[<-F]at h2 m E |-;obtain⟨w2,H,O,I⟩:=rput (x:=⟨d,v⟩) (h2.live.kept (z6.drew W1) sI) s;have D:g∉[bl]:=by simp;exact h2.nel
   have M:=h2.cell0;clear F hS;refine kX [bl] W1 ?_;intro y hS;have b1:=zP M D;have b2:=y9 m (S:=[bl]) sO;refine lZ ?_;refine lH ?_;intro K hK;refine zG (xA hS I sI) (λhS=>?_);refine hK _ _ ?_;clear hK K;refine zC ?_;intro hS;(go_wp2_with fail);go_ret;have N:bg∉[bl]:=by simp;exact λe=>h2.ne e.symm
   have A:z6 [bl] W1 _:=hS;refine⟨rfl,⟨(A.block g h2.lt.1 D).trans h2.blk,O.congr λx=>?_,h2.gone.kept A N,h2.ne,vA jI h2.risL,h2.risG,λx hx=>?_,h2.smG,λx hx=>?_⟩,z6.trans ((z6.of_below E).mono (S':=[bl]) sI) A iL⟩
   ·rw[qN jI,List.mem_cons]
   ·rcases (qN jI).1 hx with e | hx
    ·rw[e];exact s
    ·exact h2.smL x hx
   ·rcases (qN jI).1 hx with e | hx
    ·rw[e];exact B.out
    ·exact h2.apart x hx
end
theorem row_ne{w:World}{g o k b:Nat}{cs:Array Value}{X:List yH}(h:z7 w g o k=some cs)(hs:fZ w b X):g≠b:=by
 rintro rfl;obtain⟨M,es,d,hm,_⟩:=hs;unfold z7 at h;rw[hm.heap]at h;cases h
def lG(G:List yH)(v:ByteArray)(tags:List zE):List yH:=tags.foldl (λG t=>xS yG G ⟨t,v⟩) G
def lF(L:List yH)(v:ByteArray)(tags:List zE):List yH:=tags.foldl (λL t=>L.filter λy=>decide (y≠(⟨t,v⟩:yH))) L
theorem V0{v:ByteArray}:∀ {tags:List zE} {G:List yH} {x:yH},x∈lG G v tags↔x∈G\/(x.val=v/\x.tag∈tags)
 | [],G,x=>by simp[lG]
 | t :: tags,G,x=>by
  show x∈lG (xS yG G ⟨t,v⟩) v tags↔_;rw[V0,qN jI,List.mem_cons];constructor
  ·rintro((h | h) | ⟨h1,h2⟩)
   ·subst h;exact .inr ⟨rfl,.inl rfl⟩
   ·exact .inl h
   ·exact .inr ⟨h1,.inr h2⟩
  ·rintro(h | ⟨h1,h | h⟩)
   ·exact .inl (.inr h)
   ·exact .inl (.inl (by cases x;simp_all))
   ·exact .inr ⟨h1,h⟩
theorem JZ{v:ByteArray}:∀ {tags:List zE} {L:List yH} {x:yH},x∈lF L v tags↔x∈L/\¬(x.val=v/\x.tag∈tags)
 | [],L,x=>by simp[lF]
 | t :: tags,L,x=>by
  show x∈lF (L.filter λy=>decide (y≠(⟨t,v⟩:yH))) v tags↔_;rw[JZ,List.mem_filter,List.mem_cons,decide_eq_true_eq];constructor
  ·rintro⟨⟨h1,h2⟩,h3⟩;refine⟨h1,?_⟩;rintro⟨e1,e2 | e2⟩
   ·exact h2 (by cases x;simp_all)
   ·exact h3 ⟨e1,e2⟩
  ·rintro⟨h1,h2⟩;refine⟨⟨h1,λe=>h2 (by subst e;exact⟨rfl,.inl rfl⟩)⟩,λh=>h2 ⟨h.1,.inr h.2⟩⟩
theorem JG{v:ByteArray}:∀ {tags:List zE} {G:List yH},Ris yG G->Ris yG (lG G v tags)
 | [],_,h=>h
 | t :: tags,G,h=>by
  show Ris yG (lG (xS yG G ⟨t,v⟩) v tags);exact JG (vA jI h)
theorem JF{v:ByteArray}:∀ {tags:List zE} {L:List yH},Ris yG L->Ris yG (lF L v tags)
 | [],_,h=>h
 | t :: tags,L,h=>by
  show Ris yG (lF (L.filter λy=>decide (y≠(⟨t,v⟩:yH))) v tags);exact JF (h.filter _)
theorem qj(G:List yH)(v:ByteArray)(d:List zE)(t:zE):lG G v (d ++ [t])=xS yG (lG G v d) ⟨t,v⟩:=by simp[lG]
theorem qi(L:List yH)(v:ByteArray)(d:List zE)(t:zE):lF L v (d ++ [t])=(lF L v d).filter λy=>decide (y≠(⟨t,v⟩:yH)):=by simp[lF]
theorem brem_ok(v:ByteArray)(A:Option Addr)(n cap:Nat)(T:List zE)(w:World)(g bl bg:Nat)(L G:List yH)(h:jC w g bl bg L G)(hT:zY w A n T)(hv:v.size<=16)(hn:n<=1000000) :
  Calls Tryz.prog 139 #[.pointer (some ⟨g,0,none⟩),.string v,.slice A n cap] w λe w'=>e=.returned (.int .i64 0)/\jC w' g bl bg (lF L v T) (lG G v T)/\z6 [bl,bg] w w':=by
 have D:=hT.len;have j:=dH D;clear D;have F:=bask v w g bl h.cell0 oM;have e1:YS v=0:=if_neg oM;rw[e1]at F;clear e1;go_enter Tryz.func139,Tryz.ntmps139
 (go_wp2_with fail);refine F.mono ?_;rintro e w' ⟨rfl,rfl⟩;(go_wp2_with fail);go_loopw [19] (λi wr=>∃k:Nat,k<=n/\i=.int .i64 k/\jC wr g bl bg (lF L v (T.take k)) (lG G v (T.take k))/\z6 [bl,bg] w wr) (λi _=>n-(intOf i).toNat)
 case atStart=>exact⟨0,zL,rfl,by simpa[lF,lG]using h,z6.refl _ _⟩
 case round =>
  obtain⟨k,hk,rfl,hB,N⟩:=hrel;by_cases B:k<n
  ·obtain⟨q,o,rfl,m⟩:=hT.get B (by rw[j.out];exact B);have a6:q≠bl:=row_ne m h.live;have a7:q≠bg:=row_ne m h.gone;have a5:z7 wr q (o+k*32) 32=some (idC (T[k]'(by rw[j.out];exact B))):=(N.row (zD m) (by simp[a6,a7]) _ _).trans m;have I:T.take (k+1)=T.take k ++ [T[k]'(by rw[j.out];exact B)]:=by rw[List.take_add_one,List.getElem?_eq_getElem (by rw[j.out];exact B)];rfl
   obtain⟨d,hd⟩:=eX (T[k]'(by rw[j.out];exact B))
   rw[hd]at a5 I;have b7:=dH I;clear hd I m;have J:small ⟨d,v⟩:=hv;obtain⟨L1,X⟩:=eX (lF L v (T.take k))
   obtain⟨G1,Y⟩:=eX (lG G v (T.take k))
   have b8:=dH X;have b9:=dH Y;rw[X,Y]at hB;clear X Y;have H:Below wr.heap.size wr ((wr.alloc (.cells (idC d) 39)).alloc (.cells (zH ⟨d,v⟩) 171)):=(bA).alloc sI _;have h1:=hB.below H;have f:z7 ((wr.alloc (.cells (idC d) 39)).alloc (.cells (zH ⟨d,v⟩) 171)) (wr.heap.size+1) 0 33=some (zH ⟨d,v⟩):=by simp[go_sem]
   have a8:=hB.lt;go_upto_region 8 with fail
   obtain⟨W1,a3⟩:=eR ((wr.alloc (.cells (idC d) 39)).alloc (.cells (zH ⟨d,v⟩) 171))
   rw[<-a3]at h1 f H |-;obtain⟨w2,y,b5,U⟩:=rput (x:=⟨d,v⟩) (h1.gone.kept (z6.drew W1) sI) J;have a1:g∉[bg]:=by simp;exact h1.neg
   have a2:=h1.cell1;clear a3;refine kX [bg] W1 ?_;intro M hS;have b1:=zP a2 a1;have b2:=y9 f (S:=[bg]) sO;refine lZ ?_;refine lH ?_;intro K hK;refine zG (xA hS U sI) (λhS=>?_);refine hK _ _ ?_;clear hK K;refine zC ?_;intro hS;have r:z6 [bg] W1 w2:=hS;have a9:bl∉[bg]:=by simp;exact h1.ne
   have b0:=h1.live.kept r a9;have t:=(r.block g h1.lt.1 a1).trans h1.blk;have V:w2.cell? ⟨g,0,none⟩=some (.map (some bl)):=by rw[cell_of_row w2 g 0 _ _ _ t];rfl
   have s:z7 w2 (wr.heap.size+1) 0 33=some (zH ⟨d,v⟩):=(r.row (zD f) sO _ _).trans f;have E:z6 [bg] wr w2:=z6.trans ((z6.of_below H).mono (S':=[bg]) sI) r iL;have R:=hB.nel;have a4:=E.size;clear b1 b2 U y M hS r a2 f H;go_upto_region 9 with fail
   obtain⟨w3,y,b4,Z⟩:=rdel (x:=⟨d,v⟩) (b0.kept (z6.drew w2) sI) J 0;have a0:g∉[bl]:=by simp;exact R
   refine kX [bl] w2 ?_;intro M hS;have b1:=zP V a0;have b2:=y9 s (S:=[bl]) sO;refine lZ ?_;refine lH ?_;intro K hK;refine zG (xA hS Z sI) (λhS=>?_);refine hK _ _ ?_;clear hK K;refine zC ?_;intro hS;have r:z6 [bl] w2 w3:=hS;have O:bg∉[bl]:=by simp;exact λe=>h1.ne e.symm
   have b3:z6 [bl,bg] w w3:=z6.trans (z6.trans N E sI) r sI;have b6:jC w3 g bl bg (lF L v (T.take (k+1))) (lG G v (T.take (k+1))):=by
    rw[b7.out,qi,qj,b8.out,b9.out];refine⟨(r.block g (World.block_lt_of_cell? w2 _ V) a0).trans t,b4,(b5.congr λx=>?_).kept r O,h1.ne,hB.risL.filter _,vA jI hB.risG,λx hx=>hB.smL x (List.mem_filter.1 hx).1,λx hx=>?_,λx hx=>?_⟩
    ·rw[qN jI,List.mem_cons]
    ·rcases (qN jI).1 hx with e | hx
     ·rw[e];exact J
     ·exact hB.smG x hx
    ·intro hm;have h2:=List.mem_filter.1 hx;rcases (qN jI).1 hm with e | hm
     ·exact(decide_eq_true_eq.mp h2.2) e
     ·exact hB.apart x h2.1 hm
   clear b1 b2 Z y M hS r V s;(go_wp2_with fail);go_roundw
   case rel=>exact⟨k+1,oM,by go_num,b6,b3⟩
   case measure=>exact sZ
  ·(go_wp2_with fail);go_ret;have e:k=n:=oM;have e2:T.take k=T:=List.take_of_length_le (by rw[j.out];omega);rw[e2]at hB;exact⟨rfl,hB,N⟩
end Go.Proofs.YtgfpjjppeldhbaaGreatDoor
