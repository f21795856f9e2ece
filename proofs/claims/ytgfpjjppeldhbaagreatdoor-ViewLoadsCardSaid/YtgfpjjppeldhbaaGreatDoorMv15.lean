/- Part 15 of the texts that lead to this claim: the walks of the functions and the plain law, in order. -/
import Derived.Test.YtgfpjjppeldhbaaGreatDoorMv14
import Derived.Lib.BufferWrite
namespace Go.Proofs.YtgfpjjppeldhbaaGreatDoor
open Go.RowKit
set_option maxRecDepth 100000
set_option maxHeartbeats 8000000
section
open Go.RowKit
structure lT(w:World)(M:List Nat)(g bn bb bg j:Nat):Prop where
 blk:w.heap[g]?=some (.cells #[.map (some bn),.map (some bb),.map (some bg)] 191 (0,0))
 nodes:∃X es clk,qG w bn idV pN gP X es clk
 behind:∃BM es clk,qG w bb idV slV gP BM es clk/\∀p∈BM,(∃R:List zE,SlW w p.2.A p.2.n p.2.c 32 (R.map idC))/\p.2.n<=j/\∀x∈Go.Proofs.YtgfpjjppeldhbaaGreatDoor.blk p.2.A,x∉M/\x<w.heap.size
 inM:bn∈M/\bb∈M
 ne:bn≠bb
section
variable {w w':World} {M:List Nat} {g bn bb bg j:Nat}
theorem lT.cell0(h:lT w M g bn bb bg j):w.cell? ⟨g,0,none⟩=some (.map (some bn)):=by rw[cell_of_row w g 0 _ _ _ h.blk];rfl
theorem lT.cell1(h:lT w M g bn bb bg j):w.cell? ⟨g,1,none⟩=some (.map (some bb)):=by rw[cell_of_row w g 1 _ _ _ h.blk];rfl
theorem lT.ltg(h:lT w M g bn bb bg j):g<w.heap.size:=(aG h.blk).1
theorem lT.neg(h:lT w M g bn bb bg j):g≠bn/\g≠bb:=by
 obtain⟨X,es,k,hn⟩:=h.nodes;obtain⟨BM,f,d,hb,_⟩:=h.behind;exact⟨rJ hn h.blk,rJ hb h.blk⟩
theorem lT.below(h:lT w M g bn bb bg j)(hb:Below w.heap.size w w'):lT w' M g bn bb bg j:=by
 obtain⟨X,es,s,hn⟩:=h.nodes;obtain⟨BM,r,d,m,f⟩:=h.behind;have k:=z6.of_below hb;refine⟨(k.block g h.ltg sI).trans h.blk,⟨X,es,s,hn.kept k sI⟩,⟨BM,r,d,m.kept k sI,λp hp=>?_⟩,h.inM,h.ne⟩;obtain⟨⟨R,s1⟩,s2,s3⟩:=f p hp;exact⟨⟨R,s1.below hb⟩,s2,λx hx=>⟨(s3 x hx).1,Nat.lt_of_lt_of_le (s3 x hx).2 hb.size⟩⟩
theorem q7.loose{N:List zO}{G:List zE}(h:q7 w M g bn bb bg N G):lT w M g bn bb bg N.length:=by
 obtain⟨es,k,hn⟩:=h.nodes;obtain⟨BM,j,d,hb,f,_⟩:=h.behind;refine⟨h.blk,⟨_,es,k,hn⟩,⟨BM,j,d,hb,λp hp=>?_⟩,⟨h.inM.1,h.inM.2.1⟩,h.ne.1⟩;obtain⟨s1,s2⟩:=f p hp;refine⟨⟨_,s1⟩,?_,s2⟩;have h1:=s1.len;have h2:=gU N p.1;simp only[List.length_map]at h1;omega
end
theorem nlookH{w:World}{bn:Nat}{X:List (zE×fD)}{es:Array MapEntry}{d:Nat}(y:zE)(hn:qG w bn idV pN gP X es d) :
  ∃s:fD,∀w',qG w' bn idV pN gP X es d->(Instr.lookup 188 (.map (some bn)) (.agg (idC y)) false).run Tryz.prog w'=.ok (.agg (zW s)) w':=by
 by_cases h:y∈X.map (·.1)
 ·obtain⟨p,hp,rfl⟩:=List.mem_map.1 h;exact⟨p.2,λw' hm=>hm.hit fK Tryz.underlying188 trivial hp false⟩
 ·exact⟨j8,λw' hm=>hm.miss fK Tryz.underlying188 (nK w') trivial h false⟩
theorem blookH{w:World}{M:List Nat}{bb j:Nat}{BM:List (zE×Sl)}{es:Array MapEntry}{d:Nat}(hb:qG w bb idV slV gP BM es d)
  (f:∀p∈BM,(∃R:List zE,SlW w p.2.A p.2.n p.2.c 32 (R.map idC))/\p.2.n<=j/\∀x∈blk p.2.A,x∉M/\x<w.heap.size)(r:zE) :
  ∃(s:Sl) (R:List zE),SlW w s.A s.n s.c 32 (R.map idC)/\s.n<=j/\(∀x∈blk s.A,x∉M/\x<w.heap.size) /\
   ∀w',qG w' bb idV slV gP BM es d->(Instr.lookup 189 (.map (some bb)) (.agg (idC r)) false).run Tryz.prog w'=.ok (.slice s.A s.n s.c) w':=by
 by_cases h:r∈BM.map (·.1)
 ·obtain⟨p,hp,rfl⟩:=List.mem_map.1 h;obtain⟨⟨R,s1⟩,s2,s3⟩:=f p hp;exact⟨p.2,R,s1,s2,s3,λw' hm=>hm.hit fK Tryz.underlying189 trivial hp false⟩
 ·exact⟨⟨none,0,0⟩,[],SlW.none_,zL,by simp[blk],λw' hm=>hm.miss fK Tryz.underlying189 (Y5 w') trivial h false⟩
theorem sqhangH(n:zO)(w:World)(M:List Nat)(g bn bb bg j0:Nat)(h:lT w M g bn bb bg j0)(hM:∀x∈M,x<w.heap.size)(hl:j0<=100000) :
  Calls Tryz.prog 215 #[.pointer (some ⟨g,0,none⟩),.agg (idC n.id),.agg (zW (q4 n))] w λe w'=>e=.returned (.tuple #[])/\lT w' M g bn bb bg (j0+1)/\z6 [bn,bb] w w':=by
 have hB:Below w.heap.size w ((w.alloc (.cells (idC n.id) 39)).alloc (.cells (zW (q4 n)) 193)):=(bA).alloc sI _;have h1:=h.below hB;have e1:z7 ((w.alloc (.cells (idC n.id) 39)).alloc (.cells (zW (q4 n)) 193)) w.heap.size 0 32=some (idC n.id):=by simp[go_sem]
 have c7:z7 ((w.alloc (.cells (idC n.id) 39)).alloc (.cells (zW (q4 n)) 193)) (w.heap.size+1) 0 34=some (zW (q4 n)):=by simp[go_sem]
 have f0:bn<w.heap.size/\bb<w.heap.size:=⟨hM _ h.inM.1,hM _ h.inM.2⟩
 have h8:=h.ltg;go_enter Tryz.func215,Tryz.ntmps215
 go_upto_region 1 with fail
 obtain⟨ga,f4⟩:=eX w.heap.size
 have h3:=dH f4;rw[f4]at e1 c7 hB f0 h8 hM |-;obtain⟨W,hW⟩:=eR ((w.alloc (.cells (idC n.id) 39)).alloc (.cells (zW (q4 n)) 193))
 rw[<-hW]at h1 e1 c7 hB |-;clear hW f4;have e6:z7 W (ga+1) 1 32=some (idC n.ref):=by have:=zX c7 (j:=1) (m:=32) oM;rw[fU]at this;simpa[q4]using this
 have g6:W.cell? ⟨ga+1,0,none⟩=some (.int .i64 n.h):=by have:=z8 c7 (j:=0) oM;rw[n0]at this;simpa[q4]using this
 obtain⟨X0,es,i5,hn⟩:=h1.nodes;obtain⟨BM,i4,i2,hb,g3⟩:=h1.behind;obtain⟨⟨A,sn,sc⟩,R,e3,h5,g4,a2⟩:=blookH hb g3 n.ref;dsimp only at e3 g4 a2 h5;have b5:=h1.cell1;have hk:∀x:Subtype (Bel W),(Instr.lookup 189 (.map (some bb)) (.agg (idC n.ref)) false).run Tryz.prog x.1=.ok (.slice A sn sc) x.1:=λx=>a2 x.1 (hb.kept (z6.of_below x.2) sI);refine lX W ?_;intro I hS;have b1:=zJ b5;have b2:=zU e6;refine lZ ?_;refine zC ?_;intro hS;have f7:Below ga w W.drew:=hB.drew;have h2:lT W.drew M g bn bb bg j0:=h1.below (yZ W);have e7:=hn.kept (z6.drew W) sI;have O:=e3.below (yZ W);have H:z7 W.drew ga 0 32=some (idC n.id):=e1;have N:z7 W.drew (ga+1) 0 34=some (zW (q4 n)):=c7;have e5:z7 W.drew (ga+1) 1 32=some (idC n.ref):=e6;have d8:W.drew.cell? ⟨ga+1,0,none⟩=some (.int .i64 n.h):=g6;clear b1 b2 I hS hk a2 b5 hb g3 hn e3 e1 c7 e6 g6 h1 hB;have d5:R.length=sn:=by have:=O.len;simpa using this
 have g2:=dH d5;have h4:sn<=100000:=oM;clear d5;obtain⟨W1,g8⟩:=eX W.drew
 rw[g8]at f7 h2 e7 O H N e5 d8 |-;clear g8 g4;(go_wp2_with fail);go_loopw [7] (λj wj=>∃m:Nat,m<=sn/\j=.int .i64 m/\Below W1.heap.size W1 wj) (λj _=>sn-(intOf j).toNat)
 case atStart=>exact⟨0,zL,rfl,Below.refl _ _⟩
 case round =>
  obtain⟨m,c8,rfl,b0⟩:=hrel;have a7:z7 wr ga 0 32=some (idC n.id):=(z9 (b0.block ga (zD H)) _ _).trans H;have c0:wr.cell? ⟨ga+1,0,none⟩=some (.int .i64 n.h):=(b0.cell (p:=⟨ga+1,0,none⟩) (zD N)).trans d8;have b7:=h2.below b0;have b6:=O.below b0;by_cases a8:m<sn
  ·obtain⟨q,o,rfl,e2⟩:=b6.rd.at_ a8;rw[List.getElem_map]at e2;obtain⟨y,hy⟩:=eX (R[m]'(by rw[g2.out];exact a8))
   rw[hy]at e2;obtain⟨⟨yh,yr,yv⟩,g5⟩:=nlookH y e7;have h7:∀x:Subtype (Bel wr),(Instr.lookup 188 (.map (some bn)) (.agg (idC y)) false).run Tryz.prog x.1=.ok (.agg (zW ⟨yh,yr,yv⟩)) x.1:=λx=>g5 _ ((e7.kept (z6.of_below b0) sI).kept (z6.of_below x.2) sI);have g7:=b7.cell0;have c2:=hahead n.h n.id yh y wr.drew;obtain⟨c,hc⟩:=eX (mT n.h n.id yh y)
   rw[hc]at c2;clear hc hy g5;go_upto_region 3 with fail
   refine lX wr ?_;intro I hS;have b1:=zU a7;have b2:=zU e2;have b3:=zJ c0;have b4:=zJ g7;refine lZ ?_;refine lC (c2) ?_;clear hS;intro w' hS;refine lZ ?_;refine zC ?_;intro hS;have g9:Below wr.heap.size wr w':=hS;have J:=yE b0 g9;clear b1 b2 b3 b4 I hS c2 h7 g7;cases c with
   | true =>
    (go_wp2_with fail);go_roundw
    case rel=>exact⟨m+1,oM,by go_num,J⟩
    case measure=>exact sZ
   | false =>
    have d:=h2.below J;have f:=O.below J;have E:z7 w' ga 0 32=some (idC n.id):=(z9 (J.block ga (zD H)) _ _).trans H;have D:z7 w' (ga+1) 0 34=some (zW (q4 n)):=(z9 (J.block (ga+1) (zD N)) _ _).trans N;have c9:Below ga w w':=f7.trans (J.mono (oH (zD H)));have d0:=J.size;clear e2 a7 c0 b7 b6 b0 J g9;obtain⟨V,rfl⟩:∃V,V=w':=⟨w',rfl⟩
    obtain⟨A,h0⟩:=eX (some ⟨q,o,none⟩:Option Addr)
    rw[h0]at f |-;clear h0;have U:z7 V (ga+1) 1 32=some (idC n.ref):=by have:=zX D (j:=1) (m:=32) oM;rw[fU]at this;simpa[q4]using this
    have b5:=d.cell1;have e9:m<=sc:=Nat.le_trans c8 f.le;have e8:∀w0:World,(slS 50 (.slice A sn sc) none (some (.int .i64 m)) (some (.int .i64 m))).run Tryz.prog w0=.ok (.slice A m m) w0:=λw0=>wV xI w0 A sn sc m e9;obtain⟨Ah,ch,f2,d7,f3⟩:=f.hi (P:=Tryz.prog) xI (m:=m) c8;have a4:g∉[bb]:=by simpa using d.neg.2
    go_upto_region 5 with fail
    refine kX [bb] V ?_;intro I hS;have b1:=zP b5 a4;have b2:=y9 E (S:=[bb]) sO;have b3:=y9 U (S:=[bb]) sO;refine lZ ?_;refine lH ?_;intro K hK;refine zG (xP hS _) (λhS=>?_);refine hK _ _ ?_;clear hK K;refine lZ ?_;refine lH ?_;intro K hK;refine zG (xP hS _) (λhS=>?_);refine hK _ _ ?_;clear hK K;have a6:Below V.heap.size V ((V.alloc (.cells (idC n.id) 39)).alloc (.cells #[.slice A m m,.slice (some ⟨V.heap.size,0,none⟩) 1 1,.slice Ah (sn-m) ch] 50)).drew:=((bA).alloc sI _).drew;have t1:zY ((V.alloc (.cells (idC n.id) 39)).alloc (.cells #[.slice A m m,.slice (some ⟨V.heap.size,0,none⟩) 1 1,.slice Ah (sn-m) ch] 50)).drew A m (R.take m):=by
     have:=(f.rd.below a6).take_ c8
     rwa [<-List.map_take]at this
    have t3:zY ((V.alloc (.cells (idC n.id) 39)).alloc (.cells #[.slice A m m,.slice (some ⟨V.heap.size,0,none⟩) 1 1,.slice Ah (sn-m) ch] 50)).drew Ah (sn-m) (R.drop m):=by
     have:=d7 _ (f.rd.below a6)
     rwa [<-List.map_drop]at this
    have t2:zY ((V.alloc (.cells (idC n.id) 39)).alloc (.cells #[.slice A m m,.slice (some ⟨V.heap.size,0,none⟩) 1 1,.slice Ah (sn-m) ch] 50)).drew (some ⟨V.heap.size,0,none⟩) 1 [n.id]:=⟨rfl,λ_=>⟨V.heap.size,0,rfl,λi hi=>by
     have:i=0:=by simpa using hi
     subst this;simp[go_sem]⟩⟩
    have k0:((V.alloc (.cells (idC n.id) 39)).alloc (.cells #[.slice A m m,.slice (some ⟨V.heap.size,0,none⟩) 1 1,.slice Ah (sn-m) ch] 50)).drew.cell? ⟨V.heap.size+1,0,none⟩=some (.slice A m m):=by simp[go_sem]
    have k1:((V.alloc (.cells (idC n.id) 39)).alloc (.cells #[.slice A m m,.slice (some ⟨V.heap.size,0,none⟩) 1 1,.slice Ah (sn-m) ch] 50)).drew.cell? ⟨V.heap.size+1,1,none⟩=some (.slice (some ⟨V.heap.size,0,none⟩) 1 1):=by simp[go_sem]
    have k2:((V.alloc (.cells (idC n.id) 39)).alloc (.cells #[.slice A m m,.slice (some ⟨V.heap.size,0,none⟩) 1 1,.slice Ah (sn-m) ch] 50)).drew.cell? ⟨V.heap.size+1,2,none⟩=some (.slice Ah (sn-m) ch):=by simp[go_sem]
    have f6:((V.alloc (.cells (idC n.id) 39)).alloc (.cells #[.slice A m m,.slice (some ⟨V.heap.size,0,none⟩) 1 1,.slice Ah (sn-m) ch] 50)).drew.heap.size=V.heap.size+2:=by simp[World.drew]
    have h6:=c9.size;have b8:=zD E;obtain⟨X,hX⟩:=eX (((V.alloc (.cells (idC n.id) 39)).alloc (.cells #[.slice A m m,.slice (some ⟨V.heap.size,0,none⟩) 1 1,.slice Ah (sn-m) ch] 50)).drew)
    rw[hX]at a6 t1 t2 t3 k0 k1 k2 f6 hS |-;clear hX;have cc:=eP X (V.heap.size+1) 3 A (some ⟨V.heap.size,0,none⟩) Ah m 1 (sn-m) m 1 ch _ _ _ t1 t2 t3 (λe=>oH (f.nil e)) (λe=>by cases e) f3 k0 k1 k2 oM oM;refine lZ ?_;refine lH ?_;intro K hK;refine cc.mono ?_;rintro e wC ⟨A5,L,rfl,F,c4⟩;replace hS:=rO hS c4;refine⟨_,rfl,hS,hK _ _ ?_⟩;clear hK K cc k0 k1 k2 t1 t2 t3;have h9:z6 [bb] V wC:=hS;obtain⟨i3,i1,g1,f5,Z⟩:=d.behind;have e0:=yE a6 c4;have d9:=f5.kept (z6.of_below e0) sI;have Y:=F.slw;have t:∀x∈blk A5,x∉M/\x<wC.heap.size:=λx hx=>by
     obtain⟨h1,h2⟩:=F.at_base hx;exact⟨λhm=>oH (hM x hm),h2⟩
    obtain⟨wD,f9,c6,r,d4,a9⟩:=d9.update (P:=Tryz.prog) (v:=(⟨A5,m+1+(sn-m),L⟩:Sl)) fK Tryz.underlying189 (k:=n.ref) trivial;change (Instr.mapUpdate 189 (.map (some bb)) (.agg (idC n.ref)) (.slice A5 (m+1+(sn-m)) L)).run Tryz.prog wC=.ok () wD at r;refine lH ?_;intro K hK;refine zG (xA hS a9 sI) (λhS=>?_);refine hK _ _ ?_;clear hK K;refine zC ?_;intro hS;have B:z6 [bb] V wD:=hS;have s:=(B.block g d.ltg a4).trans d.blk;have c1:bn∉[bb]:=by simpa using d.ne
    obtain⟨XN,i0,g0,d1⟩:=d.nodes;have d2:=d1.kept B c1;have T:SlW wD A5 (m+1+(sn-m)) L 32 ((R.take m ++ [n.id]++R.drop m).map idC):=Y.kept a9 (λx hx hm=>by
     have e:x=bb:=by simpa using hm
     subst e;exact(t _ hx).1 d.inM.2)
    have a1:z7 wD ga 0 32=some (idC n.id):=(B.row b8 sO _ _).trans E;have a0:z7 wD (ga+1) 0 34=some (zW (q4 n)):=(B.row (zD D) sO _ _).trans D;have a5:wD.cell? ⟨g,0,none⟩=some (.map (some bn)):=by rw[cell_of_row wD g 0 _ _ _ s];rfl
    have e4:=B.size;clear b1 b2 b3 I hS r d9 d1 Y c4 a6 e0 e8 f2 d7 U b5;go_upto_region 6 with fail
    obtain⟨wE,f8,c5,r,d3,d6⟩:=(d2.kept (z6.drew wD) sI).update (P:=Tryz.prog) (v:=q4 n) fK Tryz.underlying188 (k:=n.id) trivial;change (Instr.mapUpdate 188 (.map (some bn)) (.agg (idC n.id)) (.agg (zW (q4 n)))).run Tryz.prog wD.drew=.ok () wE at r;have a3:g∉[bn]:=by simpa using d.neg.1
    refine kX [bn] wD ?_;intro I hS;have b1:=zP a5 a3;have b2:=y9 a1 (S:=[bn]) sO;have b3:=y9 a0 (S:=[bn]) sO;refine lZ ?_;refine lH ?_;intro K hK;refine zG (xA hS d6 sI) (λhS=>?_);refine hK _ _ ?_;clear hK K;refine zC ?_;intro hS;have G:z6 [bn] wD wE:=hS;have c3:bb∉[bn]:=by simpa using λe=>d.ne e.symm
    have b9:lT wE M g bn bb bg (j0+1):=by
     refine⟨(G.block g (oH d.ltg) a3).trans s,⟨_,f8,c5,d3⟩,⟨_,f9,c6,d4.kept G c3,λp hp=>?_⟩,d.inM,d.ne⟩;rcases rI hp with e | ⟨hp,I⟩
     ·subst e;dsimp only;exact⟨⟨_,T.kept G (λx hx hm=>by
       have e:x=bn:=by simpa using hm
       subst e;exact(t _ hx).1 d.inM.1)⟩,oM,λx hx=>⟨(t x hx).1,Nat.lt_of_lt_of_le (t x hx).2 (Nat.le_trans a9.size G.size)⟩⟩
     ·obtain⟨⟨R',s1⟩,s2,s3⟩:=Z p hp;refine⟨⟨R',(s1.kept B (λx hx hm=>?_)).kept G (λx hx hm=>?_)⟩,oM,λx hx=>⟨(s3 x hx).1,Nat.lt_of_lt_of_le (s3 x hx).2 (Nat.le_trans B.size G.size)⟩⟩
      ·have e:x=bb:=by simpa using hm
       subst e;exact(s3 _ hx).1 d.inM.2
      ·have e:x=bn:=by simpa using hm
       subst e;exact(s3 _ hx).1 d.inM.1
    have f1:z6 [bn,bb] w wE:=z6.trans (z6.trans ((z6.of_below (c9.mono (by rw[h3.out];exact lR))).mono (S':=[bn,bb]) sI) (B.mono (S':=[bn,bb]) sI) iL) (G.mono (S':=[bn,bb]) sI) iL;clear b1 b2 b3 I hS d6 a9 r d3 d4 d2 T a1 a0 a5 s Z G B d;(go_wp2_with fail);go_end0;exact⟨rfl,b9,f1⟩
  ·have hd:decide (m<sn)=false:=by simpa using a8
   go_upto_region 3 with fail
   refine lX wr ?_;intro I hS;refine lZ ?_;refine lH ?_;intro K hK;refine hK _ _ ?_;clear hK K;refine lZ ?_;refine zC ?_;intro hS;have J:=b0.drew;have d:=h2.below J;have f:=O.below J;have E:z7 wr.drew ga 0 32=some (idC n.id):=a7;have D:z7 wr.drew (ga+1) 0 34=some (zW (q4 n)):=(z9 (J.block (ga+1) (zD N)) _ _).trans N;have c9:Below ga w wr.drew:=f7.trans (J.mono (oH (zD H)));have d0:=J.size;clear I hS J b0 a8 hd b7 b6 c0 a7;obtain⟨V,hV⟩:=eX wr.drew
   rw[hV]at d f E D c9 d0 |-;clear hV;have U:z7 V (ga+1) 1 32=some (idC n.ref):=by have:=zX D (j:=1) (m:=32) oM;rw[fU]at this;simpa[q4]using this
   have b5:=d.cell1;have e9:m<=sc:=Nat.le_trans c8 f.le;have e8:∀w0:World,(slS 50 (.slice A sn sc) none (some (.int .i64 m)) (some (.int .i64 m))).run Tryz.prog w0=.ok (.slice A m m) w0:=λw0=>wV xI w0 A sn sc m e9;obtain⟨Ah,ch,f2,d7,f3⟩:=f.hi (P:=Tryz.prog) xI (m:=m) c8;have a4:g∉[bb]:=by simpa using d.neg.2
   go_upto_region 5 with fail
   refine kX [bb] V ?_;intro I hS;have b1:=zP b5 a4;have b2:=y9 E (S:=[bb]) sO;have b3:=y9 U (S:=[bb]) sO;refine lZ ?_;refine lH ?_;intro K hK;refine zG (xP hS _) (λhS=>?_);refine hK _ _ ?_;clear hK K;refine lZ ?_;refine lH ?_;intro K hK;refine zG (xP hS _) (λhS=>?_);refine hK _ _ ?_;clear hK K;have a6:Below V.heap.size V ((V.alloc (.cells (idC n.id) 39)).alloc (.cells #[.slice A m m,.slice (some ⟨V.heap.size,0,none⟩) 1 1,.slice Ah (sn-m) ch] 50)).drew:=((bA).alloc sI _).drew;have t1:zY ((V.alloc (.cells (idC n.id) 39)).alloc (.cells #[.slice A m m,.slice (some ⟨V.heap.size,0,none⟩) 1 1,.slice Ah (sn-m) ch] 50)).drew A m (R.take m):=by
    have:=(f.rd.below a6).take_ c8
    rwa [<-List.map_take]at this
   have t3:zY ((V.alloc (.cells (idC n.id) 39)).alloc (.cells #[.slice A m m,.slice (some ⟨V.heap.size,0,none⟩) 1 1,.slice Ah (sn-m) ch] 50)).drew Ah (sn-m) (R.drop m):=by
    have:=d7 _ (f.rd.below a6)
    rwa [<-List.map_drop]at this
   have t2:zY ((V.alloc (.cells (idC n.id) 39)).alloc (.cells #[.slice A m m,.slice (some ⟨V.heap.size,0,none⟩) 1 1,.slice Ah (sn-m) ch] 50)).drew (some ⟨V.heap.size,0,none⟩) 1 [n.id]:=⟨rfl,λ_=>⟨V.heap.size,0,rfl,λi hi=>by
    have:i=0:=by simpa using hi
    subst this;simp[go_sem]⟩⟩
   have k0:((V.alloc (.cells (idC n.id) 39)).alloc (.cells #[.slice A m m,.slice (some ⟨V.heap.size,0,none⟩) 1 1,.slice Ah (sn-m) ch] 50)).drew.cell? ⟨V.heap.size+1,0,none⟩=some (.slice A m m):=by simp[go_sem]
   have k1:((V.alloc (.cells (idC n.id) 39)).alloc (.cells #[.slice A m m,.slice (some ⟨V.heap.size,0,none⟩) 1 1,.slice Ah (sn-m) ch] 50)).drew.cell? ⟨V.heap.size+1,1,none⟩=some (.slice (some ⟨V.heap.size,0,none⟩) 1 1):=by simp[go_sem]
   have k2:((V.alloc (.cells (idC n.id) 39)).alloc (.cells #[.slice A m m,.slice (some ⟨V.heap.size,0,none⟩) 1 1,.slice Ah (sn-m) ch] 50)).drew.cell? ⟨V.heap.size+1,2,none⟩=some (.slice Ah (sn-m) ch):=by simp[go_sem]
   have f6:((V.alloc (.cells (idC n.id) 39)).alloc (.cells #[.slice A m m,.slice (some ⟨V.heap.size,0,none⟩) 1 1,.slice Ah (sn-m) ch] 50)).drew.heap.size=V.heap.size+2:=by simp[World.drew]
   have h6:=c9.size;have b8:=zD E;obtain⟨X,hX⟩:=eX (((V.alloc (.cells (idC n.id) 39)).alloc (.cells #[.slice A m m,.slice (some ⟨V.heap.size,0,none⟩) 1 1,.slice Ah (sn-m) ch] 50)).drew)
   rw[hX]at a6 t1 t2 t3 k0 k1 k2 f6 hS |-;clear hX;have cc:=eP X (V.heap.size+1) 3 A (some ⟨V.heap.size,0,none⟩) Ah m 1 (sn-m) m 1 ch _ _ _ t1 t2 t3 (λe=>oH (f.nil e)) (λe=>by cases e) f3 k0 k1 k2 oM oM;refine lZ ?_;refine lH ?_;intro K hK;refine cc.mono ?_;rintro e wC ⟨A5,L,rfl,F,c4⟩;replace hS:=rO hS c4;refine⟨_,rfl,hS,hK _ _ ?_⟩;clear hK K cc k0 k1 k2 t1 t2 t3;have h9:z6 [bb] V wC:=hS;obtain⟨i3,i1,g1,f5,Z⟩:=d.behind;have e0:=yE a6 c4;have d9:=f5.kept (z6.of_below e0) sI;have Y:=F.slw;have t:∀x∈blk A5,x∉M/\x<wC.heap.size:=λx hx=>by
    obtain⟨h1,h2⟩:=F.at_base hx;exact⟨λhm=>oH (hM x hm),h2⟩
   obtain⟨wD,f9,c6,r,d4,a9⟩:=d9.update (P:=Tryz.prog) (v:=(⟨A5,m+1+(sn-m),L⟩:Sl)) fK Tryz.underlying189 (k:=n.ref) trivial;change (Instr.mapUpdate 189 (.map (some bb)) (.agg (idC n.ref)) (.slice A5 (m+1+(sn-m)) L)).run Tryz.prog wC=.ok () wD at r;refine lH ?_;intro K hK;refine zG (xA hS a9 sI) (λhS=>?_);refine hK _ _ ?_;clear hK K;refine zC ?_;intro hS;have B:z6 [bb] V wD:=hS;have s:=(B.block g d.ltg a4).trans d.blk;have c1:bn∉[bb]:=by simpa using d.ne
   obtain⟨XN,i0,g0,d1⟩:=d.nodes;have d2:=d1.kept B c1;have T:SlW wD A5 (m+1+(sn-m)) L 32 ((R.take m ++ [n.id]++R.drop m).map idC):=Y.kept a9 (λx hx hm=>by
    have e:x=bb:=by simpa using hm
    subst e;exact(t _ hx).1 d.inM.2)
   have a1:z7 wD ga 0 32=some (idC n.id):=(B.row b8 sO _ _).trans E;have a0:z7 wD (ga+1) 0 34=some (zW (q4 n)):=(B.row (zD D) sO _ _).trans D;have a5:wD.cell? ⟨g,0,none⟩=some (.map (some bn)):=by rw[cell_of_row wD g 0 _ _ _ s];rfl
   have e4:=B.size;clear b1 b2 b3 I hS r d9 d1 Y c4 a6 e0 e8 f2 d7 U b5;go_upto_region 6 with fail
   obtain⟨wE,f8,c5,r,d3,d6⟩:=(d2.kept (z6.drew wD) sI).update (P:=Tryz.prog) (v:=q4 n) fK Tryz.underlying188 (k:=n.id) trivial;change (Instr.mapUpdate 188 (.map (some bn)) (.agg (idC n.id)) (.agg (zW (q4 n)))).run Tryz.prog wD.drew=.ok () wE at r;have a3:g∉[bn]:=by simpa using d.neg.1
   refine kX [bn] wD ?_;intro I hS;have b1:=zP a5 a3;have b2:=y9 a1 (S:=[bn]) sO;have b3:=y9 a0 (S:=[bn]) sO;refine lZ ?_;refine lH ?_;intro K hK;refine zG (xA hS d6 sI) (λhS=>?_);refine hK _ _ ?_;clear hK K;refine zC ?_;intro hS;have G:z6 [bn] wD wE:=hS;have c3:bb∉[bn]:=by simpa using λe=>d.ne e.symm
   have b9:lT wE M g bn bb bg (j0+1):=by
    refine⟨(G.block g (oH d.ltg) a3).trans s,⟨_,f8,c5,d3⟩,⟨_,f9,c6,d4.kept G c3,λp hp=>?_⟩,d.inM,d.ne⟩;rcases rI hp with e | ⟨hp,I⟩
    ·subst e;dsimp only;exact⟨⟨_,T.kept G (λx hx hm=>by
      have e:x=bn:=by simpa using hm
      subst e;exact(t _ hx).1 d.inM.1)⟩,oM,λx hx=>⟨(t x hx).1,Nat.lt_of_lt_of_le (t x hx).2 (Nat.le_trans a9.size G.size)⟩⟩
    ·obtain⟨⟨R',s1⟩,s2,s3⟩:=Z p hp;refine⟨⟨R',(s1.kept B (λx hx hm=>?_)).kept G (λx hx hm=>?_)⟩,oM,λx hx=>⟨(s3 x hx).1,Nat.lt_of_lt_of_le (s3 x hx).2 (Nat.le_trans B.size G.size)⟩⟩
     ·have e:x=bb:=by simpa using hm
      subst e;exact(s3 _ hx).1 d.inM.2
     ·have e:x=bn:=by simpa using hm
      subst e;exact(s3 _ hx).1 d.inM.1
   have f1:z6 [bn,bb] w wE:=z6.trans (z6.trans ((z6.of_below (c9.mono (by rw[h3.out];exact lR))).mono (S':=[bn,bb]) sI) (B.mono (S':=[bn,bb]) sI) iL) (G.mono (S':=[bn,bb]) sI) iL;clear b1 b2 b3 I hS d6 a9 r d3 d4 d2 T a1 a0 a5 s Z G B d;(go_wp2_with fail);go_end0;exact⟨rfl,b9,f1⟩
end
def kU:List zO->Int
 | []=>0
 | x :: R=>if qX x≠0 then qX x else kU R
theorem t7:∀ {R:List zO},kU R=0↔∀x∈R,qX x=0
 | []=>by simp[kU]
 | x :: R=>by
  unfold kU;by_cases h:qX x=0
  ·rw[if_neg oM,t7];simp[h]
  ·rw[if_pos h];simp[h]
theorem sX:∀ {R:List zO} {k:Nat} (hk:k<R.length),(∀x∈R.take k,qX x=0)->qX R[k]≠0->kU R=qX R[k]
 | x :: R,0,_,_,h=>by
  have h':qX x≠0:=h;unfold kU;rw[if_pos h'];rfl
 | x :: R,k+1,hk,h1,h=>by
  unfold kU;rw[if_neg (oH (h1 x sI))];exact sX (R:=R) (k:=k) (by simpa using hk) (λy hy=>h1 y (by simp[hy])) h
def k9:List zO->Bool
 | []=>true
 | [_]=>true
 | a :: b :: R=>decide (zI a.id b.id<0)&&k9 (b :: R)
theorem pG:∀ {R:List zO} {k:Nat} (hk:k+1<R.length),k9 (R.take (k+2))=(k9 (R.take (k+1))&&decide (zI (R[k]'oM).id R[k+1].id<0))
 | a :: b :: R,0,_=>by simp[k9]
 | a :: b :: R,k+1,hk=>by
  have:=pG (R:=b :: R) (k:=k) (by simpa using hk);show(decide (zI a.id b.id<0)&&k9 ((b :: R).take (k+2)))=((decide (zI a.id b.id<0)&&k9 ((b :: R).take (k+1)))&&_)
  rw[this,Bool.and_assoc];rfl
theorem YH(R:List zO):k9 (R.take 1)=true:=by
 cases R <;> simp[k9]
theorem iG:∀ {R:List zO},k9 R=true↔R.Pairwise λa b=>zI a.id b.id<0
 | []=>by simp[k9]
 | [a]=>by simp[k9]
 | a :: b :: R=>by
  unfold k9;rw[Bool.and_eq_true,iG,decide_eq_true_eq];constructor
  ·rintro⟨h1,h2⟩;refine List.pairwise_cons.2 ⟨λx hx=>?_,h2⟩;rcases List.mem_cons.1 hx with rfl | hx
   ·exact h1
   ·exact e7 _ _ _ h1 ((List.pairwise_cons.1 h2).1 x hx)
  ·intro h;obtain⟨h1,h2⟩:=List.pairwise_cons.1 h;exact⟨h1 b sI,h2⟩
theorem B0{R:List zO}(h:k9 R=true):Ris tY R/\s7 R:=by
 rw[iG]at h;refine⟨List.Pairwise.imp (fun {a b} h=>?_) h,?_⟩
 ·unfold tY orC;rw[if_neg oM];exact h
 ·intro a ha b hb e;obtain⟨i,hi,rfl⟩:=List.getElem_of_mem ha;obtain⟨j,hj,rfl⟩:=List.getElem_of_mem hb;rcases Nat.lt_trichotomy i j with d | d | d
  ·have:=List.pairwise_iff_getElem.1 h i j hi hj d;rw[e,(kT _ _).2 rfl]at this;omega
  ·subst d;rfl
  ·have:=List.pairwise_iff_getElem.1 h j i hj hi d;rw[<-e,(kT _ _).2 rfl]at this;omega
def CutB(v:Value)(P:Bool->Prop):Prop:=∃b,v=.bool b/\P b
def mM(l:List UInt8):Int :=
 if(xD l).e≠0 then(xD l).e else if kU (yN l).rows≠0 then kU (yN l).rows
 else if(j4 (xD l).l 0=0/\vO (xD l).rows=true)/\k9 (yN l).rows=true then 0 else 4
theorem VR{l:List UInt8}(h:j4 l 0=0):l = []:=by
 unfold j4 at h;cases l with
 | nil=>rfl
 | cons a l=>simp at h
theorem XB{l:List UInt8}(h:mM l=0):GoodS l:=by
 unfold mM at h;by_cases h1:(xD l).e=0
 ·rw[if_neg oM]at h;by_cases h2:kU (yN l).rows=0
  ·rw[if_neg oM]at h;split at h
   ·rename_i h3
    obtain⟨h5,h6⟩:=B0 h3.2;exact⟨h1,VR h3.1.1,h3.1.2,h5,t7.1 h2,h6⟩
   ·cases h
  ·rw[if_pos h2]at h;exact absurd h h2
 ·rw[if_pos h1]at h;exact absurd h h1
theorem KQ(w:World)(s:ByteArray)(hs:s.size<=90000)(T:mM s.data.toList≠0) :
  Calls Tryz.prog 174 #[.string s] w λe w'=>e=.returned (.tuple #[.pointer none,.int .i64 (mM s.data.toList)])/\Below w.heap.size w w':=by
 obtain⟨l,hl⟩:=eX s.data.toList
 have l7:l.length<=90000:=by rw[<-hl];exact hs
 have c0:=wW s w oM;rw[hl]at c0 T |-;clear hl;have hE:mM l=if(xD l).e≠0 then(xD l).e else if kU (yN l).rows≠0 then kU (yN l).rows else if(j4 (xD l).l 0=0/\vO (xD l).rows=true)/\k9 (yN l).rows=true then 0 else 4:=rfl;have r:(xD l).e=0->(yN l).rows.length<=90000/\(xD l).rows.length<=90000:=λg1=>by
  obtain⟨h4,_⟩:=jS wN (show(xM idP (yN l).l (yN l).e).e=0 from g1);have h5:=jG wN (show(xM idP (yN l).l (yN l).e).e=0 from g1);have h6:=jG nLaw (show(xM nP l 0).e=0 from h4);have h7:(xD l).rows.length+(xD l).l.length<=(yN l).l.length:=h5;have h8:(yN l).rows.length+(yN l).l.length<=l.length:=h6;omega
 obtain⟨E,i3⟩:=eX (mM l)
 rw[i3]at hE T |-;clear i3;have HE:=dH hE;have f1:=dH T;clear hE T;go_enter Tryz.func174,Tryz.ntmps174
 (go_wp2_with fail);refine c0.mono ?_;rintro e w1 ⟨rfl,a9,c6⟩;obtain⟨gr,d7⟩:=eX w.heap.size
 have X:=dH d7;rw[d7]at a9 c6 |-;clear d7 c0;(go_wp2_with fail);refine(sqread w1 gr l a9).mono ?_;rintro e w2 ⟨A,cap,B,a4,rfl,hA,hB,Y,f9,c3⟩;have e1:Below gr w w2:=c6.trans (f9.below (oH a9.lt) sI);have m0:=a9.lt;have j5:=c6.size;obtain⟨R,hR⟩:=eX ((yN l).rows)
 obtain⟨G,hG⟩:=eX ((xD l).rows)
 have i0:(Value.tuple #[.slice A (yN l).rows.length cap,.slice B (xD l).rows.length a4])=.tuple #[.slice A R.length cap,.slice B G.length a4]:=by rw[hR,hG]
 rw[i0];rw[hR]at hA c3 r;rw[hG]at hB r;have b6:=HE.out;rw[hR,hG]at b6;obtain⟨er,g4⟩:=eX ((xD l).e)
 obtain⟨lr,f6⟩:=eX ((xD l).l)
 rw[g4]at b6 Y r;rw[f6]at b6 Y;have c9:=dH b6;clear hR hG i0 a9 c6 f9 g4 f6 HE b6;by_cases he:er=0
 ·subst he;obtain⟨l5,l6⟩:=r rfl;have a3:=c9.out;rw[if_neg oM]at a3;have c8:=dH a3;have k6:=dH c3;clear a3 c9 r c3;(go_wp2_with fail);refine(qA _ gr lr 0 Y).mono ?_;rintro e w3 ⟨rfl,rfl⟩;(go_wp2_with fail);refine(sqnew w2).mono ?_;rintro e w4 ⟨g,bn,bb,bg,rfl,e3,hg,m2,m4,m3,b5⟩;have h9:lT w4 [g,bn,bb,bg] g bn bb bg 0:=(e3 [g,bn,bb,bg] sI sI sI).loose;have b0:∀x∈[g,bn,bb,bg],x<w4.heap.size:=λx hx=>by
   have a6:=e3 [g,bn,bb,bg] sI sI sI;have k1:=a6.ltg;have k2:=a6.lt;simp at hx;rcases hx with rfl | rfl | rfl | rfl <;> omega
  have i9:=hA.below b5;have i6:=hB.below b5;have j0:∀x∈blk A,x<w2.heap.size:=λx hx=>(hA.at_base hx).2;have i7:∀x∈blk B,x<w2.heap.size:=λx hx=>(hB.at_base hx).2;have f5:=Y.below b5;have m1:=Y.lt;have a2:Below gr w w4:=e1.trans (b5.mono oM);have i1:∀x∈[bn,bb],gr<=x:=by intro x hx;simp at hx;omega
  clear hA hB Y e1 e3;(go_wp2_with fail);refine(hU _ gr lr 0 f5).mono ?_;rintro e w5 ⟨rfl,a5⟩;have g9:=h9.below a5;have i8:=i9.below a5;have i5:=i6.below a5;have J:Below gr w w5:=a2.trans (a5.mono (by have:=a2.size;have:=X.out;omega));have i2:∀x∈[g,bn,bb,bg],x<w5.heap.size:=λx hx=>Nat.lt_of_lt_of_le (b0 x hx) a5.size;have f3:=dH i2;have l1:=dH i8;have k8:=dH i5;have l2:=dH j0;have l0:=dH i7;obtain⟨e0,g5⟩:=eX (j4 lr 0)
  have e6:=c8.out;rw[g5]at e6 |-;have j2:=dH e6;clear h9 i9 i6 f5 a2 b5 a5 g5 b0 i2 i8 i5 j0 i7 e6 c8;(go_wp2_with fail);go_loopw [8,9,10,11,31] (λev _ _ _ iv wr=>∃(k j:Nat) (eb:Int),k<=R.length/\j<=k/\iv=.int .i64 k/\ev=.int .i64 eb/\Hid (eb=if k9 (R.take k)=true then e0 else 4)/\Hid (∀x∈R.take k,qX x=0)/\lT wr [g,bn,bb,bg] g bn bb bg j/\z6 [bn,bb] w5 wr) (λ_ _ _ _ iv _=>R.length-(intOf iv).toNat)
  case atStart=>exact⟨0,0,e0,zL,lR,rfl,rfl,(show e0=if k9 (R.take 0)=true then e0 else 4 by rw[List.take_zero];rfl),(sI:∀x∈R.take 0,qX x=0),g9,z6.refl _ _⟩
  case round =>
   clear g9;obtain⟨k,j,eb,hk,l9,rfl,rfl,b8,O,c7,Z⟩:=hrel;by_cases t:k<R.length
   ·have e8:=(l1.out.kept Z (λx hx=>oS (l2.out x hx))).slr;obtain⟨q,o,rfl,U⟩:=SlR.at_ e8 t;rw[List.getElem_map]at U;have N:Hid (∀(h1:0<k),z7 wr q (o+(k-1)*66) 66=some (nnC (R[k-1]'oM))):=by
     intro h1;obtain⟨q',o',e',a8⟩:=SlR.at_ e8 (oM:k-1<R.length);injection e' with e';injection e' with k4 k3
     subst k4;subst k3
     rwa [List.getElem_map]at a8
    have j1:Hid (∀c:Bool,(c=(decide (0<k)&&decide (0<=zI (R[k-1]'oM).id (R[k]'t).id)))->(if k9 (R.take (k+1))=true then e0 else 4)=if c=true then 4 else eb):=by
     intro c hc;cases k with
     | zero=>subst hc;rw[YH];have:=b8.out;simpa[k9]using this.symm
     | succ k =>
      have h3:=pG t;have h4:=b8.out;simp only[Nat.add_sub_cancel,Nat.zero_lt_succ,decide_true,Bool.true_and]at hc;rw[h3];by_cases h5:zI (R[k]'oM).id (R[k+1]'t).id<0
      ·have h6:c=false:=by rw[hc];simp;omega
       rw[h6,decide_eq_true h5,Bool.and_true,h4];rfl
      ·have h6:c=true:=by rw[hc];simp;omega
       rw[h6,decide_eq_false h5,Bool.and_false];rfl
    have f2:Hid (qX (R[k]'t)≠0->kU R=qX (R[k]'t)):=λh=>sX t O.out h;have f:Hid (qX (R[k]'t)=0->∀x∈R.take (k+1),qX x=0):=λh x hx=>by
     rw[List.take_add_one,List.getElem?_eq_getElem t,Option.toList_some]at hx;rcases List.mem_append.1 hx with hx | hx
     ·exact O.out x hx
     ·have e:x=R[k]'t:=by simpa using hx
      rw[e];exact h
    obtain⟨x,hx⟩:=eX (R[k]'t)
    rw[hx]at U j1 f2 f;have c4:Below wr.heap.size wr (wr.alloc (.cells (nnC x) 319)):=bA;have a7:z7 (wr.alloc (.cells (nnC x) 319)) wr.heap.size 0 66=some (nnC x):=by simp[go_sem]
    have a6:=c7.below c4;have b3:z6 [bn,bb] w5 (wr.alloc (.cells (nnC x) 319)):=z6.trans Z (z6.of_below c4) sI;have f4:wr.heap.size<(wr.alloc (.cells (nnC x) 319)).heap.size:=sI;have l3:x.val.size<=255:=by rw[<-hx];exact(k6.out _ (List.getElem_mem t)).2.2
    obtain⟨ex,g3⟩:=eX (qX x)
    have e9:=λW=>XW x.id x rfl W oM;rw[g3]at e9 f2 f;clear hx e8 g3;go_upto_region 10 with fail
    obtain⟨gb,g2⟩:=eX wr.heap.size
    obtain⟨W1,g7⟩:=eR (wr.alloc (.cells (nnC x) 319))
    have d:Hid (∀(h1:0<k),z7 (wr.alloc (.cells (nnC x) 319)) q (o+(k-1)*66) 66=some (nnC (R[k-1]'oM))):=λh1=>(z9 (c4.block q (zD (N.out h1))) _ _).trans (N.out h1);rw[<-g7]at a6 b3 a7 f4 d |-;have d9:bn<wr.heap.size/\bb<wr.heap.size:=by
     have h1:=f3.out bn sI;have h2:=f3.out bb sI;have h3:=Z.size;omega
    rw[g2]at a7 f4 d9 |-;clear g7 g2 c4 c7 Z N U;have d4:z7 W1 gb 0 32=some (idC x.id):=by have:=zX a7 (j:=0) (m:=32) oM;rwa [nB]at this
    have d2:z7 W1 gb 32 34=some (zW (q4 x)):=by have:=zX a7 (j:=32) (m:=34) oM;rwa [iX]at this
    have cc:=e9 W1;clear e9;by_cases F:ex=0
    ·subst F;(go_wp2_with fail);refine cc.mono ?_;rintro e w6 ⟨rfl,I⟩;have g8:=a6.below I;have D:=(z9 (I.block gb (zD d4)) _ _).trans d4;have a0:=(z9 (I.block gb (zD d2)) _ _).trans d2;have f8:z6 [bn,bb] w5 w6:=z6.trans b3 (z6.of_below I) sI;have M:Hid (∀(h1:0<k),z7 w6 q (o+(k-1)*66) 32=some (idC (R[k-1]'oM).id)):=λh1=>by
      have h2:=(z9 (I.block q (zD (d.out h1))) (o+(k-1)*66) 66).trans (d.out h1);have h3:=zX h2 (j:=0) (m:=32) oM
      rwa [nB]at h3
     have j3:=I.size;clear cc a6 d4 d2 b3 d I a7;go_upto_region 13 with fail
     go_cut [57] (λv wx=>CutB v (λb=>b=(decide (0<k)&&decide (0<=zI (R[k-1]'oM).id x.id)))/\Below w6.heap.size w6 wx)
     case first =>
      by_cases d5:0<k
      ·have j6:k-1<R.length:=oM;have d0:=M.out d5;obtain⟨y,hy⟩:=eX (R[k-1]'j6)
       rw[hy]at d0;have Hy:=dH hy;obtain⟨k1,g0⟩:=eX (k-1)
       have l8:((k:Int)-1)=(k1:Int):=oM;have l4:IntKind.i64.wrap (k1:Int)=(k1:Int):=IntWalk.i64_in _ oM;have d6:decide (0<k)=true:=sO;have f0:=dH d6;rw[g0]at d0;have j8:k1<R.length:=oM;have co:=aY y.id x.id w6.drew;obtain⟨c,hc⟩:=eX (zI y.id x.id)
       rw[hc]at co;have Hc:=dH hc;obtain⟨b,j9⟩:∃b:Bool,decide (0<=c)=b:=⟨_,rfl⟩
       have k5:=dH j9;clear hy hc d5 g0;refine lX w6 ?_;intro c1 hS;have b1:=zU d0;have b2:=zU D;refine lZ ?_;refine lC (co) ?_;clear hS;intro w' hS;refine lZ ?_;refine zC ?_;intro hS;go_wp2_with fail
       go_meet
       exact⟨⟨b,rfl,by rw[f0.out,Hy.out,Hc.out,k5.out];rfl⟩,hS⟩
      ·have d6:decide (0<k)=false:=sO;have f0:=dH d6;clear d5;refine lX w6 ?_;intro c1 hS;have b2:=zU D;refine lZ ?_;refine lH ?_;intro K hK;refine hK _ _ ?_;clear hK K;refine lZ ?_;refine zC ?_;intro hS;go_wp2_with fail
       go_meet
       exact⟨⟨false,rfl,by rw[f0.out];rfl⟩,hS⟩
     case rest =>
     obtain⟨⟨b,rfl,g6⟩,b4⟩:=hcut;have H:=j1.out b g6;have b7:=dH H.symm;obtain⟨w7,rfl⟩:∃w7,w7=wc:=⟨wc,rfl⟩
     have e4:=g8.below b4;have d3:=(z9 (b4.block gb (zD D)) _ _).trans D;have d1:=(z9 (b4.block gb (zD a0)) _ _).trans a0;have c2:z6 [bn,bb] w5 w7:=z6.trans f8 (z6.of_below b4) sI;have ch:=sqhangH x w7 _ g bn bb bg j e4 (λy hy=>Nat.lt_of_lt_of_le (f3.out y hy) c2.size) oM;clear g8 D a0 f8 b4 M g6 H;cases b with
     | true =>
      clear ch;(go_wp2_with fail);go_roundw
      case rel=>exact⟨k+1,j,4,oM,oM,by go_num,rfl,b7,f.out sI,e4,c2⟩
      case measure=>exact sZ
     | false =>
      clear e4;(go_wp2_with fail);refine ch.mono ?_;rintro e w8 ⟨rfl,k0,f7⟩;have j7:z6 [bn,bb] w5 w8:=z6.trans c2 f7 (λy hy=>.inl hy);clear ch c2 f7 d3 d1;(go_wp2_with fail);go_roundw
      case rel=>exact⟨k+1,j+1,eb,oM,oM,by go_num,rfl,b7,f.out sI,k0,j7⟩
      case measure=>exact sZ
    ·have L:E=ex:=by
      have h1:=j2.out;have h2:=f2.out F;rw[h2,if_pos F]at h1;exact h1
     have b9:=dH L;have c1:(ex != 0)=true:=by simpa using F
     have c5:∀w',Below W1.heap.size W1 w'->Below gr w w':=λw' hb=>(J.trans (b3.below (B:=gr) (by have:=J.size;have:=X.out;omega) i1)).trans (hb.mono (by have h1:=b3.size;have:=J.size;have:=X.out;omega));have k7:=dH c5;clear L c5 F;(go_wp2_with fail);refine cc.mono ?_;rintro e w6 ⟨rfl,I⟩;clear cc;(go_wp2_with fail);go_ret2;exact⟨by rw[b9.out];rfl,by rw[X.out];exact k7.out _ I⟩
   ·have e2:R.take k=R:=List.take_of_length_le oM;have V:=O.out;have H:=b8.out;rw[e2]at V H;have L:=j2.out;rw[if_neg (by rw[t7.2 V];simp)]at L;have e7:=k8.out.kept Z (λx hx=>oS (l0.out x hx));have d8:Below gr w wr:=J.trans (Z.below (B:=gr) (by have:=J.size;have:=X.out;omega) i1);by_cases h0:eb=0
    ·subst h0;have a1:k9 R=true:=by
      by_cases h:k9 R=true
      ·exact h
      ·rw[if_neg h]at H;cases H
     rw[if_pos a1]at H;have e5:vO G=false:=by
      cases h:vO G with
      | false=>rfl
      | true=>rw[if_pos ⟨⟨H.symm,h⟩,a1⟩]at L;exact absurd L f1.out
     rw[e5,if_neg sI]at L;have b9:=dH L;have ci:=aD wr B G.length a4 G e7.slr oM;rw[e5]at ci;clear e2 H L a1 e5 V b8 O c7 Z e7;(go_wp2_with fail);refine ci.mono ?_;rintro e w6 ⟨rfl,I⟩;have c5:=d8.trans (I.mono (by have:=d8.size;have:=X.out;omega));clear ci;(go_wp2_with fail);go_ret2;exact⟨by rw[b9.out];rfl,by rw[X.out];exact c5⟩
    ·have i4:E=4:=by
      rw[L,if_neg];rintro⟨⟨h1,h2⟩,h3⟩;rw[if_pos h3]at H;omega
     have b9:=dH i4;have c1:(eb != 0)=true:=by simpa using h0
     clear e2 H L i4 V b8 O c7 Z e7 h0;(go_wp2_with fail);go_ret2;exact⟨by rw[b9.out];rfl,by rw[X.out];exact d8⟩
 ·have a3:=c9.out;rw[if_pos he]at a3;have c8:=dH a3;have c1:(er != 0)=true:=by simpa using he
  clear a3 c9 r c3 hA hB he;(go_wp2_with fail);refine(qA _ gr lr er Y).mono ?_;rintro e w3 ⟨rfl,rfl⟩;(go_wp2_with fail);refine(qA _ gr lr er Y).mono ?_;rintro e w3 ⟨rfl,rfl⟩;(go_wp2_with fail);go_ret2;exact⟨by rw[c8.out];rfl,by rw[X.out];exact e1⟩
theorem at_store(w:World)(g:Nat)(n m:Int)(h:xO w g n):(callFunc 273 #[.pointer (some ⟨g,0,none⟩),.int .i64 m]).run Tryz.prog w=.ok (.value (.tuple #[])) (w.setCell ⟨g,0,none⟩ (.int .i64 m)):=by
 have h0:=h.cell0;have hf:w.frozen? ⟨g,0,none⟩=false:=by simp[World.frozen?,show w.heap[g]?=_ from h]
 rw[run_callFunc_extern Tryz.func273 kR kR kR (e:=Extern.Atomic.storeT) kR];have e:Extern.Atomic.storeT #[.pointer (some ⟨g,0,none⟩),.int .i64 m]=(do
  store (<-asAddr (.pointer (some ⟨g,0,none⟩))) (.int .i64 m) .atomic
  pure (.tuple #[])):=rfl
 rw[e];simp[asAddr,go_sem,h0,hf]
theorem at_Store(w:World)(g:Nat)(n m:Int)(h:xO w g n):Calls Tryz.prog 224 #[.pointer (some ⟨g,0,none⟩),.int .i64 m] w λe w'=>e=.returned (.tuple #[])/\w'=w.setCell ⟨g,0,none⟩ (.int .i64 m):=by
 have hr:=at_store w g n m h;clear h;go_enter Tryz.func224,Tryz.ntmps224
 (go_wp2_with fail);go_end0;exact⟨rfl,rfl⟩
def nI(l:List UInt8):Int:=wrap64 ((yK 4 l 0:Int)*4294967296+yK 4 (zK 4 l 0) (zM 4 l 0))
def loadT(l:List UInt8):Int:=j4 (zK 4 (zK 4 l 0) (zM 4 l 0)) (zM 4 (zK 4 l 0) (zM 4 l 0))
theorem or_low(a b:Nat)(ha:a<4294967296)(hb:b<4294967296):bits .or .u64 ((a*4294967296:Nat):Int) (b:Int)=((a*4294967296+b:Nat):Int):=by
 rw[bits_or_u64_nat _ _ oM oM];have h:=Nat.two_pow_add_eq_or_of_lt (i:=32) (b:=b) oM a;rw[show(2:Nat) ^ 32=4294967296 from rfl,Nat.mul_comm]at h;rw[<-h]
theorem tload(w:World)(s:ByteArray)(hs:s.size<=1000000) :
  Calls Tryz.prog 170 #[.string s] w λe w'=>∃P,e=.returned (.tuple #[.pointer P,.int .i64 (loadT s.data.toList)])/\(loadT s.data.toList=0->∃g,P=some ⟨g,0,none⟩/\xO w' g (nI s.data.toList)/\w.heap.size<=g)/\(loadT s.data.toList≠0->P=none)/\Below w.heap.size w w':=by
 obtain⟨l,hl⟩:=eX s.data.toList
 have c0:=wW s w oM;rw[hl]at c0 |-;have hT:loadT l=j4 (zK 4 (zK 4 l 0) (zM 4 l 0)) (zM 4 (zK 4 l 0) (zM 4 l 0)):=rfl;have T:nI l=wrap64 ((yK 4 l 0:Int)*4294967296+yK 4 (zK 4 l 0) (zM 4 l 0)):=rfl;obtain⟨E,hE⟩:=eX (loadT l)
 rw[hE]at hT |-;have HT:=dH hT;have a0:=dH T;clear hl hE hT T;go_enter Tryz.func170,Tryz.ntmps170
 (go_wp2_with fail);refine c0.mono ?_;rintro e w1 ⟨rfl,m,G⟩;obtain⟨gr,F⟩:=eX w.heap.size
 have j:=dH F;rw[F]at m G |-;clear F c0;(go_wp2_with fail);refine(k5 w1 gr l 0 m).mono ?_;rintro e w2 ⟨rfl,y,L⟩;have ha:=yI 4 l 0;obtain⟨a,D⟩:=eX (yK 4 l 0)
 have Z:=dH D;rw[D]at ha |-;clear D;(go_wp2_with fail);refine(k5 w2 gr _ _ y).mono ?_;rintro e w3 ⟨rfl,t,J⟩;have hb:=yI 4 (zK 4 l 0) (zM 4 l 0);obtain⟨b,A⟩:=eX (yK 4 (zK 4 l 0) (zM 4 l 0))
 have Y:=dH A;rw[A]at hb |-;clear A;have R:Below gr w w3:=(G.trans (L.below (oH m.lt) sI)).trans (J.below (oH y.lt) sI);have X:gr<w3.heap.size:=t.lt;(go_wp2_with fail);refine(hU w3 gr _ _ t).mono ?_;rintro e w4 ⟨rfl,O⟩;have d:Below gr w w4:=R.trans (O.mono oM);rw[<-HT.out];clear m G y L t J R O;by_cases h0:E=0
 ·subst h0;(go_wp2_with fail);refine(tnew w4).mono ?_;rintro e w5 ⟨rfl,r,N⟩;have f:Below gr w w5:=d.trans (N.mono (by have:=d.size;have:=j.out;omega));have V:gr<=w4.heap.size:=by have:=d.size;have:=j.out;omega
  clear d N;(go_wp2_with fail);have eo:bits BinOp.or IntKind.u64 ((a:Int)*4294967296) (b:Int)=((a*4294967296+b:Nat):Int):=by
   have:=or_low a b oM oM;rw[<-this];simp
  rw[eo];have hw:wrap64 ((a*4294967296+b:Nat):Int)=nI l:=by rw[a0.out,Z.out,Y.out];congr 1
  rw[hw];clear eo hw;refine(at_Store w5 w4.heap.size 0 (nI l) r).mono ?_;rintro e w6 ⟨rfl,rfl⟩;have k:xO (w5.setCell ⟨w4.heap.size,0,none⟩ (.int .i64 (nI l))) w4.heap.size (nI l):=by
   have h0:w5.heap[w4.heap.size]?=_:=r;unfold xO;rw[zA h0];rfl
  have I:=z6.setCell w5 ⟨w4.heap.size,0,none⟩ (.int .i64 (nI l));have M:Below gr w (w5.setCell ⟨w4.heap.size,0,none⟩ (.int .i64 (nI l))):=f.trans (I.below (B:=gr) (by have:=f.size;have:=j.out;omega) sO);have H:=dH k;have U:=dH M;clear k I M r f;(go_wp2_with fail);go_ret2;exact⟨_,rfl,⟨w4.heap.size,rfl,H.out,oH j.out⟩,by rw[j.out];exact U.out⟩
 ·have hb:(E != 0)=true:=by simpa using h0
  have H0:=dH h0;clear h0;(go_wp2_with fail);go_ret2;exact⟨none,rfl,λh=>absurd h H0.out,λ_=>rfl,by rw[j.out];exact d⟩
structure Y4 where
 rows:List yH
 l:List UInt8
 e:Int
def ZU(l:List UInt8)(e:Int):yH:=⟨q3 (yV 32 l e),txV (zK 32 l e) (zM 32 l e)⟩
def oneL(l:List UInt8)(e:Int):List UInt8:=txL (zK 32 l e) (zM 32 l e)
def oneE(l:List UInt8)(e:Int):Int:=txE (zK 32 l e) (zM 32 l e)
def Y9(s:Y4):Y4:=⟨s.rows ++ [ZU s.l s.e],oneL s.l s.e,oneE s.l s.e⟩
def fR:Nat->Y4->Y4
 | 0,s=>s
 | k+1,s=>if s.e=0 then fR k (Y9 s)else s
def vF(l:List UInt8)(e:Int):Y4:=fR (yK 4 l e) ⟨[],zK 4 l e,zM 4 l e⟩
theorem pR(k:Nat)(s:Y4)(h:s.e≠0):fR k s=s:=by
 cases k with
 | zero=>rfl
 | succ k=>unfold fR;rw[if_neg h]
theorem pT(k:Nat)(s:Y4)(h:s.e=0):fR (k+1) s=fR k (Y9 s):=by rw[fR,if_pos h]
def KC(R:List yH):Prop:=∀x∈R,x.val.size<=255
theorem X7{R:List yH}(h:KC R)(l:List UInt8)(e:Int):KC (R ++ [ZU l e]):=λx hx=>by
 rcases List.mem_append.1 hx with h' | h'
 ·exact h x h'
 ·simp at h';subst h';exact dV _ _
def kA(R:List yH):Bool:=R.any λx=>decide (16<x.val.size)
def fV:List yH->Bool
 | []=>true
 | [_]=>true
 | x :: y :: l=>decide (yG x y<0)&&fV (y :: l)
def gZ(A G:List yH):Bool:=A.any λx=>decide (x∈G)
def jN(l:List UInt8):Y4:=vF l 0
def qW(l:List UInt8):Y4:=vF (jN l).l (jN l).e
def gS(l:List UInt8):Int :=
 if(qW l).e≠0 then(qW l).e
 else if kA (jN l).rows=true\/kA (qW l).rows=true then 3
 else if j4 (qW l).l (qW l).e≠0\/fV (jN l).rows=false\/fV (qW l).rows=false then 4
 else if gZ (jN l).rows (qW l).rows=true then 4 else 0
theorem t0{R:List yH}:kA R=false↔∀x∈R,small x:=by
 unfold kA small;rw[List.any_eq_false];constructor
 ·intro h x hx;have:=h x hx;simp at this;exact this
 ·intro h x hx;have:=h x hx;simpa using this
theorem Q3:∀(R:List yH),fV R=true↔Ris yG R
 | []=>by simp[fV,Ris]
 | [x]=>by simp[fV,Ris]
 | x :: y :: R=>by
  have ih:=Q3 (y :: R);unfold fV;rw[Bool.and_eq_true,ih,decide_eq_true_eq,fH (x:=x)];constructor
  ·rintro⟨h1,h2⟩;refine⟨λz hz=>?_,h2⟩;rcases List.mem_cons.1 hz with e | hz
   ·rw[e];exact h1
   ·exact jI.trans _ _ _ h1 ((fH.1 h2).1 z hz)
  ·rintro⟨h1,h2⟩;exact⟨h1 y sI,h2⟩
theorem K0{A G:List yH}:gZ A G=false↔∀x∈A,x∉G:=by
 unfold gZ;rw[List.any_eq_false];constructor
 ·intro h x hx;have:=h x hx;simpa using this
 ·intro h x hx;have:=h x hx;simpa using this
theorem qy{l:List UInt8}{e:Int}(h:oneE l e=0):e=0/\lE (ZU l e)++oneL l e=l:=by
 obtain⟨h1,h2⟩:=tL h;obtain⟨h3,h4,h5⟩:=tR h1;refine⟨h3,?_⟩;have e1:(q3 (yV 32 l e)).l=yV 32 l e:=by unfold q3;rw[dif_pos h5]
 unfold lE ZU oneL;simp only[e1,List.append_assoc];rw[h2,h4]
theorem iZ:∀(k:Nat) (s:Y4),(fR k s).e=0->∃X:List yH,X.length=k/\(fR k s).rows=s.rows++X/\X.flatMap lE++(fR k s).l=s.l/\s.e=0
 | 0,s,h=>⟨[],rfl,by simp[fR],by simp[fR],h⟩
 | k+1,s,h=>by
  by_cases he:s.e=0
  ·rw[pT k s he]at h |-;obtain⟨X,h1,h2,h3,h0⟩:=iZ k (Y9 s) h;obtain⟨_,h5⟩:=qy (show oneE s.l s.e=0 from h0);refine⟨ZU s.l s.e :: X,by simp[h1],by rw[h2];simp[Y9],?_,he⟩;rw[List.flatMap_cons,List.append_assoc,h3];exact h5
  ·rw[pR _ _ he]at h;exact absurd h he
theorem iI{l:List UInt8}{e:Int}(h:(vF l e).e=0):e=0/\lW (vF l e).rows++(vF l e).l=l:=by
 obtain⟨X,h1,h2,h3,h4⟩:=iZ _ _ h;obtain⟨h6,h5⟩:=bY (show zM 4 l e=0 from h4);refine⟨h6,?_⟩;unfold vF;rw[h2];unfold lW;simp only[List.nil_append,List.append_assoc];rw[h1,h3,h5]
theorem pU{l:List UInt8}(h:gS l=0):(qW l).e=0/\(∀x∈(jN l).rows,small x)/\(∀x∈(qW l).rows,small x)/\(qW l).l = []/\Ris yG (jN l).rows/\Ris yG (qW l).rows/\∀x∈(jN l).rows,x∉(qW l).rows:=by
 unfold gS at h;split at h
 ·exact absurd h (by assumption)
 ·rename_i h1
  have d:(qW l).e=0:=oM;split at h
  ·cases h
  ·rename_i h2
   simp only[not_or,Bool.not_eq_true]at h2;split at h
   ·cases h
   ·rename_i h3
    simp only[not_or,Bool.not_eq_false,ne_eq,Classical.not_not]at h3;split at h
    ·cases h
    ·rename_i h4
     refine⟨d,t0.1 h2.1,t0.1 h2.2,?_,(Q3 _).1 h3.2.1,(Q3 _).1 h3.2.2,K0.1 (by simpa using h4)⟩;have h5:=h3.1;unfold j4 at h5;rw[if_pos d]at h5;split at h5
     ·assumption
     ·cases h5
theorem load_put{l:List UInt8}(h:gS l=0):B9 (jN l).rows (qW l).rows=l:=by
 obtain⟨h1,_,_,h4,_⟩:=pU h;obtain⟨h2,h3⟩:=iI (show(vF (jN l).l (jN l).e).e=0 from h1);obtain⟨_,h5⟩:=iI (show(vF l 0).e=0 from h2);have d:lW (qW l).rows++(qW l).l=(jN l).l:=h3;rw[h4,List.append_nil]at d;unfold B9;rw[d];exact h5
theorem K4(d:zE)(v v':ByteArray):(zH ⟨d,v⟩).setIfInBounds 32 (.string v')=zH ⟨d,v'⟩:=by
 apply Array.ext';simp[zH]
theorem BY(d d':zE)(v:ByteArray):((zH ⟨d,v⟩).toList.take (0+0)++(idC d').toList++(zH ⟨d,v⟩).toList.drop (0+0+(idC d').toList.length)).toArray=zH ⟨d',v⟩:=by
 apply Array.ext';have h1:(idC d').toList.length=32:=sI;have h2:(idC d).toList.length=32:=sI;rw[h1];have e:(zH ⟨d,v⟩).toList=(idC d).toList ++ [.string v]:=by simp[zH]
 have e':(zH ⟨d',v⟩).toList=(idC d').toList ++ [.string v]:=by simp[zH]
 rw[e,e'];simp[List.drop_append,h2]
theorem copy_id{w:World}{g:Nat}{v:ByteArray}(b:List UInt8)(hb:b.length=32\/b = [])(ty:TypeId)(c:Nat)(h:w.heap[g]?=some (.cells (zH ⟨id0,v⟩) 171 (0,0))) :
  ∃w' m,(Builtin.copy_ #[37,9] ty #[.slice (some ⟨g,0,none⟩) 32 c,.string (mkB b)]).run Tryz.prog w=.ok m w'/\w'.heap[g]?=some (.cells (zH ⟨q3 b,v⟩) 171 (0,0))/\z6 [g] w w':=by
 rcases hb with hb | hb
 ·have hs:(mkB b).size=32:=by rw[vV,hb]
  have h1:=Go.Lib.run_copy_row_string (P:=Tryz.prog) w 37 9 ty 5 g 0 32 c (mkB b) _ _ Tryz.underlying37 kR h oM (by rw[hs];simp);refine⟨_,_,h1,?_,⟨rfl,rfl,rfl,by simp[World.setRow],λx _ hx=>setRow_other w g x _ (by simpa using hx)⟩⟩;rw[setRow_heap w g _ _ _ _ h];have e3:=BY id0 (q3 b) v;have e:(q3 b).l=b:=by unfold q3;rw[dif_pos hb]
  have e2:(idC (q3 b)).toList=Go.Lib.byteCells (mkB b).data.toList:=by unfold idC;rw[e];rfl
  rw[e2]at e3;have e4:(Go.Lib.byteCells (mkB b).data.toList).length=32:=by rw[<-e2];simp
  rw[e4]at e3;rw[hs];simp only[Nat.add_zero]at e3;rw[<-e3]
 ·subst hb;have h1:=Go.Lib.run_copy_empty_string (P:=Tryz.prog) w 37 9 ty 5 (some ⟨g,0,none⟩) 32 c (mkB []) Tryz.underlying37 kR rfl;exact⟨_,_,h1,h,z6.refl _ _⟩
theorem bread(w:World)(g:Nat)(l:List UInt8)(e0:Int)(b3:q8 w g l e0) :
  Calls Tryz.prog 225 #[.pointer (some ⟨g,0,none⟩)] w λe w'=>∃A cap,e=.returned (.slice A (vF l e0).rows.length cap)/\Own w' w.heap.size 171 33 A (vF l e0).rows.length cap ((vF l e0).rows.map zH)/\q8 w' g (vF l e0).l (vF l e0).e/\z6 [g] w w'/\KC (vF l e0).rows/\(vF l e0).rows.length<4294967296:=by
 have c0:=k5 _ _ l e0 b3;have hN:=yI 4 l e0;obtain⟨N,c2⟩:=eX (yK 4 l e0)
 have c6:Hid (vF l e0=fR N ⟨[],zK 4 l e0,zM 4 l e0⟩):=by show _=_;rw[<-c2];rfl
 rw[c2]at c0 hN;clear c2;have g2:=b3.lt;go_enter Tryz.func225,Tryz.ntmps225
 (go_wp2_with fail);refine c0.mono ?_;rintro e w1 ⟨rfl,c9,b6⟩;have d9:=dH b6;have O:=b6.size;clear c0 b3 b6;(go_wp2_with fail);go_loopw [3,5] (λout i wr=>∃(k:Nat) (R:List yH) (l1:List UInt8) (e1:Int) (A1:Option Addr) (B:Nat),k<=N/\i=.int .i64 k/\out=.slice A1 R.length B/\R.length=k/\Own wr w1.heap.size 171 33 A1 R.length B (R.map zH)/\q8 wr g l1 e1/\Hid (fR N ⟨[],zK 4 l e0,zM 4 l e0⟩=fR (N-k) ⟨R,l1,e1⟩)/\Hid (KC R)/\z6 [g] w1 wr) (λ_ i _=>N-(intOf i).toNat)
 case atStart=>exact⟨0,[],_,_,none,0,zL,rfl,rfl,rfl,Own.nil _ _ _ _,c9,(show _=_ from rfl),(show KC [] by intro x hx;cases hx),z6.refl _ _⟩
 case round =>
  clear c9;obtain⟨k,R,l1,e1,A1,B,g0,rfl,rfl,d4,m,hr,a8,a9,hk⟩:=hrel;have f6:=dH d4;have g5:R.length<=N:=oM;clear d4;have f9:=hk.size;by_cases hgo:k<N/\e1=0
  ·obtain⟨e6,rfl⟩:=hgo;have H:=a8.out;rw[(oM:N-k=(N-(k+1))+1),pT _ _ rfl]at H;have f3:=dH H;have a0:=X7 a9.out l1 0;have e2:=dH a0;clear a8 H a9 a0;have g1:=hr.lt;have e8:g∉blk A1:=λhx=>(oH ((m.at_base hx).1));have h8:=heap_alloc_new wr (.cells (zH fM) 171);have c7:=hr.kept (z6.alloc wr (.cells (zH fM) 171)) sI;have d1:z6 [] wr (wr.alloc (.cells (zH fM) 171)):=z6.alloc _ _;(go_wp2_with fail);refine(qA _ g l1 0 hr).mono ?_;rintro e w5 ⟨rfl,rfl⟩;go_upto_region 7 with fail
   obtain⟨g8,b9⟩:=eX wr.heap.size
   rw[b9]at h8 |-;have g3:g<g8:=oM;have f5:=dH b9;clear b9 hr;generalize wr.alloc (.cells (zH fM) 171)=W at *;have b8:g8<W.heap.size:=(aG h8).1;have V:g8∉[g]:=sO;have d0:g∉[g8]:=sO;have d8:=tQ W.drew g _ _ (c7.kept (z6.drew W) sI);refine kX [g,g8] W ?_;intro e4 hS;refine lZ ?_;refine lH ?_;intro K hK;refine d8.mono ?_;rintro e e3 ⟨rfl,a3,L⟩;replace hS:=xA hS L sI;have a5:e3.heap[g8]?=_:=(L.block g8 b8 V).trans h8;refine⟨_,rfl,hS,hK _ _ ?_⟩;clear hK K d8;obtain⟨b1,f8,f1,M,J⟩:=copy_id (v:=⟨#[]⟩) (yV 32 l1 0) (lI _ _) 3 32 a5;refine lH ?_;intro K hK;refine zG (xA hS J sI) (λd3=>?_);refine hK _ _ ?_;clear hK K;refine zC ?_;intro hS;have D:z6 [g,g8] W b1:=d3;have a2:=a3.kept J d0;have U:g8<b1.heap.size:=(aG M).1;clear a3 L J f1 hS d3 e4 h8 a5 c7;(go_wp2_with fail);refine(vQ _ g _ _ a2).mono ?_;rintro e w2 ⟨rfl,c8,d2⟩;have e5:=yI 1 (zK 32 l1 0) (zM 32 l1 0);(go_wp2_with fail);refine(bD _ g _ _ _ c8 oM).mono ?_;rintro e w3 ⟨rfl,T,X⟩;have d6:q8 w3 g (oneL l1 0) (oneE l1 0):=T;have I:z6 [g] b1 w3:=z6.trans d2 X iL;have b0:=(I.block g8 U V).trans M;obtain⟨kv,b4⟩:=eX (mkB (yV (yK 1 (zK 32 l1 0) (zM 32 l1 0)) (zK 1 (zK 32 l1 0) (zM 32 l1 0)) (zM 1 (zK 32 l1 0) (zM 32 l1 0))))
   have f4:=dH (show txV (zK 32 l1 0) (zM 32 l1 0)=kv from b4);rw[b4];have x0:w3.cell? ⟨g8,32,none⟩=some (.string ⟨#[]⟩):=by rw[cell_of_row w3 g8 _ _ _ _ b0];simp[go_sem]
   have f0:w3.frozen? ⟨g8,32,none⟩=false:=by simp[World.frozen?,b0]
   have a4:=zA b0 32 (.string kv);rw[K4]at a4;have b5:=z6.setCell w3 ⟨g8,32,none⟩ (.string kv);have d5:=d6.kept b5 d0;have Y:z6 [g,g8] W (w3.setCell ⟨g8,32,none⟩ (.string kv)):=z6.trans (z6.trans D (I.mono (S':=[g,g8]) sI) iL) (b5.mono (S':=[g,g8]) sI) iL;clear c8 T d2 X b4 d6 e5 b0 b5 I M a2 D;go_upto_region 9 with fail
   generalize w3.setCell ⟨g8,32,none⟩ (.string kv)=w11' at *;clear x0 f0;have e9:=f5.out;have j:z6 [g,g8] wr w11':=z6.trans (d1.mono (S':=[g,g8]) sI) Y iL;have d7:∀x∈blk A1,x∉[g,g8]:=λx hx=>(oS (m.at_base hx));have t:=m.kept j d7;have Z:z6 [g] wr w11':=j.mono (by intro x hx;simp at hx;rcases hx with rfl | rfl <;> simp;omega);have hx:ZU l1 0=⟨q3 (yV 32 l1 0),kv⟩:=by unfold ZU;rw[f4.out]
   rw[<-hx]at a4;obtain⟨xx,b2⟩:=eX (ZU l1 0)
   rw[b2]at a4 e2;have f2:=dH b2;clear b2 hx m d7;have G:z7 w11' g8 0 33=some (zH xx):=by unfold z7;rw[a4];simp[go_sem]
   have c1:Below w11'.heap.size w11' (w11'.alloc (.cells (zH xx) 171)):=bA;have d:=t.below c1;have r:z7 (w11'.alloc (.cells (zH xx) 171)) w11'.heap.size 0 33=some (zH xx):=by simp[go_sem]
   have c5:w1.heap.size<=w11'.heap.size:=oH j.size;clear t a4 j Y d1;go_wp2_with (at_builtin;refine yM sT rfl d rfl r (j5 _) oM oM sO ?_;intro f7 a6 c4 s E F)
   have b7:z6 (blk A1) w11' c4:=z6.trans ((z6.of_below c1).mono (S':=blk A1) sI) E iL;have c3:=d5.kept b7 e8;have e7:z6 [g] w1 c4:=z6.trans (z6.trans hk Z iL) b7 (λx hx=>.inr (oH ((d.at_base hx).1)));rw[(sI:R.map zH ++ [zH xx]=(R ++ [xx]).map zH)]at s;have y:(R ++ [xx]).length=R.length+1:=sI;have f:=dH y;clear y b7 E F d r c1 G d5;(go_wp2_with fail);go_roundw
   case rel=>exact⟨k+1,R ++ [xx],_,_,f7,a6,oM,by go_num,(by rw[f.out]),(by rw[f.out,f6.out]),(by rw[f.out];exact s),c3,(show _=_ by rw[f3.out];unfold Y9;rw[f2.out]),e2,e7⟩
   case measure=>exact sZ
  ·have a1:vF l e0=⟨R,l1,e1⟩:=by
    rw[c6.out,a8.out];by_cases he:e1=0
    ·rw[(oM:N-k=0)];rfl
    ·exact pR _ _ he
   have a7:=dH a1;clear a1 a8 c6;by_cases e6:k<N
   ·have he:e1≠0:=oM;have g4:(e1==0)=false:=by simpa using he
    clear hgo he;(go_wp2_with fail);refine(qA _ g l1 e1 hr).mono ?_;rintro e w5 ⟨rfl,rfl⟩;(go_wp2_with fail);go_ret;rw[a7.out];exact⟨A1,B,rfl,m.mono O,hr,z6.trans d9.out hk iL,a9.out,by dsimp only;omega⟩
   ·clear hgo;(go_wp2_with fail);go_ret;rw[a7.out];exact⟨A1,B,rfl,m.mono O,hr,z6.trans d9.out hk iL,a9.out,by dsimp only;omega⟩
theorem fG(w:World)(g:Nat)(l:List UInt8)(e:Int)(h:jQ w g l e) :
  Calls Tryz.prog 65 #[.pointer (some ⟨g,0,none⟩),.int .i64 4] w λen w'=>en=.returned (.int .i64 (yK 4 l e))/\ZB w g (zK 4 l e) (zM 4 l e) w':=pD w g 4 l e h (.inr rfl)
theorem n4(w:World)(g:Nat)(l:List UInt8)(e:Int)(h:jQ w g l e) :
  Calls Tryz.prog 65 #[.pointer (some ⟨g,0,none⟩),.int .i64 1] w λen w'=>en=.returned (.int .i64 (yK 1 l e))/\ZB w g (zK 1 l e) (zM 1 l e) w':=pD w g 1 l e h (.inl rfl)
theorem rread(w:World)(g:Nat)(l:List UInt8)(e0:Int)(a3:jQ w g l e0) :
  Calls Tryz.prog 232 #[.pointer (some ⟨g,0,none⟩)] w λe w'=>∃A cap,e=.returned (.slice A (vF l e0).rows.length cap)/\Own w' w.heap.size 218 33 A (vF l e0).rows.length cap ((vF l e0).rows.map zH)/\jQ w' g (vF l e0).l (vF l e0).e/\z6 [g] w w'/\KC (vF l e0).rows/\(vF l e0).rows.length<4294967296:=by
 have c0:=fG _ _ l e0 a3;have hN:=yI 4 l e0;obtain⟨N,b3⟩:=eX (yK 4 l e0)
 have b7:Hid (vF l e0=fR N ⟨[],zK 4 l e0,zM 4 l e0⟩):=by show _=_;rw[<-b3];rfl
 rw[b3]at c0 hN;clear b3;have e6:=a3.lt;go_enter Tryz.func232,Tryz.ntmps232
 (go_wp2_with fail);refine c0.mono ?_;rintro e w1 ⟨rfl,c2,a7⟩;have c8:=dH a7;have I:=a7.size;clear c0 a3 a7;(go_wp2_with fail);go_loopw [3,5] (λout i wr=>∃(k:Nat) (R:List yH) (l1:List UInt8) (e1:Int) (A1:Option Addr) (D:Nat),k<=N/\i=.int .i64 k/\out=.slice A1 R.length D/\R.length=k/\Own wr w1.heap.size 218 33 A1 R.length D (R.map zH)/\jQ wr g l1 e1/\Hid (fR N ⟨[],zK 4 l e0,zM 4 l e0⟩=fR (N-k) ⟨R,l1,e1⟩)/\Hid (KC R)/\z6 [g] w1 wr) (λ_ i _=>N-(intOf i).toNat)
 case atStart=>exact⟨0,[],_,_,none,0,zL,rfl,rfl,rfl,Own.nil _ _ _ _,c2,(show _=_ from rfl),(show KC [] by intro x hx;cases hx),z6.refl _ _⟩
 case round =>
  clear c2;obtain⟨k,R,l1,e1,A1,D,e4,rfl,rfl,c5,m,hr,U,a0,hk⟩:=hrel;have d9:=dH c5;have e8:R.length<=N:=oM;clear c5;have e3:=hk.size;by_cases hgo:k<N/\e1=0
  ·obtain⟨d1,rfl⟩:=hgo;have G:=U.out;rw[(oM:N-k=(N-(k+1))+1),pT _ _ rfl]at G;have d6:=dH G;have O:=X7 a0.out l1 0;have c9:=dH O;clear U G a0 O;have e5:=hr.lt;have d3:g∉blk A1:=λhx=>(oH ((m.at_base hx).1));obtain⟨c0,c1,_⟩:=vJ hr;(go_wp2_with fail);refine(nS _ g l1 0 hr).mono ?_;rintro e w5 ⟨rfl,a2,a6⟩;clear c0 c1 hr;obtain⟨dv,b1⟩:=eX (q3 (yV 32 l1 0))
   have d8:=dH b1;rw[b1];have h8:=heap_alloc_new w5 (.cells (idC dv) 39);have b8:=a2.kept (z6.alloc w5 (.cells (idC dv) 39)) sI;have c3:z6 [g] wr (w5.alloc (.cells (idC dv) 39)):=z6.trans a6 ((z6.alloc w5 (.cells (idC dv) 39)).mono (S':=[g]) sI) iL;have a1:=a6.size;have d4:g<w5.heap.size:=a2.lt;clear b1 a2 a6;go_upto_region 7 with fail
   obtain⟨g8,b0⟩:=eX w5.heap.size
   rw[b0]at h8 a1 d4 |-;have e9:=dH b0;clear b0;generalize w5.alloc (.cells (idC dv) 39)=W at *;have a9:g8<W.heap.size:=(aG h8).1;have a4:g8∉[g]:=sO;(go_wp2_with fail);refine(n4 _ g _ _ b8).mono ?_;rintro e w2 ⟨rfl,b9,c4⟩;have d0:=yI 1 (zK 32 l1 0) (zM 32 l1 0);(go_wp2_with fail);refine(tA _ g _ _ _ b9 oM).mono ?_;rintro e w3 ⟨rfl,L,M⟩;have c6:jQ w3 g (oneL l1 0) (oneE l1 0):=L;have H:z6 [g] W w3:=z6.trans c4 M iL;have c7:=(H.block g8 a9 a4).trans h8;obtain⟨kv,a5⟩:=eX (mkB (yV (yK 1 (zK 32 l1 0) (zM 32 l1 0)) (zK 1 (zK 32 l1 0) (zM 32 l1 0)) (zM 1 (zK 32 l1 0) (zM 32 l1 0))))
   have d7:=dH (show txV (zK 32 l1 0) (zM 32 l1 0)=kv from a5);rw[a5];have B:z6 [g] wr w3:=z6.trans c3 H iL;clear b9 L c4 M a5 d0 b8 c3 H h8;go_upto_region 8 with fail
   obtain⟨d,rfl⟩:∃d:World,d=w3:=⟨_,rfl⟩
   have t:=m.kept B (λx hx=>oS ((m.at_base hx).1));have J:z7 d g8 0 32=some (idC dv):=by unfold z7;rw[c7];simp[go_sem]
   have hx:ZU l1 0=⟨dv,kv⟩:=by unfold ZU;rw[d7.out,d8.out]
   obtain⟨xx,Z⟩:∃xx:yH,(⟨dv,kv⟩:yH)=xx:=⟨_,rfl⟩
   rw[hx,Z]at c9;have d5:=dH (hx.trans Z);have V:=vo dv kv d;rw[Z]at V;clear Z hx m c7;have b2:Below d.heap.size d (d.alloc (.cells (zH xx) 218)):=bA;have f:=t.below b2;have r:z7 (d.alloc (.cells (zH xx) 218)) d.heap.size 0 33=some (zH xx):=by simp[go_sem]
   have b6:w1.heap.size<=d.heap.size:=oH B.size;clear t;go_wp2_with (at_builtin;refine yM q5 rfl f rfl r (j5 _) oM oM sO ?_;intro e2 X b5 s E F)
   have a8:z6 (blk A1) d b5:=z6.trans ((z6.of_below b2).mono (S':=blk A1) sI) E iL;have b4:=c6.kept a8 d3;have d2:z6 [g] w1 b5:=z6.trans (z6.trans hk B iL) a8 (λx hx=>.inr (oH ((f.at_base hx).1)));rw[(sI:R.map zH ++ [zH xx]=(R ++ [xx]).map zH)]at s;have y:(R ++ [xx]).length=R.length+1:=sI;have j:=dH y;clear y a8 E F f r b2 J V c6;(go_wp2_with fail);go_roundw
   case rel=>exact⟨k+1,R ++ [xx],_,_,e2,X,oM,by go_num,(by rw[j.out]),(by rw[j.out,d9.out]),(by rw[j.out];exact s),b4,(show _=_ by rw[d6.out];unfold Y9;rw[d5.out]),c9,d2⟩
   case measure=>exact sZ
  ·have T:vF l e0=⟨R,l1,e1⟩:=by
    rw[b7.out,U.out];by_cases he:e1=0
    ·rw[(oM:N-k=0)];rfl
    ·exact pR _ _ he
   have Y:=dH T;clear T U b7;by_cases d1:k<N
   ·have he:e1≠0:=oM;have e7:(e1==0)=false:=by simpa using he
    obtain⟨c0,c1,_⟩:=vJ hr;clear hgo he;(go_wp2_with fail);go_ret;rw[Y.out];exact⟨A1,D,rfl,m.mono I,hr,z6.trans c8.out hk iL,a0.out,by dsimp only;omega⟩
   ·clear hgo;(go_wp2_with fail);go_ret;rw[Y.out];exact⟨A1,D,rfl,m.mono I,hr,z6.trans c8.out hk iL,a0.out,by dsimp only;omega⟩
section
open Go.RowKit Go.Sort Go.Shelf
theorem border(x y:yH)(w:World):Calls Tryz.prog 275 #[.agg (zH x),.agg (zH y)] w λe w'=>e=.returned (.int .i64 (yG x y))/\Below w.heap.size w w' :=
 (rorder x y w).mono λ_ _ h=>⟨h.1,h.2.below⟩
theorem zj(w:World)(A:Option Addr)(n cap:Nat)(R:List yH)(h:y7 w A n R)(hn:n<=4294967296) :
  Calls Tryz.prog 233 #[.slice A n cap] w λe w'=>e=.returned (.bool (fV R))/\Below w.heap.size w w':=by
 have k:=dH h.len;go_enter Tryz.func233,Tryz.ntmps233
 (go_wp2_with fail);go_loopw [3] (λi wr=>∃j:Nat,(j<n\/j=0)/\i=.int .i64 ((j:Int)+1)/\Hid (fV R=fV (R.drop j))/\Below w.heap.size w wr) (λi _=>n+1-(intOf i).toNat)
 case atStart=>exact⟨0,.inr rfl,rfl,(show _=_ from rfl),Below.refl _ _⟩
 case round =>
  obtain⟨j,hj,rfl,m,hb⟩:=hrel;by_cases r:j+1<n
  ·have g:j+1<R.length:=by rw[k.out];exact r
   obtain⟨q,o,rfl,hrow2,-,-⟩:=y7.get (SlR.below h hb) r g;obtain⟨q',o',s,hrow1,-,-⟩:=y7.get (SlR.below h hb) (oM:j<n) (oM:j<R.length);injection s with s
   injection s with L J
   subst L;subst J;have d:fV R=(decide (yG (R[j]'oM) (R[j+1]'g)<0)&&fV (R.drop (j+1))):=by
    rw[m.out,List.drop_eq_getElem_cons (oM:j<R.length),List.drop_eq_getElem_cons g];rfl
   obtain⟨x,hx⟩:=eX (R[j]'oM)
   obtain⟨y,hy⟩:=eX (R[j+1]'g)
   rw[hx]at hrow1 d;rw[hy]at hrow2 d;clear m hx hy g;have B:((j:Int)+1<n):=oM;have G:IntKind.i64.wrap (j:Int)=j:=IntWalk.i64_in _ oM;have t1:((j:Int)+1).toNat=j+1:=oM;have t2:(0:Int)<=(j:Int)+1:=oM;have t3:(j:Int)<n:=oM;have t4:j<n:=oM;have c2:=rless x y wr.drew;by_cases hc:yG x y<0
   ·rw[decide_eq_true hc,Bool.true_and]at d;have F:=dH d;have D:decide (yG x y<0)=true:=decide_eq_true hc;rw[D]at c2;clear d hc;go_upto_region 4 with fail
    refine lX wr ?_;intro t hS;have b1:=zU hrow1;have b2:=zU hrow2;refine lZ ?_;refine lC (c2) ?_;clear hS;intro w' hS;refine lZ ?_;refine zC ?_;intro hS;have f:Below wr.heap.size wr w':=hS;have E:=yE hb f;clear b1 b2 t hS f c2 G;(go_wp2_with fail);go_roundw
    case rel=>exact⟨j+1,.inl r,by go_num,F,E⟩
    case measure=>exact sZ
   ·rw[decide_eq_false hc,Bool.false_and]at d;have F:=dH d;have D:decide (yG x y<0)=false:=decide_eq_false hc;rw[D]at c2;clear d hc;go_upto_region 4 with fail
    refine lX wr ?_;intro t hS;have b1:=zU hrow1;have b2:=zU hrow2;refine lZ ?_;refine lC (c2) ?_;clear hS;intro w' hS;refine lZ ?_;refine zC ?_;intro hS;have f:Below wr.heap.size wr w':=hS;have E:=yE hb f;clear b1 b2 t hS f c2 G;(go_wp2_with fail);go_ret;exact⟨yF (by rw[F.out]),E⟩
  ·have H:fV R=true:=by
    rw[m.out];have I:(R.drop j).length<=1:=by rw[List.length_drop,k.out];omega
    generalize R.drop j=Z at I
    match Z,I with
    | [],_=>rfl
    | [_],_=>rfl
   have N:=dH H;have B:decide ((j:Int)+1<n)=false:=sO;have M:decide (j+1<n)=false:=sO;clear H m r hj;(go_wp2_with fail);go_ret;exact⟨yF (by rw[N.out]),hb⟩
theorem yk(w:World)(A:Option Addr)(n cap:Nat)(R:List yH)(h:y7 w A n R)(hn:n<=4294967296) :
  Calls Tryz.prog 228 #[.slice A n cap] w λe w'=>e=.returned (.bool (fV R))/\Below w.heap.size w w':=by
 have m:=dH h.len;go_enter Tryz.func228,Tryz.ntmps228
 (go_wp2_with fail);go_loopw [3] (λi wr=>∃j:Nat,(j<n\/j=0)/\i=.int .i64 ((j:Int)+1)/\Hid (fV R=fV (R.drop j))/\Below w.heap.size w wr) (λi _=>n+1-(intOf i).toNat)
 case atStart=>exact⟨0,.inr rfl,rfl,(show _=_ from rfl),Below.refl _ _⟩
 case round =>
  obtain⟨j,hj,rfl,r,hb⟩:=hrel;by_cases s:j+1<n
  ·have k:j+1<R.length:=by rw[m.out];exact s
   obtain⟨q,o,rfl,hrow2,-,-⟩:=y7.get (SlR.below h hb) s k;obtain⟨q',o',t,hrow1,-,-⟩:=y7.get (SlR.below h hb) (oM:j<n) (oM:j<R.length);injection t with t
   injection t with M L
   subst M;subst L;have d:fV R=(decide (yG (R[j]'oM) (R[j+1]'k)<0)&&fV (R.drop (j+1))):=by
    rw[r.out,List.drop_eq_getElem_cons (oM:j<R.length),List.drop_eq_getElem_cons k];rfl
   obtain⟨x,hx⟩:=eX (R[j]'oM)
   obtain⟨y,hy⟩:=eX (R[j+1]'k)
   rw[hx]at hrow1 d;rw[hy]at hrow2 d;clear r hx hy k;have D:((j:Int)+1<n):=oM;have H:IntKind.i64.wrap (j:Int)=j:=IntWalk.i64_in _ oM;have t1:((j:Int)+1).toNat=j+1:=oM;have t2:(0:Int)<=(j:Int)+1:=oM;have t3:(j:Int)<n:=oM;have t4:j<n:=oM;have c2:=border x y wr.drew;by_cases hc:yG x y<0
   ·rw[decide_eq_true hc,Bool.true_and]at d;have G:=dH d;have E:¬(0<=yG x y):=oM;obtain⟨c,f⟩:=eX (yG x y);rw[f]at c2 E;clear f;clear d hc;go_upto_region 4 with fail
    refine lX wr ?_;intro B hS;have b1:=zU hrow1;have b2:=zU hrow2;refine lZ ?_;refine lC (c2) ?_;clear hS;intro w' hS;refine lZ ?_;refine zC ?_;intro hS;have g:Below wr.heap.size wr w':=hS;have F:=yE hb g;clear b1 b2 B hS g c2 H;(go_wp2_with fail);go_roundw
    case rel=>exact⟨j+1,.inl s,by go_num,G,F⟩
    case measure=>exact sZ
   ·rw[decide_eq_false hc,Bool.false_and]at d;have G:=dH d;have E:0<=yG x y:=oM;obtain⟨c,f⟩:=eX (yG x y);rw[f]at c2 E;clear f;clear d hc;go_upto_region 4 with fail
    refine lX wr ?_;intro B hS;have b1:=zU hrow1;have b2:=zU hrow2;refine lZ ?_;refine lC (c2) ?_;clear hS;intro w' hS;refine lZ ?_;refine zC ?_;intro hS;have g:Below wr.heap.size wr w':=hS;have F:=yE hb g;clear b1 b2 B hS g c2 H;(go_wp2_with fail);go_ret;exact⟨yF (by rw[G.out]),F⟩
  ·have I:fV R=true:=by
    rw[r.out];have J:(R.drop j).length<=1:=by rw[List.length_drop,m.out];omega
    generalize R.drop j=Z at J
    match Z,J with
    | [],_=>rfl
    | [_],_=>rfl
   have O:=dH I;have D:decide ((j:Int)+1<n)=false:=sO;have N:decide (j+1<n)=false:=sO;clear I r s hj;(go_wp2_with fail);go_ret;exact⟨yF (by rw[O.out]),hb⟩
theorem blong(x:yH)(w:World):Calls Tryz.prog 227 #[.agg (zH x)] w λe w'=>e=.returned (.bool (decide (16<x.val.size)))/\Below w.heap.size w w':=by
 have hB:Below w.heap.size w (w.alloc (.cells (zH x) 171)):=bA;have a2:(w.alloc (.cells (zH x) 171)).cell? ⟨w.heap.size,32,none⟩=some (.string x.val):=by simp[go_sem]
 go_enter Tryz.func227,Tryz.ntmps227
 go_upto_region 1 with fail
 generalize w.alloc (.cells (zH x) 171)=W at *;(go_wp2_with fail);go_ret;exact⟨yF (decide_eq_decide.2 oM),hB⟩
theorem Z8(w:World)(A:Option Addr)(cap:Nat)(f:Value) :
  Calls Tryz.prog 274 #[.slice A 0 cap,f] w λe w'=>e=.returned (.int .i64 (-1))/\w=w':=by
 go_enter Tryz.func274,Tryz.ntmps274
 (go_wp2_with fail);go_loopw [8] (λi wr=>i=.int .i64 0/\wr=w) (λ_ _=>0)
 case atStart=>exact⟨rfl,rfl⟩
 case round =>
  obtain⟨rfl,rfl⟩:=hrel;(go_wp2_with fail);go_ret;exact⟨rfl,rfl⟩
theorem any_none(w:World)(A:Option Addr)(cap:Nat)(f:Value) :
  Calls Tryz.prog 226 #[.slice A 0 cap,f] w λe w'=>e=.returned (.bool false)/\w=w':=by
 go_enter Tryz.func226,Tryz.ntmps226
 (go_wp2_with fail);refine(Z8 _ A cap f).mono ?_;rintro e w1 ⟨rfl,rfl⟩;(go_wp2_with fail);go_ret;exact⟨rfl,rfl⟩
theorem XI(w:World)(A:Option Addr)(n cap:Nat)(R:List yH)(h:y7 w A n R)(hn:n<=4294967296) :
  Calls Tryz.prog 226 #[.slice A n cap,.func (.func 227) #[] #[]] w λe w'=>e=.returned (.bool (kA R))/\Below w.heap.size w w':=by
 have d:=h.len;by_cases h0:n=0
 ·subst h0;have hR:R = []:=List.eq_nil_of_length_eq_zero d;subst hR;refine(any_none w A cap _).mono ?_;rintro e w' ⟨rfl,rfl⟩;exact⟨rfl,Below.refl _ _⟩
 ·obtain⟨g,o,rfl,hr0,-,-⟩:=y7.get h (oM:0<n) oM;have f:=AnyQ.slices_ContainsFunc Tryz.layContRow 33 V9 zf (λx:yH=>(zH x).toList) sI (λx=>decide (16<x.val.size)) 227 #[]
   (enters_of Tryz.func227 kR rfl) g o n cap R w (λW x hb=>(blong x W).mono λe w' hh=>⟨hh.1,hb.trans (hh.2.mono hb.size)⟩) oM oM (zD hr0) (λj hj i v hv=>by
    obtain⟨g',o',he,hr,-,-⟩:=y7.get h (oM:j<n) hj;injection he with he
    injection he with m k
    subst m;subst k;have hi:i<33:=by
     have:=(List.getElem?_eq_some_iff.1 hv).1;simpa using this
    rw[z8 hr hi,<-hv,getElem!_pos R j hj]
    simp)
  refine f.mono ?_;rintro e w' ⟨rfl,hb⟩;rw[List.take_of_length_le oM];exact⟨rfl,hb⟩
end
theorem jh(A G:List yH):kA (A++G)=(kA A||kA G):=by simp[kA]
theorem Z5{A G:List yH}{j:Nat}(h:j<A.length):gZ (A.drop j) G=(decide (A[j]∈G)||gZ (A.drop (j+1)) G):=by
 rw[List.drop_eq_getElem_cons h];rfl
theorem BK{A:List yH}{j:Nat}(h:j<A.length):kA (A.drop j)=(decide (16<(A[j]).val.size)||kA (A.drop (j+1))):=by
 rw[List.drop_eq_getElem_cons h];rfl
theorem BX(w:World)(A A':Option Addr)(n c n' c':Nat):(Instr.build 60 #[(0,.slice A n c),(1,.slice A' n' c')]).run Tryz.prog w=.ok (.agg #[.slice A n c,.slice A' n' c']) w:=kR
theorem rload_b(w:World)(s:ByteArray)(hs:s.size<=1000000) :
  Calls Tryz.prog 176 #[.string s] w λe w'=>∃P,e=.returned (.tuple #[.pointer P,.int .i64 (gS s.data.toList)])/\(gS s.data.toList=0->∃g A n cap A' n' cap',P=some ⟨g,0,none⟩/\w'.heap[g]?=some (.cells #[.slice A n cap,.slice A' n' cap'] 60 (0,0))/\SlW w' A n cap 33 ((jN s.data.toList).rows.map zH)/\SlW w' A' n' cap' 33 ((qW s.data.toList).rows.map zH)/\∀x,x∈blk A\/x∈blk A'->w.heap.size<=x)/\(gS s.data.toList≠0->P=none)/\Below w.heap.size w w':=by
 obtain⟨l,hl⟩:=eX s.data.toList
 have h7:s=mkB l:=by rw[<-hl];rfl
 have j3:l.length<=1000000:=by rw[<-hl];exact hs
 rw[hl];subst h7;clear hl hs;have h4:Below w.heap.size w (w.alloc (.cells (rrC ⟨mkB l,0⟩) 112)):=bA;have g4:jQ (w.alloc (.cells (rrC ⟨mkB l,0⟩) 112)) w.heap.size l 0:=⟨oM,heap_alloc_new w _⟩
 have c0:=rread _ _ l 0 g4;have e9:qW l=vF (jN l).l (jN l).e:=rfl;have f0:jN l=vF l 0:=rfl;have f2:gS l=if(qW l).e≠0 then(qW l).e
  else if kA (jN l).rows=true\/kA (qW l).rows=true then 3
  else if j4 (qW l).l (qW l).e≠0\/fV (jN l).rows=false\/fV (qW l).rows=false then 4
  else if gZ (jN l).rows (qW l).rows=true then 4 else 0:=rfl
 obtain⟨PG,f8⟩:=eX (qW l)
 obtain⟨PA,e0⟩:=eX (jN l)
 rw[f8,e0]at e9;rw[e0]at f0;rw[f8,e0]at f2 |-;rw[<-f0]at c0;clear e0 f8;obtain⟨A,l1,e1⟩:=PA;obtain⟨G,l2,e2⟩:=PG;dsimp only at *;have e3:=dH f2;have i4:=dH e9;clear f2 e9 f0;go_enter Tryz.func176,Tryz.ntmps176
 (go_wp2_with fail);refine c0.mono ?_;rintro e w1 ⟨Aa,ca,rfl,f,e8,f4,h9,j1⟩;have d9:Below w.heap.size w w1:=h4.trans (f4.below sI sI);obtain⟨g,hg⟩:=eX w.heap.size
 rw[hg]at e8 f4 |-;have Hg:=dH hg;have g8:∀x∈blk Aa,x∉[g]:=λx hx=>(by have:=(f.at_base hx).1;simp at this |-;omega);have c1:=rread w1 g l1 e1 e8;rw[<-i4.out]at c1;dsimp only at c1;clear hg c0 g4 h4 f4;(go_wp2_with fail);refine c1.mono ?_;rintro e w2 ⟨Ag,cg,rfl,k,e7,f3,h8,j0⟩;have g1:=dH (And.intro f.slw.le (And.intro f.slw.nil f.slw.plain));have i6:=dH (show ∀x,x∈blk Aa\/x∈blk Ag->w.heap.size<=x from λx hx=>by
  rcases hx with hx | hx
  ·have h1:=(f.at_base hx).1;simp at h1;omega
  ·have h1:=(k.at_base hx).1;have h2:=d9.size;omega)
 have g0:=dH (And.intro k.slw.le (And.intro k.slw.nil k.slw.plain));have a6:y7 w2 Aa A.length A:=(f.kept f3 g8).slr;have a5:y7 w2 Ag G.length G:=k.slr;have i1:Aa=none->ca=0:=λe=>(f.cap_le.2 e).2;have i0:Ag=none->cg=0:=λe=>(k.cap_le.2 e).2;have f6:Below w.heap.size w w2:=d9.trans (f3.below d9.size (by simp;have:=Hg.out;omega));clear c1 e8 f3 f k g8 d9 h9 h8;obtain⟨d0,d1,_⟩:=vJ e7;by_cases he:e2=0
 ·subst he;have I:=e3.out;rw[if_neg sI]at I;have O:=dH I;clear I e3;have a2:=Own.empty w2 w2.heap.size 218 33 lR;have f9:Below w2.heap.size w2 (w2.alloc (.cells #[] 218)):=bA;have c7:y7 (w2.alloc (.cells #[] 218)) Aa A.length A:=SlR.below a6 f9;have o1:=YP A;have o2:=YP G;go_wp2_with (at_builtin;first
   | (refine yD q5 rfl L rfl b8 i0 o2 oM oM oM ?_;intro A4 c4 w4 Y g6 b4)
   | (refine yD q5 rfl a2 rfl c7 i1 o1 oM oM sI ?_;intro A3 c3 w3 L g7 b5;rw[Nat.zero_add,List.nil_append]at L;have d3:Below w2.heap.size w2 w3:=f9.trans (g7.below sI (by simp[blk]));have b8:y7 w3 Ag G.length G:=SlR.below a5 d3;have e4:=d3.size))
  rw[<-List.map_append]at Y;have d2:Below w2.heap.size w2 w4:=d3.trans (g6.below d3.size (λx hx=>(L.at_base hx).1));have a0:y7 w4 A4 (A.length+G.length) (A++G):=Y.slr;have c6:y7 w4 Aa A.length A:=SlR.below a6 d2;have b7:y7 w4 Ag G.length G:=SlR.below a5 d2;have g3:=e7.below d2;have b2:=yE f6 d2;have d6:(A++G).length=A.length+G.length:=List.length_append;have f1:kA (A++G)=(kA A||kA G):=jh A G;obtain⟨R,hR⟩:=eX (A++G)
  rw[hR]at a0 d6 f1;obtain⟨m,hm⟩:=eX (A.length+G.length)
  rw[hm]at a0 d6 |-;have g2:=dH f1;have h6:=dH d6;have j2:m<=8589934592:=oM;clear Y g6 b4 L g7 b5 a2 f9 c7 a6 a5 e7 f6 d3 b8 d0 d1 o1 o2 hR hm f1 d6 d2 e4;(go_wp2_with fail);obtain⟨wo,rfl⟩:∃wo:World,wo=w4:=⟨_,rfl⟩
  go_loopw [8] (λi wr=>∃j:Nat,j<=m/\i=.int .i64 j/\Hid (kA R=kA (R.drop j))/\Below wo.heap.size wo wr) (λi _=>m-(intOf i).toNat)
  case atStart=>exact⟨0,zL,rfl,(show _=_ from rfl),Below.refl _ _⟩
  case round =>
   obtain⟨j,hj,rfl,d5,M⟩:=hrel;by_cases a3:j<m
   ·have c9:j<R.length:=by rw[h6.out];exact a3
    obtain⟨q,o,rfl,-,-,hv⟩:=y7.get (SlR.below a0 M) a3 c9;have E:kA R=(decide (16<(R[j]'c9).val.size)||kA (R.drop (j+1))):=d5.out.trans (BK c9);obtain⟨x,hx⟩:=eX ((R[j]'c9).val)
    rw[hx]at hv E;clear hx d5 c9;by_cases hc:16<x.size
    ·have H:=O.out;rw[decide_eq_true hc,Bool.true_or]at E;rw[if_pos (by have:=g2.out;rw[E]at this;simpa using this.symm)]at H;have B:=dH H;have i2:(16:Int)<x.size:=oM;clear H E;(go_wp2_with fail);go_ret2;exact⟨none,by rw[B.out];rfl,λh0=>absurd (B.out.symm.trans h0) oM,λ_=>rfl,yE b2 M⟩
    ·rw[decide_eq_false hc,Bool.false_or]at E;have i5:=dH E;have i2:¬(16:Int)<x.size:=oM;clear E;(go_wp2_with fail);go_roundw
     case rel=>exact⟨j+1,oM,by go_num,i5,M⟩
     case measure=>exact sZ
   ·have g5:kA R=false:=by rw[d5.out,List.drop_eq_nil_of_le (by rw[h6.out];omega)];rfl
    have a7:=g2.out;rw[g5]at a7;have H:=O.out;rw[if_neg (by have:=a7.symm;simp at this;simp[this])]at H;have B:=dH H;have X:y7 wr Aa A.length A:=SlR.below c6 M;have V:y7 wr Ag G.length G:=SlR.below b7 M;have c8:=g3.below M;have Z:=yE b2 M;clear g5 a7 H O d5 c6 b7 g3 b2 M a0 g2;have a9:=λw' (h':y7 w' Aa A.length A)=>zj w' Aa A.length ca A h' oM;have J:=λw' (h':y7 w' Ag G.length G)=>zj w' Ag G.length cg G h' oM;by_cases a8:j4 l2 0=0
    ·have d4:=dH a8;cases hrA:fV A with
     | false =>
      have j7:=dH hrA;rw[hrA]at a9;clear J;have d:=B.out;rw[if_pos (by simp[hrA])]at d;have t:=dH d;clear d;(go_wp2_with fail);refine(tB _ g l2 0 c8).mono ?_;rintro e w5 ⟨rfl,D⟩;rw[d4.out];have y:y7 w5 Aa A.length A:=SlR.below X D;have N:y7 w5 Ag G.length G:=SlR.below V D;have a4:=yE Z D;(go_wp2_with fail);refine(a9 _ y).mono ?_;rintro e w6 ⟨rfl,a1⟩;(go_wp2_with fail);go_ret2;exact⟨none,by rw[t.out];rfl,λh0=>absurd (t.out.symm.trans h0) oM,λ_=>rfl,yE a4 a1⟩
     | true =>
      rw[hrA]at a9;cases hrG:fV G with
      | false =>
       rw[hrG]at J;have d:=B.out;rw[if_pos (by simp[hrG])]at d;have t:=dH d;clear d;(go_wp2_with fail);refine(tB _ g l2 0 c8).mono ?_;rintro e w5 ⟨rfl,D⟩;rw[d4.out];have y:y7 w5 Aa A.length A:=SlR.below X D;have N:y7 w5 Ag G.length G:=SlR.below V D;have a4:=yE Z D;(go_wp2_with fail);refine(a9 _ y).mono ?_;rintro e w6 ⟨rfl,a1⟩;have T:y7 w6 Ag G.length G:=SlR.below N a1;(go_wp2_with fail);refine(J _ T).mono ?_;rintro e w7 ⟨rfl,b3⟩;(go_wp2_with fail);go_ret2;exact⟨none,by rw[t.out];rfl,λh0=>absurd (t.out.symm.trans h0) oM,λ_=>rfl,yE (yE a4 a1) b3⟩
      | true =>
       rw[hrG]at J;have d:=B.out;rw[if_neg (by simp[hrA,hrG,a8])]at d;have t:=dH d;clear d B a8 hrA hrG;(go_wp2_with fail);refine(tB _ g l2 0 c8).mono ?_;rintro e w5 ⟨rfl,D⟩;rw[d4.out];have y:y7 w5 Aa A.length A:=SlR.below X D;have N:y7 w5 Ag G.length G:=SlR.below V D;have a4:=yE Z D;clear X V Z D c8;(go_wp2_with fail);refine(a9 _ y).mono ?_;rintro e w6 ⟨rfl,a1⟩;have c5:y7 w6 Aa A.length A:=SlR.below y a1;have T:y7 w6 Ag G.length G:=SlR.below N a1;(go_wp2_with fail);refine(J _ T).mono ?_;rintro e w7 ⟨rfl,b3⟩;have e6:y7 w7 Aa A.length A:=SlR.below c5 b3;have e5:y7 w7 Ag G.length G:=SlR.below T b3;have h3:=yE (yE a4 a1) b3;clear y N c5 T a4 a1 b3 a9 J;(go_wp2_with fail);obtain⟨wp,rfl⟩:∃wp:World,wp=w7:=⟨_,rfl⟩
       go_loopw [9] (λi wr=>∃j:Nat,j<=A.length/\i=.int .i64 j/\Hid (gZ A G=gZ (A.drop j) G)/\Below wp.heap.size wp wr) (λi _=>A.length-(intOf i).toNat)
       case atStart=>exact⟨0,zL,rfl,(show _=_ from rfl),Below.refl _ _⟩
       case round =>
        obtain⟨j,hj,rfl,d8,M⟩:=hrel;have b9:y7 wr Aa A.length A:=SlR.below e6 M;have b6:y7 wr Ag G.length G:=SlR.below e5 M;by_cases a3:j<A.length
        ·obtain⟨q,o,rfl,hrow,-,-⟩:=y7.get b9 a3 a3;have r:gZ A G=(decide (A[j]'a3∈G)||gZ (A.drop (j+1)) G):=d8.out.trans (Z5 a3);obtain⟨x,hx⟩:=eX (A[j]'a3)
         rw[hx]at hrow r;clear hx d8;have c2:=rin wr Ag G.length cg G x b6 oM;by_cases d7:x∈G
         ·rw[decide_eq_true d7]at c2 r;have F:=t.out;rw[if_pos (by rw[r];rfl)]at F;have U:=dH F;clear F r d7;(go_wp2_with fail);refine c2.mono ?_;rintro e w8 ⟨rfl,b0⟩;(go_wp2_with fail);go_ret2;exact⟨none,by rw[U.out];rfl,λh0=>absurd (U.out.symm.trans h0) oM,λ_=>rfl,yE (yE h3 M) b0⟩
         ·rw[decide_eq_false d7]at c2 r;rw[Bool.false_or]at r;have i7:=dH r;clear r d7;(go_wp2_with fail);refine c2.mono ?_;rintro e w8 ⟨rfl,b0⟩;have f7:=yE M b0;clear c2;(go_wp2_with fail);go_roundw
          case rel=>exact⟨j+1,oM,by go_num,i7,f7⟩
          case measure=>exact sZ
        ·have r:gZ A G=false:=by rw[d8.out,List.drop_eq_nil_of_le oM];rfl
         have F:=t.out;rw[if_neg (by rw[r];simp)]at F;have U:=dH F;clear F r d8;have i3:=BX wr Aa Ag A.length ca G.length cg;have f5:Below wr.heap.size wr (wr.alloc (.cells #[.slice Aa A.length ca,.slice Ag G.length cg] 60)):=bA;have h5:(wr.alloc (.cells #[.slice Aa A.length ca,.slice Ag G.length cg] 60)).heap[wr.heap.size]?=some (.cells #[.slice Aa A.length ca,.slice Ag G.length cg] 60 (0,0))/\SlW (wr.alloc (.cells #[.slice Aa A.length ca,.slice Ag G.length cg] 60)) Aa A.length ca 33 (A.map zH)/\SlW (wr.alloc (.cells #[.slice Aa A.length ca,.slice Ag G.length cg] 60)) Ag G.length cg 33 (G.map zH)/\(∀x,x∈blk Aa\/x∈blk Ag->w.heap.size<=x):=⟨heap_alloc_new wr _,⟨SlR.below b9 f5,g1.out.1,g1.out.2.1,g1.out.2.2⟩,⟨SlR.below b6 f5,g0.out.1,g0.out.2.1,g0.out.2.2⟩,i6.out⟩
         have i8:=dH h5;clear h5;(go_wp2_with fail);go_ret2;exact⟨_,by rw[U.out];rfl,λ_=>⟨_,_,_,_,_,_,_,rfl,i8.out⟩,λh0=>absurd U.out h0,yE (yE h3 M) f5⟩
    ·have g9:j4 l2 0=4:=by
      unfold j4 at a8 |-;rw[if_pos rfl]at a8 |-;split
      ·rename_i h;rw[if_pos h]at a8;exact absurd rfl a8
      ·rfl
     have d4:=dH g9;clear a9 J;have d:=B.out;rw[if_pos (by simp[g9])]at d;have t:=dH d;clear d;(go_wp2_with fail);refine(tB _ g l2 0 c8).mono ?_;rintro e w5 ⟨rfl,D⟩;rw[d4.out];have y:y7 w5 Aa A.length A:=SlR.below X D;have N:y7 w5 Ag G.length G:=SlR.below V D;have a4:=yE Z D;(go_wp2_with fail);skip;go_ret2;exact⟨none,by rw[t.out];rfl,λh0=>absurd (t.out.symm.trans h0) oM,λ_=>rfl,a4⟩
 ·have j6:(e2==0)=false:=by simpa using he
  have j5:(e2 != 0)=true:=by simpa using he
  have I:=e3.out;rw[if_pos he]at I;have O:=dH I;have He:=dH he;clear I e3 he;go_upto_region 5 with fail
  refine lX w2 ?_;intro i9 hS;have b1:=zJ d1;refine lZ ?_;refine zC ?_;intro hS;(go_wp2_with fail);go_ret2;exact⟨none,by rw[O.out];rfl,λh0=>absurd (O.out.symm.trans h0) He.out,λ_=>rfl,f6.drew⟩
end Go.Proofs.YtgfpjjppeldhbaaGreatDoor
