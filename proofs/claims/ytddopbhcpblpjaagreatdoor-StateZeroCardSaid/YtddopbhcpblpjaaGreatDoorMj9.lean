/- Part 9 of the texts that lead to this claim: the walks of the functions and the plain law, in order. -/
import Derived.Test.YtddopbhcpblpjaaGreatDoorMj8
namespace Go.Proofs.YtddopbhcpblpjaaGreatDoor
open Go.RowKit
open List hiding and get max min or set
open Go.Proofs.Tryz
open World
set_option maxRecDepth 100000
set_option maxHeartbeats 8000000
variable {G L R:List xB}{w:World}{X:List (zA×fG)}{es:Array MapEntry}{BM:List (zA×Sl)}{bg g:Nat}{v:ByteArray}
section
structure mW(w:World)(M:List Nat)(g bn bb bg j:Nat):Prop where
 blk:w.heap[g]?=some (.cells #[.map (some bn),.map (some bb),.map (some bg)] 197 (0,0))
 nodes:∃X es clk,yK w bn idV iP vL X es clk
 behind:∃BM es clk,yK w bb idV slV vL BM es clk/\∀p∈BM,(∃R:List zA,SlW w p.2.A p.2.n p.2.c 32 (R.map idC))/\p.2.n<=j/\∀x∈Go.Proofs.YtddopbhcpblpjaaGreatDoor.blk p.2.A,x∉M/\x<w.heap.size
 inM:bn∈M/\bb∈M
 ne:bn≠bb
section
variable {w w':World} {M:List Nat} {g bn bb bg j:Nat}
theorem mW.cell0(h:mW w M g bn bb bg j):w.cell? ⟨g,0,none⟩=some (.map (some bn)):=by rw[cell_of_row w g 0 _ _ _ h.blk];rfl
theorem mW.cell1(h:mW w M g bn bb bg j):w.cell? ⟨g,1,none⟩=some (.map (some bb)):=by rw[cell_of_row w g 1 _ _ _ h.blk];rfl
theorem mW.ltg(h:mW w M g bn bb bg j):g<w.heap.size:=(aG h.blk).1
theorem mW.neg(h:mW w M g bn bb bg j):g≠bn/\g≠bb:=by
 obtain⟨X,es,k,hn⟩:=h.nodes;obtain⟨BM,f,d,hb,_⟩:=h.behind;exact⟨eN hn h.blk,eN hb h.blk⟩
theorem mW.below(h:mW w M g bn bb bg j)(hb:Below w.heap.size w w'):mW w' M g bn bb bg j:=by
 obtain⟨X,es,s,hn⟩:=h.nodes;obtain⟨BM,r,d,m,f⟩:=h.behind;have k:=z8.of_below hb;refine⟨(k.block g h.ltg sI).trans h.blk,⟨X,es,s,hn.kept k sI⟩,⟨BM,r,d,m.kept k sI,λp hp=>?_⟩,h.inM,h.ne⟩;obtain⟨⟨R,s1⟩,s2,s3⟩:=f p hp;exact⟨⟨R,s1.below hb⟩,s2,λx hx=>⟨(s3 x hx).1,Nat.lt_of_lt_of_le (s3 x hx).2 hb.size⟩⟩
theorem xE.loose{N:List zS}{G:List zA}(h:xE w M g bn bb bg N G):mW w M g bn bb bg N.length:=by
 obtain⟨es,k,hn⟩:=h.nodes;obtain⟨BM,j,d,hb,f,_⟩:=h.behind;refine⟨h.blk,⟨_,es,k,hn⟩,⟨BM,j,d,hb,λp hp=>?_⟩,⟨h.inM.1,h.inM.2.1⟩,h.ne.1⟩;obtain⟨s1,s2⟩:=f p hp;refine⟨⟨_,s1⟩,?_,s2⟩;have h1:=s1.len;have h2:=p8 N p.1;simp only[length_map]at h1;omega
end
theorem nlookH{bn:Nat}{d:Nat}(y:zA)(hn:yK w bn idV iP vL X es d) :
  ∃s:fG,∀w',yK w' bn idV iP vL X es d->(Instr.lookup 195 (.map (some bn)) (.agg (idC y)) false).run prog w'=.ok (.agg (zO s)) w':=by
 by_cases h:y∈X.map (·.1)
 ·obtain⟨p,hp,rfl⟩:=mem_map.1 h;exact⟨p.2,λw' hm=>hm.hit j7 underlying195 trivial hp false⟩
 ·exact⟨qU,λw' hm=>hm.miss j7 underlying195 (rG w') trivial h false⟩
theorem blookH{M:List Nat}{bb j:Nat}{d:Nat}(hb:yK w bb idV slV vL BM es d)
  (f:∀p∈BM,(∃R:List zA,SlW w p.2.A p.2.n p.2.c 32 (R.map idC))/\p.2.n<=j/\∀x∈blk p.2.A,x∉M/\x<w.heap.size)(r:zA) :
  ∃(s:Sl) (R:List zA),SlW w s.A s.n s.c 32 (R.map idC)/\s.n<=j/\(∀x∈blk s.A,x∉M/\x<w.heap.size) /\
   ∀w',yK w' bb idV slV vL BM es d->(Instr.lookup 93 (.map (some bb)) (.agg (idC r)) false).run prog w'=.ok (.slice s.A s.n s.c) w':=by
 by_cases h:r∈BM.map (·.1)
 ·obtain⟨p,hp,rfl⟩:=mem_map.1 h;obtain⟨⟨R,s1⟩,s2,s3⟩:=f p hp;exact⟨p.2,R,s1,s2,s3,λw' hm=>hm.hit j7 underlying93 trivial hp false⟩
 ·exact⟨⟨none,0,0⟩,[],SlW.none_,zL,by simp[blk],λw' hm=>hm.miss j7 underlying93 (pT w') trivial h false⟩
theorem sqhangH(n:zS)(w:World)(M:List Nat)(g bn bb bg j0:Nat)(h:mW w M g bn bb bg j0)(hM:∀x∈M,x<w.heap.size)(hl:j0<=100000) :
  Calls prog 214 #[.pointer (some ⟨g,0,none⟩),.agg (idC n.id),.agg (zO (xH n))] w λe w'=>e=.returned (.tuple #[])/\mW w' M g bn bb bg (j0+1)/\z8 [bn,bb] w w':=by
 have hB:Below w.heap.size w ((w.alloc (.cells (idC n.id) 23)).alloc (.cells (zO (xH n)) 199)):=(bA).alloc sI _;have h1:=h.below hB;have e1:z9 ((w.alloc (.cells (idC n.id) 23)).alloc (.cells (zO (xH n)) 199)) w.heap.size 0 32=some (idC n.id):=by simp[go_sem]
 have c7:z9 ((w.alloc (.cells (idC n.id) 23)).alloc (.cells (zO (xH n)) 199)) (w.heap.size+1) 0 34=some (zO (xH n)):=by simp[go_sem]
 have f0:bn<w.heap.size/\bb<w.heap.size:=⟨hM _ h.inM.1,hM _ h.inM.2⟩
 have h8:=h.ltg;go_enter func214,ntmps214
 go_upto_region 1 with fail
 obtain⟨ga,f4⟩:=eX w.heap.size
 have h3:=dH f4;rw[f4]at e1 c7 hB f0 h8 hM |-;obtain⟨W,hW⟩:=eR ((w.alloc (.cells (idC n.id) 23)).alloc (.cells (zO (xH n)) 199))
 rw[<-hW]at h1 e1 c7 hB |-;clear hW f4;have e6:z9 W (ga+1) 1 32=some (idC n.ref):=by have:=yD c7 (j:=1) (m:=32) oM;rw[dR]at this;simpa[xH]using this
 have g6:W.cell? ⟨ga+1,0,none⟩=some (.int .i64 n.h):=by have:=zB c7 (j:=0) oM;rw[iK]at this;simpa[xH]using this
 obtain⟨X0,es,i5,hn⟩:=h1.nodes;obtain⟨BM,i4,i2,hb,g3⟩:=h1.behind;obtain⟨⟨A,sn,sc⟩,R,e3,h5,g4,a2⟩:=blookH hb g3 n.ref;dsimp only at e3 g4 a2 h5;have b5:=h1.cell1;have hk:∀x:Subtype (Bel W),(Instr.lookup 93 (.map (some bb)) (.agg (idC n.ref)) false).run prog x.1=.ok (.slice A sn sc) x.1:=λx=>a2 x.1 (hb.kept (z8.of_below x.2) sI);refine lX W ?_;intro I hS;have b1:=zJ b5;have b2:=zV e6;refine lZ ?_;refine zC ?_;intro hS;have f7:Below ga w W.drew:=hB.drew;have h2:mW W.drew M g bn bb bg j0:=h1.below (qC W);have e7:=hn.kept (z8.drew W) sI;have O:=e3.below (qC W);have H:z9 W.drew ga 0 32=some (idC n.id):=e1;have N:z9 W.drew (ga+1) 0 34=some (zO (xH n)):=c7;have e5:z9 W.drew (ga+1) 1 32=some (idC n.ref):=e6;have d8:W.drew.cell? ⟨ga+1,0,none⟩=some (.int .i64 n.h):=g6;clear b1 b2 I hS hk a2 b5 hb g3 hn e3 e1 c7 e6 g6 h1 hB;have d5:R.length=sn:=by have:=O.len;simpa using this
 have g2:=dH d5;have h4:sn<=100000:=oM;clear d5;obtain⟨W1,g8⟩:=eX W.drew
 rw[g8]at f7 h2 e7 O H N e5 d8 |-;clear g8 g4;(go_wp2_with fail);go_loopw [7] (λj wj=>∃m:Nat,m<=sn/\j=.int .i64 m/\Below W1.heap.size W1 wj) (λj _=>sn-(intOf j).toNat)
 case atStart=>exact⟨0,zL,rfl,Below.refl _ _⟩
 case round =>
  obtain⟨m,c8,rfl,b0⟩:=hrel;have a7:z9 wr ga 0 32=some (idC n.id):=(zG (b0.block ga (zD H)) _ _).trans H;have c0:wr.cell? ⟨ga+1,0,none⟩=some (.int .i64 n.h):=(b0.cell (p:=⟨ga+1,0,none⟩) (zD N)).trans d8;have b7:=h2.below b0;have b6:=O.below b0;by_cases a8:m<sn
  ·obtain⟨q,o,rfl,e2⟩:=b6.rd.at_ a8;rw[getElem_map]at e2;obtain⟨y,hy⟩:=eX (R[m]'(by rw[g2.out];exact a8))
   rw[hy]at e2;obtain⟨⟨yh,yr,yv⟩,g5⟩:=nlookH y e7;have h7:∀x:Subtype (Bel wr),(Instr.lookup 195 (.map (some bn)) (.agg (idC y)) false).run prog x.1=.ok (.agg (zO ⟨yh,yr,yv⟩)) x.1:=λx=>g5 _ ((e7.kept (z8.of_below b0) sI).kept (z8.of_below x.2) sI);have g7:=b7.cell0;have c2:=BU n.h n.id yh y wr.drew;obtain⟨c,hc⟩:=eX (bC n.h n.id yh y)
   rw[hc]at c2;clear hc hy g5;go_upto_region 3 with fail
   refine lX wr ?_;intro I hS;have b1:=zV a7;have b2:=zV e2;have b3:=zJ c0;have b4:=zJ g7;refine lZ ?_;refine lC (c2) ?_;clear hS;intro w' hS;refine lZ ?_;refine zC ?_;intro hS;have g9:Below wr.heap.size wr w':=hS;have J:=yM b0 g9;clear b1 b2 b3 b4 I hS c2 h7 g7;cases c with
   | true =>
    (go_wp2_with fail);go_roundw
    case rel=>exact⟨m+1,oM,by go_num,J⟩
    case measure=>exact sZ
   | false =>
    have d:=h2.below J;have f:=O.below J;have E:z9 w' ga 0 32=some (idC n.id):=(zG (J.block ga (zD H)) _ _).trans H;have D:z9 w' (ga+1) 0 34=some (zO (xH n)):=(zG (J.block (ga+1) (zD N)) _ _).trans N;have c9:Below ga w w':=f7.trans (J.mono (oH (zD H)));have d0:=J.size;clear e2 a7 c0 b7 b6 b0 J g9;obtain⟨V,rfl⟩:∃V,V=w':=⟨w',rfl⟩
    obtain⟨A,h0⟩:=eX (some ⟨q,o,none⟩:Option Addr)
    rw[h0]at f |-;clear h0;have U:z9 V (ga+1) 1 32=some (idC n.ref):=by have:=yD D (j:=1) (m:=32) oM;rw[dR]at this;simpa[xH]using this
    have b5:=d.cell1;have e9:m<=sc:=Nat.le_trans c8 f.le;have e8:∀w0:World,(slS 33 (.slice A sn sc) none (some (.int .i64 m)) (some (.int .i64 m))).run prog w0=.ok (.slice A m m) w0:=λw0=>wY yO w0 A sn sc m e9;obtain⟨Ah,ch,f2,d7,f3⟩:=f.hi (P:=prog) yO (m:=m) c8;have a4:g∉[bb]:=by simpa using d.neg.2
    go_upto_region 5 with fail
    refine kX [bb] V ?_;intro I hS;have b1:=zF b5 a4;have b2:=zY E (S:=[bb]) sO;have b3:=zY U (S:=[bb]) sO;refine lQ ?_;intro K hK;refine zH (bP hS _) (λhS=>?_);refine hK _ _ ?_;clear hK K;refine lQ ?_;intro K hK;refine zH (bP hS _) (λhS=>?_);refine hK _ _ ?_;clear hK K;have a6:Below V.heap.size V ((V.alloc (.cells (idC n.id) 23)).alloc (.cells #[.slice A m m,.slice (some ⟨V.heap.size,0,none⟩) 1 1,.slice Ah (sn-m) ch] 33)).drew:=((bA).alloc sI _).drew;have t1:zW ((V.alloc (.cells (idC n.id) 23)).alloc (.cells #[.slice A m m,.slice (some ⟨V.heap.size,0,none⟩) 1 1,.slice Ah (sn-m) ch] 33)).drew A m (R.take m):=by
     have:=(f.rd.below a6).take_ c8
     rwa [<-map_take]at this
    have t3:zW ((V.alloc (.cells (idC n.id) 23)).alloc (.cells #[.slice A m m,.slice (some ⟨V.heap.size,0,none⟩) 1 1,.slice Ah (sn-m) ch] 33)).drew Ah (sn-m) (R.drop m):=by
     have:=d7 _ (f.rd.below a6)
     rwa [<-map_drop]at this
    have t2:zW ((V.alloc (.cells (idC n.id) 23)).alloc (.cells #[.slice A m m,.slice (some ⟨V.heap.size,0,none⟩) 1 1,.slice Ah (sn-m) ch] 33)).drew (some ⟨V.heap.size,0,none⟩) 1 [n.id]:=⟨rfl,λ_=>⟨V.heap.size,0,rfl,λi hi=>by
     have:i=0:=by simpa using hi
     subst this;simp[go_sem]⟩⟩
    have k0:((V.alloc (.cells (idC n.id) 23)).alloc (.cells #[.slice A m m,.slice (some ⟨V.heap.size,0,none⟩) 1 1,.slice Ah (sn-m) ch] 33)).drew.cell? ⟨V.heap.size+1,0,none⟩=some (.slice A m m):=by simp[go_sem]
    have k1:((V.alloc (.cells (idC n.id) 23)).alloc (.cells #[.slice A m m,.slice (some ⟨V.heap.size,0,none⟩) 1 1,.slice Ah (sn-m) ch] 33)).drew.cell? ⟨V.heap.size+1,1,none⟩=some (.slice (some ⟨V.heap.size,0,none⟩) 1 1):=by simp[go_sem]
    have k2:((V.alloc (.cells (idC n.id) 23)).alloc (.cells #[.slice A m m,.slice (some ⟨V.heap.size,0,none⟩) 1 1,.slice Ah (sn-m) ch] 33)).drew.cell? ⟨V.heap.size+1,2,none⟩=some (.slice Ah (sn-m) ch):=by simp[go_sem]
    have f6:((V.alloc (.cells (idC n.id) 23)).alloc (.cells #[.slice A m m,.slice (some ⟨V.heap.size,0,none⟩) 1 1,.slice Ah (sn-m) ch] 33)).drew.heap.size=V.heap.size+2:=by simp[World.drew]
    have h6:=c9.size;have b8:=zD E;obtain⟨X,hX⟩:=eX (((V.alloc (.cells (idC n.id) 23)).alloc (.cells #[.slice A m m,.slice (some ⟨V.heap.size,0,none⟩) 1 1,.slice Ah (sn-m) ch] 33)).drew)
    rw[hX]at a6 t1 t2 t3 k0 k1 k2 f6 hS |-;clear hX;have cc:=YH X (V.heap.size+1) 3 A (some ⟨V.heap.size,0,none⟩) Ah m 1 (sn-m) m 1 ch _ _ _ t1 t2 t3 (λe=>oH (f.nil e)) (λe=>by cases e) f3 k0 k1 k2 oM oM;refine lQ ?_;intro K hK;refine cc.mono ?_;rintro e wC ⟨A5,L,rfl,F,c4⟩;replace hS:=bM hS c4;refine⟨_,rfl,hS,hK _ _ ?_⟩;clear hK K cc k0 k1 k2 t1 t2 t3;have h9:z8 [bb] V wC:=hS;obtain⟨i3,i1,g1,f5,Z⟩:=d.behind;have e0:=yM a6 c4;have d9:=f5.kept (z8.of_below e0) sI;have Y:=F.slw;have t:∀x∈blk A5,x∉M/\x<wC.heap.size:=λx hx=>by
     obtain⟨h1,h2⟩:=F.at_base hx;exact⟨λhm=>oH (hM x hm),h2⟩
    obtain⟨wD,f9,c6,r,d4,a9⟩:=d9.update (P:=prog) (v:=(⟨A5,m+1+(sn-m),L⟩:Sl)) j7 underlying93 (k:=n.ref) trivial;change (Instr.mapUpdate 93 (.map (some bb)) (.agg (idC n.ref)) (.slice A5 (m+1+(sn-m)) L)).run prog wC=.ok () wD at r;refine lH ?_;intro K hK;refine zH (yA hS a9 sI) (λhS=>?_);refine hK _ _ ?_;clear hK K;refine zC ?_;intro hS;have B:z8 [bb] V wD:=hS;have s:=(B.block g d.ltg a4).trans d.blk;have c1:bn∉[bb]:=by simpa using d.ne
    obtain⟨XN,i0,g0,d1⟩:=d.nodes;have d2:=d1.kept B c1;have T:SlW wD A5 (m+1+(sn-m)) L 32 ((R.take m ++ [n.id]++R.drop m).map idC):=Y.kept a9 (λx hx hm=>by
     have e:x=bb:=by simpa using hm
     subst e;exact(t _ hx).1 d.inM.2)
    have a1:z9 wD ga 0 32=some (idC n.id):=(B.row b8 sO _ _).trans E;have a0:z9 wD (ga+1) 0 34=some (zO (xH n)):=(B.row (zD D) sO _ _).trans D;have a5:wD.cell? ⟨g,0,none⟩=some (.map (some bn)):=by rw[cell_of_row wD g 0 _ _ _ s];rfl
    have e4:=B.size;clear b1 b2 b3 I hS r d9 d1 Y c4 a6 e0 e8 f2 d7 U b5;go_upto_region 6 with fail
    obtain⟨wE,f8,c5,r,d3,d6⟩:=(d2.kept (z8.drew wD) sI).update (P:=prog) (v:=xH n) j7 underlying195 (k:=n.id) trivial;change (Instr.mapUpdate 195 (.map (some bn)) (.agg (idC n.id)) (.agg (zO (xH n)))).run prog wD.drew=.ok () wE at r;have a3:g∉[bn]:=by simpa using d.neg.1
    refine kX [bn] wD ?_;intro I hS;have b1:=zF a5 a3;have b2:=zY a1 (S:=[bn]) sO;have b3:=zY a0 (S:=[bn]) sO;refine lQ ?_;intro K hK;refine zH (yA hS d6 sI) (λhS=>?_);refine hK _ _ ?_;clear hK K;refine zC ?_;intro hS;have G:z8 [bn] wD wE:=hS;have c3:bb∉[bn]:=by simpa using λe=>d.ne e.symm
    have b9:mW wE M g bn bb bg (j0+1):=by
     refine⟨(G.block g (oH d.ltg) a3).trans s,⟨_,f8,c5,d3⟩,⟨_,f9,c6,d4.kept G c3,λp hp=>?_⟩,d.inM,d.ne⟩;rcases eM hp with e | ⟨hp,I⟩
     ·subst e;dsimp only;exact⟨⟨_,T.kept G (λx hx hm=>by
       have e:x=bn:=by simpa using hm
       subst e;exact(t _ hx).1 d.inM.1)⟩,oM,λx hx=>⟨(t x hx).1,Nat.lt_of_lt_of_le (t x hx).2 (Nat.le_trans a9.size G.size)⟩⟩
     ·obtain⟨⟨R',s1⟩,s2,s3⟩:=Z p hp;refine⟨⟨R',(s1.kept B (λx hx hm=>?_)).kept G (λx hx hm=>?_)⟩,oM,λx hx=>⟨(s3 x hx).1,Nat.lt_of_lt_of_le (s3 x hx).2 (Nat.le_trans B.size G.size)⟩⟩
      ·have e:x=bb:=by simpa using hm
       subst e;exact(s3 _ hx).1 d.inM.2
      ·have e:x=bn:=by simpa using hm
       subst e;exact(s3 _ hx).1 d.inM.1
    have f1:z8 [bn,bb] w wE:=z8.trans (z8.trans ((z8.of_below (c9.mono (by rw[h3.out];exact lR))).mono (S':=[bn,bb]) sI) (B.mono (S':=[bn,bb]) sI) iL) (G.mono (S':=[bn,bb]) sI) iL;clear b1 b2 b3 I hS d6 a9 r d3 d4 d2 T a1 a0 a5 s Z G B d;(go_wp2_with fail);go_end0;exact⟨rfl,b9,f1⟩
  ·have hd:decide (m<sn)=false:=by simpa using a8
   go_upto_region 3 with fail
   refine lX wr ?_;intro I hS;refine lQ ?_;intro K hK;refine hK _ _ ?_;clear hK K;refine lZ ?_;refine zC ?_;intro hS;have J:=b0.drew;have d:=h2.below J;have f:=O.below J;have E:z9 wr.drew ga 0 32=some (idC n.id):=a7;have D:z9 wr.drew (ga+1) 0 34=some (zO (xH n)):=(zG (J.block (ga+1) (zD N)) _ _).trans N;have c9:Below ga w wr.drew:=f7.trans (J.mono (oH (zD H)));have d0:=J.size;clear I hS J b0 a8 hd b7 b6 c0 a7;obtain⟨V,hV⟩:=eX wr.drew
   rw[hV]at d f E D c9 d0 |-;clear hV;have U:z9 V (ga+1) 1 32=some (idC n.ref):=by have:=yD D (j:=1) (m:=32) oM;rw[dR]at this;simpa[xH]using this
   have b5:=d.cell1;have e9:m<=sc:=Nat.le_trans c8 f.le;have e8:∀w0:World,(slS 33 (.slice A sn sc) none (some (.int .i64 m)) (some (.int .i64 m))).run prog w0=.ok (.slice A m m) w0:=λw0=>wY yO w0 A sn sc m e9;obtain⟨Ah,ch,f2,d7,f3⟩:=f.hi (P:=prog) yO (m:=m) c8;have a4:g∉[bb]:=by simpa using d.neg.2
   go_upto_region 5 with fail
   refine kX [bb] V ?_;intro I hS;have b1:=zF b5 a4;have b2:=zY E (S:=[bb]) sO;have b3:=zY U (S:=[bb]) sO;refine lQ ?_;intro K hK;refine zH (bP hS _) (λhS=>?_);refine hK _ _ ?_;clear hK K;refine lQ ?_;intro K hK;refine zH (bP hS _) (λhS=>?_);refine hK _ _ ?_;clear hK K;have a6:Below V.heap.size V ((V.alloc (.cells (idC n.id) 23)).alloc (.cells #[.slice A m m,.slice (some ⟨V.heap.size,0,none⟩) 1 1,.slice Ah (sn-m) ch] 33)).drew:=((bA).alloc sI _).drew;have t1:zW ((V.alloc (.cells (idC n.id) 23)).alloc (.cells #[.slice A m m,.slice (some ⟨V.heap.size,0,none⟩) 1 1,.slice Ah (sn-m) ch] 33)).drew A m (R.take m):=by
    have:=(f.rd.below a6).take_ c8
    rwa [<-map_take]at this
   have t3:zW ((V.alloc (.cells (idC n.id) 23)).alloc (.cells #[.slice A m m,.slice (some ⟨V.heap.size,0,none⟩) 1 1,.slice Ah (sn-m) ch] 33)).drew Ah (sn-m) (R.drop m):=by
    have:=d7 _ (f.rd.below a6)
    rwa [<-map_drop]at this
   have t2:zW ((V.alloc (.cells (idC n.id) 23)).alloc (.cells #[.slice A m m,.slice (some ⟨V.heap.size,0,none⟩) 1 1,.slice Ah (sn-m) ch] 33)).drew (some ⟨V.heap.size,0,none⟩) 1 [n.id]:=⟨rfl,λ_=>⟨V.heap.size,0,rfl,λi hi=>by
    have:i=0:=by simpa using hi
    subst this;simp[go_sem]⟩⟩
   have k0:((V.alloc (.cells (idC n.id) 23)).alloc (.cells #[.slice A m m,.slice (some ⟨V.heap.size,0,none⟩) 1 1,.slice Ah (sn-m) ch] 33)).drew.cell? ⟨V.heap.size+1,0,none⟩=some (.slice A m m):=by simp[go_sem]
   have k1:((V.alloc (.cells (idC n.id) 23)).alloc (.cells #[.slice A m m,.slice (some ⟨V.heap.size,0,none⟩) 1 1,.slice Ah (sn-m) ch] 33)).drew.cell? ⟨V.heap.size+1,1,none⟩=some (.slice (some ⟨V.heap.size,0,none⟩) 1 1):=by simp[go_sem]
   have k2:((V.alloc (.cells (idC n.id) 23)).alloc (.cells #[.slice A m m,.slice (some ⟨V.heap.size,0,none⟩) 1 1,.slice Ah (sn-m) ch] 33)).drew.cell? ⟨V.heap.size+1,2,none⟩=some (.slice Ah (sn-m) ch):=by simp[go_sem]
   have f6:((V.alloc (.cells (idC n.id) 23)).alloc (.cells #[.slice A m m,.slice (some ⟨V.heap.size,0,none⟩) 1 1,.slice Ah (sn-m) ch] 33)).drew.heap.size=V.heap.size+2:=by simp[World.drew]
   have h6:=c9.size;have b8:=zD E;obtain⟨X,hX⟩:=eX (((V.alloc (.cells (idC n.id) 23)).alloc (.cells #[.slice A m m,.slice (some ⟨V.heap.size,0,none⟩) 1 1,.slice Ah (sn-m) ch] 33)).drew)
   rw[hX]at a6 t1 t2 t3 k0 k1 k2 f6 hS |-;clear hX;have cc:=YH X (V.heap.size+1) 3 A (some ⟨V.heap.size,0,none⟩) Ah m 1 (sn-m) m 1 ch _ _ _ t1 t2 t3 (λe=>oH (f.nil e)) (λe=>by cases e) f3 k0 k1 k2 oM oM;refine lQ ?_;intro K hK;refine cc.mono ?_;rintro e wC ⟨A5,L,rfl,F,c4⟩;replace hS:=bM hS c4;refine⟨_,rfl,hS,hK _ _ ?_⟩;clear hK K cc k0 k1 k2 t1 t2 t3;have h9:z8 [bb] V wC:=hS;obtain⟨i3,i1,g1,f5,Z⟩:=d.behind;have e0:=yM a6 c4;have d9:=f5.kept (z8.of_below e0) sI;have Y:=F.slw;have t:∀x∈blk A5,x∉M/\x<wC.heap.size:=λx hx=>by
    obtain⟨h1,h2⟩:=F.at_base hx;exact⟨λhm=>oH (hM x hm),h2⟩
   obtain⟨wD,f9,c6,r,d4,a9⟩:=d9.update (P:=prog) (v:=(⟨A5,m+1+(sn-m),L⟩:Sl)) j7 underlying93 (k:=n.ref) trivial;change (Instr.mapUpdate 93 (.map (some bb)) (.agg (idC n.ref)) (.slice A5 (m+1+(sn-m)) L)).run prog wC=.ok () wD at r;refine lH ?_;intro K hK;refine zH (yA hS a9 sI) (λhS=>?_);refine hK _ _ ?_;clear hK K;refine zC ?_;intro hS;have B:z8 [bb] V wD:=hS;have s:=(B.block g d.ltg a4).trans d.blk;have c1:bn∉[bb]:=by simpa using d.ne
   obtain⟨XN,i0,g0,d1⟩:=d.nodes;have d2:=d1.kept B c1;have T:SlW wD A5 (m+1+(sn-m)) L 32 ((R.take m ++ [n.id]++R.drop m).map idC):=Y.kept a9 (λx hx hm=>by
    have e:x=bb:=by simpa using hm
    subst e;exact(t _ hx).1 d.inM.2)
   have a1:z9 wD ga 0 32=some (idC n.id):=(B.row b8 sO _ _).trans E;have a0:z9 wD (ga+1) 0 34=some (zO (xH n)):=(B.row (zD D) sO _ _).trans D;have a5:wD.cell? ⟨g,0,none⟩=some (.map (some bn)):=by rw[cell_of_row wD g 0 _ _ _ s];rfl
   have e4:=B.size;clear b1 b2 b3 I hS r d9 d1 Y c4 a6 e0 e8 f2 d7 U b5;go_upto_region 6 with fail
   obtain⟨wE,f8,c5,r,d3,d6⟩:=(d2.kept (z8.drew wD) sI).update (P:=prog) (v:=xH n) j7 underlying195 (k:=n.id) trivial;change (Instr.mapUpdate 195 (.map (some bn)) (.agg (idC n.id)) (.agg (zO (xH n)))).run prog wD.drew=.ok () wE at r;have a3:g∉[bn]:=by simpa using d.neg.1
   refine kX [bn] wD ?_;intro I hS;have b1:=zF a5 a3;have b2:=zY a1 (S:=[bn]) sO;have b3:=zY a0 (S:=[bn]) sO;refine lQ ?_;intro K hK;refine zH (yA hS d6 sI) (λhS=>?_);refine hK _ _ ?_;clear hK K;refine zC ?_;intro hS;have G:z8 [bn] wD wE:=hS;have c3:bb∉[bn]:=by simpa using λe=>d.ne e.symm
   have b9:mW wE M g bn bb bg (j0+1):=by
    refine⟨(G.block g (oH d.ltg) a3).trans s,⟨_,f8,c5,d3⟩,⟨_,f9,c6,d4.kept G c3,λp hp=>?_⟩,d.inM,d.ne⟩;rcases eM hp with e | ⟨hp,I⟩
    ·subst e;dsimp only;exact⟨⟨_,T.kept G (λx hx hm=>by
      have e:x=bn:=by simpa using hm
      subst e;exact(t _ hx).1 d.inM.1)⟩,oM,λx hx=>⟨(t x hx).1,Nat.lt_of_lt_of_le (t x hx).2 (Nat.le_trans a9.size G.size)⟩⟩
    ·obtain⟨⟨R',s1⟩,s2,s3⟩:=Z p hp;refine⟨⟨R',(s1.kept B (λx hx hm=>?_)).kept G (λx hx hm=>?_)⟩,oM,λx hx=>⟨(s3 x hx).1,Nat.lt_of_lt_of_le (s3 x hx).2 (Nat.le_trans B.size G.size)⟩⟩
     ·have e:x=bb:=by simpa using hm
      subst e;exact(s3 _ hx).1 d.inM.2
     ·have e:x=bn:=by simpa using hm
      subst e;exact(s3 _ hx).1 d.inM.1
   have f1:z8 [bn,bb] w wE:=z8.trans (z8.trans ((z8.of_below (c9.mono (by rw[h3.out];exact lR))).mono (S':=[bn,bb]) sI) (B.mono (S':=[bn,bb]) sI) iL) (G.mono (S':=[bn,bb]) sI) iL;clear b1 b2 b3 I hS d6 a9 r d3 d4 d2 T a1 a0 a5 s Z G B d;(go_wp2_with fail);go_end0;exact⟨rfl,b9,f1⟩
end
def gE:List zS->Int
 | []=>0
 | x :: R=>if vP x≠0 then vP x else gE R
theorem pK:∀ {R:List zS},gE R=0↔∀x∈R,vP x=0
 | []=>by simp[gE]
 | x :: R=>by
  unfold gE;by_cases h:vP x=0
  ·rw[if_neg oM,pK];simp[h]
  ·rw[if_pos h];simp[h]
theorem KM:∀ {R:List zS} {k:Nat} (hk:k<R.length),(∀x∈R.take k,vP x=0)->vP R[k]≠0->gE R=vP R[k]
 | x :: R,0,_,_,h=>by
  have h':vP x≠0:=h;unfold gE;rw[if_pos h'];rfl
 | x :: R,k+1,hk,h1,h=>by
  unfold gE;rw[if_neg (oH (h1 x sI))];exact KM (R:=R) (k:=k) (by simpa using hk) (λy hy=>h1 y (by simp[hy])) h
def bH:List zS->Bool
 | []=>true
 | [_]=>true
 | a :: b :: R=>decide (yC a.id b.id<0)&&bH (b :: R)
theorem XA:∀ {R:List zS} {k:Nat} (hk:k+1<R.length),bH (R.take (k+2))=(bH (R.take (k+1))&&decide (yC (R[k]'oM).id R[k+1].id<0))
 | a :: b :: R,0,_=>by simp[bH]
 | a :: b :: R,k+1,hk=>by
  have:=XA (R:=b :: R) (k:=k) (by simpa using hk);show(decide (yC a.id b.id<0)&&bH ((b :: R).take (k+2)))=((decide (yC a.id b.id<0)&&bH ((b :: R).take (k+1)))&&_)
  rw[this,Bool.and_assoc];rfl
theorem risNB_one(R:List zS):bH (R.take 1)=true:=by
 cases R <;> simp[bH]
theorem XB:∀ {R:List zS},bH R=true↔R.Pairwise λa b=>yC a.id b.id<0
 | []=>by simp[bH]
 | [a]=>by simp[bH]
 | a :: b :: R=>by
  unfold bH;rw[Bool.and_eq_true,XB,decide_eq_true_eq];constructor
  ·rintro⟨h1,h2⟩;refine pairwise_cons.2 ⟨λx hx=>?_,h2⟩;rcases mem_cons.1 hx with rfl | hx
   ·exact h1
   ·exact ZN _ _ _ h1 ((pairwise_cons.1 h2).1 x hx)
  ·intro h;obtain⟨h1,h2⟩:=pairwise_cons.1 h;exact⟨h1 b sI,h2⟩
theorem risNB_good{R:List zS}(h:bH R=true):Ris vk R/\ko R:=by
 rw[XB]at h;refine⟨Pairwise.imp (fun {a b} h=>?_) h,?_⟩
 ·unfold vk orC;rw[if_neg oM];exact h
 ·intro a ha b hb e;obtain⟨i,hi,rfl⟩:=getElem_of_mem ha;obtain⟨j,hj,rfl⟩:=getElem_of_mem hb;rcases Nat.lt_trichotomy i j with d | d | d
  ·have:=pairwise_iff_getElem.1 h i j hi hj d;rw[e,(gD _ _).2 rfl]at this;omega
  ·subst d;rfl
  ·have:=pairwise_iff_getElem.1 h j i hj hi d;rw[<-e,(gD _ _).2 rfl]at this;omega
def CutB(v:Value)(P:Bool->Prop):Prop:=∃b,v=.bool b/\P b
def BZ(l:List UInt8):Int :=
 if(xD l).e≠0 then(xD l).e else if gE (yP l).rows≠0 then gE (yP l).rows
 else if(jE (xD l).l 0=0/\kD (xD l).rows=true)/\bH (yP l).rows=true then 0 else 4
theorem vc{l:List UInt8}(h:jE l 0=0):l = []:=by
 unfold jE at h;cases l with
 | nil=>rfl
 | cons a l=>simp at h
theorem KH{l:List UInt8}(h:BZ l=0):GoodS l:=by
 unfold BZ at h;by_cases h1:(xD l).e=0
 ·rw[if_neg oM]at h;by_cases h2:gE (yP l).rows=0
  ·rw[if_neg oM]at h;split at h
   ·rename_i h3
    obtain⟨h5,h6⟩:=risNB_good h3.2;exact⟨h1,vc h3.1.1,h3.1.2,h5,pK.1 h2,h6⟩
   ·cases h
  ·rw[if_pos h2]at h;exact absurd h h2
 ·rw[if_pos h1]at h;exact absurd h h1
theorem sqload_bad(w:World)(s:ByteArray)(hs:s.size<=90000)(T:BZ s.data.toList≠0) :
  Calls prog 163 #[.string s] w λe w'=>e=.returned (.tuple #[.pointer none,.int .i64 (BZ s.data.toList)])/\Below w.heap.size w w':=by
 obtain⟨l,hl⟩:=eX s.data.toList
 have l6:l.length<=90000:=by rw[<-hl];exact hs
 have c0:=dP s w oM;rw[hl]at c0 T |-;clear hl;have hE:BZ l=if(xD l).e≠0 then(xD l).e else if gE (yP l).rows≠0 then gE (yP l).rows else if(jE (xD l).l 0=0/\kD (xD l).rows=true)/\bH (yP l).rows=true then 0 else 4:=rfl;have r:(xD l).e=0->(yP l).rows.length<=90000/\(xD l).rows.length<=90000:=λg1=>by
  obtain⟨h4,_⟩:=vN nC (show(j2 idP (yP l).l (yP l).e).e=0 from g1);have h5:=jQ nC (show(j2 idP (yP l).l (yP l).e).e=0 from g1);have h6:=jQ nLaw (show(j2 nP l 0).e=0 from h4);have h7:(xD l).rows.length+(xD l).l.length<=(yP l).l.length:=h5;have h8:(yP l).rows.length+(yP l).l.length<=l.length:=h6;omega
 obtain⟨E,i3⟩:=eX (BZ l)
 rw[i3]at hE T |-;clear i3;have HE:=dH hE;have f1:=dH T;clear hE T;go_enter func163,ntmps163
 (go_wp2_with fail);refine c0.mono ?_;rintro e w1 ⟨rfl,a9,c6⟩;obtain⟨gr,d7⟩:=eX w.heap.size
 have X:=dH d7;rw[d7]at a9 c6 |-;clear d7 c0;(go_wp2_with fail);refine(sqread w1 gr l a9).mono ?_;rintro e w2 ⟨A,cap,B,a4,rfl,hA,hB,Y,f9,c3⟩;have e1:Below gr w w2:=c6.trans (f9.below (oH a9.lt) sI);have l9:=a9.lt;have j5:=c6.size;obtain⟨R,hR⟩:=eX ((yP l).rows)
 obtain⟨G,hG⟩:=eX ((xD l).rows)
 have i0:(Value.tuple #[.slice A (yP l).rows.length cap,.slice B (xD l).rows.length a4])=.tuple #[.slice A R.length cap,.slice B G.length a4]:=by rw[hR,hG]
 rw[i0];rw[hR]at hA c3 r;rw[hG]at hB r;have b6:=HE.out;rw[hR,hG]at b6;obtain⟨er,g4⟩:=eX ((xD l).e)
 obtain⟨lr,f6⟩:=eX ((xD l).l)
 rw[g4]at b6 Y r;rw[f6]at b6 Y;have c9:=dH b6;clear hR hG i0 a9 c6 f9 g4 f6 HE b6;by_cases he:er=0
 ·subst he;obtain⟨l4,l5⟩:=r rfl;have a3:=c9.out;rw[if_neg oM]at a3;have c8:=dH a3;have k6:=dH c3;clear a3 c9 r c3;(go_wp2_with fail);refine(xI _ gr lr 0 Y).mono ?_;rintro e w3 ⟨rfl,rfl⟩;(go_wp2_with fail);refine(sqnew w2).mono ?_;rintro e w4 ⟨g,bn,bb,bg,rfl,e3,hg,m1,m3,m2,b5⟩;have h9:mW w4 [g,bn,bb,bg] g bn bb bg 0:=(e3 [g,bn,bb,bg] sI sI sI).loose;have b0:∀x∈[g,bn,bb,bg],x<w4.heap.size:=λx hx=>by
   have a6:=e3 [g,bn,bb,bg] sI sI sI;have k1:=a6.ltg;have k2:=a6.lt;simp at hx;rcases hx with rfl | rfl | rfl | rfl <;> omega
  have i9:=hA.below b5;have i6:=hB.below b5;have j0:∀x∈blk A,x<w2.heap.size:=λx hx=>(hA.at_base hx).2;have i7:∀x∈blk B,x<w2.heap.size:=λx hx=>(hB.at_base hx).2;have f5:=Y.below b5;have m0:=Y.lt;have a2:Below gr w w4:=e1.trans (b5.mono oM);have i1:∀x∈[bn,bb],gr<=x:=by intro x hx;simp at hx;omega
  clear hA hB Y e1 e3;(go_wp2_with fail);refine(dD _ gr lr 0 f5).mono ?_;rintro e w5 ⟨rfl,a5⟩;have g9:=h9.below a5;have i8:=i9.below a5;have i5:=i6.below a5;have J:Below gr w w5:=a2.trans (a5.mono (by have:=a2.size;have:=X.out;omega));have i2:∀x∈[g,bn,bb,bg],x<w5.heap.size:=λx hx=>Nat.lt_of_lt_of_le (b0 x hx) a5.size;have f3:=dH i2;have l0:=dH i8;have k8:=dH i5;have l1:=dH j0;have k9:=dH i7;obtain⟨e0,g5⟩:=eX (jE lr 0)
  have e6:=c8.out;rw[g5]at e6 |-;have j3:=dH e6;clear h9 i9 i6 f5 a2 b5 a5 g5 b0 i2 i8 i5 j0 i7 e6 c8;(go_wp2_with fail);go_loopw [8,9,10,11,31] (λev _ _ _ iv wr=>∃(k j:Nat) (eb:Int),k<=R.length/\j<=k/\iv=.int .i64 k/\ev=.int .i64 eb/\Hid (eb=if bH (R.take k)=true then e0 else 4)/\Hid (∀x∈R.take k,vP x=0)/\mW wr [g,bn,bb,bg] g bn bb bg j/\z8 [bn,bb] w5 wr) (λ_ _ _ _ iv _=>R.length-(intOf iv).toNat)
  case atStart=>exact⟨0,0,e0,zL,lR,rfl,rfl,(show e0=if bH (R.take 0)=true then e0 else 4 by rw[take_zero];rfl),(sI:∀x∈R.take 0,vP x=0),g9,z8.refl _ _⟩
  case round =>
   clear g9;obtain⟨k,j,eb,hk,l8,rfl,rfl,b8,O,c7,Z⟩:=hrel;by_cases t:k<R.length
   ·have e8:=(l0.out.kept Z (λx hx=>oS (l1.out x hx))).slr;obtain⟨q,o,rfl,U⟩:=SlR.at_ e8 t;rw[getElem_map]at U;have N:Hid (∀(h1:0<k),z9 wr q (o+(k-1)*66) 66=some (nnC (R[k-1]'oM))):=by
     intro h1;obtain⟨q',o',e',a8⟩:=SlR.at_ e8 (oM:k-1<R.length);injection e' with e';injection e' with k4 k3
     subst k4;subst k3
     rwa [getElem_map]at a8
    have j1:Hid (∀c:Bool,(c=(decide (0<k)&&decide (0<=yC (R[k-1]'oM).id (R[k]'t).id)))->(if bH (R.take (k+1))=true then e0 else 4)=if c=true then 4 else eb):=by
     intro c hc;cases k with
     | zero=>subst hc;rw[risNB_one];have:=b8.out;simpa[bH]using this.symm
     | succ k =>
      have h3:=XA t;have h4:=b8.out;simp only[Nat.add_sub_cancel,Nat.zero_lt_succ,decide_true,Bool.true_and]at hc;rw[h3];by_cases h5:yC (R[k]'oM).id (R[k+1]'t).id<0
      ·have h6:c=false:=by rw[hc];simp;omega
       rw[h6,decide_eq_true h5,Bool.and_true,h4];rfl
      ·have h6:c=true:=by rw[hc];simp;omega
       rw[h6,decide_eq_false h5,Bool.and_false];rfl
    have f2:Hid (vP (R[k]'t)≠0->gE R=vP (R[k]'t)):=λh=>KM t O.out h;have f:Hid (vP (R[k]'t)=0->∀x∈R.take (k+1),vP x=0):=λh x hx=>by
     rw[take_add_one,getElem?_eq_getElem t,Option.toList_some]at hx;rcases mem_append.1 hx with hx | hx
     ·exact O.out x hx
     ·have e:x=R[k]'t:=by simpa using hx
      rw[e];exact h
    obtain⟨x,hx⟩:=eX (R[k]'t)
    rw[hx]at U j1 f2 f;have c4:Below wr.heap.size wr (wr.alloc (.cells (nnC x) 303)):=bA;have a7:z9 (wr.alloc (.cells (nnC x) 303)) wr.heap.size 0 66=some (nnC x):=by simp[go_sem]
    have a6:=c7.below c4;have b3:z8 [bn,bb] w5 (wr.alloc (.cells (nnC x) 303)):=z8.trans Z (z8.of_below c4) sI;have f4:wr.heap.size<(wr.alloc (.cells (nnC x) 303)).heap.size:=sI;have l2:x.val.size<=255:=by rw[<-hx];exact(k6.out _ (getElem_mem t)).2.2
    obtain⟨ex,g3⟩:=eX (vP x)
    have e9:=λW=>BA x.id x rfl W oM;rw[g3]at e9 f2 f;clear hx e8 g3;go_upto_region 10 with fail
    obtain⟨gb,g2⟩:=eX wr.heap.size
    obtain⟨W1,g7⟩:=eR (wr.alloc (.cells (nnC x) 303))
    have d:Hid (∀(h1:0<k),z9 (wr.alloc (.cells (nnC x) 303)) q (o+(k-1)*66) 66=some (nnC (R[k-1]'oM))):=λh1=>(zG (c4.block q (zD (N.out h1))) _ _).trans (N.out h1);rw[<-g7]at a6 b3 a7 f4 d |-;have d9:bn<wr.heap.size/\bb<wr.heap.size:=by
     have h1:=f3.out bn sI;have h2:=f3.out bb sI;have h3:=Z.size;omega
    rw[g2]at a7 f4 d9 |-;clear g7 g2 c4 c7 Z N U;have d4:z9 W1 gb 0 32=some (idC x.id):=by have:=yD a7 (j:=0) (m:=32) oM;rwa [pY]at this
    have d2:z9 W1 gb 32 34=some (zO (xH x)):=by have:=yD a7 (j:=32) (m:=34) oM;rwa [XV]at this
    have cc:=e9 W1;clear e9;by_cases F:ex=0
    ·subst F;(go_wp2_with fail);refine cc.mono ?_;rintro e w6 ⟨rfl,I⟩;have g8:=a6.below I;have D:=(zG (I.block gb (zD d4)) _ _).trans d4;have a0:=(zG (I.block gb (zD d2)) _ _).trans d2;have f8:z8 [bn,bb] w5 w6:=z8.trans b3 (z8.of_below I) sI;have M:Hid (∀(h1:0<k),z9 w6 q (o+(k-1)*66) 32=some (idC (R[k-1]'oM).id)):=λh1=>by
      have h2:=(zG (I.block q (zD (d.out h1))) (o+(k-1)*66) 66).trans (d.out h1);have h3:=yD h2 (j:=0) (m:=32) oM
      rwa [pY]at h3
     have j4:=I.size;clear cc a6 d4 d2 b3 d I a7;go_upto_region 13 with fail
     go_cut [57] (λv wx=>CutB v (λb=>b=(decide (0<k)&&decide (0<=yC (R[k-1]'oM).id x.id)))/\Below w6.heap.size w6 wx)
     case first =>
      by_cases d5:0<k
      ·have j6:k-1<R.length:=oM;have d0:=M.out d5;obtain⟨y,hy⟩:=eX (R[k-1]'j6)
       rw[hy]at d0;have Hy:=dH hy;obtain⟨k1,g0⟩:=eX (k-1)
       have l7:((k:Int)-1)=(k1:Int):=oM;have l3:IntKind.i64.wrap (k1:Int)=(k1:Int):=IntWalk.i64_in _ oM;have d6:decide (0<k)=true:=sO;have f0:=dH d6;rw[g0]at d0;have j8:k1<R.length:=oM;have co:=aH y.id x.id w6.drew;obtain⟨c,hc⟩:=eX (yC y.id x.id)
       rw[hc]at co;have Hc:=dH hc;obtain⟨b,j9⟩:∃b:Bool,decide (0<=c)=b:=⟨_,rfl⟩
       have k5:=dH j9;clear hy hc d5 g0;refine lX w6 ?_;intro c1 hS;have b1:=zV d0;have b2:=zV D;refine lZ ?_;refine lC (co) ?_;clear hS;intro w' hS;refine lZ ?_;refine zC ?_;intro hS;go_wp2_with fail
       go_meet
       exact⟨⟨b,rfl,by rw[f0.out,Hy.out,Hc.out,k5.out];rfl⟩,hS⟩
      ·have d6:decide (0<k)=false:=sO;have f0:=dH d6;clear d5;refine lX w6 ?_;intro c1 hS;have b2:=zV D;refine lQ ?_;intro K hK;refine hK _ _ ?_;clear hK K;refine lZ ?_;refine zC ?_;intro hS;go_wp2_with fail
       go_meet
       exact⟨⟨false,rfl,by rw[f0.out];rfl⟩,hS⟩
     case rest =>
     obtain⟨⟨b,rfl,g6⟩,b4⟩:=hcut;have H:=j1.out b g6;have b7:=dH H.symm;obtain⟨w7,rfl⟩:∃w7,w7=wc:=⟨wc,rfl⟩
     have e4:=g8.below b4;have d3:=(zG (b4.block gb (zD D)) _ _).trans D;have d1:=(zG (b4.block gb (zD a0)) _ _).trans a0;have c2:z8 [bn,bb] w5 w7:=z8.trans f8 (z8.of_below b4) sI;have ch:=sqhangH x w7 _ g bn bb bg j e4 (λy hy=>Nat.lt_of_lt_of_le (f3.out y hy) c2.size) oM;clear g8 D a0 f8 b4 M g6 H;cases b with
     | true =>
      clear ch;(go_wp2_with fail);go_roundw
      case rel=>exact⟨k+1,j,4,oM,oM,by go_num,rfl,b7,f.out sI,e4,c2⟩
      case measure=>exact sZ
     | false =>
      clear e4;(go_wp2_with fail);refine ch.mono ?_;rintro e w8 ⟨rfl,k0,f7⟩;have j7:z8 [bn,bb] w5 w8:=z8.trans c2 f7 (λy hy=>.inl hy);clear ch c2 f7 d3 d1;(go_wp2_with fail);go_roundw
      case rel=>exact⟨k+1,j+1,eb,oM,oM,by go_num,rfl,b7,f.out sI,k0,j7⟩
      case measure=>exact sZ
    ·have L:E=ex:=by
      have h1:=j3.out;have h2:=f2.out F;rw[h2,if_pos F]at h1;exact h1
     have b9:=dH L;have c1:(ex != 0)=true:=by simpa using F
     have c5:∀w',Below W1.heap.size W1 w'->Below gr w w':=λw' hb=>(J.trans (b3.below (B:=gr) (by have:=J.size;have:=X.out;omega) i1)).trans (hb.mono (by have h1:=b3.size;have:=J.size;have:=X.out;omega));have k7:=dH c5;clear L c5 F;(go_wp2_with fail);refine cc.mono ?_;rintro e w6 ⟨rfl,I⟩;clear cc;(go_wp2_with fail);go_ret2;exact⟨by rw[b9.out];rfl,by rw[X.out];exact k7.out _ I⟩
   ·have e2:R.take k=R:=take_of_length_le oM;have V:=O.out;have H:=b8.out;rw[e2]at V H;have L:=j3.out;rw[if_neg (by rw[pK.2 V];simp)]at L;have e7:=k8.out.kept Z (λx hx=>oS (k9.out x hx));have d8:Below gr w wr:=J.trans (Z.below (B:=gr) (by have:=J.size;have:=X.out;omega) i1);by_cases h0:eb=0
    ·subst h0;have a1:bH R=true:=by
      by_cases h:bH R=true
      ·exact h
      ·rw[if_neg h]at H;cases H
     rw[if_pos a1]at H;have e5:kD G=false:=by
      cases h:kD G with
      | false=>rfl
      | true=>rw[if_pos ⟨⟨H.symm,h⟩,a1⟩]at L;exact absurd L f1.out
     rw[e5,if_neg sI]at L;have b9:=dH L;have ci:=iU wr B G.length a4 G e7.slr oM;rw[e5]at ci;clear e2 H L a1 e5 V b8 O c7 Z e7;(go_wp2_with fail);refine ci.mono ?_;rintro e w6 ⟨rfl,I⟩;have c5:=d8.trans (I.mono (by have:=d8.size;have:=X.out;omega));clear ci;(go_wp2_with fail);go_ret2;exact⟨by rw[b9.out];rfl,by rw[X.out];exact c5⟩
    ·have i4:E=4:=by
      rw[L,if_neg];rintro⟨⟨h1,h2⟩,h3⟩;rw[if_pos h3]at H;omega
     have b9:=dH i4;have c1:(eb != 0)=true:=by simpa using h0
     clear e2 H L i4 V b8 O c7 Z e7 h0;(go_wp2_with fail);go_ret2;exact⟨by rw[b9.out];rfl,by rw[X.out];exact d8⟩
 ·have a3:=c9.out;rw[if_pos he]at a3;have c8:=dH a3;have c1:(er != 0)=true:=by simpa using he
  clear a3 c9 r c3 hA hB he;(go_wp2_with fail);refine(xI _ gr lr er Y).mono ?_;rintro e w3 ⟨rfl,rfl⟩;(go_wp2_with fail);refine(xI _ gr lr er Y).mono ?_;rintro e w3 ⟨rfl,rfl⟩;(go_wp2_with fail);go_ret2;exact⟨by rw[c8.out];rfl,by rw[X.out];exact e1⟩
theorem at_store(w:World)(g:Nat)(n m:Int)(h:xF w g n):(callFunc 274 #[.pointer (some ⟨g,0,none⟩),.int .i64 m]).run prog w=.ok (.value (.tuple #[])) (w.setCell ⟨g,0,none⟩ (.int .i64 m)):=by
 have h0:=h.cell0;have hf:w.frozen? ⟨g,0,none⟩=false:=by simp[frozen?,show w.heap[g]?=_ from h]
 rw[run_callFunc_extern func274 kR kR kR (e:=Extern.Atomic.storeT) kR];have e:Extern.Atomic.storeT #[.pointer (some ⟨g,0,none⟩),.int .i64 m]=(do
  store (<-asAddr (.pointer (some ⟨g,0,none⟩))) (.int .i64 m) .atomic
  pure (.tuple #[])):=rfl
 rw[e];simp[asAddr,go_sem,h0,hf]
theorem at_Store(w:World)(g:Nat)(n m:Int)(h:xF w g n):Calls prog 204 #[.pointer (some ⟨g,0,none⟩),.int .i64 m] w λe w'=>e=.returned (.tuple #[])/\w'=w.setCell ⟨g,0,none⟩ (.int .i64 m):=by
 have hr:=at_store w g n m h;clear h;go_enter func204,ntmps204
 (go_wp2_with fail);go_end0;exact⟨rfl,rfl⟩
def JL(l:List UInt8):Int:=wrap64 ((yZ 4 l 0:Int)*4294967296+yZ 4 (zM 4 l 0) (zN 4 l 0))
def loadT(l:List UInt8):Int:=jE (zM 4 (zM 4 l 0) (zN 4 l 0)) (zN 4 (zM 4 l 0) (zN 4 l 0))
theorem or_low(a b:Nat)(ha:a<4294967296)(hb:b<4294967296):bits .or .u64 ((a*4294967296:Nat):Int) (b:Int)=((a*4294967296+b:Nat):Int):=by
 rw[bits_or_u64_nat _ _ oM oM];have h:=Nat.two_pow_add_eq_or_of_lt (i:=32) (b:=b) oM a;rw[show(2:Nat) ^ 32=4294967296 from rfl,Nat.mul_comm]at h;rw[<-h]
theorem tload(w:World)(s:ByteArray)(hs:s.size<=1000000) :
  Calls prog 159 #[.string s] w λe w'=>∃P,e=.returned (.tuple #[.pointer P,.int .i64 (loadT s.data.toList)])/\(loadT s.data.toList=0->∃g,P=some ⟨g,0,none⟩/\xF w' g (JL s.data.toList)/\w.heap.size<=g)/\(loadT s.data.toList≠0->P=none)/\Below w.heap.size w w':=by
 obtain⟨l,hl⟩:=eX s.data.toList
 have c0:=dP s w oM;rw[hl]at c0 |-;have hT:loadT l=jE (zM 4 (zM 4 l 0) (zN 4 l 0)) (zN 4 (zM 4 l 0) (zN 4 l 0)):=rfl;have T:JL l=wrap64 ((yZ 4 l 0:Int)*4294967296+yZ 4 (zM 4 l 0) (zN 4 l 0)):=rfl;obtain⟨E,hE⟩:=eX (loadT l)
 rw[hE]at hT |-;have HT:=dH hT;have a0:=dH T;clear hl hE hT T;go_enter func159,ntmps159
 (go_wp2_with fail);refine c0.mono ?_;rintro e w1 ⟨rfl,m,G⟩;obtain⟨gr,F⟩:=eX w.heap.size
 have j:=dH F;rw[F]at m G |-;clear F c0;(go_wp2_with fail);refine(kH w1 gr l 0 m).mono ?_;rintro e w2 ⟨rfl,y,L⟩;have ha:=xL 4 l 0;obtain⟨a,D⟩:=eX (yZ 4 l 0)
 have Z:=dH D;rw[D]at ha |-;clear D;(go_wp2_with fail);refine(kH w2 gr _ _ y).mono ?_;rintro e w3 ⟨rfl,t,J⟩;have hb:=xL 4 (zM 4 l 0) (zN 4 l 0);obtain⟨b,A⟩:=eX (yZ 4 (zM 4 l 0) (zN 4 l 0))
 have Y:=dH A;rw[A]at hb |-;clear A;have R:Below gr w w3:=(G.trans (L.below (oH m.lt) sI)).trans (J.below (oH y.lt) sI);have X:gr<w3.heap.size:=t.lt;(go_wp2_with fail);refine(dD w3 gr _ _ t).mono ?_;rintro e w4 ⟨rfl,O⟩;have d:Below gr w w4:=R.trans (O.mono oM);rw[<-HT.out];clear m G y L t J R O;by_cases h0:E=0
 ·subst h0;(go_wp2_with fail);refine(tnew w4).mono ?_;rintro e w5 ⟨rfl,r,N⟩;have f:Below gr w w5:=d.trans (N.mono (by have:=d.size;have:=j.out;omega));have V:gr<=w4.heap.size:=by have:=d.size;have:=j.out;omega
  clear d N;(go_wp2_with fail);have eo:bits BinOp.or IntKind.u64 ((a:Int)*4294967296) (b:Int)=((a*4294967296+b:Nat):Int):=by
   have:=or_low a b oM oM;rw[<-this];simp
  rw[eo];have hw:wrap64 ((a*4294967296+b:Nat):Int)=JL l:=by rw[a0.out,Z.out,Y.out];congr 1
  rw[hw];clear eo hw;refine(at_Store w5 w4.heap.size 0 (JL l) r).mono ?_;rintro e w6 ⟨rfl,rfl⟩;have k:xF (w5.setCell ⟨w4.heap.size,0,none⟩ (.int .i64 (JL l))) w4.heap.size (JL l):=by
   have h0:w5.heap[w4.heap.size]?=_:=r;unfold xF;rw[zE h0];rfl
  have I:=z8.setCell w5 ⟨w4.heap.size,0,none⟩ (.int .i64 (JL l));have M:Below gr w (w5.setCell ⟨w4.heap.size,0,none⟩ (.int .i64 (JL l))):=f.trans (I.below (B:=gr) (by have:=f.size;have:=j.out;omega) sO);have H:=dH k;have U:=dH M;clear k I M r f;(go_wp2_with fail);go_ret2;exact⟨_,rfl,⟨w4.heap.size,rfl,H.out,oH j.out⟩,by rw[j.out];exact U.out⟩
 ·have hb:(E != 0)=true:=by simpa using h0
  have H0:=dH h0;clear h0;(go_wp2_with fail);go_ret2;exact⟨none,rfl,λh=>absurd h H0.out,λ_=>rfl,by rw[j.out];exact d⟩
structure JY where
 rows:List xB
 l:List UInt8
 e:Int
def qh(l:List UInt8)(e:Int):xB:=⟨xQ (yX 32 l e),txV (zM 32 l e) (zN 32 l e)⟩
def oneL(l:List UInt8)(e:Int):List UInt8:=txL (zM 32 l e) (zN 32 l e)
def oneE(l:List UInt8)(e:Int):Int:=txE (zM 32 l e) (zN 32 l e)
def yp(s:JY):JY:=⟨s.rows ++ [qh s.l s.e],oneL s.l s.e,oneE s.l s.e⟩
def wM:Nat->JY->JY
 | 0,s=>s
 | k+1,s=>if s.e=0 then wM k (yp s)else s
def fK(l:List UInt8)(e:Int):JY:=wM (yZ 4 l e) ⟨[],zM 4 l e,zN 4 l e⟩
theorem XZ(k:Nat)(s:JY)(h:s.e≠0):wM k s=s:=by
 cases k with
 | zero=>rfl
 | succ k=>unfold wM;rw[if_neg h]
theorem Q0(k:Nat)(s:JY)(h:s.e=0):wM (k+1) s=wM k (yp s):=by rw[wM,if_pos h]
def Fits(R:List xB):Prop:=∀x∈R,x.val.size<=255
theorem fits_step(h:Fits R)(l:List UInt8)(e:Int):Fits (R ++ [qh l e]):=λx hx=>by
 rcases mem_append.1 hx with h' | h'
 ·exact h x h'
 ·simp at h';subst h';exact wF _ _
def eP(R:List xB):Bool:=R.any λx=>decide (16<x.val.size)
def nO:List xB->Bool
 | []=>true
 | [_]=>true
 | x :: y :: l=>decide (vJ x y<0)&&nO (y :: l)
def pN(A G:List xB):Bool:=A.any λx=>decide (x∈G)
def vV(l:List UInt8):JY:=fK l 0
def jR(l:List UInt8):JY:=fK (vV l).l (vV l).e
def rW(l:List UInt8):Int :=
 if(jR l).e≠0 then(jR l).e
 else if eP (vV l).rows=true\/eP (jR l).rows=true then 3
 else if jE (jR l).l (jR l).e≠0\/nO (vV l).rows=false\/nO (jR l).rows=false then 4
 else if pN (vV l).rows (jR l).rows=true then 4 else 0
theorem tC:eP R=false↔∀x∈R,small x:=by
 unfold eP small;rw[any_eq_false];constructor
 ·intro h x hx;have:=h x hx;simp at this;exact this
 ·intro h x hx;have:=h x hx;simpa using this
theorem BF:∀(R:List xB),nO R=true↔Ris vJ R
 | []=>by simp[nO,Ris]
 | [x]=>by simp[nO,Ris]
 | x :: y :: R=>by
  have ih:=BF (y :: R);unfold nO;rw[Bool.and_eq_true,ih,decide_eq_true_eq,fI (x:=x)];constructor
  ·rintro⟨h1,h2⟩;refine⟨λz hz=>?_,h2⟩;rcases mem_cons.1 hz with e | hz
   ·rw[e];exact h1
   ·exact tL.trans _ _ _ h1 ((fI.1 h2).1 z hz)
  ·rintro⟨h1,h2⟩;exact⟨h1 y sI,h2⟩
theorem vr{A:List xB}:pN A G=false↔∀x∈A,x∉G:=by
 unfold pN;rw[any_eq_false];constructor
 ·intro h x hx;have:=h x hx;simpa using this
 ·intro h x hx;have:=h x hx;simpa using this
theorem one_split{l:List UInt8}{e:Int}(h:oneE l e=0):e=0/\rowB (qh l e)++oneL l e=l:=by
 obtain⟨h1,h2⟩:=tW h;obtain⟨h3,h4,h5⟩:=lE h1;refine⟨h3,?_⟩;have e1:(xQ (yX 32 l e)).l=yX 32 l e:=by unfold xQ;rw[dif_pos h5]
 unfold rowB qh oneL;simp only[e1,append_assoc];rw[h2,h4]
theorem XY:∀(k:Nat) (s:JY),(wM k s).e=0->∃X:List xB,X.length=k/\(wM k s).rows=s.rows++X/\X.flatMap rowB++(wM k s).l=s.l/\s.e=0
 | 0,s,h=>⟨[],rfl,by simp[wM],by simp[wM],h⟩
 | k+1,s,h=>by
  by_cases he:s.e=0
  ·rw[Q0 k s he]at h |-;obtain⟨X,h1,h2,h3,h0⟩:=XY k (yp s) h;obtain⟨_,h5⟩:=one_split (show oneE s.l s.e=0 from h0);refine⟨qh s.l s.e :: X,by simp[h1],by rw[h2];simp[yp],?_,he⟩;rw[flatMap_cons,append_assoc,h3];exact h5
  ·rw[XZ _ _ he]at h;exact absurd h he
theorem XD{l:List UInt8}{e:Int}(h:(fK l e).e=0):e=0/\Z0 (fK l e).rows++(fK l e).l=l:=by
 obtain⟨X,h1,h2,h3,h4⟩:=XY _ _ h;obtain⟨h6,h5⟩:=dV (show zN 4 l e=0 from h4);refine⟨h6,?_⟩;unfold fK;rw[h2];unfold Z0;simp only[nil_append,append_assoc];rw[h1,h3,h5]
theorem Q1{l:List UInt8}(h:rW l=0):(jR l).e=0/\(∀x∈(vV l).rows,small x)/\(∀x∈(jR l).rows,small x)/\(jR l).l = []/\Ris vJ (vV l).rows/\Ris vJ (jR l).rows/\∀x∈(vV l).rows,x∉(jR l).rows:=by
 unfold rW at h;split at h
 ·exact absurd h (by assumption)
 ·rename_i h1
  have d:(jR l).e=0:=oM;split at h
  ·cases h
  ·rename_i h2
   simp only[not_or,Bool.not_eq_true]at h2;split at h
   ·cases h
   ·rename_i h3
    simp only[not_or,Bool.not_eq_false,ne_eq,Classical.not_not]at h3;split at h
    ·cases h
    ·rename_i h4
     refine⟨d,tC.1 h2.1,tC.1 h2.2,?_,(BF _).1 h3.2.1,(BF _).1 h3.2.2,vr.1 (by simpa using h4)⟩;have h5:=h3.1;unfold jE at h5;rw[if_pos d]at h5;split at h5
     ·assumption
     ·cases h5
theorem load_put{l:List UInt8}(h:rW l=0):putB (vV l).rows (jR l).rows=l:=by
 obtain⟨h1,_,_,h4,_⟩:=Q1 h;obtain⟨h2,h3⟩:=XD (show(fK (vV l).l (vV l).e).e=0 from h1);obtain⟨_,h5⟩:=XD (show(fK l 0).e=0 from h2);have d:Z0 (jR l).rows++(jR l).l=(vV l).l:=h3;rw[h4,append_nil]at d;unfold putB;rw[d];exact h5
theorem ka(d:zA)(v v':ByteArray):(zZ ⟨d,v⟩).setIfInBounds 32 (.string v')=zZ ⟨d,v'⟩:=by
 apply Array.ext';simp[zZ]
theorem bRowC_set0(d d':zA)(v:ByteArray):((zZ ⟨d,v⟩).toList.take (0+0)++(idC d').toList++(zZ ⟨d,v⟩).toList.drop (0+0+(idC d').toList.length)).toArray=zZ ⟨d',v⟩:=by
 apply Array.ext';have h1:(idC d').toList.length=32:=sI;have h2:(idC d).toList.length=32:=sI;rw[h1];have e:(zZ ⟨d,v⟩).toList=(idC d).toList ++ [.string v]:=by simp[zZ]
 have e':(zZ ⟨d',v⟩).toList=(idC d').toList ++ [.string v]:=by simp[zZ]
 rw[e,e'];simp[drop_append,h2]
theorem copy_id(b:List UInt8)(hb:b.length=32\/b = [])(ty:TypeId)(c:Nat)(h:w.heap[g]?=some (.cells (zZ ⟨id0,v⟩) 176 (0,0))) :
  ∃w' m,(Builtin.copy_ #[127,9] ty #[.slice (some ⟨g,0,none⟩) 32 c,.string (mkB b)]).run prog w=.ok m w'/\w'.heap[g]?=some (.cells (zZ ⟨xQ b,v⟩) 176 (0,0))/\z8 [g] w w':=by
 rcases hb with hb | hb
 ·have hs:(mkB b).size=32:=by rw[gV,hb]
  have h1:=Go.Lib.run_copy_row_string (P:=prog) w 127 9 ty 5 g 0 32 c (mkB b) _ _ underlying127 kR h oM (by rw[hs];simp);refine⟨_,_,h1,?_,⟨rfl,rfl,rfl,by simp[setRow],λx _ hx=>setRow_other w g x _ (by simpa using hx)⟩⟩;rw[setRow_heap w g _ _ _ _ h];have e3:=bRowC_set0 id0 (xQ b) v;have e:(xQ b).l=b:=by unfold xQ;rw[dif_pos hb]
  have e2:(idC (xQ b)).toList=Go.Lib.byteCells (mkB b).data.toList:=by unfold idC;rw[e];rfl
  rw[e2]at e3;have e4:(Go.Lib.byteCells (mkB b).data.toList).length=32:=by rw[<-e2];simp
  rw[e4]at e3;rw[hs];simp only[Nat.add_zero]at e3;rw[<-e3]
 ·subst hb;have h1:=Go.Lib.run_copy_empty_string (P:=prog) w 127 9 ty 5 (some ⟨g,0,none⟩) 32 c (mkB []) underlying127 kR rfl;exact⟨_,_,h1,h,z8.refl _ _⟩
theorem bread(w:World)(g:Nat)(l:List UInt8)(e0:Int)(b3:q7 w g l e0) :
  Calls prog 205 #[.pointer (some ⟨g,0,none⟩)] w λe w'=>∃A cap,e=.returned (.slice A (fK l e0).rows.length cap)/\Own w' w.heap.size 176 33 A (fK l e0).rows.length cap ((fK l e0).rows.map zZ)/\q7 w' g (fK l e0).l (fK l e0).e/\z8 [g] w w'/\Fits (fK l e0).rows/\(fK l e0).rows.length<4294967296:=by
 have c0:=kH _ _ l e0 b3;have hN:=xL 4 l e0;obtain⟨N,c2⟩:=eX (yZ 4 l e0)
 have c6:Hid (fK l e0=wM N ⟨[],zM 4 l e0,zN 4 l e0⟩):=by show _=_;rw[<-c2];rfl
 rw[c2]at c0 hN;clear c2;have g2:=b3.lt;go_enter func205,ntmps205
 (go_wp2_with fail);refine c0.mono ?_;rintro e w1 ⟨rfl,c9,b6⟩;have d9:=dH b6;have O:=b6.size;clear c0 b3 b6;(go_wp2_with fail);go_loopw [3,5] (λout i wr=>∃(k:Nat) (R:List xB) (l1:List UInt8) (e1:Int) (A1:Option Addr) (B:Nat),k<=N/\i=.int .i64 k/\out=.slice A1 R.length B/\R.length=k/\Own wr w1.heap.size 176 33 A1 R.length B (R.map zZ)/\q7 wr g l1 e1/\Hid (wM N ⟨[],zM 4 l e0,zN 4 l e0⟩=wM (N-k) ⟨R,l1,e1⟩)/\Hid (Fits R)/\z8 [g] w1 wr) (λ_ i _=>N-(intOf i).toNat)
 case atStart=>exact⟨0,[],_,_,none,0,zL,rfl,rfl,rfl,Own.nil _ _ _ _,c9,(show _=_ from rfl),(show Fits [] by intro x hx;cases hx),z8.refl _ _⟩
 case round =>
  clear c9;obtain⟨k,R,l1,e1,A1,B,g0,rfl,rfl,d4,m,hr,a8,a9,hk⟩:=hrel;have f6:=dH d4;have g5:R.length<=N:=oM;clear d4;have f9:=hk.size;by_cases hgo:k<N/\e1=0
  ·obtain⟨e6,rfl⟩:=hgo;have H:=a8.out;rw[(oM:N-k=(N-(k+1))+1),Q0 _ _ rfl]at H;have f3:=dH H;have a0:=fits_step a9.out l1 0;have e2:=dH a0;clear a8 H a9 a0;have g1:=hr.lt;have e8:g∉blk A1:=λhx=>(oH ((m.at_base hx).1));have h8:=heap_alloc_new wr (.cells (zZ nD) 176);have c7:=hr.kept (z8.alloc wr (.cells (zZ nD) 176)) sI;have d1:z8 [] wr (wr.alloc (.cells (zZ nD) 176)):=z8.alloc _ _;(go_wp2_with fail);refine(xI _ g l1 0 hr).mono ?_;rintro e w5 ⟨rfl,rfl⟩;go_upto_region 7 with fail
   obtain⟨g8,b9⟩:=eX wr.heap.size
   rw[b9]at h8 |-;have g3:g<g8:=oM;have f5:=dH b9;clear b9 hr;generalize wr.alloc (.cells (zZ nD) 176)=W at *;have b8:g8<W.heap.size:=(aG h8).1;have V:g8∉[g]:=sO;have d0:g∉[g8]:=sO;have d8:=wI W.drew g _ _ (c7.kept (z8.drew W) sI);refine kX [g,g8] W ?_;intro e4 hS;refine lQ ?_;intro K hK;refine d8.mono ?_;rintro e e3 ⟨rfl,a3,L⟩;replace hS:=yA hS L sI;have a5:e3.heap[g8]?=_:=(L.block g8 b8 V).trans h8;refine⟨_,rfl,hS,hK _ _ ?_⟩;clear hK K d8;obtain⟨b1,f8,f1,M,J⟩:=copy_id (v:=⟨#[]⟩) (yX 32 l1 0) (m9 _ _) 3 32 a5;refine lH ?_;intro K hK;refine zH (yA hS J sI) (λd3=>?_);refine hK _ _ ?_;clear hK K;refine zC ?_;intro hS;have D:z8 [g,g8] W b1:=d3;have a2:=a3.kept J d0;have U:g8<b1.heap.size:=(aG M).1;clear a3 L J f1 hS d3 e4 h8 a5 c7;(go_wp2_with fail);refine(fL _ g _ _ a2).mono ?_;rintro e w2 ⟨rfl,c8,d2⟩;have e5:=xL 1 (zM 32 l1 0) (zN 32 l1 0);(go_wp2_with fail);refine(dC _ g _ _ _ c8 oM).mono ?_;rintro e w3 ⟨rfl,T,X⟩;have d6:q7 w3 g (oneL l1 0) (oneE l1 0):=T;have I:z8 [g] b1 w3:=z8.trans d2 X iL;have b0:=(I.block g8 U V).trans M;obtain⟨kv,b4⟩:=eX (mkB (yX (yZ 1 (zM 32 l1 0) (zN 32 l1 0)) (zM 1 (zM 32 l1 0) (zN 32 l1 0)) (zN 1 (zM 32 l1 0) (zN 32 l1 0))))
   have f4:=dH (show txV (zM 32 l1 0) (zN 32 l1 0)=kv from b4);rw[b4];have x0:w3.cell? ⟨g8,32,none⟩=some (.string ⟨#[]⟩):=by rw[cell_of_row w3 g8 _ _ _ _ b0];simp[go_sem]
   have f0:w3.frozen? ⟨g8,32,none⟩=false:=by simp[frozen?,b0]
   have a4:=zE b0 32 (.string kv);rw[ka]at a4;have b5:=z8.setCell w3 ⟨g8,32,none⟩ (.string kv);have d5:=d6.kept b5 d0;have Y:z8 [g,g8] W (w3.setCell ⟨g8,32,none⟩ (.string kv)):=z8.trans (z8.trans D (I.mono (S':=[g,g8]) sI) iL) (b5.mono (S':=[g,g8]) sI) iL;clear c8 T d2 X b4 d6 e5 b0 b5 I M a2 D;go_upto_region 9 with fail
   generalize w3.setCell ⟨g8,32,none⟩ (.string kv)=w11' at *;clear x0 f0;have e9:=f5.out;have j:z8 [g,g8] wr w11':=z8.trans (d1.mono (S':=[g,g8]) sI) Y iL;have d7:∀x∈blk A1,x∉[g,g8]:=λx hx=>(oS (m.at_base hx));have t:=m.kept j d7;have Z:z8 [g] wr w11':=j.mono (by intro x hx;simp at hx;rcases hx with rfl | rfl <;> simp;omega);have hx:qh l1 0=⟨xQ (yX 32 l1 0),kv⟩:=by unfold qh;rw[f4.out]
   rw[<-hx]at a4;obtain⟨xx,b2⟩:=eX (qh l1 0)
   rw[b2]at a4 e2;have f2:=dH b2;clear b2 hx m d7;have G:z9 w11' g8 0 33=some (zZ xx):=by unfold z9;rw[a4];simp[go_sem]
   have c1:Below w11'.heap.size w11' (w11'.alloc (.cells (zZ xx) 176)):=bA;have d:=t.below c1;have r:z9 (w11'.alloc (.cells (zZ xx) 176)) w11'.heap.size 0 33=some (zZ xx):=by simp[go_sem]
   have c5:w1.heap.size<=w11'.heap.size:=oH j.size;clear t a4 j Y d1;go_wp2_with (at_builtin;refine xS KK rfl d rfl r (KP _) oM oM sO ?_;intro f7 a6 c4 s E F)
   have b7:z8 (blk A1) w11' c4:=z8.trans ((z8.of_below c1).mono (S':=blk A1) sI) E iL;have c3:=d5.kept b7 e8;have e7:z8 [g] w1 c4:=z8.trans (z8.trans hk Z iL) b7 (λx hx=>.inr (oH ((d.at_base hx).1)));rw[(sI:R.map zZ ++ [zZ xx]=(R ++ [xx]).map zZ)]at s;have y:(R ++ [xx]).length=R.length+1:=sI;have f:=dH y;clear y b7 E F d r c1 G d5;(go_wp2_with fail);go_roundw
   case rel=>exact⟨k+1,R ++ [xx],_,_,f7,a6,oM,by go_num,(by rw[f.out]),(by rw[f.out,f6.out]),(by rw[f.out];exact s),c3,(show _=_ by rw[f3.out];unfold yp;rw[f2.out]),e2,e7⟩
   case measure=>exact sZ
  ·have a1:fK l e0=⟨R,l1,e1⟩:=by
    rw[c6.out,a8.out];by_cases he:e1=0
    ·rw[(oM:N-k=0)];rfl
    ·exact XZ _ _ he
   have a7:=dH a1;clear a1 a8 c6;by_cases e6:k<N
   ·have he:e1≠0:=oM;have g4:(e1==0)=false:=by simpa using he
    clear hgo he;(go_wp2_with fail);refine(xI _ g l1 e1 hr).mono ?_;rintro e w5 ⟨rfl,rfl⟩;(go_wp2_with fail);go_ret;rw[a7.out];exact⟨A1,B,rfl,m.mono O,hr,z8.trans d9.out hk iL,a9.out,by dsimp only;omega⟩
   ·clear hgo;(go_wp2_with fail);go_ret;rw[a7.out];exact⟨A1,B,rfl,m.mono O,hr,z8.trans d9.out hk iL,a9.out,by dsimp only;omega⟩


section
open Go.RowKit Go.Sort Go.Shelf
theorem border(x y:xB)(w:World):Calls prog 276 #[.agg (zZ x),.agg (zZ y)] w λe w'=>e=.returned (.int .i64 (vJ x y))/\Below w.heap.size w w' :=
 (rorder x y w).mono λ_ _ h=>⟨h.1,h.2.below⟩
theorem brising(w:World)(A:Option Addr)(n cap:Nat)(R:List xB)(h:xK w A n R)(hn:n<=4294967296) :
  Calls prog 208 #[.slice A n cap] w λe w'=>e=.returned (.bool (nO R))/\Below w.heap.size w w':=by
 have m:=dH h.len;go_enter func208,ntmps208
 (go_wp2_with fail);go_loopw [3] (λi wr=>∃j:Nat,(j<n\/j=0)/\i=.int .i64 ((j:Int)+1)/\Hid (nO R=nO (R.drop j))/\Below w.heap.size w wr) (λi _=>n+1-(intOf i).toNat)
 case atStart=>exact⟨0,.inr rfl,rfl,(show _=_ from rfl),Below.refl _ _⟩
 case round =>
  obtain⟨j,hj,rfl,r,hb⟩:=hrel;by_cases s:j+1<n
  ·have k:j+1<R.length:=by rw[m.out];exact s
   obtain⟨q,o,rfl,hrow2,-,-⟩:=xK.get (SlR.below h hb) s k;obtain⟨q',o',t,hrow1,-,-⟩:=xK.get (SlR.below h hb) (oM:j<n) (oM:j<R.length);injection t with t
   injection t with M L
   subst M;subst L;have d:nO R=(decide (vJ (R[j]'oM) (R[j+1]'k)<0)&&nO (R.drop (j+1))):=by
    rw[r.out,drop_eq_getElem_cons (oM:j<R.length),drop_eq_getElem_cons k];rfl
   obtain⟨x,hx⟩:=eX (R[j]'oM)
   obtain⟨y,hy⟩:=eX (R[j+1]'k)
   rw[hx]at hrow1 d;rw[hy]at hrow2 d;clear r hx hy k;have D:((j:Int)+1<n):=oM;have H:IntKind.i64.wrap (j:Int)=j:=IntWalk.i64_in _ oM;have t1:((j:Int)+1).toNat=j+1:=oM;have t2:(0:Int)<=(j:Int)+1:=oM;have t3:(j:Int)<n:=oM;have t4:j<n:=oM;have c2:=border x y wr.drew;by_cases hc:vJ x y<0
   ·rw[decide_eq_true hc,Bool.true_and]at d;have G:=dH d;have E:¬(0<=vJ x y):=oM;obtain⟨c,f⟩:=eX (vJ x y);rw[f]at c2 E;clear f;clear d hc;go_upto_region 4 with fail
    refine lX wr ?_;intro B hS;have b1:=zV hrow1;have b2:=zV hrow2;refine lZ ?_;refine lC (c2) ?_;clear hS;intro w' hS;refine lZ ?_;refine zC ?_;intro hS;have g:Below wr.heap.size wr w':=hS;have F:=yM hb g;clear b1 b2 B hS g c2 H;(go_wp2_with fail);go_roundw
    case rel=>exact⟨j+1,.inl s,by go_num,G,F⟩
    case measure=>exact sZ
   ·rw[decide_eq_false hc,Bool.false_and]at d;have G:=dH d;have E:0<=vJ x y:=oM;obtain⟨c,f⟩:=eX (vJ x y);rw[f]at c2 E;clear f;clear d hc;go_upto_region 4 with fail
    refine lX wr ?_;intro B hS;have b1:=zV hrow1;have b2:=zV hrow2;refine lZ ?_;refine lC (c2) ?_;clear hS;intro w' hS;refine lZ ?_;refine zC ?_;intro hS;have g:Below wr.heap.size wr w':=hS;have F:=yM hb g;clear b1 b2 B hS g c2 H;(go_wp2_with fail);go_ret;exact⟨yI (by rw[G.out]),F⟩
  ·have I:nO R=true:=by
    rw[r.out];have J:(R.drop j).length<=1:=by rw[length_drop,m.out];omega
    generalize R.drop j=Z at J
    match Z,J with
    | [],_=>rfl
    | [_],_=>rfl
   have O:=dH I;have D:decide ((j:Int)+1<n)=false:=sO;have N:decide (j+1<n)=false:=sO;clear I r s hj;(go_wp2_with fail);go_ret;exact⟨yI (by rw[O.out]),hb⟩
theorem blong(x:xB)(w:World):Calls prog 207 #[.agg (zZ x)] w λe w'=>e=.returned (.bool (decide (16<x.val.size)))/\Below w.heap.size w w':=by
 have hB:Below w.heap.size w (w.alloc (.cells (zZ x) 176)):=bA;have a2:(w.alloc (.cells (zZ x) 176)).cell? ⟨w.heap.size,32,none⟩=some (.string x.val):=by simp[go_sem]
 go_enter func207,ntmps207
 go_upto_region 1 with fail
 generalize w.alloc (.cells (zZ x) 176)=W at *;(go_wp2_with fail);go_ret;exact⟨yI (decide_eq_decide.2 oM),hB⟩
theorem QZ(w:World)(A:Option Addr)(cap:Nat)(f:Value) :
  Calls prog 275 #[.slice A 0 cap,f] w λe w'=>e=.returned (.int .i64 (-1))/\w=w':=by
 go_enter func275,ntmps275
 (go_wp2_with fail);go_loopw [8] (λi wr=>i=.int .i64 0/\wr=w) (λ_ _=>0)
 case atStart=>exact⟨rfl,rfl⟩
 case round =>
  obtain⟨rfl,rfl⟩:=hrel;(go_wp2_with fail);go_ret;exact⟨rfl,rfl⟩
theorem any_none(w:World)(A:Option Addr)(cap:Nat)(f:Value) :
  Calls prog 206 #[.slice A 0 cap,f] w λe w'=>e=.returned (.bool false)/\w=w':=by
 go_enter func206,ntmps206
 (go_wp2_with fail);refine(QZ _ A cap f).mono ?_;rintro e w1 ⟨rfl,rfl⟩;(go_wp2_with fail);go_ret;exact⟨rfl,rfl⟩
theorem KO(w:World)(A:Option Addr)(n cap:Nat)(R:List xB)(h:xK w A n R)(hn:n<=4294967296) :
  Calls prog 206 #[.slice A n cap,.func (.func 207) #[] #[]] w λe w'=>e=.returned (.bool (eP R))/\Below w.heap.size w w':=by
 have d:=h.len;by_cases h0:n=0
 ·subst h0;have hR:R = []:=eq_nil_of_length_eq_zero d;subst hR;refine(any_none w A cap _).mono ?_;rintro e w' ⟨rfl,rfl⟩;exact⟨rfl,Below.refl _ _⟩
 ·obtain⟨g,o,rfl,hr0,-,-⟩:=xK.get h (oM:0<n) oM;have f:=AnyQ.slices_ContainsFunc layContRow 33 isAggRow sizeRow (λx:xB=>(zZ x).toList) sI (λx=>decide (16<x.val.size)) 207 #[]
   (enters_of func207 kR rfl) g o n cap R w (λW x hb=>(blong x W).mono λe w' hh=>⟨hh.1,hb.trans (hh.2.mono hb.size)⟩) oM oM (zD hr0) (λj hj i v hv=>by
    obtain⟨g',o',he,hr,-,-⟩:=xK.get h (oM:j<n) hj;injection he with he
    injection he with m k
    subst m;subst k;have hi:i<33:=by
     have:=(List.getElem?_eq_some_iff.1 hv).1;simpa using this
    rw[zB hr hi,<-hv,getElem!_pos R j hj]
    simp)
  refine f.mono ?_;rintro e w' ⟨rfl,hb⟩;rw[take_of_length_le oM];exact⟨rfl,hb⟩
end
theorem bothB_drop{A:List xB}{j:Nat}(h:j<A.length):pN (A.drop j) G=(decide (A[j]∈G)||pN (A.drop (j+1)) G):=by
 rw[drop_eq_getElem_cons h];rfl
structure jJ(w:World)(g bl bg:Nat)(L G:List xB):Prop where
 blk:w.heap[g]?=some (.cells #[.map (some bl),.map (some bg)] 174 (0,0))
 live:dJ w bl L
 gone:dJ w bg G
 ne:bl≠bg
theorem qQ.raw{bl:Nat}(h:qQ w g bl bg L G):jJ w g bl bg L G:=⟨h.blk,h.live,h.gone,h.ne⟩
theorem jJ.nel{bl:Nat}(h:jJ w g bl bg L G):g≠bl:=BB h.live h.blk
theorem jJ.neg{bl:Nat}(h:jJ w g bl bg L G):g≠bg:=BB h.gone h.blk
theorem jJ.lt{w:World}{g bl bg:Nat}{L G:List xB}(h:jJ w g bl bg L G):g<w.heap.size/\bl<w.heap.size/\bg<w.heap.size :=
 ⟨(aG h.blk).1,h.live.lt,h.gone.lt⟩
theorem jJ.kept{w w':World}{g bl bg:Nat}{L G:List xB}{S:List Nat}(h:jJ w g bl bg L G)(k:z8 S w w')(hg:g∉S)(hl:bl∉S)(hb:bg∉S):jJ w' g bl bg L G :=
 ⟨(k.block g h.lt.1 hg).trans h.blk,h.live.kept k hl,h.gone.kept k hb,h.ne⟩
theorem jJ.below{w':World}{bl:Nat}(h:jJ w g bl bg L G)(k:Below w.heap.size w w'):jJ w' g bl bg L G:=h.kept (z8.of_below k) sI sI sI
theorem jJ.cell0{bl:Nat}(h:jJ w g bl bg L G):w.cell? ⟨g,0,none⟩=some (.map (some bl)):=by rw[cell_of_row w g 0 _ _ _ h.blk];rfl
theorem jJ.cell1{bl:Nat}(h:jJ w g bl bg L G):w.cell? ⟨g,1,none⟩=some (.map (some bg)):=by rw[cell_of_row w g 1 _ _ _ h.blk];rfl
theorem bload(w:World)(s:ByteArray)(hs:s.size<=1000000) :
  Calls prog 160 #[.string s] w λe w'=>∃P,e=.returned (.tuple #[.pointer P,.int .i64 (rW s.data.toList)])/\(rW s.data.toList=0->∃g bl bg,P=some ⟨g,0,none⟩/\qQ w' g bl bg (vV s.data.toList).rows (jR s.data.toList).rows/\w.heap.size<=g/\w.heap.size<=bl/\w.heap.size<=bg)/\(rW s.data.toList≠0->P=none)/\Below w.heap.size w w':=by
 obtain⟨l,hl⟩:=eX s.data.toList
 have i8:s=mkB l:=by rw[<-hl];rfl
 have k9:l.length<=1000000:=by rw[<-hl];exact hs
 have f4:=dP s w oM;rw[hl]at f4 |-;subst i8;clear hl hs;have f9:=λh:rW l=0=>Q1 h;have g0:jR l=fK (vV l).l (vV l).e:=rfl;have g1:vV l=fK l 0:=rfl;have g3:rW l=if(jR l).e≠0 then(jR l).e
  else if eP (vV l).rows=true\/eP (jR l).rows=true then 3
  else if jE (jR l).l (jR l).e≠0\/nO (vV l).rows=false\/nO (jR l).rows=false then 4
  else if pN (vV l).rows (jR l).rows=true then 4 else 0:=rfl
 obtain⟨PG,f3⟩:=eX (jR l)
 obtain⟨PA,e6⟩:=eX (vV l)
 rw[f3,e6]at g0;rw[e6]at g1;rw[f3,e6]at g3 |-;rw[f3,e6]at f9;clear e6 f3;obtain⟨A,l1,e1⟩:=PA;obtain⟨G,l2,e2⟩:=PG;dsimp only at *;have f5:=dH g3;have k3:=dH g0;have k4:=dH g1;have k2:=dH f9;clear g3 g0 g1 f9;obtain⟨g,hg⟩:=eX w.heap.size
 rw[hg]at f4 |-;have Hg:=dH hg;clear hg;go_enter func160,ntmps160
 (go_wp2_with fail);refine f4.mono ?_;rintro e w0 ⟨rfl,f8,i0⟩;have c0:=bread w0 g l 0 f8;rw[<-k4.out]at c0;dsimp only at c0;have j4:g<w0.heap.size:=f8.lt;clear f4 f8;(go_wp2_with fail);refine c0.mono ?_;rintro e w1 ⟨Aa,ca,rfl,M,h5,h6,j6,k8⟩;have N:Below g w w1:=i0.trans (h6.below oM sI);have h7:∀x∈blk Aa,x∉[g]:=λx hx=>(oS ((M.at_base hx).1));have c1:=bread w1 g l1 e1 h5;rw[<-k3.out]at c1;dsimp only at c1;clear c0 i0 h6;(go_wp2_with fail);refine c1.mono ?_;rintro e w2 ⟨Ag,cg,rfl,a1,b9,a7,j5,k7⟩;have X:xK w2 Aa A.length A:=(M.kept a7 h7).slr;have b7:xK w2 Ag G.length G:=a1.slr;have b4:Below g w w2:=N.trans (a7.below (by have:=N.size;have:=Hg.out;omega) sI);have i7:Hid (∀x∈blk Aa,x<w2.heap.size):=λx hx=>(by have:=(M.at_base hx).2;have:=a7.size;omega);have i3:Hid (∀x∈blk Ag,x<w2.heap.size):=λx hx=>(a1.at_base hx).2;clear c1 h5 a7 M a1 h7 N j6 j5 j4;by_cases he:e2=0
 ·subst he;have J:=f5.out;rw[if_neg sI]at J;have D:=dH J;clear J f5;have cA:=λw' (h':xK w' Aa A.length A)=>KO w' Aa A.length ca A h' oM;have cG:=λw' (h':xK w' Ag G.length G)=>KO w' Ag G.length cg G h' oM;cases hlA:eP A with
  | true =>
   rw[hlA]at cA;have k:=D.out;rw[if_pos (.inl hlA)]at k;have r:=dH k;clear k D hlA cG;(go_wp2_with fail);refine(xI _ g l2 0 b9).mono ?_;rintro e w3 ⟨rfl,rfl⟩;(go_wp2_with fail);refine(cA _ X).mono ?_;rintro e w4 ⟨rfl,a4⟩;(go_wp2_with fail);go_ret2;exact⟨none,by rw[r.out];rfl,λh0=>absurd (r.out.symm.trans h0) oM,λ_=>rfl,b4.trans (a4.mono (by have:=b4.size;have:=Hg.out;omega))⟩
  | false =>
   rw[hlA]at cA;cases hlG:eP G with
   | true =>
    rw[hlG]at cG;have k:=D.out;rw[if_pos (.inr hlG)]at k;have r:=dH k;clear k D hlA hlG;(go_wp2_with fail);refine(xI _ g l2 0 b9).mono ?_;rintro e w3 ⟨rfl,rfl⟩;(go_wp2_with fail);refine(cA _ X).mono ?_;rintro e w4 ⟨rfl,a4⟩;have E:xK w4 Ag G.length G:=SlR.below b7 a4;(go_wp2_with fail);refine(cG _ E).mono ?_;rintro e w5 ⟨rfl,B⟩;(go_wp2_with fail);go_ret2;exact⟨none,by rw[r.out];rfl,λh0=>absurd (r.out.symm.trans h0) oM,λ_=>rfl,b4.trans ((yM a4 B).mono (by have:=b4.size;have:=Hg.out;omega))⟩
   | false =>
    rw[hlG]at cG;have k:=D.out;rw[if_neg (by simp[hlA,hlG])]at k;have r:=dH k;have k1:=dH (tC.1 hlA);have k0:=dH (tC.1 hlG);clear k D hlA hlG;(go_wp2_with fail);refine(xI _ g l2 0 b9).mono ?_;rintro e w3 ⟨rfl,rfl⟩;(go_wp2_with fail);refine(cA _ X).mono ?_;rintro e w4 ⟨rfl,a4⟩;have E:xK w4 Ag G.length G:=SlR.below b7 a4;(go_wp2_with fail);refine(cG _ E).mono ?_;rintro e w5 ⟨rfl,B⟩;have U:xK w5 Aa A.length A:=SlR.below (SlR.below X a4) B;have Z:xK w5 Ag G.length G:=SlR.below E B;have d7:=(b9.below a4).below B;have R:Below g w w5:=b4.trans ((yM a4 B).mono (by have:=b4.size;have:=Hg.out;omega));have e0:g<=w5.heap.size:=by have:=R.size;have:=Hg.out;omega
    have f7:=(yM a4 B).size;clear X b7 E b9 b4 a4 B cA cG;have c3:=λw' (h':xK w' Aa A.length A)=>brising w' Aa A.length ca A h' oM;have L:=λw' (h':xK w' Ag G.length G)=>brising w' Ag G.length cg G h' oM;by_cases c2:jE l2 0=0
    ·have e8:=dH c2;cases hrA:nO A with
     | false =>
      rw[hrA]at c3;clear L;have d:=r.out;rw[if_pos (by simp[hrA])]at d;have m:=dH d;clear d;(go_wp2_with fail);refine(dD _ g l2 0 d7).mono ?_;rintro e w6 ⟨rfl,B⟩;rw[e8.out];have F:xK w6 Aa A.length A:=SlR.below U B;have O:xK w6 Ag G.length G:=SlR.below Z B;have V:Below g w w6:=R.trans (B.mono e0);(go_wp2_with fail);refine(c3 _ F).mono ?_;rintro e w7 ⟨rfl,a9⟩;(go_wp2_with fail);go_ret2;exact⟨none,by rw[m.out];rfl,λh0=>absurd (m.out.symm.trans h0) oM,λ_=>rfl,V.trans (a9.mono (by have:=V.size;have:=Hg.out;omega))⟩
     | true =>
      rw[hrA]at c3;cases hrG:nO G with
      | false =>
       rw[hrG]at L;have d:=r.out;rw[if_pos (by simp[hrG])]at d;have m:=dH d;clear d;(go_wp2_with fail);refine(dD _ g l2 0 d7).mono ?_;rintro e w6 ⟨rfl,B⟩;rw[e8.out];have F:xK w6 Aa A.length A:=SlR.below U B;have O:xK w6 Ag G.length G:=SlR.below Z B;have V:Below g w w6:=R.trans (B.mono e0);(go_wp2_with fail);refine(c3 _ F).mono ?_;rintro e w7 ⟨rfl,a9⟩;have Y:xK w7 Ag G.length G:=SlR.below O a9;(go_wp2_with fail);refine(L _ Y).mono ?_;rintro e w8 ⟨rfl,c8⟩;(go_wp2_with fail);go_ret2;exact⟨none,by rw[m.out];rfl,λh0=>absurd (m.out.symm.trans h0) oM,λ_=>rfl,V.trans ((yM a9 c8).mono (by have:=V.size;have:=Hg.out;omega))⟩
      | true =>
       rw[hrG]at L;have d:=r.out;rw[if_neg (by simp[hrA,hrG,c2])]at d;have m:=dH d;clear d r c2 hrA hrG;(go_wp2_with fail);refine(dD _ g l2 0 d7).mono ?_;rintro e w6 ⟨rfl,V⟩;rw[e8.out];have F:xK w6 Aa A.length A:=SlR.below U V;have O:xK w6 Ag G.length G:=SlR.below Z V;(go_wp2_with fail);refine(c3 _ F).mono ?_;rintro e w7 ⟨rfl,a9⟩;have d5:xK w7 Aa A.length A:=SlR.below F a9;have Y:xK w7 Ag G.length G:=SlR.below O a9;(go_wp2_with fail);refine(L _ Y).mono ?_;rintro e w8 ⟨rfl,c8⟩;have d4:xK w8 Aa A.length A:=SlR.below d5 c8;have d1:xK w8 Ag G.length G:=SlR.below Y c8;have b0:=yM (yM V a9) c8;have e3:Below g w w8:=R.trans (b0.mono e0);have d9:g<=w8.heap.size:=oH b0.size;have f6:w2.heap.size<=w8.heap.size:=oH b0.size;clear U Z F O d5 Y R b0 V a9 c8 c3 L d7 e0;(go_wp2_with fail);refine(bnew _).mono ?_;rintro e w9 ⟨gb,bl,bg,rfl,i5,j3,j1,j2,f1⟩;have f2:=i5.raw;have d3:xK w9 Aa A.length A:=SlR.below d4 f1;have d0:xK w9 Ag G.length G:=SlR.below d1 f1;have c4:Below g w w9:=e3.trans (f1.mono d9);have g7:g<=gb:=oM;have g5:g<=bl:=oM;have g6:g<=bg:=oM;have h4:=dH (sO:∀x,x∈[bl,bg]->g<=x);have i9:=f2.nel;have j0:=f2.neg;have i6:Hid (∀x∈blk Aa,x∉[bl,bg]):=λx hx=>(oS (i7.out x hx));have j8:Hid (∀x∈blk Ag,x∉[bl,bg]):=λx hx=>(oS (i3.out x hx));clear i5 d4 d1 e3 f1 j3 j1 j2 d9 i7 i3 f6 f7;(go_wp2_with fail);obtain⟨wo,rfl⟩:∃wo:World,wo=w9:=⟨_,rfl⟩
       go_loopw [42] (λi wr=>∃j:Nat,j<=G.length/\i=.int .i64 j/\jJ wr gb bl bg [] (G.take j)/\z8 [bl,bg] wo wr) (λi _=>G.length-(intOf i).toNat)
       case atStart=>exact⟨0,zL,rfl,f2,z8.refl _ _⟩
       case round =>
        clear f2;obtain⟨j,hj,rfl,hR,T⟩:=hrel;have d8:=hR.lt;by_cases I:j<G.length
        ·have c9:xK wr Ag G.length G:=SlR.kept d0 T j8.out;obtain⟨q,o,rfl,hrow,-,-⟩:=xK.get c9 I I;have b5:G.take (j+1)=G.take j ++ [G[j]'I]:=by rw[take_add_one,getElem?_eq_getElem I];rfl
         have b6:=k0.out _ (getElem_mem I);obtain⟨x,hx⟩:=eX (G[j]'I)
         rw[hx]at hrow b5 b6;have h3:=dH b5;have e7:=dH b6;clear hx b5 b6 c9;have N:Below wr.heap.size wr (wr.alloc (.cells (zZ x) 176)):=bA;have h1:=hR.below N;have f:z9 (wr.alloc (.cells (zZ x) 176)) wr.heap.size 0 33=some (zZ x):=by simp[go_sem]
         go_upto_region 16 with fail
         obtain⟨W1,e4⟩:=eR (wr.alloc (.cells (zZ x) 176))
         rw[<-e4]at h1 f N |-;obtain⟨a8,b8,j9,a7⟩:=rput (x:=x) (h1.gone.kept (z8.drew W1) sI) e7.out;have a3:gb∉[bg]:=by simp;exact j0
         have c7:=h1.cell1;clear e4;refine kX [bg] W1 ?_;intro c5 hS;have b1:=zF c7 a3;have b2:=zY f (S:=[bg]) sO;refine lQ ?_;intro K hK;refine zH (yA hS a7 sI) (λhS=>?_);refine hK _ _ ?_;clear hK K;refine zC ?_;intro hS;have b3:z8 [bg] W1 a8:=hS;have g2:bl∉[bg]:=by simp;exact h1.ne
         have a2:z8 [bg] wr a8:=z8.trans ((z8.of_below N).mono (S':=[bg]) sI) b3 iL;have g4:z8 [bl,bg] wo a8:=z8.trans T (a2.mono (S':=[bl,bg]) sI) iL;have g9:jJ a8 gb bl bg [] (G.take (j+1)):=by
          rw[h3.out];refine⟨(b3.block gb h1.lt.1 a3).trans h1.blk,h1.live.kept b3 g2,j9.congr λy=>?_,h1.ne⟩;rw[mem_append,mem_singleton,mem_cons,or_comm]
         clear b1 b2 a7 b8 c5 hS b3 c7 f N a2;(go_wp2_with fail);go_roundw
         case rel=>exact⟨j+1,oM,by go_num,g9,g4⟩
         case measure=>exact sZ
        ·have i2:jJ wr gb bl bg [] G:=by
          have:=hR
          rwa [take_of_length_le oM]at this
         have d6:xK wr Aa A.length A:=SlR.kept d3 T i6.out;have a5:Below g w wr:=c4.trans (T.below (by have:=c4.size;have:=Hg.out;omega) h4.out);clear hR T d3 d0 c4 d8;(go_wp2_with fail);obtain⟨wp,rfl⟩:∃wp:World,wp=wr:=⟨_,rfl⟩
         go_loopw [54] (λi wr=>∃j:Nat,j<=A.length/\i=.int .i64 j/\jJ wr gb bl bg (A.take j) G/\Hid (pN A G=pN (A.drop j) G)/\z8 [bl,bg] wp wr) (λi _=>A.length-(intOf i).toNat)
         case atStart=>exact⟨0,zL,rfl,i2,(show _=_ from rfl),z8.refl _ _⟩
         case round =>
          clear i2;obtain⟨j,hj,rfl,hR,e9,T⟩:=hrel;have d8:=hR.lt;by_cases I:j<A.length
          ·have d2:xK wr Aa A.length A:=SlR.kept d6 T i6.out;obtain⟨q,o,rfl,hrow,-,-⟩:=xK.get d2 I I;have b5:A.take (j+1)=A.take j ++ [A[j]'I]:=by rw[take_add_one,getElem?_eq_getElem I];rfl
           have b6:=k1.out _ (getElem_mem I);have t:pN A G=(decide (A[j]'I∈G)||pN (A.drop (j+1)) G):=e9.out.trans (bothB_drop I);obtain⟨x,hx⟩:=eX (A[j]'I)
           rw[hx]at hrow b5 b6 t;have h3:=dH b5;have e7:=dH b6;clear hx b5 b6 d2 e9;have N:Below wr.heap.size wr (wr.alloc (.cells (zZ x) 176)):=bA;have h1:=hR.below N;have f:z9 (wr.alloc (.cells (zZ x) 176)) wr.heap.size 0 33=some (zZ x):=by simp[go_sem]
           go_upto_region 21 with fail
           obtain⟨W1,e4⟩:=eR (wr.alloc (.cells (zZ x) 176))
           rw[<-e4]at h1 f N |-;have c7:=h1.cell1;clear e4;by_cases c6:x∈G
           ·rw[decide_eq_true c6,Bool.true_or]at t;have H:=m.out;rw[if_pos t]at H;have a6:=dH H;have hk:∀y:Subtype (Bel W1),(Instr.lookup 172 (.map (some bg)) (.agg (zZ x)) false).run prog y.1=.ok (.bool true) y.1:=λy=>rhit (h1.gone.below y.2) e7.out c6;clear H t c6;refine lX W1 ?_;intro c5 hS;have b1:=zJ c7;have b2:=zV f;refine lZ ?_;refine zC ?_;intro hS;(go_wp2_with fail);go_ret2;exact⟨none,by rw[a6.out];rfl,λh0=>absurd (a6.out.symm.trans h0) oM,λ_=>rfl,a5.trans ((T.below (by have:=a5.size;have:=Hg.out;omega) h4.out).trans ((yM N hS).mono (by have:=a5.size;have:=T.size;have:=Hg.out;omega)))⟩
           ·rw[decide_eq_false c6,Bool.false_or]at t;have k5:=dH t;have hk:∀y:Subtype (Bel W1),(Instr.lookup 172 (.map (some bg)) (.agg (zZ x)) false).run prog y.1=.ok (.bool false) y.1:=λy=>rmiss (h1.gone.below y.2) e7.out c6;clear t c6;refine lX W1 ?_;intro c5 hS;have b1:=zJ c7;have b2:=zV f;refine lZ ?_;refine zC ?_;intro hS;have f0:=qC W1;have h2:=h1.below f0;have a0:z9 W1.drew wr.heap.size 0 33=some (zZ x):=f;clear b1 b2 hk c5 hS c7 f;go_upto_region 23 with fail
            obtain⟨W2,i1⟩:=eR W1.drew
            rw[<-i1]at h2 a0 f0 |-;have h9:=h2.cell0;obtain⟨a8,b8,j7,a7⟩:=rput (x:=x) (h2.live.kept (z8.drew W2) sI) e7.out;have a3:gb∉[bl]:=by simp;exact i9
            clear i1;refine kX [bl] W2 ?_;intro c5 hS;have b1:=zF h9 a3;have b2:=zY a0 (S:=[bl]) sO;refine lQ ?_;intro K hK;refine zH (yA hS a7 sI) (λhS=>?_);refine hK _ _ ?_;clear hK K;refine zC ?_;intro hS;have b3:z8 [bl] W2 a8:=hS;have g2:bg∉[bl]:=by simp;exact λe=>h2.ne e.symm
            have a2:z8 [bl] wr a8:=z8.trans ((z8.of_below (yM N f0)).mono (S':=[bl]) sI) b3 iL;have g4:z8 [bl,bg] wp a8:=z8.trans T (a2.mono (S':=[bl,bg]) sI) iL;have g9:jJ a8 gb bl bg (A.take (j+1)) G:=by
             rw[h3.out];refine⟨(b3.block gb h2.lt.1 a3).trans h2.blk,j7.congr λy=>?_,h2.gone.kept b3 g2,h2.ne⟩;rw[mem_append,mem_singleton,mem_cons,or_comm]
            clear b1 b2 a7 b8 c5 hS b3 h9 a0 N a2 f0;(go_wp2_with fail);go_roundw
            case rel=>exact⟨j+1,oM,by go_num,g9,k5,g4⟩
            case measure=>exact sZ
          ·have e5:jJ wr gb bl bg A G:=by
            have:=hR
            rwa [take_of_length_le oM]at this
           have t:pN A G=false:=by rw[e9.out,drop_eq_nil_of_le oM];rfl
           have H:=m.out;rw[if_neg (by rw[t];simp)]at H;obtain⟨_,p2,p3,_,p5,p6,p7⟩:=k2.out H;have i4:qQ wr gb bl bg A G:=⟨e5.blk,e5.live,e5.gone,e5.ne,p5,p6,p2,p3,p7⟩
           have a6:=dH H;have k6:=dH i4;have g8:Below g w wr:=a5.trans (T.below (by have:=a5.size;have:=Hg.out;omega) h4.out);clear p2 p3 p5 p6 p7 i4 H t e5 hR e9 T;(go_wp2_with fail);go_ret2;exact⟨some ⟨gb,0,none⟩,by rw[a6.out];rfl,λ_=>⟨gb,bl,bg,rfl,k6.out,g7,g5,g6⟩,λh0=>absurd a6.out h0,g8⟩
    ·have h8:jE l2 0=4:=by
      unfold jE at c2 |-;rw[if_pos rfl]at c2 |-;split
      ·rename_i h;rw[if_pos h]at c2;exact absurd rfl c2
      ·rfl
     have e8:=dH h8;clear c3 L;have d:=r.out;rw[if_pos (by simp[h8])]at d;have m:=dH d;clear d;(go_wp2_with fail);refine(dD _ g l2 0 d7).mono ?_;rintro e w6 ⟨rfl,B⟩;rw[e8.out];have F:xK w6 Aa A.length A:=SlR.below U B;have O:xK w6 Ag G.length G:=SlR.below Z B;have V:Below g w w6:=R.trans (B.mono e0);(go_wp2_with fail);go_ret2;exact⟨none,by rw[m.out];rfl,λh0=>absurd (m.out.symm.trans h0) oM,λ_=>rfl,V⟩
 ·have l3:(e2==0)=false:=by simpa using he
  have l0:(e2 != 0)=true:=by simpa using he
  have J:=f5.out;rw[if_pos he]at J;have D:=dH J;have He:=dH he;clear J f5 he;(go_wp2_with fail);refine(xI _ g l2 e2 b9).mono ?_;rintro e w3 ⟨rfl,rfl⟩;(go_wp2_with fail);refine(xI _ g l2 e2 b9).mono ?_;rintro e w3 ⟨rfl,rfl⟩;(go_wp2_with fail);go_ret2;exact⟨none,by rw[D.out];rfl,λh0=>absurd (D.out.symm.trans h0) He.out,λ_=>rfl,b4⟩
structure Rds where
 rows:List Row
 l:List UInt8
 e:Int
def nW(l:List UInt8)(e:Int):Row:=⟨txV l e,txV (txL l e) (txE l e),(yZ 4 (txL (txL l e) (txE l e)) (txE (txL l e) (txE l e)):Int),
 xQ (yX 32 (zM 4 (txL (txL l e) (txE l e)) (txE (txL l e) (txE l e))) (zN 4 (txL (txL l e) (txE l e)) (txE (txL l e) (txE l e))))⟩
def XQ(l:List UInt8)(e:Int):List UInt8:=zM 32 (zM 4 (txL (txL l e) (txE l e)) (txE (txL l e) (txE l e))) (zN 4 (txL (txL l e) (txE l e)) (txE (txL l e) (txE l e)))
def XR(l:List UInt8)(e:Int):Int:=zN 32 (zM 4 (txL (txL l e) (txE l e)) (txE (txL l e) (txE l e))) (zN 4 (txL (txL l e) (txE l e)) (txE (txL l e) (txE l e)))
def wX(s:Rds):Rds:=⟨s.rows ++ [nW s.l s.e],XQ s.l s.e,XR s.l s.e⟩
def jS:Nat->Rds->Rds
 | 0,s=>s
 | k+1,s=>if s.e=0 then jS k (wX s)else s
def yQ(l:List UInt8):Rds:=jS (yZ 4 l 0) ⟨[],zM 4 l 0,zN 4 l 0⟩
theorem fO(k:Nat)(s:Rds)(h:s.e≠0):jS k s=s:=by
 cases k with
 | zero=>rfl
 | succ k=>unfold jS;rw[if_neg h]
theorem mE(k:Nat)(s:Rds)(h:s.e=0):jS (k+1) s=jS k (wX s):=by rw[jS,if_pos h]
def kt(R:List Row):Prop:=∀x∈R,x.key.size<=255/\x.val.size<=255
theorem js{R:List Row}(h:kt R)(l:List UInt8)(e:Int):kt (R ++ [nW l e]):=λx hx=>by
 rcases mem_append.1 hx with h' | h'
 ·exact h x h'
 ·simp at h';subst h';exact⟨wF _ _,wF _ _⟩
def fQ:List Row->Int
 | []=>0
 | x :: l=>if j4 x.key (g7 x)=0 then fQ l else j4 x.key (g7 x)
def kG:List Row->Bool
 | []=>true
 | [_]=>true
 | x :: y :: l=>bltS x.key y.key&&kG (y :: l)
def nB(l:List UInt8):Int :=
 if(yQ l).e≠0 then(yQ l).e
 else if fQ (yQ l).rows≠0 then fQ (yQ l).rows
 else if kG (yQ l).rows=false then 4
 else if(yQ l).l = []then 0 else 4
theorem rowC_set1(k v v':ByteArray)(n:Int)(d:zA):(vK ⟨k,v,n,d⟩).setIfInBounds 1 (.string v')=vK ⟨k,v',n,d⟩:=by
 apply Array.ext';simp[vK]
theorem rowC_set2(k v:ByteArray)(n n':Int)(d:zA):(vK ⟨k,v,n,d⟩).setIfInBounds 2 (.int .i64 n')=vK ⟨k,v,n',d⟩:=by
 apply Array.ext';simp[vK]
theorem rowC_set3(k v:ByteArray)(n:Int)(d d':zA):((vK ⟨k,v,n,d⟩).toList.take (3+0)++(idC d').toList++(vK ⟨k,v,n,d⟩).toList.drop (3+0+(idC d').toList.length)).toArray=vK ⟨k,v,n,d'⟩:=by
 apply Array.ext';have h1:(idC d').toList.length=32:=sI;have h2:(idC d).toList.length=32:=sI;rw[h1];have e:(vK ⟨k,v,n,d⟩).toList = [.string k,.string v,.int .i64 n]++(idC d).toList:=by simp[vK]
 have e':(vK ⟨k,v,n,d'⟩).toList = [.string k,.string v,.int .i64 n]++(idC d').toList:=by simp[vK]
 rw[e,e'];simp[drop_eq_nil_of_le,h2]
structure Nm where
 key:ByteArray
 set:yV
def nmC(x:Nm):Array Value:=#[.string x.key]++zK x.set
@[simp] theorem eL(x:Nm):(nmC x).size=35:=by simp[nmC]
@[go_sem] theorem nmC_g0(x:Nm):(nmC x)[0]?=some (.string x.key):=by first | (simp[nmC,Array.getElem?_append];done) | (rw[show nmC x=((#[]:Array Value)) ++ #[.string x.key]++(zK x.set)from by apply Array.ext';simp[nmC]];exact xJ _ _ _ _ sI)
@[go_sem] theorem nmC_gg0(x:Nm)(h:0<(nmC x).size):(nmC x)[0]'h=.string x.key:=Option.some.inj ((Array.getElem?_eq_getElem h).symm.trans (nmC_g0 x))
@[go_sem] theorem nmC_e1(x:Nm):(nmC x).extract 1 35=zK x.set:=by
 have h:nmC x=(#[.string x.key])++zK x.set++((#[]:Array Value)):=by first | (simp[nmC,Array.append_assoc];done) | (apply Array.ext';simp[nmC];done)
 rw[h];exact bZ _ _ _ _ _ sI sI
@[go_sem] theorem nmC_all(x:Nm):(nmC x).extract 0 35=nmC x:=by have:=Array.extract_size (xs:=nmC x);rwa [eL]at this
theorem nmC_one(x:Nm):∀u∈(nmC x).toList,u.oneCell'=true:=by
 intro u hu;simp only[nmC,Array.toList_append,mem_append]at hu;rcases hu with hu | hu
 ·simp at hu;subst hu;rfl
 ·exact eD _ u hu
def nm0:Nm:=⟨⟨#[]⟩,vS⟩
theorem Nm_ext{x y:Nm}(h:x.key=y.key/\x.set=y.set):x=y:=by cases x;cases y;simp_all
instance:DecidableEq Nm:=λx y=>if h:x.key=y.key/\x.set=y.set then isTrue (Nm_ext h)else isFalse (λe=>h (by subst e;simp))
theorem infoNm:(prog.info? 295).map (·.size)=some 35:=kR
@[go_sem ↓] theorem zeroNm_run(w:World):(zeroValue 295).run prog w=.ok (.agg (nmC nm0)) w:=by
 have h:(prog.info? 295).bind (·.zero)=some (.agg (nmC nm0)):=kR;cases hi:prog.info? 295 with
 | none=>rw[hi]at h;cases h
 | some i =>
  rw[hi]at h;have hz:i.zero=some (.agg (nmC nm0)):=h;simp[zeroValue,typeInfo,hi,hz]
@[go_sem ↓] theorem loadNm_rw(a:Addr):loadVar 295 a=ldS 295 a:=rfl
@[go_sem ↓] theorem storeNm_rw(a:Addr)(v:Value):storeVar 295 a v=stS 295 a v:=rfl
@[go_sem] theorem loadNm_run(w:World)(g o:Nat):(ldS 295 ⟨g,o,none⟩).run prog w=match z9 w g o 35 with | some cs=>.ok (.agg cs) w | none=>(loadVar 295 ⟨g,o,none⟩).run prog w :=
 jD underlying295 rfl infoNm w g o
@[go_sem] theorem storeNm_run(w:World)(g:Nat)(hg:g=w.heap.size)(z:Array Value)(hz:z.size=35)(x:Nm)(e:TypeId):(stS 295 ⟨g,0,none⟩ (.agg (nmC x))).run prog (w.alloc (.cells z e))=.ok () (w.alloc (.cells (nmC x) e)) :=
 hg ▸ xW infoNm w z (nmC x) hz (eL x) (nmC_one x)
@[go_sem ↓] theorem buildNm_rw(parts:Array (Nat×Value)):Instr.build 295 parts=bdS 295 parts:=rfl
def qo(x:Row):Nm:=⟨x.key,g7 x⟩
theorem einfoNm:yT prog 292 295 35 72 :=
 .of (z:=.agg (nmC nm0)) underlying292 kR kR kR (eL _) oM
@[go_sem ↓] theorem bsNm_rw(n:Nat)(parts:Array (Nat×Value)):Instr.buildSlice 292 n parts=bsS 292 n parts:=rfl
@[go_sem] theorem bsNm_run(w:World)(x:Nm):(bsS 292 1 #[(0,.agg (nmC x))]).run prog w=.ok (.slice (some ⟨w.heap.size,0,none⟩) 1 1) (w.alloc (.cells (nmC x) 295)) :=
 gS einfoNm oM w (nmC x) (eL x)
theorem nm_row(x:Row):nmC (qo x)=vK x:=by
 unfold nmC qo vK g7 zK;apply Array.ext';simp
theorem rowC_set0(k k' v:ByteArray)(n:Int)(d:zA):(vK ⟨k,v,n,d⟩).setIfInBounds 0 (.string k')=vK ⟨k',v,n,d⟩:=by
 apply Array.ext';simp[vK]
theorem copy_id_l{k:ByteArray}{n:Int}(b:List UInt8)(hb:b.length=32\/b = [])(ty:TypeId)(c:Nat)(h:w.heap[g]?=some (.cells (vK ⟨k,v,n,id0⟩) 295 (0,0))) :
  ∃w' m,(Builtin.copy_ #[127,9] ty #[.slice (some ⟨g,3,none⟩) 32 c,.string (mkB b)]).run prog w=.ok m w'/\w'.heap[g]?=some (.cells (vK ⟨k,v,n,xQ b⟩) 295 (0,0))/\z8 [g] w w':=by
 rcases hb with hb | hb
 ·have hs:(mkB b).size=32:=by rw[gV,hb]
  have h1:=Go.Lib.run_copy_row_string (P:=prog) w 127 9 ty 5 g 3 32 c (mkB b) _ _ underlying127 kR h oM (by rw[hs];simp);refine⟨_,_,h1,?_,⟨rfl,rfl,rfl,by simp[setRow],λx _ hx=>setRow_other w g x _ (by simpa using hx)⟩⟩;rw[setRow_heap w g _ _ _ _ h];have e3:=rowC_set3 k v n id0 (xQ b);have e:(xQ b).l=b:=by unfold xQ;rw[dif_pos hb]
  have e2:(idC (xQ b)).toList=Go.Lib.byteCells (mkB b).data.toList:=by unfold idC;rw[e];rfl
  rw[e2]at e3;have e4:(Go.Lib.byteCells (mkB b).data.toList).length=32:=by rw[<-e2];simp
  rw[e4]at e3;rw[hs];simp only[Nat.add_zero]at e3;rw[e3]
 ·subst hb;have h1:=Go.Lib.run_copy_empty_string (P:=prog) w 127 9 ty 5 (some ⟨g,3,none⟩) 32 c (mkB []) underlying127 kR rfl;exact⟨_,_,h1,h,z8.refl _ _⟩
def BO(R:List Row):List (Array Value):=R.map λx=>nmC (qo x)
theorem lread(w:World)(g:Nat)(l:List UInt8)(c1:q7 w g l 0) :
  Calls prog 209 #[.pointer (some ⟨g,0,none⟩)] w λe w'=>∃A cap,e=.returned (.slice A (yQ l).rows.length cap)/\Own w' w.heap.size 295 35 A (yQ l).rows.length cap (BO (yQ l).rows)/\q7 w' g (yQ l).l (yQ l).e/\z8 [g] w w'/\kt (yQ l).rows:=by
 have c0:=kH _ _ l 0 c1;have hN:=xL 4 l 0;obtain⟨N,d8⟩:=eX (yZ 4 l 0)
 have f6:Hid (yQ l=jS N ⟨[],zM 4 l 0,zN 4 l 0⟩):=by show _=_;rw[<-d8];rfl
 rw[d8]at c0 hN;clear d8;have k0:=c1.lt;go_enter func209,ntmps209
 (go_wp2_with fail);refine c0.mono ?_;rintro e w1 ⟨rfl,g1,c8⟩;have h5:=dH c8;have Z:=c8.size;clear c0 c1 c8;(go_wp2_with fail);go_loopw [3,5] (λout i wr=>∃(k:Nat) (R:List Row) (l1:List UInt8) (e1:Int) (A1:Option Addr) (F:Nat),k<=N/\i=.int .i64 k/\out=.slice A1 R.length F/\R.length=k/\Own wr w1.heap.size 295 35 A1 R.length F (BO R)/\q7 wr g l1 e1/\Hid (jS N ⟨[],zM 4 l 0,zN 4 l 0⟩=jS (N-k) ⟨R,l1,e1⟩)/\Hid (kt R)/\z8 [g] w1 wr) (λ_ i _=>N-(intOf i).toNat)
 case atStart=>exact⟨0,[],_,_,none,0,zL,rfl,rfl,rfl,Own.nil _ _ _ _,g1,(show _=_ from rfl),(show kt [] by intro x hx;cases hx),z8.refl _ _⟩
 case round =>
  clear g1;obtain⟨k,R,l1,e1,A1,F,j8,rfl,rfl,g7,m,hr,b1,b2,hk⟩:=hrel;have j4:=dH g7;have k3:R.length<=N:=oM;clear g7;have j7:=hk.size;by_cases hgo:k<N/\e1=0
  ·obtain⟨i2,rfl⟩:=hgo;have M:=b1.out;rw[(oM:N-k=(N-(k+1))+1),mE _ _ rfl]at M;have j1:=dH M;have a5:=js b2.out l1 0;have h6:=dH a5;clear b1 M b2 a5;have j9:=hr.lt;have i4:g∉blk A1:=λhx=>(oH ((m.at_base hx).1));have h8:=heap_alloc_new wr (.cells (vK xf) 295);have f9:=hr.kept (z8.alloc wr (.cells (vK xf) 295)) sI;have g4:z8 [] wr (wr.alloc (.cells (vK xf) 295)):=z8.alloc _ _;have c3:nmC nm0=vK xf:=nm_row xf;(go_wp2_with fail);refine(xI _ g l1 0 hr).mono ?_;rintro e w5 ⟨rfl,rfl⟩;go_upto_region 7 with fail
   obtain⟨g8,d4⟩:=eX wr.heap.size
   rw[d4]at h8 |-;have k1:g<g8:=oM;have j3:=dH d4;clear d4 hr c3;generalize wr.alloc (.cells (vK xf) 295)=W at *;have d0:g8<W.heap.size:=(aG h8).1;have G:g8∉[g]:=sO;have b0:g∉[g8]:=sO;(go_wp2_with fail);refine(fL _ g l1 0 f9).mono ?_;rintro e w2 ⟨rfl,g0,g5⟩;have i1:=xL 1 l1 0;(go_wp2_with fail);refine(dC _ g _ _ _ g0 oM).mono ?_;rintro e w3 ⟨rfl,U,a0⟩;have e0:q7 w3 g (txL l1 0) (txE l1 0):=U;have T:z8 [g] W w3:=z8.trans g5 a0 iL;have b7:=(T.block g8 d0 G).trans h8;obtain⟨kv,c6⟩:=eX (mkB (yX (yZ 1 l1 0) (zM 1 l1 0) (zN 1 l1 0)))
   have j2:=dH (show txV l1 0=kv from c6);rw[c6];obtain⟨l2,c5⟩:=eX (txL l1 0)
   obtain⟨e2,d6⟩:=eX (txE l1 0)
   rw[c5,d6]at e0;have e8:=dH c5;have f3:=dH d6;have x0:w3.cell? ⟨g8,0,none⟩=some (.string ⟨#[]⟩):=by rw[cell_of_row w3 g8 _ _ _ _ b7];simp[vK,xf]
   have f0:w3.frozen? ⟨g8,0,none⟩=false:=by simp[frozen?,b7]
   have b6:=zE b7 0 (.string kv);rw[show xf=⟨⟨#[]⟩,⟨#[]⟩,0,id0⟩ from rfl,rowC_set0]at b6;have D:=z8.setCell w3 ⟨g8,0,none⟩ (.string kv);have h2:=e0.kept D b0;have a3:z8 [g,g8] W (w3.setCell ⟨g8,0,none⟩ (.string kv)):=z8.trans (T.mono (S':=[g,g8]) sI) (D.mono (S':=[g,g8]) sI) iL;clear g0 f9 U g5 a0 c6 c5 d6 e0 i1 b7 D T h8;go_upto_region 8 with fail
   generalize w3.setCell ⟨g8,0,none⟩ (.string kv)=W4 at *;clear x0 f0;have d3:g8<W4.heap.size:=(aG b6).1;(go_wp2_with fail);refine(fL _ g l2 e2 h2).mono ?_;rintro e w5 ⟨rfl,f8,g3⟩;have i0:=xL 1 l2 e2;(go_wp2_with fail);refine(dC _ g _ _ _ f8 oM).mono ?_;rintro e w6 ⟨rfl,f7,g2⟩;have d9:q7 w6 g (txL l2 e2) (txE l2 e2):=f7;have O:z8 [g] W4 w6:=z8.trans g3 g2 iL;have b5:=(O.block g8 d3 G).trans b6;obtain⟨vv,b9⟩:=eX (mkB (yX (yZ 1 l2 e2) (zM 1 l2 e2) (zN 1 l2 e2)))
   have i9:=dH (show txV l2 e2=vv from b9);rw[b9];obtain⟨l3,c4⟩:=eX (txL l2 e2)
   obtain⟨e3,d5⟩:=eX (txE l2 e2)
   rw[c4,d5]at d9;have e7:=dH c4;have e9:=dH d5;have x1:w6.cell? ⟨g8,1,none⟩=some (.string ⟨#[]⟩):=by rw[cell_of_row w6 g8 _ _ _ _ b5];simp[go_sem]
   have f1:w6.frozen? ⟨g8,1,none⟩=false:=by simp[frozen?,b5]
   have b4:=zE b5 1 (.string vv);rw[rowC_set1]at b4;have D:=z8.setCell w6 ⟨g8,1,none⟩ (.string vv);have h1:=d9.kept D b0;have a2:z8 [g,g8] W (w6.setCell ⟨g8,1,none⟩ (.string vv)):=z8.trans (z8.trans a3 (O.mono (S':=[g,g8]) sI) iL) (D.mono (S':=[g,g8]) sI) iL;clear f8 f7 g3 g2 b9 c4 d5 d9 h2 i0 O b5 b6 D a3;go_upto_region 9 with fail
   generalize w6.setCell ⟨g8,1,none⟩ (.string vv)=W7 at *;clear x1 f1;have d2:g8<W7.heap.size:=(aG b4).1;(go_wp2_with fail);refine(kH _ g l3 e3 h1).mono ?_;rintro e w8 ⟨rfl,h0,c7⟩;have b3:=(c7.block g8 d2 G).trans b4;have x2:w8.cell? ⟨g8,2,none⟩=some (.int .i64 0):=by rw[cell_of_row w8 g8 _ _ _ _ b3];simp[go_sem]
   have f2:w8.frozen? ⟨g8,2,none⟩=false:=by simp[frozen?,b3]
   obtain⟨nv,c2⟩:=eX (yZ 4 l3 e3)
   have j0:=dH c2;rw[c2];have e5:=zE b3 2 (.int .i64 nv);rw[rowC_set2]at e5;have D:=z8.setCell w8 ⟨g8,2,none⟩ (.int .i64 nv);have i7:=h0.kept D b0;have a1:z8 [g,g8] W (w8.setCell ⟨g8,2,none⟩ (.int .i64 nv)):=z8.trans (z8.trans a2 (c7.mono (S':=[g,g8]) sI) iL) (D.mono (S':=[g,g8]) sI) iL;clear h0 c7 c2 D a2 b3 b4 h1;go_upto_region 10 with fail
   generalize w8.setCell ⟨g8,2,none⟩ (.int .i64 nv)=W9 at *;clear x2 f2;have d1:g8<W9.heap.size:=(aG e5).1;have h4:=wI W9.drew g _ _ (i7.kept (z8.drew W9) sI);refine kX [g,g8] W9 ?_;intro h9 hS;refine lQ ?_;intro K hK;refine h4.mono ?_;rintro e h7 ⟨rfl,a7,X⟩;replace hS:=yA hS X sI;have e6:h7.heap[g8]?=_:=(X.block g8 d1 G).trans e5;refine⟨_,rfl,hS,hK _ _ ?_⟩;clear hK K h4;obtain⟨r,j6,i6,E,V⟩:=copy_id_l (yX 32 (zM 4 l3 e3) (zN 4 l3 e3)) (m9 _ _) 3 32 e6;refine lH ?_;intro K hK;refine zH (yA hS V sI) (λg6=>?_);refine hK _ _ ?_;clear hK K;refine zC ?_;intro hS;have H:z8 [g,g8] W9 r:=g6;have Y:=a7.kept V b0;have i5:=j3.out;have j:z8 [g,g8] wr r:=z8.trans (g4.mono (S':=[g,g8]) sI) (z8.trans a1 H iL) iL;have h3:∀x∈blk A1,x∉[g,g8]:=λx hx=>(oS (m.at_base hx));have y:=m.kept j h3;have a4:z8 [g] wr r:=j.mono (by intro x hx;simp at hx;rcases hx with rfl | rfl <;> simp;omega);have hx:nW l1 0=⟨kv,vv,(nv:Int),xQ (yX 32 (zM 4 l3 e3) (zN 4 l3 e3))⟩:=by unfold nW;rw[j2.out,e8.out,f3.out,i9.out,e7.out,e9.out,j0.out]
   have hL:XQ l1 0=zM 32 (zM 4 l3 e3) (zN 4 l3 e3):=by unfold XQ;rw[e8.out,f3.out,e7.out,e9.out]
   have g9:XR l1 0=zN 32 (zM 4 l3 e3) (zN 4 l3 e3):=by unfold XR;rw[e8.out,f3.out,e7.out,e9.out]
   rw[<-hL,<-g9]at Y;rw[<-hx]at E;obtain⟨xx,b8⟩:=eX (nW l1 0)
   rw[b8]at E h6;have i8:=dH b8;rw[<-nm_row]at E;clear b8 hx hL g9 m h3 h9 hS g6 i6 a7 X V H;have L:z9 r g8 0 35=some (nmC (qo xx)):=by unfold z9;rw[E];simp[go_sem]
   have d7:Below r.heap.size r (r.alloc (.cells (nmC (qo xx)) 295)):=bA;have d:=y.below d7;have s:z9 (r.alloc (.cells (nmC (qo xx)) 295)) r.heap.size 0 35=some (nmC (qo xx)):=by simp[go_sem]
   have f5:w1.heap.size<=r.heap.size:=oH j.size;clear y E j a1 g4;go_wp2_with (at_builtin;refine xS einfoNm rfl d rfl s (nmC_one _) oM oM sO ?_;intro j5 a8 f4 t I J)
   have c9:z8 (blk A1) r f4:=z8.trans ((z8.of_below d7).mono (S':=blk A1) sI) I iL;have e4:=Y.kept c9 i4;have i3:z8 [g] w1 f4:=z8.trans (z8.trans hk a4 iL) c9 (λx hx=>.inr (oH ((d.at_base hx).1)));rw[show BO R ++ [nmC (qo xx)]=BO (R ++ [xx]) by simp[BO]]at t;have B:(R ++ [xx]).length=R.length+1:=sI;have f:=dH B;clear B c9 I J d s d7 L Y;(go_wp2_with fail);go_roundw
   case rel=>exact⟨k+1,R ++ [xx],_,_,j5,a8,oM,by go_num,(by rw[f.out]),(by rw[f.out,j4.out]),(by rw[f.out];exact t),e4,(show _=_ by rw[j1.out];unfold wX;rw[i8.out]),h6,i3⟩
   case measure=>exact sZ
  ·have a6:yQ l=⟨R,l1,e1⟩:=by
    rw[f6.out,b1.out];by_cases he:e1=0
    ·rw[(oM:N-k=0)];rfl
    ·exact fO _ _ he
   have a9:=dH a6;clear a6 b1 f6;by_cases i2:k<N
   ·have he:e1≠0:=oM;have k2:(e1==0)=false:=by simpa using he
    clear hgo he;(go_wp2_with fail);refine(xI _ g l1 e1 hr).mono ?_;rintro e w5 ⟨rfl,rfl⟩;(go_wp2_with fail);go_ret;rw[a9.out];exact⟨A1,F,rfl,m.mono Z,hr,z8.trans h5.out hk iL,b2.out⟩
   ·clear hgo;(go_wp2_with fail);go_ret;rw[a9.out];exact⟨A1,F,rfl,m.mono Z,hr,z8.trans h5.out hk iL,b2.out⟩
end Go.Proofs.YtddopbhcpblpjaaGreatDoor
