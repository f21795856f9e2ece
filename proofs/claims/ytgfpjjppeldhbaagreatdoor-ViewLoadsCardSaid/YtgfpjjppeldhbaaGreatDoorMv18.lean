/- Part 18 of the texts that lead to this claim: the walks of the functions and the plain law, in order. -/
import Derived.Test.YtgfpjjppeldhbaaGreatDoorMv17
import Derived.LoopN
import Derived.Test.YtgfpjjppeldhbaaGreatDoorRows
import Derived.LaidLaws
import Derived.LaidHandle
import Derived.Stop.Joined
namespace Go.Proofs.YtgfpjjppeldhbaaGreatDoor
open Go.RowKit
set_option maxRecDepth 100000
set_option maxHeartbeats 8000000
def bV(k:Int)(I:List zE)(l:List UInt8)(e E:Int):Prop :=
 if e≠0 then E=e else if vO I=false then E=4 else za k l E
theorem yy{k:Int}{I:List zE}{l:List UInt8}{e E E':Int}(h:bV k I l e E)(h':bV k I l e E'):E=E':=by
 unfold bV at h h';split at h
 ·rw[if_pos ‹_›]at h';omega
 rw[if_neg ‹_›]at h';split at h
 ·rw[if_pos ‹_›]at h';omega
 rw[if_neg ‹_›]at h';exact va h h'
theorem kp(t:ByteArray)(w:World)(s:ByteArray)(I0:List zE)(l0:List UInt8)(e0:Int)(hs:s.size<=90000)(ht:t.size<=9223372036854775807)(d8:yC t≠0)(hw:0<w.heap.size)(d4:xM idP s.data.toList 0=⟨I0,l0,e0⟩) :
  Calls Tryz.prog 38 #[.string t,.string s] w λe w'=>∃P E,e=.returned (.tuple #[.pointer P,.int .i64 E])/\bV (yC t) I0 l0 e0 E/\(E≠0->P=none)/\(E=0->∃g b O v,P=some ⟨g,0,none⟩/\VAt w' g t b O I0 v (stL (yC t) l0)/\(∀x∈b :: O,w.heap.size<=x)/\w.heap.size<=g)/\Below w.heap.size w w':=by
 obtain⟨l,hl⟩:=eX s.data.toList
 have p1:l.length<=90000:=by rw[<-hl];exact hs
 have c1:=ko t w ht d8 hw;have c2:=λw=>wW s w oM;have f4:xM idP l 0=⟨I0,l0,e0⟩:=by rw[<-hl];exact d4
 have k4:e0=0->l0.length<=90000/\I0.length<=90000:=λh=>by
  have h4:=jG wN (show(xM idP l 0).e=0 by rw[f4];exact h);rw[f4]at h4;have h5:I0.length+l0.length<=l.length:=h4;omega
 rw[hl]at c2;have hN:=yI 4 l 0;obtain⟨N,g2⟩:=eX (yK 4 l 0)
 have d7:qS idP N ⟨[],zK 4 l 0,zM 4 l 0⟩=⟨I0,l0,e0⟩:=by rw[<-f4,<-g2];rfl
 rw[g2]at hN;have o6:=dH g2;have j5:=dH d7;clear hl f4 d4 g2 d7;go_enter Tryz.func38,Tryz.ntmps38
 (go_wp2_with fail);refine c1.mono ?_;rintro e w2 ⟨g,b,O0,v0,rfl,hV,c8,p4,j1⟩;(go_wp2_with fail);refine(c2 w2).mono ?_;rintro e w3 ⟨rfl,f5,e7⟩;obtain⟨gr,i5⟩:=eX w2.heap.size
 have p9:=dH i5;have l9:xE w3 g t b [] v0:=hV.view.below e7;have p5:g<gr/\b<gr:=by have h1:=hV.view.lt;have h2:=hV.view.ids.lt;omega
 have Y:=yE j1 e7;have p6:w.heap.size<=b:=c8 b sI;rw[i5]at f5 |-;have n1:w.heap.size<=gr:=oH j1.size;clear c1 c2 hV c8 j1 e7 i5;(go_wp2_with fail);refine(k5 w3 gr l 0 f5).mono ?_;rintro e w4 ⟨rfl,k0,f8⟩;rw[o6.out];have j8:=f8.size;have n6:=f5.lt;clear f5;(go_wp2_with fail);go_loopw [9,11,12] (λout i _ wr=>∃(k:Nat) (G:List zE) (l2:List UInt8) (e2:Int) (B1:Option Addr) (Z:Nat),k<=N/\i=.int .i64 k/\out=.slice B1 G.length Z/\G.length=k/\Own wr w4.heap.size 39 32 B1 G.length Z (G.map idC)/\q8 wr gr l2 e2/\Hid (qS idP N ⟨[],zK 4 l 0,zM 4 l 0⟩=qS idP (N-k) ⟨G,l2,e2⟩)/\z6 [gr] w4 wr) (λ_ i _ _=>N-(intOf i).toNat)
 case atStart=>exact⟨0,[],_,_,none,0,zL,rfl,rfl,rfl,Own.nil _ _ _ _,k0,(show _=_ from rfl),z6.refl _ _⟩
 case round =>
  clear k0;obtain⟨k,G,l2,e2,B1,Z,p3,rfl,rfl,m3,j,hr,f7,hk⟩:=hrel;have o7:=dH m3;have p8:G.length<=N:=oM;clear m3;have o9:=hk.size;have M:Hid (¬(k<N/\e2=0)->⟨G,l2,e2⟩=(⟨I0,l0,e0⟩:tG zE)):=λhn=>by
   rw[<-j5.out,f7.out];by_cases he:e2=0
   ·rw[(oM:N-k=0)];rfl
   ·exact(jK _ _ he).symm
  by_cases hgo:k<N/\e2=0
  ·obtain⟨p0,rfl⟩:=hgo;have b5:=f7.out;rw[(oM:N-k=(N-(k+1))+1),jL _ _ rfl]at b5;have j6:=dH b5;clear f7 b5 M;have i4:=hr.lt;have n9:gr∉blk B1:=λhx=>(oH ((j.at_base hx).1));have h8:=heap_alloc_new wr (.cells (idC id0) 39);have a0:=hr.kept (z6.alloc wr (.cells (idC id0) 39)) sI;have a2:z6 [] wr (wr.alloc (.cells (idC id0) 39)):=z6.alloc _ _;have R:(wr.alloc (.cells (idC id0) 39)).heap.size=wr.heap.size+1:=sI;(go_wp2_with fail);refine(qA _ gr l2 0 hr).mono ?_;rintro e w5 ⟨rfl,rfl⟩;go_upto_region 11 with fail
   obtain⟨g8,c7⟩:=eX wr.heap.size
   have o4:=dH c7;obtain⟨W,hW⟩:=eR (wr.alloc (.cells (idC id0) 39))
   rw[<-hW]at h8 a0 a2 R |-;rw[c7]at h8 i4 R |-;have i7:g8<W.heap.size:=oM;have h9:g8∉[gr]:=sO;have n3:gr∉[g8]:=sO;have o2:=dH R;clear hW c7 hr R;have c1:=tQ W.drew gr l2 0 (a0.kept (z6.drew W) sI);refine kX [gr,g8] W ?_;intro i0 hS;refine lZ ?_;refine lH ?_;intro K hK;refine c1.mono ?_;rintro en w1 ⟨rfl,k1,i3⟩;replace hS:=xA hS i3 sI;have e1:w1.heap[g8]?=_:=(i3.block g8 (by show _<W.drew.heap.size;exact i7) h9).trans h8;refine⟨_,rfl,hS,hK _ _ ?_⟩;clear hK K c1;obtain⟨w5,m2,o0,b8,f9⟩:=rY (yV 32 l2 0) (lI _ _) 3 32 e1;refine lH ?_;intro K hK;refine zG (xA hS f9 sI) (λm0=>?_);refine hK _ _ ?_;clear hK K;refine zC ?_;intro hS;have k9:z6 [gr,g8] W w5:=m0;have d5:=k1.kept f9 n3;have b3:k8 idP ⟨G,l2,0⟩=⟨G ++ [q3 (yV 32 l2 0)],zK 32 l2 0,zM 32 l2 0⟩:=rfl;rw[b3]at j6;obtain⟨d,hd⟩:=eX (q3 (yV 32 l2 0))
   rw[hd]at b8 j6;clear hd b3 o0 hS m0 i0 i3 f9 k1 e1 h8 a0;have k7:z6 [gr,g8] wr w5:=z6.trans (a2.mono (S':=[gr,g8]) sI) k9 iL;have c6:z6 [gr] wr w5:=k7.narrow (λx hx=>by have:=o4.out;simp at hx |-;omega);have a1:=j.kept c6 (λx hx=>oS ((j.at_base hx).1));have d2:z7 w5 g8 0 32=some (idC d):=by unfold z7;rw[b8];simp[go_sem]
   have a4:Below w5.heap.size w5 (w5.alloc (.cells (idC d) 39)):=bA;have f:=a1.below a4;have D:z7 (w5.alloc (.cells (idC d) 39)) w5.heap.size 0 32=some (idC d):=by simp[go_sem]
   have n0:w4.heap.size<=w5.heap.size:=oH c6.size;clear j a1 b8 k9 k7 a2;go_wp2_with (at_builtin;refine yM xI rfl f rfl D (xG _) oM oM sO ?_;intro o8 e9 j7 F a3 a8)
   have d8:z6 (blk B1) w5 j7:=z6.trans ((z6.of_below a4).mono (S':=blk B1) sI) a3 iL;have j2:=d5.kept d8 n9;have n4:z6 [gr] w4 j7:=z6.trans (z6.trans hk c6 iL) d8 (λx hx=>.inr (oH ((f.at_base hx).1)));rw[(sI:G.map idC ++ [idC d]=(G ++ [d]).map idC)]at F;have I:(G ++ [d]).length=G.length+1:=sI;have m:=dH I;clear I d8 a3 a8 f D a4 d2 d5;(go_wp2_with fail);go_roundw
   case rel=>exact⟨k+1,G ++ [d],_,_,o8,e9,oM,by go_num,(by rw[m.out]),(by rw[m.out,o7.out]),(by rw[m.out];exact F),j2,j6,n4⟩
   case measure=>exact sZ
  ·have hf:=M.out hgo;have f1:G=I0:=congrArg tG.rows hf;have f2:l2=l0:=congrArg tG.l hf;have f3:e2=e0:=congrArg tG.e hf;subst f1;subst f2;subst f3;have U:¬k<N\/(k<N/\(e2==0)=false):=by
    by_cases h1:k<N
    ·exact .inr ⟨h1,by simp;exact λh=>hgo ⟨h1,h⟩⟩
    ·exact .inl h1
   have a6:=dH U;clear hf hgo M f7 U;have l5:xE wr g t b [] v0:=l9.kept (z6.trans f8 hk iL) sO sO;have V:Below w.heap.size w wr:=(Y.trans (f8.below (oH Y.size) sO)).trans (hk.below (B:=w.heap.size) (oH Y.size) sO);have n5:gr<wr.heap.size:=hr.lt;clear l9 f8 hk Y;go_upto_region 8 with fail
   go_cut [35] (λv wx=>v=.bool false/\wr=wx)
   case first =>
    rcases a6.out with h1 | ⟨h1,h2⟩
    ·go_wp2_with fail
     go_meet
     exact⟨rfl,rfl⟩
    ·(go_wp2_with fail);refine(qA _ gr l2 e2 hr).mono ?_;rintro e w5 ⟨rfl,rfl⟩;go_wp2_with fail
     go_meet
     exact⟨rfl,rfl⟩
   case rest =>
   obtain⟨rfl,rfl⟩:=hcut;clear a6;(go_wp2_with fail);refine(qA _ gr l2 e2 hr).mono ?_;rintro e w5 ⟨rfl,rfl⟩;by_cases h3:e2≠0
   ·have e7:(e2 != 0)=true:=by simpa using h3
    have H3:=dH h3;clear h3;(go_wp2_with fail);refine(qA _ gr l2 e2 hr).mono ?_;rintro e w5 ⟨rfl,rfl⟩;(go_wp2_with fail);go_ret2;exact⟨none,e2,rfl,(if_pos H3.out).mpr rfl,λ_=>rfl,λh=>absurd h H3.out,V⟩
   have h3:e2=0:=Classical.not_not.1 h3;subst h3;obtain⟨p2,p7⟩:=k4 rfl;have ci:=aD wr B1 G.length Z G j.slr oM;obtain⟨ri,g7⟩:=eX (vO G)
   rw[g7]at ci;have m7:=dH g7;clear g7 k4;(go_wp2_with fail);refine ci.mono ?_;rintro e w5 ⟨rfl,c9⟩;cases ri with
   | false =>
    have X:=yE V c9;clear ci;(go_wp2_with fail);go_ret2;exact⟨none,4,rfl,by unfold bV;rw[if_neg sI,if_pos m7.out],λ_=>rfl,λh=>absurd h (by decide),X⟩
   | true =>
   have l8:=l5.below c9;have d5:=hr.below c9;have d6:=j.below c9;have X:=yE V c9;clear ci l5 hr j V c9;(go_wp2_with fail);refine(bI t w5 ht).mono ?_;rintro e w6 ⟨rfl,e6⟩;have l7:=l8.below e6;have g9:=d5.below e6;have f6:=d6.below e6;have e8:=yE X e6;clear l8 d5 d6 X e6;(go_wp2_with fail);refine(rd_left w6 gr l2 g9).mono ?_;rintro e w7 ⟨rfl,e5⟩;have l6:=l7.below e5;have j9:=g9.below e5;have h6:=f6.below e5;have c3:=yE e8 e5;clear l7 g9 f6 e8 e5;(go_wp2_with fail);refine(bD w7 gr _ _ 0 j9 oM).mono ?_;rintro e w8 ⟨rfl,n2,a2⟩;have m6:yV l2.length l2 0=l2:=by unfold yV;rw[if_pos ⟨rfl,lR⟩];exact List.take_length
   rw[m6];have g1:=l6.kept a2 sO sO;have k3:=h6.kept a2 (λx hx=>oS ((h6.at_base hx).1));have c0:Below w.heap.size w w8:=c3.trans (a2.below (B:=w.heap.size) (oH c3.size) sO);have n8:=g1.lt;have j0:=g1.ids.lt;have i1:1<=(yC t:Int)/\(yC t:Int)<=5:=oH (gT t);have cl:=vload_k w8 (mkB l2) (by rw[vV];omega) (yC t) i1 [b] (by simpa using j0);rw[show(mkB l2).data.toList=l2 from rfl]at cl;clear m6 l6 j9 h6 c3 n2 a2;(go_wp2_with fail);refine cl.mono ?_;rintro e w9 ⟨v,E,rfl,m4,b0,e4⟩;have m8:=dH (show bV (yC t) G l2 0 E by unfold bV;rw[if_neg sI,if_neg (by rw[m7.out];simp)];exact m4);by_cases c5:E≠0
   ·have e7:(E != 0)=true:=by simpa using c5
    have H3:=dH c5;have L:=yE c0 e4;clear c5 b0 cl;(go_wp2_with fail);go_ret2;exact⟨none,E,rfl,m8.out,λ_=>rfl,λh=>absurd h H3.out,L⟩
   have c5:E=0:=Classical.not_not.1 c5;obtain⟨O,b3,hO⟩:=b0 c5;subst c5;clear b0 m4;obtain⟨st,a9⟩:=eX (stL (yC t) l2)
   rw[a9]at b3;have j4:=dH a9;clear a9;obtain⟨ty,gs,rfl⟩:=b3.iface;have a5:=g1.below e4;have h0:=k3.below e4;have L:=yE c0 e4;have g0:=a5.ne;have f2:w9.frozen? ⟨g,2,none⟩=false:=by simp[World.frozen?,a5.blk]
   have x2:=a5.cell2;have b6:z6 [g] w9 (w9.setCell ⟨g,2,none⟩ (.iface ty (.pointer (some ⟨gs,0,none⟩)))):=z6.setCell w9 ⟨g,2,none⟩ (.iface ty (.pointer (some ⟨gs,0,none⟩)));have j3:=zA a5.blk 2 (.iface ty (.pointer (some ⟨gs,0,none⟩)));have A:=b3.kept_small b6 (λx hx=>by rw[List.mem_singleton]at hx;subst hx;exact kN a5.blk sI) (λx hx hm=>by rw[List.mem_singleton]at hm;have:=(hO x hx).1;omega);have J:bK _ b []:=a5.ids.kept b6 (by simpa using λe=>g0 e.symm);have b4:=h0.kept b6 (λx hx hm=>by rw[List.mem_singleton]at hm;have:=(h0.at_base hx).1;omega);have b9:Below w.heap.size w (w9.setCell ⟨g,2,none⟩ (.iface ty (.pointer (some ⟨gs,0,none⟩)))):=L.trans (b6.below (B:=w.heap.size) L.size sO);have c4:∀x∈O,w8.heap.size<=x/\x<(w9.setCell ⟨g,2,none⟩ (.iface ty (.pointer (some ⟨gs,0,none⟩)))).heap.size:=λx hx=>⟨(hO x hx).1,Nat.lt_of_lt_of_le (hO x hx).2 b6.size⟩;have n7:=a5.lt;have g5:=b6.size;clear cl g1 k3 c0 a5 h0 L b3 hO e4 b6;go_upto_region 21 with fail
   obtain⟨d0,a7⟩:=eX (w9.setCell ⟨g,2,none⟩ (.iface ty (.pointer (some ⟨gs,0,none⟩))))
   rw[a7]at j3 A J b4 b9 c4 g5;rw[a7];have o3:=dH A;have HO:=dH c4;have f0:=dH b9;have m9:=dH j3;have l1:b<d0.heap.size:=J.lt;clear a7 f2 x2 A c4 b9 j3;(go_wp2_with fail);go_loopw [75] (λi wr=>∃k:Nat,k<=G.length/\i=.int .i64 k/\bK wr b (G.take k)/\z6 [b] d0 wr) (λi _=>G.length-(intOf i).toNat)
   case atStart=>exact⟨0,zL,rfl,by simpa using J,z6.refl _ _⟩
   case round =>
    obtain⟨k2,f9,rfl,hid,b7⟩:=hrel;have d9:g<d0.heap.size:=(aG m9.out).1;have r:=(b7.block g d9 (by simpa using g0)).trans m9.out;have T:wr.cell? ⟨g,1,none⟩=some (.map (some b)):=by rw[cell_of_row wr g 1 _ _ _ r];rfl
    by_cases H:k2<G.length
    ·have m5:=b4.kept b7 (λx hx=>oS ((b4.at_base hx).1));obtain⟨q,o,rfl,d3⟩:=zY.get m5.slr H H;have g4:G.take (k2+1)=G.take k2 ++ [G[k2]'H]:=by rw[List.take_add_one,List.getElem?_eq_getElem H];rfl
     obtain⟨x,hx⟩:=eX (G[k2]'H)
     rw[hx]at d3 g4;have o1:=dH g4;have a4:Below wr.heap.size wr (wr.alloc (.cells (idC x) 39)):=bA;have h7:=yS.below hid a4;have i8:=(a4.cell (p:=⟨g,1,none⟩) (World.block_lt_of_cell? wr _ T)).trans T;have a0:z7 (wr.alloc (.cells (idC x) 39)) wr.heap.size 0 32=some (idC x):=by simp[go_sem]
     have k6:z6 [b] d0 (wr.alloc (.cells (idC x) 39)):=z6.trans b7 (z6.of_below a4) sI;have i9:b<wr.heap.size:=hid.lt;clear hx g4 m5;go_upto_region 24 with fail
     obtain⟨g8,c7⟩:=eX wr.heap.size
     obtain⟨W1,l4⟩:=eR (wr.alloc (.cells (idC x) 39))
     rw[<-l4]at h7 i8 a0 k6 |-;rw[c7]at a0 i9 |-;clear l4 c7 d3 T a4 hid r;obtain⟨g3,g6,d6,c6⟩:=jq (x:=x) (h7.kept (z6.drew W1) sI);have i6:g∉[b]:=by simpa using g0
     refine kX [b] W1 ?_;intro i0 hS;have b1:=zP i8 i6;have b2:=y9 a0 (S:=[b]) sO;refine lZ ?_;refine lH ?_;intro K hK;refine zG (xA hS c6 sI) (λhS=>?_);refine hK _ _ ?_;clear hK K;refine zC ?_;intro hS;have m1:z6 [b] W1 g3:=hS;have i2:z6 [b] d0 g3:=z6.trans k6 m1 iL;have f6:bK g3 b (G.take (k2+1)):=yS.congr d6 (λy=>by rw[o1.out,List.mem_append,List.mem_singleton,List.mem_cons];exact Or.comm);clear b1 b2 i0 hS c6 g6 i8 a0 d6 m1 h7;(go_wp2_with fail);go_roundw
     case rel=>exact⟨k2+1,oM,by go_num,f6,i2⟩
     case measure=>exact sZ
    ·have e2:G.take k2=G:=List.take_of_length_le oM;rw[e2]at hid;have c8:b∉O:=λhx=>(oH ((HO.out b hx).1));have d1:dM wr O (b :: O) (.iface ty (.pointer (some ⟨gs,0,none⟩))) st:=o3.out.kept b7 (λx hx hm=>by rw[List.mem_singleton]at hm;rw[hm]at hx;exact c8 hx) (λx hx=>.inl (by rw[List.mem_singleton]at hx;rw[hx];simp));have e3:VAt wr g t b O G (.iface ty (.pointer (some ⟨gs,0,none⟩))) st:=⟨⟨r,hid⟩,d1,λhx=>by
      rcases List.mem_cons.1 hx with h1 | h1
      ·exact g0 h1
      ·have:=(HO.out g h1).1;omega,c8,λx hx=>by
      have:=b7.size;rcases List.mem_cons.1 hx with h1 | h1
      ·omega
      ·have:=(HO.out x h1).2;omega,λhx=>by
      rcases List.mem_cons.1 hx with h1 | h1
      ·omega
      ·have:=(HO.out 0 h1).1;omega⟩
     have l3:Below w.heap.size w wr:=f0.out.trans (b7.below (B:=w.heap.size) f0.out.size sO);have M:=dH e3;have o5:=dH l3;clear e2 hid b7 r T e3 l3 d1 c8;(go_wp2_with fail);go_ret2;exact⟨_,0,rfl,m8.out,λh=>absurd rfl h,λ_=>⟨g,b,O,_,rfl,by rw[j4.out];exact M.out,λx hx=>by
      rcases List.mem_cons.1 hx with h1 | h1
      ·omega
      ·have:=(HO.out x h1).1;omega,oM⟩,o5.out⟩
theorem xz(t:ByteArray)(w:World)(s:ByteArray)(I0:List zE)(l0:List UInt8)(e0:Int)(hs:s.size<=90000)(ht:t.size<=9223372036854775807)(e6:yC t≠0)(m:xM idP s.data.toList 0=⟨I0,l0,e0⟩) :
  Calls Tryz.prog 39 #[.string t,.string s] w λe w'=>∃P E,e=.returned (.tuple #[.pointer P,.int .i64 E])/\bV (yC t) I0 l0 e0 E/\(E≠0->P=none)/\(E=0->∃g,P=some ⟨g,0,none⟩/\qV w' g t I0 (rvL (yC t) l0)/\w.heap.size<=g)/\Below w.heap.size w w':=by
 obtain⟨l,hl⟩:=eX s.data.toList
 have i6:l.length<=90000:=by rw[<-hl];simpa using hs
 have g8:s=mkB l:=by rw[<-hl];rfl
 rw[hl]at m;subst g8;clear hl hs;have e1:e0=0->l0.length<=90000/\I0.length<=90000:=λh=>by
  have h4:=jG wN (show(xM idP l 0).e=0 by rw[m];exact h);rw[m]at h4;have h5:I0.length+l0.length<=l.length:=h4;omega
 have c1:=v8 t w ht;have h0:((yC t:Int)==0)=false:=by rw[beq_eq_false_iff_ne];exact e6
 obtain⟨K,c7⟩:=eX (yC t)
 rw[c7]at c1 h0;have j3:=dH c7;clear c7;have hN:=yI 4 l 0;obtain⟨N2,c6⟩:=eX (yK 4 l 0)
 have U:Hid (xM idP l 0=qS idP N2 ⟨[],zK 4 l 0,zM 4 l 0⟩):=by show _=_;rw[<-c6];rfl
 go_enter Tryz.func39,Tryz.ntmps39
 (go_wp2_with fail);refine c1.mono ?_;rintro e w1 ⟨rfl,a8⟩;have a9:Below w.heap.size w (w1.alloc (.cells (rrC ⟨mkB l,0⟩) 112)):=a8.alloc a8.size _;have a3:jQ (w1.alloc (.cells (rrC ⟨mkB l,0⟩) 112)) w1.heap.size l 0:=⟨oM,heap_alloc_new w1 _⟩
 go_upto_region 4 with fail
 obtain⟨g,hg⟩:=eX w1.heap.size
 obtain⟨w2,d3⟩:=eX (w1.alloc (.cells (rrC ⟨mkB l,0⟩) 112))
 have c3:w.heap.size<=g:=oH a8.size;rw[d3]at a9 a3 |-;rw[hg]at a3 |-;clear d3 hg a8 c1;have c0:=fG w2 g l 0 a3;rw[c6]at c0 hN;clear c6;(go_wp2_with fail);refine c0.mono ?_;rintro e w3 ⟨rfl,b6,e5⟩;have f4:Below w.heap.size w w3:=a9.trans (e5.below a9.size (by simpa using c3));have X:Below w3.heap.size w3 (w3.alloc (.cells (rvC t slN 0 slN slN slN slN slN slN slN) 69)):=bA;have a4:=heap_alloc_new w3 (.cells (rvC t slN 0 slN slN slN slN slN slN slN) 69);have b5:=b6.below X;have I:=yE f4 X;have e8:=b6.lt;clear c0 a3 a9 e5;go_upto_region 6 with fail
 obtain⟨gm,e7⟩:=eX w3.heap.size
 obtain⟨w9,b3⟩:=eX (w3.alloc (.cells (rvC t slN 0 slN slN slN slN slN slN slN) 69))
 have d2:(w3.alloc (.cells #[.string t,.slice none 0 0,.int .i64 0,.slice none 0 0,.slice none 0 0,.slice none 0 0,.slice none 0 0,.slice none 0 0,.slice none 0 0,.slice none 0 0] 69))=w9:=b3;rw[d2];rw[b3]at a4 b5 I;rw[e7]at a4 e8 |-;have b8:=a4;have d5:=b5;have i9:g<gm:=e8;have h6:gm<w9.heap.size:=(aG b8).1;clear d2 b3 e7 X b6 f4 a4 b5;(go_wp2_with fail);go_loopw [9] (λjv wr=>∃(j:Nat) (G:List zE) (l3:List UInt8) (e3:Int) (A':Option Addr) (cap':Nat),j<=N2/\jv=.int .i64 j/\G.length=j/\wr.heap[gm]?=some (.cells (rvC t ⟨A',G.length,cap'⟩ 0 slN slN slN slN slN slN slN) 69 (0,0))/\Own wr w9.heap.size 39 32 A' G.length cap' (G.map idC)/\jQ wr g l3 e3/\Hid (xM idP l 0=qS idP (N2-j) ⟨G,l3,e3⟩)/\z6 [g,gm] w9 wr) (λjv _=>N2-(intOf jv).toNat)
 case atStart=>exact⟨0,[],_,_,none,0,zL,rfl,rfl,b8,Own.nil _ _ _ _,d5,(show _=_ from U.out),z6.refl _ _⟩
 case round =>
  clear d5 b8;obtain⟨j,G,l3,e3,A',cap',hj,rfl,f6,hm,f,hr,a5,hk⟩:=hrel;have i3:=dH f6;have j2:G.length<=N2:=oM;clear f6;have i4:=hk.size;obtain⟨q0,q1,_⟩:=vJ hr;by_cases hgo:j<N2/\e3=0
  ·obtain⟨i5,rfl⟩:=hgo;have R:=a5.out;rw[(oM:N2-j=(N2-(j+1))+1),jL _ _ rfl]at R;have g3:=dH R;clear a5 R;have b2:∀x∈blk A',w9.heap.size<=x/\x<wr.heap.size:=λx hx=>f.at_base hx;have j0:g<w9.heap.size:=oM;have d8:gm∉g :: blk A':=by
    intro g9;rcases List.mem_cons.1 g9 with h1 | h1
    ·omega
    ·have:=(b2 _ h1).1;omega
   have a7:g∉blk A':=λh1=>(oH ((b2 _ h1).1));have x0:wr.cell? ⟨gm,1,none⟩=some (.slice A' G.length cap'):=by rw[cell_of_row wr gm _ _ _ _ hm];rfl
   have g1:=nS wr.drew g l3 0 (hr.kept (z6.drew wr) sI);have g4:=dH hk;clear hk;go_upto_region 9 with fail
   clear q0 q1;refine kF (g :: blk A') wr ?_;intro b7 hS;have b1:=zP x0 d8;refine lZ ?_;refine lH ?_;intro K hK;refine g1.mono ?_;rintro en w4 ⟨rfl,f9,c2⟩;replace hS:=xA hS c2 sI;refine⟨_,rfl,hS,hK _ _ ?_⟩;clear hK K g1;refine lZ ?_;refine lH ?_;intro K hK;refine zG (xP hS _) (λhS=>?_);refine hK _ _ ?_;clear hK K;obtain⟨d,hd⟩:=eX (q3 (yV 32 l3 0))
   rw[hd]at hS |-;have Hd:=dH hd;clear hd;have F:z6 [g] wr w4:=z6.trans ((z6.drew wr).mono (S':=[g]) sI) c2 iL;have X:=z6.alloc w4 (.cells (idC d) 39);have M:=(f.kept F (λx hx=>oS ((b2 x hx).1))).kept X sI;have L:z7 (w4.alloc (.cells (idC d) 39)) w4.heap.size 0 32=some (idC d):=by simp[go_sem]
   have g7:=F.size;have g0:w9.heap.size<=(w4.alloc (.cells (idC d) 39)).heap.size:=oS g4.out.size;refine vW xI rfl M rfl L (xG _) oM oM g0 ?_;intro A2 r w5 y e4 Z;have T:z6 (blk A') w4 w5:=z6.trans (X.mono (S':=blk A') sI) e4 iL;have b0:z6 (g :: blk A') wr w5:=z6.trans (F.mono (S':=g :: blk A') sI) (T.mono (S':=g :: blk A') (λx hx=>.inl (List.mem_cons_of_mem _ hx))) iL;refine zG b0 (λh7=>?_);refine lZ ?_;have c5:gm<wr.heap.size:=(aG hm).1;have H:=(b0.block gm c5 d8).trans hm;have f0:w5.frozen? ⟨gm,1,none⟩=false:=by simp[World.frozen?,H]
   have d0:w5.cell? ⟨gm,1,none⟩=some (.slice A' G.length cap'):=by rw[cell_of_row w5 gm _ _ _ _ H];rfl
   refine vI ?_ ?_;(focus(simp only[yO];done));intro K hK;go_simp;refine hK _ _ ?_;clear hK K;have V:=zA H 1 (.slice A2 (G.length+1) r);replace V:(w5.setCell ⟨gm,1,none⟩ (.slice A2 (G.length+1) r)).heap[gm]?=some (.cells (rvC t ⟨A2,G.length+1,r⟩ 0 slN slN slN slN slN slN slN) 69 (0,0)):=V;have a6:=z6.setCell w5 ⟨gm,1,none⟩ (.slice A2 (G.length+1) r);have i0:=(jQ.kept f9 T a7).kept a6 sO;have N:=y.kept a6 (λx hx=>oS ((y.at_base hx).1));have h9:z6 [g,gm] w9 (w5.setCell ⟨gm,1,none⟩ (.slice A2 (G.length+1) r)):=by
    have h1:z6 [g,gm] w9 w5:=z6.trans g4.out b0 (λx hx=>by
     rcases List.mem_cons.1 hx with h | h
     ·exact .inl (by simp[h])
     ·right;exact(b2 x h).1)
    exact z6.trans h1 (a6.mono (S':=[g,gm]) sI) iL
   have d4:k8 idP ⟨G,l3,0⟩=⟨G ++ [d],zK 32 l3 0,zM 32 l3 0⟩:=by unfold k8;rw[<-Hd.out];rfl
   rw[d4]at g3;rw[(sI:G.map idC ++ [idC d]=(G ++ [d]).map idC)]at N;have A:(G ++ [d]).length=G.length+1:=sI;have k:=dH A;clear A d4 f0 d0 b1 b7 hS b0 h7 F T c2 e4 Z y M L X H a6 f9 g0 f hr hm x0;(go_wp2_with fail);go_roundw
   case rel=>exact⟨j+1,G ++ [d],_,_,A2,r,oM,by go_num,(by rw[k.out,i3.out]),(by rw[k.out];exact V),(by rw[k.out];exact N),i0,g3,h9⟩
   case measure=>exact sZ
  ·have a1:xM idP l 0=⟨G,l3,e3⟩:=by
    rw[a5.out];by_cases he:e3=0
    ·rw[(oM:N2-j=0)];rfl
    ·exact jK _ _ he
   have B:=dH a1;have J:¬j<N2\/(j<N2/\(e3==0)=false):=by
    by_cases h1:j<N2
    ·exact .inr ⟨h1,sO⟩
    ·exact .inl h1
   have O:=dH J;clear a1 a5 U J hgo;go_upto_region 7 with fail
   go_cut [31] (λv wx=>v=.bool false/\wx=wr)
   case first =>
    rcases O.out with h1 | ⟨h1,h2⟩
    all_goals
     go_wp2_with fail
     go_meet
     exact⟨rfl,rfl⟩
   case rest =>
   obtain⟨rfl,rfl⟩:=hcut;clear O;have b9:Below w.heap.size w wc:=I.trans (hk.below I.size sO);have c8:=f.slw;have a7:gm∉blk A':=λhx=>(oH ((f.at_base hx).1));have i8:=hr.lt;clear hk f I hN;by_cases h3:e3≠0
   ·have hb:(e3 != 0)=true:=by simpa using h3
    have f5:bV (yC t) I0 l0 e0 e3:=by
     have h:=B.out;rw[m]at h;have he:e0=e3:=congrArg tG.e h;unfold bV;rw[if_pos oM,he]
    have i2:=dH f5;have H3:=dH h3;clear f5 h3;go_upto_region 11 with fail
    refine lX wc ?_;intro b7 hS;have b1:=zJ q1;refine lZ ?_;refine zC ?_;intro hS;have h8:Below wc.heap.size wc wc.drew:=hS;clear hS b7 b1;(go_wp2_with fail);go_ret2;exact⟨none,e3,rfl,i2.out,λ_=>rfl,λh=>absurd h H3.out,yE b9 h8⟩
   have h3:e3=0:=Classical.not_not.1 h3;subst h3;have hf:=B.out;rw[m]at hf;have f1:I0=G:=congrArg tG.rows hf;have f2:l0=l3:=congrArg tG.l hf;have f3:e0=0:=congrArg tG.e hf;subst f1;subst f2;subst f3;obtain⟨i7,j1⟩:=e1 rfl;have x1:wc.cell? ⟨gm,1,none⟩=some (.slice A' I0.length cap'):=by rw[cell_of_row wc gm _ _ _ _ hm];rfl
   have ci:=ZR wc A' I0.length cap' I0 c8.rd oM;obtain⟨ri,b4⟩:=eX (vO I0)
   rw[b4]at ci;have g2:=dH b4;have c4:gm<wc.heap.size:=(aG hm).1;clear hf B e1 b4 m;(go_wp2_with fail);refine ci.mono ?_;rintro e w5 ⟨rfl,a2⟩;have D:=yE b9 a2;cases ri with
   | false =>
    clear ci;(go_wp2_with fail);go_ret2;exact⟨none,4,rfl,by unfold bV;rw[if_neg sI,if_pos g2.out],λ_=>rfl,λh=>absurd h (by decide),D⟩
   | true =>
   have d9:=(a2.block gm c4).trans hm;have d6:=hr.below a2;have f7:=c8.below a2;obtain⟨d0,d1,_⟩:=vJ d6;have c9:=rvinner w5 gm t ⟨A',I0.length,cap'⟩ I0 (mkB l0) (by rw[vV];omega) ht e6 d9 ⟨f7,a7⟩;rw[show(mkB l0).data.toList=l0 from rfl]at c9;have a0:w.heap.size<=gm:=oM;have g6:=D.size;clear ci hm hr c8 a7 q0 q1 x1 d9 d6 f7 b9 a2;(go_wp2_with fail);refine c9.mono ?_;rintro e w6 ⟨E,rfl,f8,d7,e2⟩;have e9:Below w.heap.size w w6:=D.trans (e2.below g6 (by simpa using a0));have g5:=dH (show bV (yC t) I0 l0 0 E by unfold bV;rw[if_neg sI,if_neg (by rw[g2.out];simp)];exact f8);have i1:=dH d7;clear c9 f8 d7 e2 D;by_cases Y:E≠0
   ·have hb:(E != 0)=true:=by simpa using Y
    have H3:=dH Y;clear Y;(go_wp2_with fail);go_ret2;exact⟨none,E,rfl,g5.out,λ_=>rfl,λh=>absurd h H3.out,e9⟩
   have Y:E=0:=Classical.not_not.1 Y;subst Y;(go_wp2_with fail);go_ret2;exact⟨_,0,rfl,g5.out,λh=>absurd rfl h,λ_=>⟨gm,rfl,i1.out sI,a0⟩,e9⟩
theorem t6{α:Type}(f:α->List UInt8)(k:Nat)(L:List α)(h:∀x∈L,k<=(f x).length):L.length*k<=(L.flatMap f).length:=by
 induction L with
 | nil=>simp
 | cons a L ih =>
  rw[List.flatMap_cons,List.length_append,List.length_cons,Nat.add_mul];have h1:=h a sI;have h2:=ih λx hx=>h x (by simp[hx]);omega
theorem BO{l:List UInt8}(h:dG l 0):rF (xK l).rows (xV l).rows=l/\KB l/\¬s8 (xK l).rows:=by
 rcases h with⟨h1,h2⟩ | ⟨_,_,h2⟩ | ⟨h1,h2,⟨h3,_⟩ | ⟨_,h4⟩⟩
 ·exact absurd h2.symm h1
 ·exact absurd h2 (by decide)
 ·refine⟨?_,h3,h2⟩;have h4:=h3.1;rw[h1]at h4;have h5:=VR h4;obtain⟨h6,h7⟩:=jS wN (show(xM idP (xK l).l (xK l).e).e=0 from h1);obtain⟨_,h8⟩:=jS mLaw (show(xM mP l 0).e=0 from h6);have f:Q6 idP (xV l).rows++(xV l).l=(xK l).l:=h7;have d:Q6 mP (xK l).rows++(xK l).l=l:=h8;rw[h5,List.append_nil]at f;rw[<-f]at d;exact d
 ·exact absurd h4 (by decide)
theorem jj{l:List UInt8}(h:loadT l=0):cM (nI l)=l:=by
 have h0:zM 4 (zK 4 l 0) (zM 4 l 0)=0:=by
  unfold loadT j4 at h;split at h
  ·assumption
  ·exact absurd h (by assumption)
 have h1:zK 4 (zK 4 l 0) (zM 4 l 0) = []:=by
  unfold loadT j4 at h;rw[if_pos h0]at h;split at h
  ·assumption
  ·cases h
 obtain⟨h2,h3⟩:=bY h0;obtain⟨_,h4⟩:=bY h2;rw[h1,List.append_nil]at h3;have ha:=yI 4 l 0;have hb:=yI 4 (zK 4 l 0) (zM 4 l 0);unfold cM nI;obtain⟨a,f⟩:=eX (yK 4 l 0)
 obtain⟨b,d⟩:=eX (yK 4 (zK 4 l 0) (zM 4 l 0))
 rw[f]at ha h4 |-;rw[d]at hb h3 |-;have e:eG (wrap64 ((a:Int)*4294967296+b))=a*4294967296+b:=by
  unfold eG wrap64;omega
 rw[e,(oM:(a*4294967296+b) / 4294967296=a),(oM:(a*4294967296+b) % 4294967296=b),h3,h4]
theorem xd(t:ByteArray)(l:List UInt8)(I:List zE)(hk:yC t≠0)(h0:za (yC t) l 0)(hl:l.length<=3000)(hI:I.length<=100) :
  Z9 t 100 I (stL (yC t) l) (rvL (yC t) l)/\stB (stL (yC t) l)=l:=by
 have hr:=gT t;have h5:yC t=1\/yC t=2\/yC t=3\/yC t=4\/yC t=5:=oM;rcases h5 with h | h | h | h | h
 ·have g:(stL (yC t) l).kind=yC t:=by rw[h];rfl
  rw[h]at h0 g |-;have h1:loadT l=0:=Eq.symm h0;exact⟨⟨⟨by rw[h];rfl,zL,zL,trivial,hI⟩,rfl,rvOk0.1 |> λ_=>⟨by simp[rvL,rv0],by simp[rvL,rv0],by simp[rvL,rv0],by simp[rvL,rv0],Ris.nil,jZ.nil,Ris.nil⟩,by simp[rvL,rv0,RV.len]⟩,jj h1⟩
 ·rw[h]at h0 |-;have h1:gS l=0:=Eq.symm h0;have d:=load_put h1;obtain⟨_,a1,a2,_,a3,a4,a5⟩:=pU h1;have n1:=t6 lE 33 (jN l).rows λx _=>(by rw[rE];omega);have n2:=t6 lE 33 (qW l).rows λx _=>(by rw[rE];omega);have n3:(lW (jN l).rows++lW (qW l).rows).length=l.length:=congrArg List.length d;unfold lW at n3;simp only[List.length_append,y6]at n3;refine⟨⟨⟨by rw[h];rfl,?_,?_,trivial,hI⟩,⟨a3,a4,λz=>Iff.rfl,λz=>⟨λhz=>⟨hz,a5 z hz⟩,λhz=>hz.1⟩⟩,⟨a1,a2,by simp[rvL,rv0],by simp[rvL,rv0],Ris.nil,jZ.nil,Ris.nil⟩,?_⟩,d⟩
  ·show(jN l).rows.length<=100;omega
  ·show(jN l).rows.length+(qW l).rows.length<=_;omega
  ·show(jN l).rows.length+(qW l).rows.length+0+0+0+0+0<=_;omega
 ·rw[h]at h0 |-;have h1:bC l=0:=Eq.symm h0;have d:=BL h1;have f:=ji h1;have n1:=t6 gK 32 ((yQ l).rows.map vX) λx hx=>by
   unfold gK;simp only[List.length_append,y6,x.2.id.h];omega
  have n3:(nV ((yQ l).rows.map vX)).length=l.length:=congrArg List.length d;unfold nV at n3;simp only[List.length_append,y6,List.length_map]at n3 n1;refine⟨⟨⟨by rw[h];rfl,?_,?_,trivial,hI⟩,⟨?_,f,?_⟩,⟨by simp[rvL,rv0],by simp[rvL,rv0],?_,by simp[rvL,rv0],Ris.nil,jZ.nil,Ris.nil⟩,?_⟩,d⟩
  ·show((yQ l).rows.map vX).length<=100;rw[List.length_map];omega
  ·show((yQ l).rows.map vX).length<=_;rw[List.length_map];omega
  ·show(yQ l).rows.map vX=(q9 (yQ l).rows).map vX;rw[aA f.1]
  ·exact λr hr=>f.2 (vX r) (List.mem_map.2 ⟨r,hr,rfl⟩)
  ·exact λr hr=>f.2 (vX r) (List.mem_map.2 ⟨r,hr,rfl⟩)
  ·show 0+0+(yQ l).rows.length+0+0+0+0<=_;omega
 ·rw[h]at h0 |-;have h1:dG l 0:=h0;obtain⟨d,⟨_,g1,g2,g3⟩,m⟩:=BO h1;have hO:Ris zI (xV l).rows:=(n6 _).1 g1;have k:∀x∈(xK l).rows,vB x:=λx hx=>Classical.byContradiction λhn=>m ⟨x,hx,hn⟩;have n1:=t6 jF 33 (xK l).rows λx _=>(by rw[n5];omega);have n2:=t6 zE.l 32 (xV l).rows λx _=>(by rw[x.h];omega);have n3:(rF (xK l).rows (xV l).rows).length=l.length:=congrArg List.length d;unfold rF tW at n3;simp only[List.length_append,y6]at n3;refine⟨⟨⟨by rw[h];rfl,?_,?_,trivial,hI⟩,⟨g2,hO,rfl,λz=>⟨λhz=>⟨hz,g3 z hz⟩,λhz=>hz.1⟩⟩,⟨by simp[rvL,rv0],by simp[rvL,rv0],by simp[rvL,rv0],λx hx=>k x hx,hO,jZ.nil,Ris.nil⟩,?_⟩,d⟩
  ·show(xK l).rows.length<=100;omega
  ·show(xK l).rows.length+(xV l).rows.length<=_;omega
  ·show 0+0+0+(xK l).rows.length+(xV l).rows.length+0+0<=_;omega
 ·rw[h]at h0 |-;have h1:mM l=0:=Eq.symm h0;have hg:=XB h1;have d:=jt hg;obtain⟨_,_,g1,g2,g3,g4⟩:=hg;have hO:Ris zI (xD l).rows:=(n6 _).1 g1;have j:bB (yN l).rows=(yN l).rows:=fT eH g2;have n1:=t6 kK 33 (yN l).rows λx _=>(by rw[nA];omega);have n2:=t6 zE.l 32 (xD l).rows λx _=>(by rw[x.h];omega);have n3:(nU (yN l).rows (xD l).rows).length=l.length:=congrArg List.length d;unfold nU tW at n3;rw[j]at n3;simp only[List.length_append,y6]at n3;refine⟨⟨⟨by rw[h];rfl,?_,?_,hO,hI⟩,⟨hO,rfl,⟨g2,g4,g3⟩,λz=>Iff.rfl⟩,⟨by simp[rvL,rv0],by simp[rvL,rv0],by simp[rvL,rv0],by simp[rvL,rv0],Ris.nil,⟨g2,g4,g3⟩,hO⟩,?_⟩,d⟩
  ·show(yN l).rows.length<=100;omega
  ·show(yN l).rows.length+(xD l).rows.length<=_;omega
  ·show 0+0+0+0+0+(yN l).rows.length+(xD l).rows.length<=_;omega
theorem chk_inc(n:Nat)(hn:n<1000):Z1 ⟨1,n,⟨#[]⟩,⟨#[]⟩,id0,[]⟩=0:=by
 unfold Z1 iV vO;simp only[kS,List.length_nil];have h1:decide ((n:Int)<2147483648)=true:=decide_eq_true oM;have h2:decide (-2147483648<=(n:Int))=true:=decide_eq_true oM;rw[h1,h2];rfl
def incL(n:Nat):List UInt8:=beL 1 1++beL 4 (n+2147483648)
theorem J8(n:Nat)(w:World)(hn:n<1000) :
  Calls Tryz.prog 41 #[.agg (zB ⟨1,n,⟨#[]⟩,⟨#[]⟩,id0,.slice none 0 0⟩)] w λe w'=>∃s:ByteArray,e=.returned (.tuple #[.string s,.int .i64 0])/\s.data.toList=incL n/\Below w.heap.size w w':=by
 have hB:Below w.heap.size w (w.alloc (.cells (zB ⟨1,n,⟨#[]⟩,⟨#[]⟩,id0,.slice none 0 0⟩) 52)):=bA;have hr:z7 (w.alloc (.cells (zB ⟨1,n,⟨#[]⟩,⟨#[]⟩,id0,.slice none 0 0⟩) 52)) w.heap.size 0 37=some (zB ⟨1,n,⟨#[]⟩,⟨#[]⟩,id0,.slice none 0 0⟩):=by simp[go_sem]
 have f:=YF ⟨1,n,⟨#[]⟩,⟨#[]⟩,id0,[]⟩ none 0 (w.alloc (.cells (zB ⟨1,n,⟨#[]⟩,⟨#[]⟩,id0,.slice none 0 0⟩) 52)) (.inl ⟨rfl,rfl,rfl,rfl,rfl⟩) SlR.nil_ sI (by rw[kS];omega) (by rw[kS];omega);rw[chk_inc n hn]at f;change Calls Tryz.prog _ #[.agg (zB ⟨1,n,⟨#[]⟩,⟨#[]⟩,id0,.slice none 0 0⟩)] _ _ at f;go_enter Tryz.func41,Tryz.ntmps41
 go_upto_region 1 with fail
 obtain⟨ga,k⟩:=eX w.heap.size
 have D:=dH k;rw[k]at hr hB |-;obtain⟨W,hW⟩:=eR (w.alloc (.cells (zB ⟨1,n,⟨#[]⟩,⟨#[]⟩,id0,.slice none 0 0⟩) 52))
 rw[<-hW]at hr hB f |-;clear hW k;(go_wp2_with fail);refine f.mono ?_;rintro e w1 ⟨rfl,r⟩;have d:z7 w1 ga 0 37=some (zB ⟨1,n,⟨#[]⟩,⟨#[]⟩,id0,.slice none 0 0⟩):=(z9 (r.block ga (zD hr)) _ _).trans hr;have B:Below ga w w1:=hB.trans (r.mono (by have:=hB.size;have:=D.out;omega));have x0:=z8 d (j:=0) oM;rw[qK,Nat.zero_add]at x0;clear hr hB f r;(go_wp2_with fail);refine(rnumP 1 1 _ (.inl rfl) oM).mono ?_;rintro e w2 ⟨s1,rfl,E,y,m⟩;have g:z7 w2 ga 0 37=some (zB ⟨1,n,⟨#[]⟩,⟨#[]⟩,id0,.slice none 0 0⟩):=(z9 (m.block ga (zD d)) _ _).trans d;have G:Below ga w w2:=B.trans (m.mono (oH (zD d)));clear d B m x0;have x0:=z8 g (j:=0) oM;have x1:=z8 g (j:=1) oM;rw[qK,Nat.zero_add]at x0;rw[j6,Nat.zero_add]at x1;have I:=dH y;have T:=dH E;clear y;have ch:=gC 1 w2 oM;rw[show xX 1=⟨#[78]⟩ from rfl]at ch;(go_wp2_with fail);refine ch.mono ?_;rintro e w3 ⟨rfl,rfl⟩;have R:(((⟨#[78]⟩:ByteArray)[0]'(by decide)).toNat:Int)=78:=rfl;have cn:=rnumP (n+2147483648) 4 w2 (.inr rfl) oM;rw[show((n+2147483648:Nat):Int)=(n:Int)+2147483648 from by omega]at cn;have J:((n:Int)+2147483648+9223372036854775808) % 18446744073709551616-9223372036854775808=(n:Int)+2147483648:=oM;have O:(((⟨#[78]⟩:ByteArray).size:Nat):Int)=1:=rfl;(go_wp2_with fail);refine wp_loop_rounds 2 ?_;rw[rounds_succ];(go_wp2_with fail);refine cn.mono ?_;rintro e w4 ⟨s2,rfl,N,t,A⟩;have F:Below ga w w4:=G.trans (A.mono (oH (zD g)));have L:(s1++s2).size<=9223372036854775807:=by rw[ByteArray.size_append];omega
 have M:¬9223372036854775807<s1.size+s2.size:=oM;have H:=dH t;clear A g x0 x1 t cn;(go_wp2_with fail);rw[rounds_succ];(go_wp2_with fail);go_ret2;refine⟨s1++s2,rfl,?_,by rw[D.out];exact F⟩;rw[ByteArray.data_append,Array.toList_append,I.out,H.out];rfl
theorem inc2_e:opE (incL 2)=0:=by decide +kernel
theorem inc2_k:(opO (incL 2)).k=1:=by decide +kernel
theorem inc2_n:(opO (incL 2)).n=2:=by decide +kernel
def ZY:zE:=⟨1 :: List.replicate 31 0,sI⟩
@[go_sem ↓] theorem buildId1v_run(w:World):(Instr.build 39 #[(0,.int .u8 1)]).run Tryz.prog w=.ok (.agg (idC ZY)) w:=kR
@[go_sem] theorem id1v_set:(idC id0).setIfInBounds 0 (.int .u8 1)=idC ZY:=by simp[idC,id0,ZY,vY,List.replicate]
def caS:ByteArray:=⟨#[99,97]⟩
theorem QP:yC caS=1:=by decide +kernel
theorem eS(w:World)(hp:xL w):Calls Tryz.prog 22 #[] w λe w'=>e=.returned (.bool true)/\Below w.heap.size w w':=by
 have U:(⟨#[99,97]⟩:ByteArray)=caS:=rfl;have c1:=yq caS w (by decide) 1 QP oM 100 (λa b gs=>gs=a.heap.size/\xO b gs 0) (λw=>(QY w).mono λe w' ⟨h1,h2,h3⟩=>⟨w.heap.size,h1,⟨rfl,h2⟩,h3⟩);go_enter Tryz.func22,Tryz.ntmps22
 (go_wp2_with fail);refine c1.mono ?_;rintro e w1 ⟨g,b,gt,w2,w3,rfl,hv,⟨Y,hT⟩,r,m,hg,a1,a2,hB⟩;have T:xO w1 gt 0:=hT.kept (z6.of_below m) sI;have f:gt≠b:=oM;have D:gt≠g:=oH hT.lt;have Z:w.heap.size<=gt:=by have:=r.size;have:=hB.size;omega
 have L:=hp.below hB;have a0:b≠0:=oH hp.lt;clear hT Y r m hg a2 c1 U;have cp:=J8 2 w1 oM;change Calls Tryz.prog _ #[.agg (zB ⟨1,2,⟨#[]⟩,⟨#[]⟩,id0,.slice none 0 0⟩)] _ _ at cp;(go_wp2_with fail);refine cp.mono ?_;rintro e w4 ⟨s,rfl,hs,k⟩;have H:=hv.below k;have R:xO w4 gt 0:=T.kept (z6.of_below k) sI;have J:=L.below k;have F:=yE hB k;clear hv T L k cp hB;have j:wT caS ⟨ZY,1,s⟩:=by
  unfold wT;simp only[hs];exact⟨inc2_e,by rw[inc2_k,QP];rfl⟩
 have I:s.size<=9223372036854775807:=by
  have:s.data.toList.length=5:=by rw[hs];rfl
  have e:s.size=s.data.toList.length:=Array.length_toList.symm;omega
 have cf:=Y6 ⟨ZY,1,s⟩ w4 g caS b [] _ H sI J a0 I (by decide)
  (λw'=>xE w' g caS b [ZY] (.iface 100 (.pointer (some ⟨gt,0,none⟩)))/\xO w' gt 2/\Below w.heap.size w w')
  (λhn=>absurd j hn)
  (λ_ w5 A c d N a4 _=>by
   have y:xO w5 gt 0:=R.kept N (by simpa using f);have hn:(opO s.data.toList).n=2:=by rw[hs];exact inc2_n
   refine(zb ⟨ZY,1,s⟩ _ A c w5 g gt caS b _ 0 d y (by rw[hn];omega) (by rw[hn];omega)).mono ?_;rintro e w6 ⟨rfl,h6,M⟩;rw[hn,show wrap64 (0+2)=2 from by decide +kernel]at h6;refine⟨rfl,d.kept M (by simpa using λe=>D e.symm) (by simpa using λe=>f e.symm),h6,?_⟩;have t:=F.trans (N.below (B:=w.heap.size) F.size (by simpa using a1));exact t.trans (M.below (B:=w.heap.size) t.size (by simpa using Z)))
 have X:=cf;clear j hs I cf J R;(go_wp2_with fail);refine X.mono ?_;rintro e w5 ⟨rfl,d,y,t⟩;clear X H F;have cv:=QX w5 g gt caS b _ 2 d y (by decide) QP;(go_wp2_with fail);refine cv.mono ?_;rintro e w6 ⟨rfl,E⟩;have G:=d.below E;have V:=yE t E;clear cv d y t E;have ch:=vhas ZY w6 g caS b _ _ G;rw[show decide (ZY∈[ZY])=true from by simp]at ch;(go_wp2_with fail);refine ch.mono ?_;rintro e w7 ⟨rfl,O⟩;have a3:=yE V O;clear ch G V O;(go_wp2_with fail);go_ret;exact⟨rfl,a3⟩
namespace LC
open Go.RowKit Go.Proofs.YtgfpjjppeldhbaaGreatDoor
def yO(cv:Op->Bool)(o:Oper):Bool :=
 match o.op with
 | .call c=>(match c.callee with | .builtin .len=>false | .builtin .cap=>false | _=>true)
 | .alloc _ | .box _ _ | .buildSlice _ _ _ | .store _ _ _ | .insert _ _ _ _ | .mapUpdate _ _ _ _ | .mapEntry _ _ _ | .entryStore _ _ _ _ | .makeMap _ _ | .makeChan _ _ | .makeSlice _ _ _ | .range _ _ | .next _ _=>true
 | op=>cv op
def jP(cv:Op->Bool)(ops:Array Oper)(i:Nat):Bool:=((ops[i]?).map (yO cv)).getD false
def XP(md:Region.Mode)(ops:Array Oper)(j p:Nat):Bool :=
 match ops[j]? with
 | some oj=>oj.after.any λe=>Region.binds md e&&e.on==p
 | none=>false
def chainB(md:Region.Mode)(cv:Op->Bool)(ops:Array Oper):Bool :=
 (List.range ops.size).all λj=>!jP cv ops j||(match (List.range j).reverse.find? (jP cv ops)with | some p=>XP md ops j p | none=>true)
section
variable {P:Program} {ops:Array Oper} {md:Region.Mode} {S:World->Prop} {cv:Op->Bool} {fb:Bool}
def jU(w:World)(v:Value):Result Next->Prop
 | .ok (.value u) w'=>w'=w/\u=v
 | .ok .skip w'=>w'=w/\v=undef
 | _=>False
def qI(P:Program)(S:World->Prop)(K:Value->World->Prop):Result Next->Prop
 | .ok (.value u) w'=>S w'/\K u w'
 | .ok .skip w'=>S w'/\K undef w'
 | .ok (.enter f args) w'=>Calls P f args w' (λe w''=>∃v,e=.returned v/\S w''/\K v w'')
 | _=>False
def cls(ops:Array Oper)(S:World->Prop)(fb:Bool)(i:Nat):World->Prop:=λw=>S w\/(fb=true/\i+1=ops.size)
def VS(md:Region.Mode)(ops:Array Oper):Bool:=decide (0<ops.size)&&Region.sinkB md ops (ops.size-1)
def lxOp(P:Program)(ops:Array Oper)(S:World->Prop)(cv:Op->Bool)(fb:Bool)(i:Nat)(K:Act->World->Prop)(a:Act)(w:World):Prop :=
 match ops[i]? with
 | none=>K a w
 | some o =>
  if Region.wanted o (yielded ops a.tmps)then
   (if yO cv o then qI P (cls ops S fb i) (λv w'=>K (a.put o.dst v) w') ((execOp a.eval o).run P w)
    else ∃v,(∀w',S w'->jU w' v ((execOp a.eval o).run P w'))/\K (a.put o.dst v) w)
  else K (a.put o.dst undef) w
def d7(P:Program)(md:Region.Mode)(ops:Array Oper)(S:World->Prop)(cv:Op->Bool)(fb:Bool)(Q:Act->World->Prop):Nat->Array Bool->Act->World->Prop
 | 0,listed,a,w=>Region.ready md ops listed = []/\Q a w
 | fuel+1,listed,a,w =>
  (Region.ready md ops listed = []->Q a w) /\
  ∀i∈Region.ready md ops listed,lxOp P ops S cv fb i (d7 P md ops S cv fb Q fuel (listed.setIfInBounds i true)) a w
structure kI(md:Region.Mode)(ops:Array Oper)(fb:Bool)(listed:Array Bool):Prop where
 inv:fb=true->VS md ops=true/\(HeadInv md ops (ops.size-1) listed\/Region.ready md ops listed = [])
def vK(P:Program)(ops:Array Oper)(S:World->Prop)(cv:Op->Bool)(o:Oper)(v:Value)(a:Act):Prop :=
 (Region.wanted o (yielded ops a.tmps)=true/\yO cv o=false/\∀w,S w->jU w v ((execOp a.eval o).run P w)) \/
 (Region.wanted o (yielded ops a.tmps)=false/\v=undef)
end
section
variable (P:Program) (S:World->Prop) (w w':World) (v u:Value) (K:Value->World->Prop) (f:FuncId) (args:Array Value)
@[go_sem] theorem iY:LC.jU w v (.ok (.value u) w')=(w'=w/\u=v):=rfl
@[go_sem] theorem ZW:LC.jU w v (.ok .skip w')=(w'=w/\v=undef):=rfl
@[go_sem] theorem Z2:LC.qI P S K (.ok (.value u) w')=(S w'/\K u w'):=rfl
@[go_sem] theorem Y2:LC.qI P S K (.ok .skip w')=(S w'/\K undef w'):=rfl
@[go_sem] theorem Z3:LC.qI P S K (.ok (.enter f args) w')=Calls P f args w' (λe d=>∃v,e=.returned v/\S d/\K v d):=rfl
end
def sM{α:Type}:List α->Nat->Option α
 | [],_=>none
 | x :: _,0=>some x
 | _ :: l,i+1=>sM l i
inductive xQ where
 | done:xQ
 | loose (i:Nat) (n:xQ):xQ
 | one (i:Nat) (n:xQ):xQ
 | two (i:Nat) (n:xQ) (j:Nat) (m:xQ):xQ
 | three (i:Nat) (n:xQ) (j:Nat) (m:xQ) (k:Nat) (l:xQ):xQ
def xQ.depth:xQ->Nat
 | .done=>0
 | .loose _ n=>n.depth+1
 | .one _ n=>n.depth+1
 | .two _ n _ m=>max n.depth m.depth+1
 | .three _ n _ m _ l=>max (max n.depth m.depth) l.depth+1
def xQ.ok(md:Region.Mode)(ops:Array Oper):xQ->Array Bool->Bool
 | .done,listed=>(Region.ready md ops listed).isEmpty
 | .loose i n,listed=>(Region.ready md ops listed).contains i&&Region.free md ops listed i&&n.ok md ops (listed.setIfInBounds i true)
 | .one i n,listed=>(Region.ready md ops listed == [i])&&n.ok md ops (listed.setIfInBounds i true)
 | .two i n j m,listed=>(Region.ready md ops listed == [i,j])&&n.ok md ops (listed.setIfInBounds i true)&&m.ok md ops (listed.setIfInBounds j true)
 | .three i n j m k l,listed=>(Region.ready md ops listed == [i,j,k])&&n.ok md ops (listed.setIfInBounds i true)&&m.ok md ops (listed.setIfInBounds j true)&&l.ok md ops (listed.setIfInBounds k true)
def k6(md:Region.Mode)(cv:Op->Bool)(ops:Array Oper)(skip:List Nat):Nat->Array Bool->xQ
 | 0,_=>.done
 | f+1,listed =>
  match (Region.ready md ops listed).find? (λi=>(!jP cv ops i||skip.contains i)&&Region.free md ops listed i)with
  | some i=>.loose i (k6 md cv ops skip f (listed.setIfInBounds i true))
  | none =>
   match Region.ready md ops listed with
   | [i]=>.one i (k6 md cv ops skip f (listed.setIfInBounds i true))
   | [i,j]=>.two i (k6 md cv ops skip f (listed.setIfInBounds i true)) j (k6 md cv ops skip f (listed.setIfInBounds j true))
   | [i,j,k]=>.three i (k6 md cv ops skip f (listed.setIfInBounds i true)) j (k6 md cv ops skip f (listed.setIfInBounds j true)) k (k6 md cv ops skip f (listed.setIfInBounds k true))
   | _=>.done
section
variable {P:Program} {ops:Array Oper} {md:Region.Mode} {S:World->Prop} {cv:Op->Bool} {fb:Bool}
def fF(P:Program)(ops:Array Oper)(S:World->Prop)(cv:Op->Bool)(fb:Bool)(i:Nat)(K:Act->World->Prop)(a:Act)(w:World):Prop :=
 match ops[i]? with
 | none=>False
 | some o=>if Region.wanted o (yielded ops a.tmps)then yO cv o=true/\qI P (cls ops S fb i) (λv w'=>K (a.put o.dst v) w') ((execOp a.eval o).run P w)else K (a.put o.dst undef) w
def gI(P:Program)(ops:Array Oper)(S:World->Prop)(cv:Op->Bool)(fb:Bool)(Q:Act->World->Prop):xQ->Act->World->Prop
 | .done,a,w=>Q a w
 | .loose i n,a,w =>
  match ops[i]? with
  | none=>False
  | some o=>if Region.wanted o (yielded ops a.tmps)then yO cv o=false/\∃v,(∀w',S w'->jU w' v ((execOp a.eval o).run P w'))/\gI P ops S cv fb Q n (a.put o.dst v) w else gI P ops S cv fb Q n (a.put o.dst undef) w
 | .one i n,a,w=>fF P ops S cv fb i (gI P ops S cv fb Q n) a w
 | .two i n j m,a,w=>fF P ops S cv fb i (gI P ops S cv fb Q n) a w/\fF P ops S cv fb j (gI P ops S cv fb Q m) a w
 | .three i n j m k l,a,w=>fF P ops S cv fb i (gI P ops S cv fb Q n) a w/\fF P ops S cv fb j (gI P ops S cv fb Q m) a w/\fF P ops S cv fb k (gI P ops S cv fb Q l) a w
structure tK(P:Program)(ops:Array Oper)(S:World->Prop)(cv:Op->Bool)(fb:Bool)(Q:Act->World->Prop)(T:xQ)(a:Act)(w:World):Prop where
 out:gI P ops S cv fb Q T a w
variable {Q:Act->World->Prop} {a:Act} {w:World} {o:Oper} {i j k:Nat} {n m l:xQ}
end
def cvOf(n:TypeId)(op:Op):Bool:=match op with | .load t _=>t==n | _=>false
end LC
def r3(t:ByteArray)(l:List UInt8)(E:Int):Prop :=
 if yC t=0 then E=9 else bV (yC t) (xM idP l 0).rows (xM idP l 0).l (xM idP l 0).e E
theorem xa{t:ByteArray}{l:List UInt8}{E E':Int}(h:r3 t l E)(h':r3 t l E'):E=E':=by
 unfold r3 at h h';split at h
 ·rw[if_pos ‹_›]at h';omega
 ·rw[if_neg ‹_›]at h';exact yy h h'
theorem yz{t:ByteArray}{l:List UInt8}(h:r3 t l 0)(hl:l.length<=3000):yC t≠0/\(xM idP l 0).rows.length<=100/\Ris zI (xM idP l 0).rows/\Z9 t 100 (xM idP l 0).rows (stL (yC t) (xM idP l 0).l) (rvL (yC t) (xM idP l 0).l)/\JK (xM idP l 0).rows (stL (yC t) (xM idP l 0).l)=l:=by
 unfold r3 at h;split at h
 ·cases h
 rename_i hk
 unfold bV at h;split at h
 ·exact absurd h.symm ‹_›
 rename_i he
 have he:(xM idP l 0).e=0:=Classical.not_not.1 he;split at h
 ·cases h
 rename_i hr
 have hr:Ris zI (xM idP l 0).rows:=(n6 _).1 (by simpa using hr);obtain⟨_,h2⟩:=jS wN he;have n1:=t6 zE.l 32 (xM idP l 0).rows λx _=>(by rw[x.h];omega);have n2:=congrArg List.length h2;unfold Q6 at n2;simp only[List.length_append,y6]at n2;have n3:(List.flatMap idP.put (xM idP l 0).rows).length=((xM idP l 0).rows.flatMap zE.l).length:=rfl;obtain⟨h3,h4⟩:=xd t (xM idP l 0).l (xM idP l 0).rows hk h oM oM;refine⟨hk,oM,hr,h3,?_⟩;unfold JK;rw[fT q6 hr,h4];exact h2
theorem yt(t:ByteArray)(w:World)(s:ByteArray)(hs:s.size<=90000)(ht:t.size<=9223372036854775807)(hw:0<w.heap.size) :
  Calls Tryz.prog 38 #[.string t,.string s] w λe w'=>∃P E,e=.returned (.tuple #[.pointer P,.int .i64 E])/\r3 t s.data.toList E/\(E≠0->P=none)/\(E=0->∃g b O v,P=some ⟨g,0,none⟩/\VAt w' g t b O (xM idP s.data.toList 0).rows v (stL (yC t) (xM idP s.data.toList 0).l)/\(∀x∈b :: O,w.heap.size<=x)/\w.heap.size<=g)/\Below w.heap.size w w':=by
 by_cases hk:yC t=0
 ·have c1:=kn t w ht hk;have hE:fL t=9:=if_pos hk;rw[hE]at c1;have HV:Hid (r3 t s.data.toList 9):=(show r3 _ _ _ by unfold r3;rw[if_pos hk])
  clear hk hE;go_enter Tryz.func38,Tryz.ntmps38
  (go_wp2_with fail);refine c1.mono ?_;rintro e w2 ⟨rfl,d⟩;clear c1;(go_wp2_with fail);go_ret2;exact⟨none,9,rfl,HV.out,λ_=>rfl,λh=>absurd h (by decide),d⟩
 ·refine(kp t w s _ _ _ hs ht hk hw rfl).mono ?_;rintro e w' ⟨P,E,rfl,h1,h2,h3,hb⟩;exact⟨P,E,rfl,by unfold r3;rw[if_neg hk];exact h1,h2,h3,hb⟩
theorem KV(t:ByteArray)(w:World)(s:ByteArray)(hs:s.size<=90000)(ht:t.size<=9223372036854775807) :
  Calls Tryz.prog 39 #[.string t,.string s] w λe w'=>∃P E,e=.returned (.tuple #[.pointer P,.int .i64 E])/\r3 t s.data.toList E/\(E≠0->P=none)/\(E=0->∃g,P=some ⟨g,0,none⟩/\qV w' g t (xM idP s.data.toList 0).rows (rvL (yC t) (xM idP s.data.toList 0).l)/\w.heap.size<=g)/\Below w.heap.size w w':=by
 by_cases hk:yC t=0
 ·have c1:=v8 t w ht;rw[hk]at c1;have HV:Hid (r3 t s.data.toList 9):=(show r3 _ _ _ by unfold r3;rw[if_pos hk])
  clear hk;go_enter Tryz.func39,Tryz.ntmps39
  (go_wp2_with fail);refine c1.mono ?_;rintro e w2 ⟨rfl,d⟩;clear c1;(go_wp2_with fail);go_ret2;exact⟨none,9,rfl,HV.out,λ_=>rfl,λh=>absurd h (by decide),d⟩
 ·refine(xz t w s _ _ _ hs ht hk rfl).mono ?_;rintro e w' ⟨P,E,rfl,h1,h2,h3,hb⟩;exact⟨P,E,rfl,by unfold r3;rw[if_neg hk];exact h1,h2,h3,hb⟩
theorem ZM(t s:ByteArray)(A:Option Addr)(n cap:Nat)(R:List yW)(w:World)(hp:xL w)(ht:t.size<=9223372036854775807)(hs:s.size<=9223372036854775807)(h:yo w A n R) :
  Calls Tryz.prog 9 #[.string t,.string s,.slice A n cap] w λe w'=>e=.returned (.bool true)/\Below w.heap.size w w':=by
 have b8:=h.rows.len;have T:=h.rows;have f8:=h.rows;have l2:=hp.lt;have c1:=vmuch w A n cap R h;clear h;go_enter Tryz.func9,Tryz.ntmps9
 (go_wp2_with fail);refine c1.mono ?_;rintro e w1 ⟨mb,rfl,M,F⟩;have d1:=hp.below F;clear c1 hp;cases mb with
 | true =>
  clear M;(go_wp2_with fail);refine(eS w1 d1).mono ?_;rintro e w2 ⟨rfl,f⟩;(go_wp2_with fail);go_ret;exact⟨rfl,yE F f⟩
 | false =>
 by_cases f7:3000<s.size
 ·have f6:(3000:Int)<(s.size:Int):=oM;clear M;(go_wp2_with fail);refine(eS w1 d1).mono ?_;rintro e w2 ⟨rfl,f⟩;(go_wp2_with fail);go_ret;exact⟨rfl,yE F f⟩
 have f6:¬(3000:Int)<(s.size:Int):=oM;have hf:=M rfl;have i9:n<=30:=oH hf.1;have r:gG w1 A n R:=SlR.below T F;have Hf:=dH hf;have N:=dH b8;have cv:=yt t w1 s oM ht (oH F.size);obtain⟨l,hl⟩:=eX s.data.toList
 have j2:l.length<=3000:=by rw[<-hl];show s.data.size<=3000;exact Nat.not_lt.1 f7
 rw[hl]at cv;have Hl:=dH hl;clear M hf b8 T f7 hl;(go_wp2_with fail);refine cv.mono ?_;rintro e w2 ⟨P,E,rfl,hE,h8,h7,f⟩;have cr:=KV t w2 s oM ht;rw[Hl.out]at cr;have HE:=dH hE;have i3:=dH h7;have i4:=dH h8;have g2:=d1.below f;clear cv hE h7 h8 d1 f6;(go_wp2_with fail);refine cr.mono ?_;rintro e w3 ⟨P',E',rfl,h9,a5,a4,V⟩;have k3:=xa h9 HE.out;subst k3;have c4:=yE F f;have a2:=yE c4 V;have d9:=g2.below V;have l3:(E' != E')=false:=sI;clear cr h9 g2;by_cases a6:E'≠0
 ·have j1:=i4.out a6;have j0:=a5 a6;subst j1;subst j0;have hz:(E' != 0)=true:=by simpa using a6
  clear a6 a5 a4;(go_wp2_with fail);refine(eS w3 d9).mono ?_;rintro e w4 ⟨rfl,D⟩;(go_wp2_with fail);go_ret;exact⟨rfl,yE a2 D⟩
 have a6:E'=0:=Classical.not_not.1 a6;subst a6;obtain⟨g,b,O,v,rfl,hV,g7,j6⟩:=i3.out rfl;obtain⟨gx,rfl,hX,j5⟩:=a4 rfl;obtain⟨hk,hI,Y,d2,Z⟩:=yz HE.out j2;have Hk:=dH hk;obtain⟨I0,b4⟩:=eX ((xM idP l 0).rows)
 obtain⟨s0,d0⟩:=eX (stL (yC t) (xM idP l 0).l)
 obtain⟨x0,d6⟩:=eX (rvL (yC t) (xM idP l 0).l)
 rw[b4,d0]at hV;rw[b4,d6]at hX;rw[b4]at hI Y;rw[b4,d0,d6]at d2;rw[b4,d0]at Z;have c0:∀x∈g :: b :: O,x<w2.heap.size:=λx hx=>by
  rcases List.mem_cons.1 hx with rfl | hx
  ·exact hV.view.lt
  ·exact hV.lt x hx
 have b9:∀x∈g :: b :: O,x≠gx:=λx hx=>(oH (c0 x hx));have e5:=hV.below V;have c3:∀x∈gx :: b :: O,w.heap.size<=x:=λx hx=>by
  have h1:=F.size;have h2:=f.size;rcases List.mem_cons.1 hx with rfl | hx
  ·omega
  ·have:=g7 x hx;omega
 have k:gG w3 A n R:=SlR.below (SlR.below r f) V;have a8:=vputT d2.toK5 oM w3 g b O v e5;have g0:(⟨(JK I0 s0).toArray⟩:ByteArray)=s:=by
  rw[Z,<-Hl.out]
 rw[g0]at a8;have i7:(s.toList==s.toList)=true:=sI;have h4:qV w3 gx t (yB zI I0) x0:=by rw[fT q6 Y];exact hX
 have i2:=dH d2;have c6:=dH b9;have a9:=dH c3;have j4:gx<w3.heap.size:=hX.lt;clear a5 a4 hk hI Y d2 Z g0 b4 d0 d6 c0 b9 c3 r hV g7 j6 hX j5 F f V c4 i3 i4;(go_wp2_with fail);refine a8.mono ?_;rintro e w4 ⟨rfl,D⟩;have h5:=e5.below D;have h3:=h4.below D;have g1:=d9.below D;have j:gG w4 A n R:=SlR.below k D;have a1:=yE a2 D;clear a8 e5 h4 d9 k a2 D;go_upto_region 12 with fail
 clear i7;go_loopw [11] (λiv wr=>∃(i:Nat) (I:List zE) (s:VSt) (x:RV),i<=n/\iv=.int .i64 i/\VAt wr g t b O I v s/\qV wr gx t (yB zI I) x/\Hid (Z9 t (100+i) I s x)/\z6 (gx :: b :: O) w4 wr) (λiv _=>n-(intOf iv).toNat)
 case atStart=>exact⟨0,I0,s0,x0,zL,rfl,h5,h3,i2,z6.refl _ _⟩
 case round =>
  clear h5 h3 i2;obtain⟨i,I,s',x,hi,rfl,hV,hX,HT,b3⟩:=hrel;have d8:xL wr:=g1.kept b3 (λh0=>oH (a9.out 0 h0));by_cases b0:i<n
  ·obtain⟨gm,om,rfl,J,hid,c2⟩:=gG.get j b0 (by rw[N.out];exact b0);have j7:gm<w.heap.size:=by
    obtain⟨g9,o9,e9,i8⟩:=SlR.at_ f8 b0;injection e9 with e9;injection e9 with e9 _
    subst e9;exact zD i8
   have g4:=Hf.out.2 (R[i]'(by rw[N.out];exact b0)) (List.getElem_mem (by rw[N.out];exact b0));obtain⟨m,hm⟩:=eX (R[i]'(by rw[N.out];exact b0))
   rw[hm]at J g4;have a0:gm∉gx :: b :: O:=λhx=>(oH (a9.out gm hx));have b6:z7 wr gm (om+i*34) 34=some (zN m):=(b3.row (zD J) a0 _ _).trans J;have i1:=λw' (h':VAt w' g t b O I v s') (hp':xL w')=>KL m w' g t b O I v s' h' hp' oM ht HT.out.kind.symm (oH HT.out.len);have i0:=λw' (h':qV w' gx t (yB zI I) x)=>J5 m w' gx t I x h' (oH HT.out.ids) oM ht HT.out.ok (oH HT.out.xlen);have e6:=HT.out.step m;obtain⟨fb,e3⟩:=eX (!decide (m.id∈I))
   have j8:(fb != fb)=false:=sI;obtain⟨I',d3⟩:=eX (nQ m I)
   obtain⟨s2,d7⟩:=eX (cC t m I s')
   obtain⟨x',b5⟩:=eX (cB t m I x)
   rw[e3,d3,d7]at i1;rw[e3,d3,b5]at i0;rw[d3,d7,b5]at e6;have k7:=dH e6;have f0:=dH (show gx∉b :: O from λhx=>c6.out gx (List.mem_cons_of_mem _ hx) rfl);have f1:=dH a0;clear hm J hid c2 g4 e3 d3 d7 b5 e6 HT a0 j7;go_upto_region 14 with fail
   have b1:=y9 b6 (S:=gx :: b :: O) f1.out;refine v9 (.loose 0 (.loose 1 (.loose 2 (.loose 3 (.loose 4 (.loose 6 (.loose 7 (.loose 8 (.loose 9 (.loose 10 (.one 5 (.one 11 (.loose 12 .done))))))))))))) (Kp (gx :: b :: O) wr) false kR kR kR kR (bN (gx :: b :: O) wr) ?_;have e0:=nC (gx :: b :: O) wr;have hS:=bN (gx :: b :: O) wr;refine tZ ?_;refine tH ?_;intro K hK;refine(i1 _ (hV.below (yZ wr)) (d8.below (yZ wr))).mono ?_;rintro e f5 ⟨rfl,h6,e2⟩;have e4:qV f5 gx t (yB zI I) x:=(hX.below (yZ wr)).kept_small e2 (hV.below (yZ wr)).small f0.out;have e8:Kp (gx :: b :: O) wr f5:=z6.trans hS e2 (λy hy=>.inl (List.mem_cons_of_mem _ hy));refine⟨_,rfl,e8,hK _ _ ?_⟩;clear hK K hS;have hS:=e8;clear e8;refine tH ?_;intro K hK;refine(i0 _ e4).mono ?_;rintro e d4 ⟨rfl,k1,e1⟩;have k2:VAt d4 g t b O I' v s2:=h6.kept_small e1 (λy hy=>by rw[List.mem_singleton]at hy;rw[hy];exact e4.small) (λy hy hm=>c6.out y hy (List.mem_singleton.1 hm));have e7:Kp (gx :: b :: O) wr d4:=z6.trans hS e1 (λy hy=>.inl (by rw[List.mem_singleton.1 hy];exact List.mem_cons_self));refine⟨_,rfl,e7,hK _ _ ?_⟩;clear hK K hS h6 e4 e2 e1;have hS:=e7;clear e7;refine tZ ?_;refine fS ?_;intro hS;have j3:z6 (gx :: b :: O) w4 d4:=z6.trans b3 hS (λy hy=>.inl hy);clear hS b3 e0 b1;(go_wp2_with fail);go_roundw
   case rel=>exact⟨i+1,I',s2,x',oM,by go_num,k2,k1,dH (by rw[(oM:100+(i+1)=100+i+1)];exact k7.out),j3⟩
   case measure=>exact sZ
  ·have L:100+i<=200:=oM;have a7:=λw' h'=>vval_t HT.out.toK5 ht L w' g b O v h';have H:=λw' h' b5=>rval_t HT.out ht Hk.out L w' g gx b O v (yB zI I) h' b5;have G:=λw' A B m m' c c' hx hy=>same_t w' s'.kind s'.num A B m m' c c' s'.pairs hx hy;have c5:=λw' h'=>vids_t HT.out.toK5 L w' g b O v h';have X:=λw' A B m m' c c' hx hy=>sameI_t w' A B m m' c c' (yB zI I) hx hy;obtain⟨XA,xm,xc,i6,d5⟩:=hX.ids_t HT.out.toK5 L;obtain⟨kd,g5⟩:=eX s'.kind
   obtain⟨nm,g3⟩:=eX s'.num
   rw[g5,g3]at a7 H G;have f3:=dH a7;have c9:=dH H;have c8:=dH G;have f4:=dH c5;have c7:=dH X;have j9:Below w.heap.size w wr:=a1.trans (b3.below a1.size a9.out);have f2:=dH (show ∀w',Below wr.heap.size wr w'->VAt w' g t b O I v s' from λw' a3=>hV.below a3);have k4:=dH (show ∀w',Below wr.heap.size wr w'->qV w' gx t (yB zI I) x from λw' a3=>hX.below a3);have k5:=dH (show ∀w',Below wr.heap.size wr w'->zY w' XA xm (yB zI I)/\xm<=1000000 from λw' a3=>⟨SlR.below d5.1 a3,d5.2⟩);have k6:=dH (show ∀w',Below wr.heap.size wr w'->xL w' from λw' a3=>d8.below a3);clear a7 H G c5 X g5 g3 b3 a1 g1 j hV hX d5 d8 f8;go_upto_region 16 with fail
   have b2:=zJ i6;refine v9 (.loose 0 (.loose 2 (.one 1 (.one 3 (.one 4 (.loose 5 (.loose 6 (.loose 8 (.loose 9 (.loose 10 (.loose 11 (.one 7 (.one 12 (.loose 13 (.loose 14 (.one 15 (.loose 16 (.loose 17 .done)))))))))))))))))) (Bel wr) false kR kR kR kR (yZ wr) ?_;have e0:=wQ wr;have hS:=yZ wr;refine tZ ?_;refine tH ?_;intro K hK;refine(f3.out _ (f2.out _ hS)).mono ?_;rintro e l1 ⟨A1,m1,l6,rfl,U,F⟩;have d:=vC hS F;refine⟨_,rfl,d,hK _ _ ?_⟩;clear hK K hS F;have hS:=d;clear d;refine tH ?_;intro K hK;refine(c9.out _ (f2.out _ hS) (k4.out _ hS)).mono ?_;rintro e i5 ⟨A2,m2,l5,rfl,b7,f⟩;have f9:vS i5 A1 m1 s'.pairs/\m1<=1000000:=⟨SlR.below U.1 f,U.2⟩
   have d:=vC hS f;refine⟨_,rfl,d,hK _ _ ?_⟩;clear hK K hS f U;have hS:=d;clear d;refine tH ?_;intro K hK;refine(c8.out _ _ _ _ _ _ _ f9 b7).mono ?_;rintro e l0 ⟨rfl,V⟩;have d:=vC hS V;refine⟨_,rfl,d,hK _ _ ?_⟩;clear hK K hS V f9 b7;have hS:=d;clear d;refine tZ ?_;refine tH ?_;intro K hK;refine(f4.out _ (f2.out _ hS)).mono ?_;rintro e k9 ⟨A3,m3,l4,rfl,g6,D⟩;have d:=vC hS D;refine⟨_,rfl,d,hK _ _ ?_⟩;clear hK K hS D;have hS:=d;clear d;refine tH ?_;intro K hK;refine(c7.out _ _ _ _ _ _ _ g6 (k5.out _ hS)).mono ?_;rintro e k8 ⟨rfl,g8⟩;have d:=vC hS g8;refine⟨_,rfl,d,hK _ _ ?_⟩;clear hK K hS g8 g6;have hS:=d;clear d;refine tZ ?_;refine tH ?_;intro K hK;refine(eS _ (k6.out _ hS)).mono ?_;rintro e w' ⟨rfl,hb⟩;replace hS:=vC hS hb;refine⟨_,rfl,hS,hK _ _ ?_⟩;clear hK K hb;refine tZ ?_;refine fS ?_;intro hS;have k0:=yE j9 (show Below wr.heap.size wr _ from hS);clear hS e0 b2;(go_wp2_with fail);go_ret;exact⟨rfl,k0⟩
section
open Go.ChangeShapes Go.WideShapes Go.RowKit
theorem ZT{W:World}(h:laidMetH Tryz.prog [("petrel/op.parts",Rows.laid_petrel_op_parts)] W):xL W:=by
 have h':laidMet Tryz.prog [("petrel/op.parts",Lib.tabData .i64 [0,1,4,20,7,22,12,8])] W:=h;have hT:=Lib.tabIs_of_head (P:=Tryz.prog) (g:=0) (t:=285) (e:=3) (n:=8) kR kR Tryz.underlying285 Tryz.underlying3 kR kR h';intro k hk;have hc:=hT.cell (g:=0) kR k (by simpa using hk);rw[hc];have h8:k=0\/k=1\/k=2\/k=3\/k=4\/k=5\/k=6\/k=7:=oM;rcases h8 with rfl | rfl | rfl | rfl | rfl | rfl | rfl | rfl <;> rfl
def YV(P:Program)(os:Os):World:=(World.holding P os ⟨#[],#[],[]⟩).setRow 0 #[.int .i64 0,.int .i64 1,.int .i64 4,.int .i64 20,.int .i64 7,.int .i64 22,.int .i64 12,.int .i64 8]
theorem ZX(os:Os)(args:Array Value):laidMetH Tryz.prog [("petrel/op.parts",Rows.laid_petrel_op_parts)] ((YV Tryz.prog os).forCall (λ_ _=>0) ⟨#[],args,[]⟩).memory:=by
 show laidMet Tryz.prog [("petrel/op.parts",Rows.laid_petrel_op_parts)] _;exact laidMet_of_run' 8 kR kR
theorem XS{H:Type}{enc:TypeId×Value->H}{P:Program}{w:World}{g:Nat->Bool}{gs:List (DataW H)}{q:List MemPlace}(hV:DataW.TrodVars enc P w g [] gs q):gs = []/\q = []:=by
 cases gs with
 | nil=>exact⟨rfl,hV⟩
 | cons g r=>exact absurd hV (by intro h;cases h)
end
end Go.Proofs.YtgfpjjppeldhbaaGreatDoor
