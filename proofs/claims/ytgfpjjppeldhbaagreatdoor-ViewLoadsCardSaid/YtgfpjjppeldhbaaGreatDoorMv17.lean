/- Part 17 of the texts that lead to this claim: the walks of the functions and the plain law, in order. -/
import Derived.Test.YtgfpjjppeldhbaaGreatDoorMv16
namespace Go.Proofs.YtgfpjjppeldhbaaGreatDoor
open Go.RowKit
set_option maxRecDepth 100000
set_option maxHeartbeats 8000000
structure RMp where
 x:Value
 o:Value
def d9(x:RMp):Array Value:=#[x.x] ++ #[x.o]
def B8:RMp:=⟨(.slice none 0 0),(.slice none 0 0)⟩
@[go_sem ↓] theorem loadRMp_rw(a:Addr):loadVar 64 a=ldS 64 a:=rfl
@[go_sem ↓] theorem storeRMp_rw(a:Addr)(v:Value):storeVar 64 a v=stS 64 a v:=rfl
@[go_sem ↓] theorem buildRMp_rw(parts:Array (Nat×Value)):Instr.build 64 parts=bdS 64 parts:=rfl
@[go_sem] theorem buildRMp_e(w:World):(bdS 64 #[]).run Tryz.prog w=.ok (.agg (d9 B8)) w:=kR
@[go_sem] theorem buildRMRow_0(a0:zE)(w:World):(bdS 210 #[(0,.agg (idC a0))]).run Tryz.prog w=.ok (.agg (zF ⟨a0,⟨#[]⟩,⟨#[]⟩⟩)) w:=by
 refine qP w mK _ (nM w) _ (cO w) [(0,.agg (idC a0))] _ ?_;rw[show zF fB=(#[]:Array Value)++idC id0++(#[.string ⟨#[]⟩]++(#[.string ⟨#[]⟩]))from by apply Array.ext';simp[zF,fB]];rw[yJ (off:=0) (size:=32) rfl sI sI (by simp[Value.cells])];simp only[Instr.fill,zF];congr 1;apply Array.ext';simp[Value.cells]
theorem qo(a b c:Value):(d9 ⟨a,b⟩).setIfInBounds 0 c=d9 ⟨c,b⟩:=by
 apply Array.ext';simp[d9]
theorem qn(a b c:Value):(d9 ⟨a,b⟩).setIfInBounds 1 c=d9 ⟨a,c⟩:=by
 apply Array.ext';simp[d9]
theorem rmload(w:World)(s:ByteArray)(hs:s.size<=90000) :
  Calls Tryz.prog 178 #[.string s] w λe w'=>∃P E,e=.returned (.tuple #[.pointer P,.int .i64 E])/\dG s.data.toList E/\(E=0->∃g A n cap A' n' cap',P=some ⟨g,0,none⟩/\w'.heap[g]?=some (.cells (d9 ⟨.slice A n cap,.slice A' n' cap'⟩) 64 (0,0))/\SlW w' A n cap 34 ((xK s.data.toList).rows.map zF)/\SlW w' A' n' cap' 32 ((xV s.data.toList).rows.map idC)/\∀x,x∈blk A\/x∈blk A'->w.heap.size<=x)/\(E≠0->P=none)/\Below w.heap.size w w':=by
 obtain⟨l,hl⟩:=eX s.data.toList
 have x2:l.length<=90000:=by rw[<-hl];simpa using hs
 have s1:s=mkB l:=by rw[<-hl];rfl
 rw[hl];subst s1;clear hl hs;have f1:Below w.heap.size w ((w.alloc (.cells (rrC ⟨mkB l,0⟩) 112)).alloc (.cells (d9 B8) 64)):=(bA).alloc sI _;have c3:jQ ((w.alloc (.cells (rrC ⟨mkB l,0⟩) 112)).alloc (.cells (d9 B8) 64)) w.heap.size l 0:=⟨oM,by rw[Below.heap_alloc _ _ _ sI];exact heap_alloc_new w _⟩
 have f7:((w.alloc (.cells (rrC ⟨mkB l,0⟩) 112)).alloc (.cells (d9 B8) 64)).heap[w.heap.size+1]?=some (.cells (d9 B8) 64 (0,0)):=by
  have:=heap_alloc_new (w.alloc (.cells (rrC ⟨mkB l,0⟩) 112)) (.cells (d9 B8) 64);simpa using this
 have hN:=yI 4 l 0;obtain⟨N,n5⟩:=eX (yK 4 l 0)
 have o9:Hid (xK l=qS mP N ⟨[],zK 4 l 0,zM 4 l 0⟩):=by show _=_;rw[<-n5];rfl
 go_enter Tryz.func178,Tryz.ntmps178
 go_upto_region 3 with fail
 obtain⟨g,hg⟩:=eX w.heap.size
 have Hg:=dH hg;rw[hg]at f1 c3 f7 |-;obtain⟨gm,p6⟩:=eX (g+1)
 obtain⟨w0,o8⟩:=eX ((w.alloc (.cells (rrC ⟨mkB l,0⟩) 112)).alloc (.cells (d9 B8) 64))
 rw[o8]at f1 c3 f7 |-;rw[p6]at f7 |-;have x6:g<gm:=oM;clear hg o8 p6;have c0:=fG w0 g l 0 c3;rw[n5]at c0 hN;clear n5;(go_wp2_with fail);refine c0.mono ?_;rintro e w1 ⟨rfl,p1,b8⟩;have l7:=(b8.block gm (aG f7).1 sO).trans f7;have m9:Below g w w1:=f1.trans (b8.below (by have:=f1.size;have:=Hg.out;omega) sI);clear c0 c3 f1 f7 b8;have t0:gm<w1.heap.size:=(aG l7).1;(go_wp2_with fail);go_loopw [7,8] (λi _ wr=>∃(k:Nat) (R:List xW) (l1:List UInt8) (e1:Int) (A1:Option Addr) (Y:Nat),k<=N/\i=.int .i64 k/\R.length=k/\wr.heap[gm]?=some (.cells (d9 ⟨.slice A1 R.length Y,.slice none 0 0⟩) 64 (0,0))/\Own wr w1.heap.size 210 34 A1 R.length Y (R.map zF)/\jQ wr g l1 e1/\Hid (xK l=qS mP (N-k) ⟨R,l1,e1⟩)/\Hid (ZF R)/\z6 [g,gm] w1 wr) (λi _ _=>N-(intOf i).toNat)
 case atStart=>exact⟨0,[],_,_,none,0,zL,rfl,rfl,l7,Own.nil _ _ _ _,p1,(show _=_ from o9.out),(show ZF [] by intro x hx;cases hx),z6.refl _ _⟩
 case round =>
  clear p1 l7;obtain⟨k,R,l1,e1,A1,Y,x4,rfl,q4,hm,F,hr,c4,k4,hk⟩:=hrel;have v1:=dH q4;have y0:R.length<=N:=oM;clear q4;have s0:=hk.size;obtain⟨q0,q1,_⟩:=vJ hr;by_cases hgo:k<N/\e1=0
  ·obtain⟨a0,rfl⟩:=hgo;have a4:=c4.out;rw[(oM:N-k=(N-(k+1))+1),jL _ _ rfl]at a4;have g1:=dH a4;have i7:=aP k4.out l1 0;have k7:=dH i7;clear c4 a4 k4 i7;have s7:=hr.lt;have t2:g∉gm :: blk A1:=by
    intro hx;rcases List.mem_cons.1 hx with h1 | h1
    ·omega
    ·have:=(F.at_base h1).1;omega
   (go_wp2_with fail);refine(nS _ g l1 0 hr).mono ?_;rintro e w6 ⟨rfl,f9,m1⟩;obtain⟨d,hd⟩:=eX (q3 (yV 32 l1 0))
   rw[hd];have Hd:=dH hd;have h8:=heap_alloc_new w6 (.cells (zF ⟨d,⟨#[]⟩,⟨#[]⟩⟩) 210);have n9:=jQ.kept f9 (z6.alloc w6 (.cells (zF ⟨d,⟨#[]⟩,⟨#[]⟩⟩) 210)) sI;have m0:z6 [g] wr (w6.alloc (.cells (zF ⟨d,⟨#[]⟩,⟨#[]⟩⟩) 210)):=z6.trans m1 (z6.alloc w6 _) sI;have s2:=m1.size;clear hd f9 m1 hr q0 q1;go_upto_region 8 with fail
   obtain⟨g8,p7⟩:=eX w6.heap.size
   obtain⟨W,hW⟩:=eX (w6.alloc (.cells (zF ⟨d,⟨#[]⟩,⟨#[]⟩⟩) 210))
   rw[hW]at h8 n9 m0;rw[hW];rw[p7]at h8 s2 |-;have g7:g8∉[g]:=sO;have p2:g∉[g8]:=sO;clear hW p7;have l5:=yI 1 (zK 32 l1 0) (zM 32 l1 0);(go_wp2_with fail);refine(n4 _ g _ _ n9).mono ?_;rintro e w2 ⟨rfl,g6,e0⟩;(go_wp2_with fail);refine(tA _ g _ _ _ g6 oM).mono ?_;rintro e w3 ⟨rfl,g5,i2⟩;have j0:jQ w3 g (txL (zK 32 l1 0) (zM 32 l1 0)) (txE (zK 32 l1 0) (zM 32 l1 0)):=g5;have a5:z6 [g] W w3:=z6.trans e0 i2 iL;have d5:=(a5.block g8 (aG h8).1 g7).trans h8;obtain⟨kv,e6⟩:=eX (mkB (yV (yK 1 (zK 32 l1 0) (zM 32 l1 0)) (zK 1 (zK 32 l1 0) (zM 32 l1 0)) (zM 1 (zK 32 l1 0) (zM 32 l1 0))))
   have r3:=dH (show txV (zK 32 l1 0) (zM 32 l1 0)=kv from e6);rw[e6];have x0:w3.cell? ⟨g8,32,none⟩=some (.string ⟨#[]⟩):=by rw[cell_of_row w3 g8 _ _ _ _ d5];simp[go_sem]
   have f0:w3.frozen? ⟨g8,32,none⟩=false:=by simp[World.frozen?,d5]
   have c2:=zA d5 32 (.string kv);rw[cR]at c2;have X:=z6.setCell w3 ⟨g8,32,none⟩ (.string kv);have c1:=j0.kept X p2;have a6:z6 [g,g8] W (w3.setCell ⟨g8,32,none⟩ (.string kv)):=z6.trans (a5.mono (S':=[g,g8]) sI) (X.mono (S':=[g,g8]) sI) iL;clear g6 g5 e0 i2 e6 j0 l5 d5 X a5 n9 h8;go_upto_region 9 with fail
   obtain⟨V,hV⟩:=eX (w3.setCell ⟨g8,32,none⟩ (.string kv))
   rw[hV]at c2 c1 a6;rw[hV];have p4:z6 [g,g8] wr V:=z6.trans (m0.mono (S':=[g,g8]) sI) a6 iL;have q8:=c1;have o0:=c2;clear hV x0 f0 c2 c1 a6 m0;have l5:=yI 1 (txL (zK 32 l1 0) (zM 32 l1 0)) (txE (zK 32 l1 0) (zM 32 l1 0));(go_wp2_with fail);refine(n4 _ g _ _ q8).mono ?_;rintro e w2 ⟨rfl,g6,e0⟩;(go_wp2_with fail);refine(tA _ g _ _ _ g6 oM).mono ?_;rintro e w3 ⟨rfl,g5,i2⟩;have j0:jQ w3 g (txL (txL (zK 32 l1 0) (zM 32 l1 0)) (txE (zK 32 l1 0) (zM 32 l1 0))) (txE (txL (zK 32 l1 0) (zM 32 l1 0)) (txE (zK 32 l1 0) (zM 32 l1 0))):=g5;have a5:z6 [g] V w3:=z6.trans e0 i2 iL;have d5:=(a5.block g8 (aG o0).1 g7).trans o0;obtain⟨vv,e6⟩:=eX (mkB (yV (yK 1 (txL (zK 32 l1 0) (zM 32 l1 0)) (txE (zK 32 l1 0) (zM 32 l1 0))) (zK 1 (txL (zK 32 l1 0) (zM 32 l1 0)) (txE (zK 32 l1 0) (zM 32 l1 0))) (zM 1 (txL (zK 32 l1 0) (zM 32 l1 0)) (txE (zK 32 l1 0) (zM 32 l1 0)))))
   have r2:=dH (show txV (txL (zK 32 l1 0) (zM 32 l1 0)) (txE (zK 32 l1 0) (zM 32 l1 0))=vv from e6);rw[e6];have x0:w3.cell? ⟨g8,33,none⟩=some (.string ⟨#[]⟩):=by rw[cell_of_row w3 g8 _ _ _ _ d5];simp[go_sem]
   have f0:w3.frozen? ⟨g8,33,none⟩=false:=by simp[World.frozen?,d5]
   have c2:=zA d5 33 (.string vv);rw[cQ]at c2;have X:=z6.setCell w3 ⟨g8,33,none⟩ (.string vv);have c1:=j0.kept X p2;have a6:z6 [g,g8] V (w3.setCell ⟨g8,33,none⟩ (.string vv)):=z6.trans (a5.mono (S':=[g,g8]) sI) (X.mono (S':=[g,g8]) sI) iL;clear g6 g5 e0 i2 e6 j0 l5 d5 X a5 q8 o0;go_upto_region 10 with fail
   obtain⟨Z,hZ⟩:=eX (w3.setCell ⟨g8,33,none⟩ (.string vv))
   rw[hZ]at c2 c1 a6;rw[hZ];have g9:z6 [g,g8] wr Z:=z6.trans p4 a6 iL;clear hZ x0 f0 a6 p4;have r0:∀x∈blk A1,x∉[g,g8]:=λx hx=>(oS (F.at_base hx));have d7:=F.kept g9 r0;have k2:=(g9.block gm (aG hm).1 sO).trans hm;have i3:z6 [g] wr Z:=g9.mono (by intro x hx;simp at hx;rcases hx with rfl | rfl <;> simp;omega);have hx:mP.one l1 0=⟨d,kv,vv⟩:=by
    show(⟨q3 (yV 32 l1 0),txV (zK 32 l1 0) (zM 32 l1 0),txV (txL (zK 32 l1 0) (zM 32 l1 0)) (txE (zK 32 l1 0) (zM 32 l1 0))⟩:xW)=_;rw[Hd.out,r3.out,r2.out]
   have g2:k8 mP ⟨R,l1,0⟩=⟨R ++ [⟨d,kv,vv⟩],txL (txL (zK 32 l1 0) (zM 32 l1 0)) (txE (zK 32 l1 0) (zM 32 l1 0)),txE (txL (zK 32 l1 0) (zM 32 l1 0)) (txE (zK 32 l1 0) (zM 32 l1 0))⟩:=by unfold k8;rw[hx];rfl
   rw[g2]at g1;rw[hx]at k7;obtain⟨xx,o7⟩:∃xx:xW,⟨d,kv,vv⟩=xx:=⟨_,rfl⟩
   rw[o7]at c2 k7 g1;clear o7 hx r0 g2 Hd r3 r2;have d6:z7 Z g8 0 34=some (zF xx):=by unfold z7;rw[c2];simp[go_sem]
   have k3:gm∉blk A1:=λh1=>(oH ((F.at_base h1).1));have t5:g8∉blk A1:=λh1=>(oH ((F.at_base h1).2));have x0:Z.cell? ⟨gm,0,none⟩=some (.slice A1 R.length Y):=by rw[cell_of_row Z gm _ _ _ _ k2];simp[d9]
   have r8:w1.heap.size<=Z.heap.size:=oH g9.size;have g0:∀x∈blk A1,w1.heap.size<=x:=λx hx=>(F.at_base hx).1;have k6:=dH (z6.trans (hk.mono (S':=[g,gm]) sI) (i3.mono (S':=[g,gm]) sI) iL);clear F c2 g9 hm i3 hk;refine kF (blk A1) Z ?_;intro d8 hS;have b1:=zP x0 k3;have b2:=y9 d6 t5;refine lZ ?_;refine lH ?_;intro K hK;refine zG (xP hS _) (λhS=>?_);refine hK _ _ ?_;clear hK K;have e9:=z6.alloc Z.drew (.cells (zF xx) 210);have O:=(d7.kept (z6.drew Z) sI).kept e9 sI;have M:z7 (Z.drew.alloc (.cells (zF xx) 210)) Z.drew.heap.size 0 34=some (zF xx):=by simp[go_sem]
   refine vW v6 rfl O rfl M (j3 _) oM oM sO ?_;intro A2 J w5 B i1 a9;have b9:z6 (blk A1) Z w5:=z6.trans (z6.trans ((z6.drew Z).mono (S':=blk A1) sI) (e9.mono (S':=blk A1) sI) iL) i1 iL;refine zG b9 (λn1=>?_);refine lZ ?_;have e8:gm<Z.heap.size:=(aG k2).1;have I:=(b9.block gm e8 k3).trans k2;have f0:w5.frozen? ⟨gm,0,none⟩=false:=by simp[World.frozen?,I]
   have d0:w5.cell? ⟨gm,0,none⟩=some (.slice A1 R.length Y):=by rw[cell_of_row w5 gm _ _ _ _ I];simp[d9]
   refine vI ?_ ?_;(focus(simp only[yO];done));intro K hK;go_simp;refine hK _ _ ?_;clear hK K;have b6:=zA I 0 (.slice A2 (R.length+1) J);rw[qo]at b6;have X:=z6.setCell w5 ⟨gm,0,none⟩ (.slice A2 (R.length+1) J);have f9:=(jQ.kept c1 b9 (λh1=>t2 (List.mem_cons_of_mem _ h1))).kept X sO;have T:=B.kept X (λx hx=>oS ((B.at_base hx).1));have n6:z6 [g,gm] w1 (w5.setCell ⟨gm,0,none⟩ (.slice A2 (R.length+1) J)):=z6.trans (z6.trans k6.out b9 (λx hx=>.inr (g0 x hx))) (X.mono (S':=[g,gm]) sI) iL;rw[(sI:R.map zF ++ [zF xx]=(R ++ [xx]).map zF)]at T;have D:(R ++ [xx]).length=R.length+1:=sI;have f:=dH D;clear D f0 d0 b1 b2 d8 hS b9 n1 i1 a9 B O M e9 I X c1 d7 k2 x0 d6;(go_wp2_with fail);go_roundw
   case rel=>exact⟨k+1,R ++ [xx],_,_,A2,J,oM,by go_num,(by rw[f.out,v1.out]),(by rw[f.out];exact b6),(by rw[f.out];exact T),f9,g1,k7,n6⟩
   case measure=>exact sZ
  ·have b7:xK l=⟨R,l1,e1⟩:=by
    rw[c4.out];by_cases he:e1=0
    ·rw[(oM:N-k=0)];rfl
    ·exact jK _ _ he
   have a7:=dH b7;have k7:=dH k4.out;have L:¬k<N\/(k<N/\(e1==0)=false):=by
    by_cases h1:k<N
    ·exact .inr ⟨h1,sO⟩
    ·exact .inl h1
   have U:=dH L;clear b7 c4 o9 k4 L hgo;go_upto_region 5 with fail
   go_cut [30] (λv wx=>v=.bool false/\wx=wr)
   case first =>
    rcases U.out with h1 | ⟨h1,h2⟩
    all_goals
     go_wp2_with fail
     go_meet
     exact⟨rfl,rfl⟩
   case rest =>
   obtain⟨rfl,rfl⟩:=hcut;clear U q0 q1;have l9:Below g w wc:=m9.trans (hk.below (by have:=m9.size;have:=Hg.out;omega) sO);have c9:=fG wc g l1 e1 hr;have t4:=yI 4 l1 e1;obtain⟨N2,f3⟩:=eX (yK 4 l1 e1)
   have g4:Hid (xV l=qS idP N2 ⟨[],zK 4 l1 e1,zM 4 l1 e1⟩):=by show _=_;rw[<-f3];unfold xV;rw[a7.out];rfl
   rw[f3]at t4 c9;clear f3;(go_wp2_with fail);refine c9.mono ?_;rintro e w9 ⟨rfl,p0,i0⟩;have i5:gm<wc.heap.size:=(aG hm).1;have l6:=(i0.block gm i5 sO).trans hm;have a8:=F.kept i0 (λx hx=>oS ((F.at_base hx).1));have j1:∀x∈blk A1,x<w9.heap.size/\w1.heap.size<=x:=λx hx=>⟨(a8.at_base hx).2,(a8.at_base hx).1⟩;have o6:=dH j1;have c5:Below g w w9:=l9.trans (i0.below (by have:=l9.size;have:=Hg.out;omega) sI);have t1:gm<w9.heap.size:=(aG l6).1;have r7:w1.heap.size<=w9.heap.size:=by have h1:=i0.size;have h2:=hk.size;omega
   clear c9 hr hm F hk i0 l9 i5 j1;(go_wp2_with fail);go_loopw [10] (λjv wr=>∃(j:Nat) (G:List zE) (l3:List UInt8) (e3:Int) (A':Option Addr) (cap':Nat),j<=N2/\jv=.int .i64 j/\G.length=j/\wr.heap[gm]?=some (.cells (d9 ⟨.slice A1 R.length Y,.slice A' G.length cap'⟩) 64 (0,0))/\Own wr w9.heap.size 39 32 A' G.length cap' (G.map idC)/\jQ wr g l3 e3/\Hid (xV l=qS idP (N2-j) ⟨G,l3,e3⟩)/\z6 [g,gm] w9 wr) (λjv _=>N2-(intOf jv).toNat)
   case atStart=>exact⟨0,[],_,_,none,0,zL,rfl,rfl,l6,Own.nil _ _ _ _,p0,(show _=_ from g4.out),z6.refl _ _⟩
   case round =>
    clear p0 l6;obtain⟨j,G,l3,e3,A',cap',hj,rfl,q7,hm,H,hr,c4,hk⟩:=hrel;have v5:=dH q7;have y3:G.length<=N2:=oM;clear q7;have s0:=hk.size;obtain⟨q0,q1,_⟩:=vJ hr;by_cases hgo:j<N2/\e3=0
    ·obtain⟨a0,rfl⟩:=hgo;have a4:=c4.out;rw[(oM:N2-j=(N2-(j+1))+1),jL _ _ rfl]at a4;have g1:=dH a4;clear c4 a4;have g0:∀x∈blk A',w9.heap.size<=x/\x<wr.heap.size:=λx hx=>H.at_base hx;have x7:g<w9.heap.size:=oM;have p3:gm∉g :: blk A':=by
      intro s4;rcases List.mem_cons.1 s4 with h1 | h1
      ·omega
      ·have:=(g0 _ h1).1;omega
     have k3:g∉blk A':=λh1=>(oH ((g0 _ h1).1));have x0:wr.cell? ⟨gm,1,none⟩=some (.slice A' G.length cap'):=by rw[cell_of_row wr gm _ _ _ _ hm];simp[d9]
     have r1:=nS wr.drew g l3 0 (hr.kept (z6.drew wr) sI);have k6:=dH hk;clear hk;go_upto_region 15 with fail
     clear q0 q1;refine kF (g :: blk A') wr ?_;intro d8 hS;have b1:=zP x0 p3;refine lZ ?_;refine lH ?_;intro K hK;refine r1.mono ?_;rintro en w4 ⟨rfl,c1,m2⟩;replace hS:=xA hS m2 sI;refine⟨_,rfl,hS,hK _ _ ?_⟩;clear hK K r1;refine lZ ?_;refine lH ?_;intro K hK;refine zG (xP hS _) (λhS=>?_);refine hK _ _ ?_;clear hK K;obtain⟨d,hd⟩:=eX (q3 (yV 32 l3 0))
     rw[hd]at hS |-;have Hd:=dH hd;clear hd;have c6:z6 [g] wr w4:=z6.trans ((z6.drew wr).mono (S':=[g]) sI) m2 iL;have e9:=z6.alloc w4 (.cells (idC d) 39);have O:=(H.kept c6 (λx hx=>oS ((g0 x hx).1))).kept e9 sI;have M:z7 (w4.alloc (.cells (idC d) 39)) w4.heap.size 0 32=some (idC d):=by simp[go_sem]
     have r9:=c6.size;have q9:w9.heap.size<=(w4.alloc (.cells (idC d) 39)).heap.size:=oS k6.out.size;refine vW xI rfl O rfl M (xG _) oM oM q9 ?_;intro A2 J w5 B i1 a9;have e7:z6 (blk A') w4 w5:=z6.trans (e9.mono (S':=blk A') sI) i1 iL;have b9:z6 (g :: blk A') wr w5:=z6.trans (c6.mono (S':=g :: blk A') sI) (e7.mono (S':=g :: blk A') (λx hx=>.inl (List.mem_cons_of_mem _ hx))) iL;refine zG b9 (λn1=>?_);refine lZ ?_;have e8:gm<wr.heap.size:=(aG hm).1;have I:=(b9.block gm e8 p3).trans hm;have f0:w5.frozen? ⟨gm,1,none⟩=false:=by simp[World.frozen?,I]
     have d0:w5.cell? ⟨gm,1,none⟩=some (.slice A' G.length cap'):=by rw[cell_of_row w5 gm _ _ _ _ I];simp[d9]
     refine vI ?_ ?_;(focus(simp only[yO];done));intro K hK;go_simp;refine hK _ _ ?_;clear hK K;have b6:=zA I 1 (.slice A2 (G.length+1) J);rw[qn]at b6;have X:=z6.setCell w5 ⟨gm,1,none⟩ (.slice A2 (G.length+1) J);have f9:=(jQ.kept c1 e7 k3).kept X sO;have T:=B.kept X (λx hx=>oS ((B.at_base hx).1));have n6:z6 [g,gm] w9 (w5.setCell ⟨gm,1,none⟩ (.slice A2 (G.length+1) J)):=by
      have h1:z6 [g,gm] w9 w5:=z6.trans k6.out b9 (λx hx=>by
       rcases List.mem_cons.1 hx with h | h
       ·exact .inl (by simp[h])
       ·right;exact(g0 x h).1)
      exact z6.trans h1 (X.mono (S':=[g,gm]) sI) iL
     have g2:k8 idP ⟨G,l3,0⟩=⟨G ++ [d],zK 32 l3 0,zM 32 l3 0⟩:=by unfold k8;rw[<-Hd.out];rfl
     rw[g2]at g1;rw[(sI:G.map idC ++ [idC d]=(G ++ [d]).map idC)]at T;have D:(G ++ [d]).length=G.length+1:=sI;have f:=dH D;clear D g2 f0 d0 b1 d8 hS b9 n1 c6 e7 m2 i1 a9 B O M e9 I X c1 q9 H hr hm x0;(go_wp2_with fail);go_roundw
     case rel=>exact⟨j+1,G ++ [d],_,_,A2,J,oM,by go_num,(by rw[f.out,v5.out]),(by rw[f.out];exact b6),(by rw[f.out];exact T),f9,g1,n6⟩
     case measure=>exact sZ
    ·have b7:xV l=⟨G,l3,e3⟩:=by
      rw[c4.out];by_cases he:e3=0
      ·rw[(oM:N2-j=0)];rfl
      ·exact jK _ _ he
     have t:=dH b7;have L:¬j<N2\/(j<N2/\(e3==0)=false):=by
      by_cases h1:j<N2
      ·exact .inr ⟨h1,sO⟩
      ·exact .inl h1
     have U:=dH L;clear b7 c4 g4 L hgo;go_upto_region 13 with fail
     go_cut [67] (λv wx=>v=.bool false/\wx=wr)
     case first =>
      rcases U.out with h1 | ⟨h1,h2⟩
      all_goals
       go_wp2_with fail
       go_meet
       exact⟨rfl,rfl⟩
     case rest =>
     obtain⟨rfl,rfl⟩:=hcut;clear U;have b5:=a8.kept hk (λx hx=>oS ((o6.out x hx).2));have h9:Below g w wc:=c5.trans (hk.below (by have:=c5.size;have:=Hg.out;omega) sO);have n2:=b5.slw;have n7:=H.slw;have v0:=dH (show ∀x,x∈blk A1\/x∈blk A'->w.heap.size<=x from λx hx=>by
      rcases hx with hx | hx
      ·have h1:=(b5.at_base hx).1;have h2:=m9.size;omega
      ·have h1:=(H.at_base hx).1;have h2:=c5.size;omega)
     have s7:=hr.lt;clear b5 a8 hk H c5;by_cases h3:e3=0
     ·subst h3;have x0:wc.cell? ⟨gm,0,none⟩=some (.slice A1 R.length Y):=by rw[cell_of_row wc gm _ _ _ _ hm];simp[d9]
      have x1:wc.cell? ⟨gm,1,none⟩=some (.slice A' G.length cap'):=by rw[cell_of_row wc gm _ _ _ _ hm];simp[d9]
      obtain⟨W,hW⟩:∃W,W=wc:=⟨wc,rfl⟩
      have f4:Hid (s8 R->dG l 3):=λh=>.inr (.inl ⟨by rw[t.out],by rw[a7.out];exact h,rfl⟩);go_upto_region 18 with fail
      (go_wp2_with fail);go_loopw [11] (λiv wr=>∃i:Nat,i<=R.length/\iv=.int .i64 i/\Hid (∀x∈R.take i,vB x)/\wr=W) (λiv _=>R.length-(intOf iv).toNat)
      case atStart=>exact⟨0,zL,rfl,(show ∀x∈R.take 0,vB x by intro x hx;simp at hx),hW.symm⟩
      case round =>
       obtain⟨i,hi,rfl,l0,rfl⟩:=hrel;subst hW;by_cases a0:i<R.length
       ·obtain⟨q2,o2,rfl,r⟩:=SlR.at_ n2.rd a0;rw[List.getElem_map]at r;have e5:R[i]'a0∈R:=List.getElem_mem a0;have f5:∀y,y∈R.take (i+1)↔y∈R.take i\/y=R[i]'a0:=λy=>(by rw[List.take_add_one,List.getElem?_eq_getElem a0,Option.toList_some,List.mem_append,List.mem_singleton]);obtain⟨x,hx⟩:=eX (R[i]'a0)
        simp only[hx]at f5;rw[hx]at r e5;have y1:=z8 r (j:=32) oM;have y2:=z8 r (j:=33) oM;rw[fA]at y1;rw[bZ]at y2;have o1:=dH f5;have j6:=dH e5;clear hx r f5 e5;by_cases b8:16<x.key.size
        ·have d1:decide ((16:Int)<(x.key.size:Int))=true:=decide_eq_true oM;have e4:=f4.out ⟨x,j6.out,λh=>oH h.1⟩;have j8:=dH e4;clear e4 b8;(go_wp2_with fail);go_ret2;exact⟨none,3,rfl,j8.out,(λh=>by cases h),λ_=>rfl,by rw[Hg.out];exact h9⟩
        ·have d1:decide ((16:Int)<(x.key.size:Int))=false:=decide_eq_false oM;by_cases e0:16<x.val.size
         ·have d2:decide ((16:Int)<(x.val.size:Int))=true:=decide_eq_true oM;have e4:=f4.out ⟨x,j6.out,λh=>oH h.2⟩;have j8:=dH e4;clear e4 b8 e0;(go_wp2_with fail);go_ret2;exact⟨none,3,rfl,j8.out,(λh=>by cases h),λ_=>rfl,by rw[Hg.out];exact h9⟩
         ·have d2:decide ((16:Int)<(x.val.size:Int))=false:=decide_eq_false oM;have HN:Hid (∀y∈R.take (i+1),vB y):=λy hy=>by
           rcases (o1.out y).1 hy with h | h
           ·exact l0.out y h
           ·rw[h];exact⟨oM,oM⟩
          clear b8 e0;(go_wp2_with fail);go_roundw
          case rel=>exact⟨i+1,oM,by go_num,HN,(by first | rfl | trivial)⟩
          case measure=>exact sZ
       ·have f8:i=R.length:=oM;have l4:¬s8 R:=by
         rintro⟨x,hx,hn⟩;exact hn (l0.out x (by rw[f8,List.take_length];exact hx))
        have y5:=dH l4;have i6:gm<wr.heap.size:=(aG hm).1;have m6:(xV l).e=0:=by rw[t.out]
        have m7:R.length<=90000/\G.length<=90000:=by
         obtain⟨h4,_⟩:=jS wN (show(xM idP (xK l).l (xK l).e).e=0 from m6);have h5:=jG wN (show(xM idP (xK l).l (xK l).e).e=0 from m6);have h6:=jG mLaw (show(xM mP l 0).e=0 from h4);have h7:(xV l).rows.length+(xV l).l.length<=(xK l).l.length:=h5;have h8:(xK l).rows.length+(xK l).l.length<=l.length:=h6;rw[a7.out]at h8;rw[t.out]at h7;simp only at h7 h8;rw[a7.out]at h7;simp only at h7;omega
        obtain⟨x8,x9⟩:=m7;clear m6;have cE:=tB wr g l3 0 hr;have cI:=λw1 (hb:Below wr.heap.size wr w1)=>ZR w1 A' G.length cap' G (SlR.below n7.rd hb) oM;obtain⟨E0,k5⟩:=eX (j4 l3 0)
        obtain⟨rb,k0⟩:=eX (vO G)
        rw[k5]at cE;simp only[k0]at cI;have y6:=dH k5;have y4:=dH k0;have j7:Hid (∀E,(((E0=0/\rb=true/\Ris xN R/\∀x∈R,x.id∉G)/\E=0)\/(¬(E0=0/\rb=true/\Ris xN R/\∀x∈R,x.id∉G)/\E=4))->dG l E):=λE h=>by
         refine .inr (.inr ⟨by rw[t.out],by rw[a7.out];exact l4,?_⟩);unfold KB;rw[t.out,a7.out,k5,k0];exact h
        clear l0 f8 l4 k5 k0 hr f4 hi;go_upto_region 23 with fail
        go_cut [12] (λv wx=>∃b:Bool,v=.bool b/\Hid (b=true↔E0=0/\rb=true)/\Below wr.heap.size wr wx)
        case first =>
         (go_wp2_with fail);refine cE.mono ?_;rintro e w2 ⟨rfl,d3⟩;have v8:w2.cell? ⟨gm,1,none⟩=some (.slice A' G.length cap'):=(d3.cell (p:=⟨gm,1,none⟩) i6).trans x1;have t8:=cI w2 d3;by_cases h0:E0=0
         ·have f1:(E0==0)=true:=by simpa using h0
          have H0:=dH h0;clear h0;(go_wp2_with fail);refine t8.mono ?_;rintro e w3 ⟨rfl,c8⟩;go_wp2_with fail
          go_meet
          exact⟨rb,rfl,(show _↔_ from⟨λh=>⟨H0.out,h⟩,λh=>h.2⟩),yE d3 c8⟩
         ·have f1:(E0==0)=false:=by simpa using h0
          have H0:=dH h0;clear h0;go_wp2_with fail
          go_meet
          exact⟨false,rfl,(show _↔_ from⟨λh=>absurd h sI,λh=>absurd h.1 H0.out⟩),d3⟩
        case rest =>
        obtain⟨k9,rfl,o3,c8⟩:=hcut;obtain⟨W3,n0⟩:∃W3,W3=wc:=⟨wc,rfl⟩
        rw[<-n0]at c8;have s3:=(c8.block gm i6).trans hm;have f2:=n2.below c8;have i9:=n7.below c8;have l8:Below g w W3:=h9.trans (c8.mono oM);have m4:gm<W3.heap.size:=oH c8.size;have m5:g<=W3.heap.size:=oM;clear cE cI x0 x1 n2 n7 h9 hm q0 q1 a0;go_upto_region 25 with fail
        go_loopw [12,13] (λr6 iv wr=>∃(i:Nat) (b:Bool),i<=R.length/\iv=.int .i64 i/\r6=.bool b/\Hid (b=true↔k9=true/\Ris xN (R.take i)/\∀x∈R.take i,x.id∉G)/\Below W3.heap.size W3 wr) (λ_ iv _=>R.length-(intOf iv).toNat)
        case atStart=>exact⟨0,k9,zL,rfl,rfl,(show _↔_ by simp[Ris]),by rw[n0];exact Below.refl _ _⟩
        case round =>
         clear c8 n0;obtain⟨i,b,hi,rfl,rfl,Hb,c7⟩:=hrel;have f6:=(c7.block gm m4).trans s3;have x0:wr.cell? ⟨gm,0,none⟩=some (.slice A1 R.length Y):=by rw[cell_of_row wr gm _ _ _ _ f6];simp[d9]
         have x1:wr.cell? ⟨gm,1,none⟩=some (.slice A' G.length cap'):=by rw[cell_of_row wr gm _ _ _ _ f6];simp[d9]
         by_cases a0:i<R.length
         ·obtain⟨q2,o2,rfl,r⟩:=SlR.at_ (SlR.below f2.rd c7) a0;rw[List.getElem_map]at r;have f5:R.take (i+1)=R.take i ++ [R[i]'a0]:=by rw[List.take_add_one,List.getElem?_eq_getElem a0];rfl
          have o1:=dH f5;have j2:Hid (∀(h1:0<i),z7 wr q2 (o2+(i-1)*34) 34=some (zF (R[i-1]'oM))):=by
           intro h1;obtain⟨q',o',e',g3⟩:=SlR.at_ (SlR.below f2.rd c7) (oM:i-1<R.length);injection e' with e';injection e' with t7 t6
           subst t7;subst t6
           rwa [List.getElem_map]at g3
          obtain⟨x,hx⟩:=eX (R[i]'a0)
          rw[hx]at r;have Hx:=dH hx;have c3:z7 wr q2 (o2+i*34) 32=some (idC x.id):=by have:=zX r (j:=0) (m:=32) oM;rwa [fJ]at this
          have cH:=λw1 (hb:Below wr.heap.size wr w1)=>YI w1 A' G.length cap' G x.id (SlR.below (SlR.below i9.rd c7) hb) oM;obtain⟨hb,m3⟩:=eX (decide (x.id∈G))
          simp only[m3]at cH;have r4:=dH m3;have r5:=dH cH;clear m3 hx f5 cH;go_upto_region 27 with fail
          go_cut [175] (λv wx=>∃bb:Bool,v=.bool bb/\Hid (bb=true↔((∃h1:0<i,0<=xN (R[i-1]'oM) x)\/x.id∈G))/\Below wr.heap.size wr wx)
          case first =>
           by_cases i4:0<i
           ·have s5:i-1<R.length:=oM;obtain⟨y,hy⟩:=eX (R[i-1]'s5)
            have Hy:=dH hy;have j9:=j2.out i4;rw[hy]at j9;obtain⟨k1,b8⟩:=eX (i-1)
            have x3:((i:Int)-1)=(k1:Int):=oM;have w8:IntKind.i64.wrap (k1:Int)=(k1:Int):=by simp[IntKind.wrap,IntKind.bits,IntKind.signed];omega
            have s9:decide (0<i)=true:=sO;rw[b8]at j9;have s6:k1<R.length:=oM;have co:=λw1=>rmless y x w1;obtain⟨c,hc⟩:=eX (decide (xN y x<0))
            simp only[hc]at co;have Hc:=dH hc;have o4:=dH i4;clear hy hc i4 b8;cases c with
            | true =>
             refine v9 (.loose 0 (.loose 1 (.loose 2 (.loose 3 (.loose 4 (.loose 5 (.loose 6 (.loose 7 (.loose 8 (.loose 9 (.loose 10 (.loose 11 (.loose 12 (.loose 13 (.loose 14 (.loose 15 (.loose 16 (.loose 17 (.one 18 (.loose 19 (.loose 20 (.loose 21 (.loose 22 (.loose 23 (.loose 24 (.loose 25 (.loose 26 (.loose 27 (.loose 28 (.loose 29 (.loose 30 (.loose 31 (.loose 32 (.loose 33 (.one 34 (.loose 35 .done)))))))))))))))))))))))))))))))))))) (Bel wr) false kR kR kR kR (yZ wr) ?_;have d8:=wQ wr;have hS:=yZ wr;have b0:=zJ x0;have b1:=zJ x1;have b3:=zU r;have b4:=zU c3;have b2:=zU j9;refine tZ ?_;refine tH ?_;intro K hK;refine(co _).mono ?_;rintro e w' ⟨rfl,hb⟩;replace hS:=vC hS hb;refine⟨_,rfl,hS,hK _ _ ?_⟩;clear hK K hb;refine tZ ?_;refine tH ?_;intro K hK;refine(r5.out _ hS).mono ?_;rintro e w7 ⟨rfl,i8⟩;replace hS:=vC hS i8;refine⟨_,rfl,hS,hK _ _ ?_⟩;clear hK K i8;refine tZ ?_;refine fS ?_;intro hS;go_wp2_with fail
             go_meet
             exact⟨hb,rfl,(show _↔_ by
              rw[<-r4.out,decide_eq_true_iff];exact⟨.inr,λh=>h.elim (fun ⟨h1,h2⟩=>by have h3:=of_decide_eq_true Hc.out;rw[Hy.out]at h2;omega) id⟩),hS⟩
            | false =>
             refine v9 (.loose 0 (.loose 1 (.loose 2 (.loose 3 (.loose 4 (.loose 5 (.loose 6 (.loose 7 (.loose 8 (.loose 9 (.loose 10 (.loose 11 (.loose 12 (.loose 13 (.loose 14 (.loose 15 (.loose 16 (.loose 17 (.one 18 (.loose 19 (.loose 20 (.loose 21 (.loose 22 (.loose 23 (.loose 24 (.loose 25 (.loose 26 (.loose 27 (.loose 28 (.loose 29 (.loose 30 (.loose 31 (.loose 32 (.loose 33 (.one 34 (.loose 35 .done)))))))))))))))))))))))))))))))))))) (Bel wr) false kR kR kR kR (yZ wr) ?_;have d8:=wQ wr;have hS:=yZ wr;have b0:=zJ x0;have b1:=zJ x1;have b3:=zU r;have b4:=zU c3;have b2:=zU j9;refine tZ ?_;refine tH ?_;intro K hK;refine(co _).mono ?_;rintro e w' ⟨rfl,hb⟩;replace hS:=vC hS hb;refine⟨_,rfl,hS,hK _ _ ?_⟩;clear hK K hb;refine tZ ?_;refine tH ?_;intro K hK;refine hK _ _ ?_;clear hK K;refine tZ ?_;refine fS ?_;intro hS;go_wp2_with fail
             go_meet
             exact⟨true,rfl,(show _↔_ from⟨λ_=>.inl ⟨o4.out,by rw[Hy.out];have h3:=of_decide_eq_false Hc.out;omega⟩,λ_=>rfl⟩),hS⟩
           ·have s9:decide (0<i)=false:=sO;have o4:=dH i4;have x5:¬(0:Int)<(i:Int):=oM;clear i4;refine v9 (.loose 0 (.loose 1 (.loose 2 (.loose 3 (.loose 4 (.loose 5 (.loose 6 (.loose 7 (.loose 8 (.loose 9 (.loose 10 (.loose 11 (.loose 12 (.loose 13 (.loose 14 (.loose 15 (.loose 16 (.loose 17 (.one 18 (.loose 19 (.loose 20 (.loose 21 (.loose 22 (.loose 23 (.loose 24 (.loose 25 (.loose 26 (.loose 27 (.loose 28 (.loose 29 (.loose 30 (.loose 31 (.loose 32 (.loose 33 (.one 34 (.loose 35 .done)))))))))))))))))))))))))))))))))))) (Bel wr) false kR kR kR kR (yZ wr) ?_;have d8:=wQ wr;have hS:=yZ wr;have b0:=zJ x0;have b1:=zJ x1;have b3:=zU r;have b4:=zU c3;refine tZ ?_;refine tH ?_;intro K hK;refine hK _ _ ?_;clear hK K;refine tZ ?_;refine tH ?_;intro K hK;refine(r5.out _ hS).mono ?_;rintro e w7 ⟨rfl,i8⟩;replace hS:=vC hS i8;refine⟨_,rfl,hS,hK _ _ ?_⟩;clear hK K i8;refine tZ ?_;refine fS ?_;intro hS;go_wp2_with fail
            go_meet
            exact⟨hb,rfl,(show _↔_ by rw[<-r4.out,decide_eq_true_iff];exact⟨.inr,λh=>h.elim (fun ⟨h1,_⟩=>absurd h1 o4.out) id⟩),hS⟩
          case rest =>
          obtain⟨bb,rfl,o5,p8⟩:=hcut;have p9:Below W3.heap.size W3 wc:=yE c7 p8;have j5:Hid ((if bb=true then false else b)=true↔k9=true/\Ris xN (R.take (i+1))/\∀y∈R.take (i+1),y.id∉G):=by
           show _↔_;have l2:Ris xN (R.take (i+1))↔Ris xN (R.take i)/\∀h1:0<i,xN (R[i-1]'oM) x<0:=by
            rcases Nat.eq_zero_or_pos i with h1 | h1
            ·subst h1;exact⟨λ_=>⟨by simp[Ris],λh=>absurd h oM⟩,λ_=>zl R oM⟩
            ·obtain⟨j,rfl⟩:∃j,i=j+1:=⟨i-1,oM⟩
             have h2:=JH dD R j a0;rw[Hx.out]at h2;exact h2.trans ⟨λh=>⟨h.1,λ_=>h.2⟩,λh=>⟨h.1,h.2 h1⟩⟩
           rw[l2,o1.out,Hx.out];cases bb with
           | true =>
            have m8:=o5.out.1 rfl;simp only[if_true];refine⟨λh=>absurd h sI,λh=>?_⟩;rcases m8 with⟨h1,h2⟩ | h1
            ·have:=h.2.1.2 h1;omega
            ·exact absurd h1 (h.2.2 x sI)
           | false =>
            have e2:¬((∃h1:0<i,0<=xN (R[i-1]'oM) x)\/x.id∈G):=λh=>absurd (o5.out.2 h) sI;rw[if_neg sI,Hb.out];constructor
            ·rintro⟨a1,a2,a3⟩;refine⟨a1,⟨a2,λh1=>Classical.byContradiction λhn=>e2 (.inl ⟨h1,oM⟩)⟩,λy hy=>?_⟩;rcases List.mem_append.1 hy with hy | hy
             ·exact a3 y hy
             ·rw[List.mem_singleton]at hy;rw[hy];exact λh=>e2 (.inr h)
            ·rintro⟨a1,a2,a3⟩;exact⟨a1,a2.1,λy hy=>a3 y (List.mem_append_left _ hy)⟩
          clear o5 c7 p8 Hb r c3 x0 x1 f6;cases bb with
          | true =>
           (go_wp2_with fail);go_roundw
           case rel=>exact⟨i+1,false,oM,by go_num,rfl,j5,p9⟩
           case measure=>exact sZ
          | false =>
           (go_wp2_with fail);go_roundw
           case rel=>exact⟨i+1,b,oM,by go_num,rfl,j5,p9⟩
           case measure=>exact sZ
         ·have f8:R.take i=R:=List.take_of_length_le oM;have d3:=Hb.out;rw[f8]at d3;have d4:b=true↔E0=0/\rb=true/\Ris xN R/\∀x∈R,x.id∉G:=by
           rw[d3,o3.out];exact⟨λh=>⟨h.1.1,h.1.2,h.2.1,h.2.2⟩,λh=>⟨⟨h.1,h.2.1⟩,h.2.2.1,h.2.2.2⟩⟩
          have p5:Below g w wr:=l8.trans (c7.mono m5);have n3:=f2.below c7;have n8:=i9.below c7;cases b with
          | true =>
           have q6:dG l 0:=j7.out 0 (.inl ⟨d4.1 rfl,rfl⟩);have v4:=dH q6;have v2:=dH n3;have v7:=dH n8;have t9:=dH f6;clear d4 d3 f8 q6 n3 n8 f6 Hb;(go_wp2_with fail);go_ret2;exact⟨_,0,rfl,v4.out,λ_=>⟨gm,_,_,_,_,_,_,rfl,t9.out,by rw[a7.out];exact v2.out,by rw[t.out];exact v7.out,v0.out⟩,λh=>absurd rfl h,by rw[Hg.out];exact p5⟩
          | false =>
           have q5:dG l 4:=j7.out 4 (.inr ⟨λh=>absurd (d4.2 h) sI,rfl⟩);have v3:=dH q5;clear d4 d3 f8 q5 n3 n8 f6 Hb;(go_wp2_with fail);go_ret2;exact⟨none,4,rfl,v3.out,λh=>absurd h (by decide),λ_=>rfl,by rw[Hg.out];exact p5⟩
     ·have hb:(e3 != 0)=true:=by simpa using h3
      have e4:dG l e3:=.inl ⟨by rw[t.out];exact h3,by rw[t.out]⟩;have j8:=dH e4;have H3:=dH h3;clear e4 h3;go_upto_region 17 with fail
      refine lX wc ?_;intro d8 hS;have b1:=zJ q1;refine lZ ?_;refine zC ?_;intro hS;have t3:Below wc.heap.size wc wc.drew:=hS;clear hS d8 b1;(go_wp2_with fail);go_ret2;exact⟨none,e3,rfl,j8.out,λh=>absurd h H3.out,λ_=>rfl,by rw[Hg.out];exact h9.trans (t3.mono oM)⟩
structure RSp where
 x:Value
 o:Value
def gO(x:RSp):Array Value:=#[x.x] ++ #[x.o]
def B6:RSp:=⟨(.slice none 0 0),(.slice none 0 0)⟩
@[go_sem ↓] theorem loadRSp_rw(a:Addr):loadVar 67 a=ldS 67 a:=rfl
@[go_sem ↓] theorem storeRSp_rw(a:Addr)(v:Value):storeVar 67 a v=stS 67 a v:=rfl
@[go_sem ↓] theorem buildRSp_rw(parts:Array (Nat×Value)):Instr.build 67 parts=bdS 67 parts:=rfl
@[go_sem] theorem buildRSp_e(w:World):(bdS 67 #[]).run Tryz.prog w=.ok (.agg (gO B6)) w:=kR
@[go_sem] theorem buildRNode_0(a0:zE)(w:World):(bdS 213 #[(0,.agg (idC a0))]).run Tryz.prog w=.ok (.agg (y8 ⟨a0,0,id0,⟨#[]⟩⟩)) w:=by
 refine qP w e6 _ (nL w) _ (cN w) [(0,.agg (idC a0))] _ ?_;rw[show y8 tC=(#[]:Array Value)++idC id0++(#[.int .i64 0]++(idC id0++(#[.string ⟨#[]⟩])))from by first | (simp[y8,tC,Array.append_assoc];done) | (apply Array.ext';simp[y8,tC])];rw[yJ (off:=0) (size:=32) rfl sI sI (by simp[Value.cells])];first | (simp[Instr.fill,y8,Array.append_assoc,Value.cells];done) | (simp only[Instr.fill,y8];congr 1;apply Array.ext';simp[Value.cells];done) | (simp only[Instr.fill,y8];congr 1;done) | (simp only[Instr.fill,y8];done)
theorem qm(a b c:Value):(gO ⟨a,b⟩).setIfInBounds 0 c=gO ⟨c,b⟩:=by
 apply Array.ext';simp[gO]
theorem ql(a b c:Value):(gO ⟨a,b⟩).setIfInBounds 1 c=gO ⟨a,c⟩:=by
 apply Array.ext';simp[gO]
theorem JC(d:zE)(h h':Int)(r:zE)(v:ByteArray):(y8 ⟨d,h,r,v⟩).setIfInBounds 32 (.int .i64 h')=y8 ⟨d,h',r,v⟩:=by
 apply Array.ext';simp[y8]
theorem JA(d:zE)(h:Int)(r:zE)(v v':ByteArray):(y8 ⟨d,h,r,v⟩).setIfInBounds 65 (.string v')=y8 ⟨d,h,r,v'⟩:=by
 apply Array.ext';simp[y8]
theorem JB(d:zE)(h:Int)(r r':zE)(v:ByteArray):((y8 ⟨d,h,r,v⟩).toList.take (33+0)++(idC r').toList++(y8 ⟨d,h,r,v⟩).toList.drop (33+0+(idC r').toList.length)).toArray=y8 ⟨d,h,r',v⟩:=by
 apply Array.ext';have h1:(idC r').toList.length=32:=sI;have h2:(idC r).toList.length=32:=sI;have h3:(idC d).toList.length=32:=sI;rw[h1];have e:∀x,(y8 ⟨d,h,x,v⟩).toList=(idC d).toList++([.int .i64 h]++((idC x).toList ++ [.string v])):=λx=>(by simp[y8]);rw[e,e];simp[List.take_append,List.drop_append,h2,h3];rw[List.take_of_length_le oM,List.drop_eq_nil_of_le oM]
 simp
theorem KO{w:World}{g:Nat}{d r:zE}{h:Int}{v:ByteArray}(r':zE)(hg:w.heap[g]?=some (.cells (y8 ⟨d,h,r,v⟩) 213 (0,0))) :
  (stS 39 ⟨g,33,none⟩ (.agg (idC r'))).run Tryz.prog w=.ok () (w.setRow g (y8 ⟨d,h,r',v⟩)):=by
 have f:=run_storeCells_at Tryz.prog g 33 213 (idC r').toList 0 (y8 ⟨d,h,r,v⟩) w hg sI (xG r');rw[JB]at f;unfold stS storeVar;have hi:=bU;cases hinfo:Tryz.prog.info? 39 with
 | none=>rw[hinfo]at hi;cases hi
 | some i =>
  rw[hinfo]at hi;have hk:i.size=32:=by simpa using hi
  simp[Value.cells,sizeOf,typeInfo,hinfo,hk];simpa using f
theorem rsload(w:World)(s:ByteArray)(hs:s.size<=90000) :
  Calls Tryz.prog 179 #[.string s] w λe w'=>∃P E,e=.returned (.tuple #[.pointer P,.int .i64 E])/\E=mM s.data.toList/\(E=0->∃g A n cap A' n' cap',P=some ⟨g,0,none⟩/\w'.heap[g]?=some (.cells (gO ⟨.slice A n cap,.slice A' n' cap'⟩) 67 (0,0))/\SlW w' A n cap 66 ((yN s.data.toList).rows.map yL)/\SlW w' A' n' cap' 32 ((xD s.data.toList).rows.map idC)/\∀x,x∈blk A\/x∈blk A'->w.heap.size<=x)/\(E≠0->P=none)/\Below w.heap.size w w':=by
 obtain⟨l,hl⟩:=eX s.data.toList
 have A4:l.length<=90000:=by rw[<-hl];simpa using hs
 have v0:s=mkB l:=by rw[<-hl];rfl
 rw[hl];subst v0;clear hl hs;have d5:Below w.heap.size w ((w.alloc (.cells (rrC ⟨mkB l,0⟩) 112)).alloc (.cells (gO B6) 67)):=(bA).alloc sI _;have j1:jQ ((w.alloc (.cells (rrC ⟨mkB l,0⟩) 112)).alloc (.cells (gO B6) 67)) w.heap.size l 0:=⟨oM,by rw[Below.heap_alloc _ _ _ sI];exact heap_alloc_new w _⟩
 have e8:((w.alloc (.cells (rrC ⟨mkB l,0⟩) 112)).alloc (.cells (gO B6) 67)).heap[w.heap.size+1]?=some (.cells (gO B6) 67 (0,0)):=by
  have:=heap_alloc_new (w.alloc (.cells (rrC ⟨mkB l,0⟩) 112)) (.cells (gO B6) 67);simpa using this
 have hN:=yI 4 l 0;obtain⟨N,o3⟩:=eX (yK 4 l 0)
 have q4:Hid (yN l=qS nP N ⟨[],zK 4 l 0,zM 4 l 0⟩):=by show _=_;rw[<-o3];rfl
 go_enter Tryz.func179,Tryz.ntmps179
 go_upto_region 3 with fail
 obtain⟨g,hg⟩:=eX w.heap.size
 have Hg:=dH hg;rw[hg]at d5 j1 e8 |-;obtain⟨gm,r1⟩:=eX (g+1)
 obtain⟨w0,p9⟩:=eX ((w.alloc (.cells (rrC ⟨mkB l,0⟩) 112)).alloc (.cells (gO B6) 67))
 rw[p9]at d5 j1 e8 |-;rw[r1]at e8 |-;have A6:g<gm:=oM;clear hg p9 r1;have c0:=fG w0 g l 0 j1;rw[o3]at c0 hN;clear o3;(go_wp2_with fail);refine c0.mono ?_;rintro e w1 ⟨rfl,q6,i0⟩;have d7:=(i0.block gm (aG e8).1 sO).trans e8;have n7:Below g w w1:=d5.trans (i0.below (by have:=d5.size;have:=Hg.out;omega) sI);clear c0 j1 d5 e8 i0;have v8:gm<w1.heap.size:=(aG d7).1;(go_wp2_with fail);go_loopw [7,8] (λi _ wr=>∃(k:Nat) (R:List zO) (l1:List UInt8) (e1:Int) (A1:Option Addr) (L:Nat),k<=N/\i=.int .i64 k/\R.length=k/\wr.heap[gm]?=some (.cells (gO ⟨.slice A1 R.length L,.slice none 0 0⟩) 67 (0,0))/\Own wr w1.heap.size 213 66 A1 R.length L (R.map yL)/\jQ wr g l1 e1/\Hid (yN l=qS nP (N-k) ⟨R,l1,e1⟩)/\Hid (ZE R)/\z6 [g,gm] w1 wr) (λi _ _=>N-(intOf i).toNat)
 case atStart=>exact⟨0,[],_,_,none,0,zL,rfl,rfl,d7,Own.nil _ _ _ _,q6,(show _=_ from q4.out),(show ZE [] by intro x hx;cases hx),z6.refl _ _⟩
 case round =>
  clear q6 d7;obtain⟨k,R,l1,e1,A1,L,A5,rfl,r5,hm,B,hr,c4,j6,hk⟩:=hrel;have y7:=dH r5;have A8:R.length<=N:=oM;clear r5;have t9:=hk.size;obtain⟨q0,q1,_⟩:=vJ hr;by_cases hgo:k<N/\e1=0
  ·obtain⟨U,rfl⟩:=hgo;have a2:=c4.out;rw[(oM:N-k=(N-(k+1))+1),jL _ _ rfl]at a2;have f6:=dH a2;have i5:=aO j6.out l1 0;have i8:=dH i5;clear c4 a2 j6 i5;have v7:=hr.lt;have w8:g∉gm :: blk A1:=by
    intro hx;rcases List.mem_cons.1 hx with h1 | h1
    ·omega
    ·have:=(B.at_base h1).1;omega
   (go_wp2_with fail);refine(nS _ g l1 0 hr).mono ?_;rintro e w6 ⟨rfl,f3,q9⟩;obtain⟨d,hd⟩:=eX (q3 (yV 32 l1 0))
   obtain⟨m1,d7⟩:=eX (zK 32 l1 0)
   obtain⟨x1,k7⟩:=eX (zM 32 l1 0)
   have i6:jQ w6 g m1 x1:=by rw[<-d7,<-k7];exact f3
   have d8:z6 [g] wr w6:=q9;rw[hd];have Hd:=dH hd;have t1:=dH d7;have s5:=dH k7;have h8:=heap_alloc_new w6 (.cells (y8 ⟨d,0,id0,⟨#[]⟩⟩) 213);have o9:=i6.kept (z6.alloc w6 (.cells (y8 ⟨d,0,id0,⟨#[]⟩⟩) 213)) sI;have n1:z6 [g] wr (w6.alloc (.cells (y8 ⟨d,0,id0,⟨#[]⟩⟩) 213)):=z6.trans d8 (z6.alloc w6 _) sI;have v1:=d8.size;clear hd f3 i6 d8 q9 hr d7 k7 q0 q1;go_upto_region 8 with fail
   obtain⟨g8,r3⟩:=eX w6.heap.size
   obtain⟨W,hW⟩:=eX (w6.alloc (.cells (y8 ⟨d,0,id0,⟨#[]⟩⟩) 213))
   rw[hW]at h8 o9 n1;rw[hW];rw[r3]at h8 v1 |-;have d6:g8∉[g]:=sO;have m0:g∉[g8]:=sO;clear hW r3;(go_wp2_with fail);refine(fG _ g m1 x1 o9).mono ?_;rintro e w2 ⟨rfl,g3,f1⟩;obtain⟨nv,l9⟩:=eX (yK 4 m1 x1)
   obtain⟨m2,m5⟩:=eX (zK 4 m1 x1)
   obtain⟨x2,k6⟩:=eX (zM 4 m1 x1)
   have g2:jQ w2 g m2 x2:=by rw[<-m5,<-k6];exact g3
   have s8:=dH l9;have t0:=dH m5;have s4:=dH k6;rw[l9];have k0:=(f1.block g8 (aG h8).1 d6).trans h8;have x0:w2.cell? ⟨g8,32,none⟩=some (.int .i64 0):=by rw[cell_of_row w2 g8 _ _ _ _ k0];exact pH _
   have f0:w2.frozen? ⟨g8,32,none⟩=false:=by simp[World.frozen?,k0]
   have c2:=zA k0 32 (.int .i64 (nv:Int));rw[JC]at c2;have D:=z6.setCell w2 ⟨g8,32,none⟩ (.int .i64 (nv:Int));have l8:=g2.kept D m0;have a3:z6 [g,g8] wr (w2.setCell ⟨g8,32,none⟩ (.int .i64 (nv:Int))):=z6.trans (z6.trans (n1.mono (S':=[g,g8]) sI) (f1.mono (S':=[g,g8]) sI) iL) (D.mono (S':=[g,g8]) sI) iL;clear l9 m5 k6 g3 g2 f1 h8 o9 n1 k0 D;go_upto_region 9 with fail
   obtain⟨V,hV⟩:=eX (w2.setCell ⟨g8,32,none⟩ (.int .i64 (nv:Int)))
   rw[hV]at c2 l8 a3;rw[hV];clear hV f0 x0;(go_wp2_with fail);refine(nS _ g m2 x2 l8).mono ?_;rintro e w3 ⟨rfl,g1,e9⟩;obtain⟨rv,l4⟩:=eX (q3 (yV 32 m2 x2))
   obtain⟨m3,g4⟩:=eX (zK 32 m2 x2)
   obtain⟨x3,k5⟩:=eX (zM 32 m2 x2)
   have g0:jQ w3 g m3 x3:=by rw[<-g4,<-k5];exact g1
   have s7:=dH l4;have s9:=dH g4;have s3:=dH k5;rw[l4];have d1:=(e9.block g8 (aG c2).1 d6).trans c2;have l0:=KO rv d1;have j9:=setRow_heap w3 g8 _ (y8 ⟨d,(nv:Int),rv,⟨#[]⟩⟩) _ _ d1;have D:z6 [g8] w3 (w3.setRow g8 (y8 ⟨d,(nv:Int),rv,⟨#[]⟩⟩)):=⟨rfl,rfl,rfl,by simp[World.setRow],λx _ hx=>setRow_other w3 g8 x _ (by simpa using hx)⟩
   have l7:=g0.kept D m0;have e2:z6 [g,g8] wr (w3.setRow g8 (y8 ⟨d,(nv:Int),rv,⟨#[]⟩⟩)):=z6.trans (z6.trans a3 (e9.mono (S':=[g,g8]) sI) iL) (D.mono (S':=[g,g8]) sI) iL;clear l4 g4 k5 g1 g0 e9 c2 d1 l8 a3 D;go_upto_region 10 with fail
   obtain⟨V2,hV⟩:=eX (w3.setRow g8 (y8 ⟨d,(nv:Int),rv,⟨#[]⟩⟩))
   rw[hV]at j9 l7 e2;rw[hV];clear hV l0;have v2:=yI 1 (m3) (x3);(go_wp2_with fail);refine(n4 _ g _ _ l7).mono ?_;rintro e w2 ⟨rfl,g3,f1⟩;(go_wp2_with fail);refine(tA _ g _ _ _ g3 oM).mono ?_;rintro e w3 ⟨rfl,g1,e9⟩;have f4:jQ w3 g (txL (m3) (x3)) (txE (m3) (x3)):=g1;have e0:z6 [g] V2 w3:=z6.trans f1 e9 iL;have c2:=(e0.block g8 (aG j9).1 d6).trans j9;obtain⟨vv,m7⟩:=eX (mkB (yV (yK 1 (m3) (x3)) (zK 1 (m3) (x3)) (zM 1 (m3) (x3))))
   have s6:=dH (show txV (m3) (x3)=vv from m7);rw[m7];have x0:w3.cell? ⟨g8,65,none⟩=some (.string ⟨#[]⟩):=by rw[cell_of_row w3 g8 _ _ _ _ c2];simp[go_sem]
   have f0:w3.frozen? ⟨g8,65,none⟩=false:=by simp[World.frozen?,c2]
   have d1:=zA c2 65 (.string vv);rw[JA]at d1;have D:=z6.setCell w3 ⟨g8,65,none⟩ (.string vv);have c8:=f4.kept D m0;have a3:z6 [g,g8] V2 (w3.setCell ⟨g8,65,none⟩ (.string vv)):=z6.trans (e0.mono (S':=[g,g8]) sI) (D.mono (S':=[g,g8]) sI) iL;clear g3 g1 f1 e9 m7 f4 v2 c2 D e0 l7 j9;go_upto_region 11 with fail
   obtain⟨Z,hZ⟩:=eX (w3.setCell ⟨g8,65,none⟩ (.string vv))
   rw[hZ]at d1 c8 a3;rw[hZ];have g5:z6 [g,g8] wr Z:=z6.trans e2 a3 iL;clear hZ x0 f0 a3 e2;have s1:∀x∈blk A1,x∉[g,g8]:=λx hx=>(oS (B.at_base hx));have d4:=B.kept g5 s1;have j2:=(g5.block gm (aG hm).1 sO).trans hm;have h9:z6 [g] wr Z:=g5.mono (by intro x hx;simp at hx;rcases hx with rfl | rfl <;> simp;omega);obtain⟨y1,y2,y3⟩:=JY t1.out s5.out t0.out s4.out s9.out s3.out;have hx:nP.one l1 0=⟨d,(nv:Int),rv,vv⟩:=by rw[y1,Hd.out,s8.out,s7.out,s6.out]
   have f7:k8 nP ⟨R,l1,0⟩=⟨R ++ [⟨d,(nv:Int),rv,vv⟩],txL m3 x3,txE m3 x3⟩:=by unfold k8;simp only;rw[hx,y2,y3]
   rw[f7]at f6;rw[hx]at i8;obtain⟨xx,k4⟩:∃xx:zO,⟨d,(nv:Int),rv,vv⟩=xx:=⟨_,rfl⟩
   have p8:y8 ⟨d,(nv:Int),rv,vv⟩=yL xx:=by rw[<-k4];rfl
   rw[p8]at d1;rw[k4]at i8 f6;clear k4 p8 hx s1 f7 Hd s6 y1 y2 y3 s8 s7 t1 s5 t0 s4 s9 s3;have d3:z7 Z g8 0 66=some (yL xx):=by unfold z7;rw[d1];simp[go_sem]
   have j5:gm∉blk A1:=λh1=>(oH ((B.at_base h1).1));have x8:g8∉blk A1:=λh1=>(oH ((B.at_base h1).2));have x0:Z.cell? ⟨gm,0,none⟩=some (.slice A1 R.length L):=by rw[cell_of_row Z gm _ _ _ _ j2];simp[gO]
   have t6:w1.heap.size<=Z.heap.size:=oH g5.size;have f5:∀x∈blk A1,w1.heap.size<=x:=λx hx=>(B.at_base hx).1;have k2:=dH (z6.trans (hk.mono (S':=[g,gm]) sI) (h9.mono (S':=[g,gm]) sI) iL);clear B d1 g5 hm h9 hk;refine kF (blk A1) Z ?_;intro c3 hS;have b1:=zP x0 j5;have b2:=y9 d3 x8;refine lZ ?_;refine lH ?_;intro K hK;refine zG (xP hS _) (λhS=>?_);refine hK _ _ ?_;clear hK K;have e5:=z6.alloc Z.drew (.cells (yL xx) 213);have X:=(d4.kept (z6.drew Z) sI).kept e5 sI;have O:z7 (Z.drew.alloc (.cells (yL xx) 213)) Z.drew.heap.size 0 66=some (yL xx):=by simp[go_sem]
   refine vW qR rfl X rfl O (jD _) oM oM sO ?_;intro A2 J w5 r g9 b3;have c1:z6 (blk A1) Z w5:=z6.trans (z6.trans ((z6.drew Z).mono (S':=blk A1) sI) (e5.mono (S':=blk A1) sI) iL) g9 iL;refine zG c1 (λn9=>?_);refine lZ ?_;have e4:gm<Z.heap.size:=(aG j2).1;have I:=(c1.block gm e4 j5).trans j2;have f0:w5.frozen? ⟨gm,0,none⟩=false:=by simp[World.frozen?,I]
   have d0:w5.cell? ⟨gm,0,none⟩=some (.slice A1 R.length L):=by rw[cell_of_row w5 gm _ _ _ _ I];simp[gO]
   refine vI ?_ ?_;(focus(simp only[yO];done));intro K hK;go_simp;refine hK _ _ ?_;clear hK K;have b5:=zA I 0 (.slice A2 (R.length+1) J);rw[qm]at b5;have D:=z6.setCell w5 ⟨gm,0,none⟩ (.slice A2 (R.length+1) J);have f3:=(jQ.kept c8 c1 (λh1=>w8 (List.mem_cons_of_mem _ h1))).kept D sO;have Y:=r.kept D (λx hx=>oS ((r.at_base hx).1));have o5:z6 [g,gm] w1 (w5.setCell ⟨gm,0,none⟩ (.slice A2 (R.length+1) J)):=z6.trans (z6.trans k2.out c1 (λx hx=>.inr (f5 x hx))) (D.mono (S':=[g,gm]) sI) iL;rw[(sI:R.map yL ++ [yL xx]=(R ++ [xx]).map yL)]at Y;have t:(R ++ [xx]).length=R.length+1:=sI;have f:=dH t;clear t f0 d0 b1 b2 c3 hS c1 n9 g9 b3 r X O e5 I D c8 d4 j2 x0 d3;(go_wp2_with fail);go_roundw
   case rel=>exact⟨k+1,R ++ [xx],_,_,A2,J,oM,by go_num,(by rw[f.out,y7.out]),(by rw[f.out];exact b5),(by rw[f.out];exact Y),f3,f6,i8,o5⟩
   case measure=>exact sZ
  ·have b6:yN l=⟨R,l1,e1⟩:=by
    rw[c4.out];by_cases he:e1=0
    ·rw[(oM:N-k=0)];rfl
    ·exact jK _ _ he
   have b7:=dH b6;have i8:=dH j6.out;have M:¬k<N\/(k<N/\(e1==0)=false):=by
    by_cases h1:k<N
    ·exact .inr ⟨h1,sO⟩
    ·exact .inl h1
   have a0:=dH M;clear b6 c4 q4 j6 M hgo;go_upto_region 5 with fail
   go_cut [31] (λv wx=>v=.bool false/\wx=wr)
   case first =>
    rcases a0.out with h1 | ⟨h1,h2⟩
    all_goals
     go_wp2_with fail
     go_meet
     exact⟨rfl,rfl⟩
   case rest =>
   obtain⟨rfl,rfl⟩:=hcut;clear a0 q0 q1;have n0:Below g w wc:=n7.trans (hk.below (by have:=n7.size;have:=Hg.out;omega) sO);have c9:=fG wc g l1 e1 hr;have x7:=yI 4 l1 e1;obtain⟨N2,e7⟩:=eX (yK 4 l1 e1)
   have f9:Hid (xD l=qS idP N2 ⟨[],zK 4 l1 e1,zM 4 l1 e1⟩):=by show _=_;rw[<-e7];unfold xD;rw[b7.out];rfl
   rw[e7]at x7 c9;clear e7;(go_wp2_with fail);refine c9.mono ?_;rintro e w9 ⟨rfl,q5,g7⟩;have i2:gm<wc.heap.size:=(aG hm).1;have m4:=(g7.block gm i2 sO).trans hm;have a5:=B.kept g7 (λx hx=>oS ((B.at_base hx).1));have i7:∀x∈blk A1,x<w9.heap.size/\w1.heap.size<=x:=λx hx=>⟨(a5.at_base hx).2,(a5.at_base hx).1⟩;have p7:=dH i7;have c5:Below g w w9:=n0.trans (g7.below (by have:=n0.size;have:=Hg.out;omega) sI);have w7:gm<w9.heap.size:=(aG m4).1;have t5:w1.heap.size<=w9.heap.size:=by have h1:=g7.size;have h2:=hk.size;omega
   clear c9 hr hm B hk g7 n0 i2 i7;(go_wp2_with fail);go_loopw [10] (λjv wr=>∃(j:Nat) (G:List zE) (l3:List UInt8) (e3:Int) (A':Option Addr) (cap':Nat),j<=N2/\jv=.int .i64 j/\G.length=j/\wr.heap[gm]?=some (.cells (gO ⟨.slice A1 R.length L,.slice A' G.length cap'⟩) 67 (0,0))/\Own wr w9.heap.size 39 32 A' G.length cap' (G.map idC)/\jQ wr g l3 e3/\Hid (xD l=qS idP (N2-j) ⟨G,l3,e3⟩)/\z6 [g,gm] w9 wr) (λjv _=>N2-(intOf jv).toNat)
   case atStart=>exact⟨0,[],_,_,none,0,zL,rfl,rfl,m4,Own.nil _ _ _ _,q5,(show _=_ from f9.out),z6.refl _ _⟩
   case round =>
    clear q5 m4;obtain⟨j,G,l3,e3,A',cap',hj,rfl,r9,hm,H,hr,c4,hk⟩:=hrel;have z4:=dH r9;have A9:G.length<=N2:=oM;clear r9;have t9:=hk.size;obtain⟨q0,q1,_⟩:=vJ hr;by_cases hgo:j<N2/\e3=0
    ·obtain⟨U,rfl⟩:=hgo;have a2:=c4.out;rw[(oM:N2-j=(N2-(j+1))+1),jL _ _ rfl]at a2;have f6:=dH a2;clear c4 a2;have f5:∀x∈blk A',w9.heap.size<=x/\x<wr.heap.size:=λx hx=>H.at_base hx;have A7:g<w9.heap.size:=oM;have q7:gm∉g :: blk A':=by
      intro v3;rcases List.mem_cons.1 v3 with h1 | h1
      ·omega
      ·have:=(f5 _ h1).1;omega
     have j5:g∉blk A':=λh1=>(oH ((f5 _ h1).1));have x0:wr.cell? ⟨gm,1,none⟩=some (.slice A' G.length cap'):=by rw[cell_of_row wr gm _ _ _ _ hm];simp[gO]
     have s2:=nS wr.drew g l3 0 (hr.kept (z6.drew wr) sI);have k2:=dH hk;clear hk;go_upto_region 16 with fail
     clear q0 q1;refine kF (g :: blk A') wr ?_;intro c3 hS;have b1:=zP x0 q7;refine lZ ?_;refine lH ?_;intro K hK;refine s2.mono ?_;rintro en w4 ⟨rfl,c8,n2⟩;replace hS:=xA hS n2 sI;refine⟨_,rfl,hS,hK _ _ ?_⟩;clear hK K s2;refine lZ ?_;refine lH ?_;intro K hK;refine zG (xP hS _) (λhS=>?_);refine hK _ _ ?_;clear hK K;obtain⟨d,hd⟩:=eX (q3 (yV 32 l3 0))
     rw[hd]at hS |-;have Hd:=dH hd;clear hd;have c6:z6 [g] wr w4:=z6.trans ((z6.drew wr).mono (S':=[g]) sI) n2 iL;have e5:=z6.alloc w4 (.cells (idC d) 39);have X:=(H.kept c6 (λx hx=>oS ((f5 x hx).1))).kept e5 sI;have O:z7 (w4.alloc (.cells (idC d) 39)) w4.heap.size 0 32=some (idC d):=by simp[go_sem]
     have t8:=c6.size;have s0:w9.heap.size<=(w4.alloc (.cells (idC d) 39)).heap.size:=oS k2.out.size;refine vW xI rfl X rfl O (xG _) oM oM s0 ?_;intro A2 J w5 r g9 b3;have d9:z6 (blk A') w4 w5:=z6.trans (e5.mono (S':=blk A') sI) g9 iL;have c1:z6 (g :: blk A') wr w5:=z6.trans (c6.mono (S':=g :: blk A') sI) (d9.mono (S':=g :: blk A') (λx hx=>.inl (List.mem_cons_of_mem _ hx))) iL;refine zG c1 (λn9=>?_);refine lZ ?_;have e4:gm<wr.heap.size:=(aG hm).1;have I:=(c1.block gm e4 q7).trans hm;have f0:w5.frozen? ⟨gm,1,none⟩=false:=by simp[World.frozen?,I]
     have d0:w5.cell? ⟨gm,1,none⟩=some (.slice A' G.length cap'):=by rw[cell_of_row w5 gm _ _ _ _ I];simp[gO]
     refine vI ?_ ?_;(focus(simp only[yO];done));intro K hK;go_simp;refine hK _ _ ?_;clear hK K;have b5:=zA I 1 (.slice A2 (G.length+1) J);rw[ql]at b5;have D:=z6.setCell w5 ⟨gm,1,none⟩ (.slice A2 (G.length+1) J);have f3:=(jQ.kept c8 d9 j5).kept D sO;have Y:=r.kept D (λx hx=>oS ((r.at_base hx).1));have o5:z6 [g,gm] w9 (w5.setCell ⟨gm,1,none⟩ (.slice A2 (G.length+1) J)):=by
      have h1:z6 [g,gm] w9 w5:=z6.trans k2.out c1 (λx hx=>by
       rcases List.mem_cons.1 hx with h | h
       ·exact .inl (by simp[h])
       ·right;exact(f5 x h).1)
      exact z6.trans h1 (D.mono (S':=[g,gm]) sI) iL
     have f7:k8 idP ⟨G,l3,0⟩=⟨G ++ [d],zK 32 l3 0,zM 32 l3 0⟩:=by unfold k8;rw[<-Hd.out];rfl
     rw[f7]at f6;rw[(sI:G.map idC ++ [idC d]=(G ++ [d]).map idC)]at Y;have t:(G ++ [d]).length=G.length+1:=sI;have f:=dH t;clear t f7 f0 d0 b1 c3 hS c1 n9 c6 d9 n2 g9 b3 r X O e5 I D c8 s0 H hr hm x0;(go_wp2_with fail);go_roundw
     case rel=>exact⟨j+1,G ++ [d],_,_,A2,J,oM,by go_num,(by rw[f.out,z4.out]),(by rw[f.out];exact b5),(by rw[f.out];exact Y),f3,f6,o5⟩
     case measure=>exact sZ
    ·have b6:xD l=⟨G,l3,e3⟩:=by
      rw[c4.out];by_cases he:e3=0
      ·rw[(oM:N2-j=0)];rfl
      ·exact jK _ _ he
     have a1:=dH b6;have M:¬j<N2\/(j<N2/\(e3==0)=false):=by
      by_cases h1:j<N2
      ·exact .inr ⟨h1,sO⟩
      ·exact .inl h1
     have a0:=dH M;clear b6 c4 f9 M hgo;go_upto_region 14 with fail
     go_cut [69] (λv wx=>v=.bool false/\wx=wr)
     case first =>
      rcases a0.out with h1 | ⟨h1,h2⟩
      all_goals
       go_wp2_with fail
       go_meet
       exact⟨rfl,rfl⟩
     case rest =>
     obtain⟨rfl,rfl⟩:=hcut;clear a0;have b4:=a5.kept hk (λx hx=>oS ((p7.out x hx).2));have g6:Below g w wc:=c5.trans (hk.below (by have:=c5.size;have:=Hg.out;omega) sO);have j7:=b4.slw;have o7:=H.slw;have y6:=dH (show ∀x,x∈blk A1\/x∈blk A'->w.heap.size<=x from λx hx=>by
      rcases hx with hx | hx
      ·have h1:=(b4.at_base hx).1;have h2:=n7.size;omega
      ·have h1:=(H.at_base hx).1;have h2:=c5.size;omega)
     have v7:=hr.lt;clear b4 a5 hk H c5;by_cases h3:e3=0
     ·subst h3;have x0:wc.cell? ⟨gm,0,none⟩=some (.slice A1 R.length L):=by rw[cell_of_row wc gm _ _ _ _ hm];simp[gO]
      have x1:wc.cell? ⟨gm,1,none⟩=some (.slice A' G.length cap'):=by rw[cell_of_row wc gm _ _ _ _ hm];simp[gO]
      obtain⟨W,hW⟩:∃W,W=wc:=⟨wc,rfl⟩
      rw[<-hW]at hm hr g6 j7 o7 x0 x1 q1 |-;clear hW q0;have p1:mM l=if kU R≠0 then kU R else if(j4 l3 0=0/\vO G=true)/\k9 R=true then 0 else 4:=by
       unfold mM;rw[a1.out,b7.out,if_neg sI]
      obtain⟨LE,o4⟩:=eX (mM l)
      rw[o4]at p1;have p5:=dH o4;have p6:=dH p1;have x5:R.length<=90000/\G.length<=90000:=by
       have r2:(xD l).e=0:=by rw[a1.out]
       obtain⟨h4,_⟩:=jS wN (show(xM idP (yN l).l (yN l).e).e=0 from r2);have h5:=jG wN (show(xM idP (yN l).l (yN l).e).e=0 from r2);have h6:=jG nLaw (show(xM nP l 0).e=0 from h4);have h7:(xD l).rows.length+(xD l).l.length<=(yN l).l.length:=h5;have h8:(yN l).rows.length+(yN l).l.length<=l.length:=h6;rw[b7.out]at h8;rw[a1.out]at h7;simp only at h7 h8;rw[b7.out]at h7;simp only at h7;omega
      have i3:gm<W.heap.size:=(aG hm).1;have j3:g<=W.heap.size:=oM;clear o4 p1;go_upto_region 20 with fail
      go_loopw [11,12] (λiv _ wr=>∃i:Nat,i<=R.length/\iv=.int .i64 i/\Hid (∀x∈R.take i,qX x=0)/\Below W.heap.size W wr) (λiv _ _=>R.length-(intOf iv).toNat)
      case atStart=>exact⟨0,zL,rfl,dH (λx hx=>by cases hx),Below.refl _ _⟩
      case round =>
       clear x0 x1;obtain⟨i,hi,rfl,d2,F⟩:=hrel;have a7:=(F.block gm i3).trans hm;have x0:wr.cell? ⟨gm,0,none⟩=some (.slice A1 R.length L):=by rw[cell_of_row wr gm _ _ _ _ a7];simp[gO]
       have x1:wr.cell? ⟨gm,1,none⟩=some (.slice A' G.length cap'):=by rw[cell_of_row wr gm _ _ _ _ a7];simp[gO]
       by_cases U:i<R.length
       ·obtain⟨q2,o2,rfl,T⟩:=SlR.at_ (SlR.below j7.rd F) U;rw[List.getElem_map]at T;have p4:Hid (qX (R[i]'U)≠0->kU R=qX (R[i]'U)):=λh=>sX U d2.out h;have b8:Hid (qX (R[i]'U)=0->∀x∈R.take (i+1),qX x=0):=λh x hx=>by
         rw[List.take_add_one,List.getElem?_eq_getElem U,Option.toList_some]at hx;rcases List.mem_append.1 hx with hx | hx
         ·exact d2.out x hx
         ·have e:x=R[i]'U:=by simpa using hx
          rw[e];exact h
        obtain⟨x,hx⟩:=eX (R[i]'U)
        rw[hx]at T p4 b8;have A0:x.val.size<=255:=by rw[<-hx];exact(i8.out _ (List.getElem_mem U)).2.2
        have cc:=zi x wr oM;obtain⟨ex,r4⟩:=eX (qX x)
        rw[r4]at cc p4 b8;clear hx r4;(go_wp2_with fail);refine cc.mono ?_;rintro e w2 ⟨rfl,a9⟩;have f2:=yE F a9;clear cc T a9 F;by_cases a8:ex=0
        ·subst a8;(go_wp2_with fail);go_roundw
         case rel=>exact⟨i+1,oM,by go_num,dH (b8.out sI),f2⟩
         case measure=>exact sZ
        ·have c8:LE=ex:=by
          have h1:=p6.out;have h2:=p4.out a8;rw[h2,if_pos a8]at h1;exact h1
         have z8:=dH c8;have HX:=dH a8;have d5:(ex != 0)=true:=by simpa using a8
         clear c8 a8;(go_wp2_with fail);go_ret2;exact⟨none,ex,rfl,by rw[p5.out,z8.out],λh=>absurd h HX.out,λ_=>rfl,by rw[Hg.out];exact g6.trans (f2.mono j3)⟩
       ·have x4:kU R=0:=t7.2 λx hx=>d2.out x (by rw[List.take_of_length_le oM];exact hx);have f4:=p6.out;rw[if_neg oM]at f4;have t3:=dH f4;have l5:=hr.below F;have o0:=j7.below F;have j8:=o7.below F;have m8:=g6.trans (F.mono j3);have i1:g<=wr.heap.size:=Nat.le_trans j3 F.size;clear x4 f4 p6 d2 F hm j7 o7 g6 hr i3 j3 q1;obtain⟨V,hV⟩:∃V,V=wr:=⟨wr,rfl⟩
        rw[<-hV]at a7 x0 x1 l5 o0 j8 m8 i1 |-;clear hV;have i4:gm<V.heap.size:=(aG a7).1;have cE:=tB V g l3 0 l5;have cI:=λw1 (hb:Below V.heap.size V w1)=>ZR w1 A' G.length cap' G (SlR.below j8.rd hb) oM;obtain⟨E0,p2⟩:=eX (j4 l3 0)
        obtain⟨rb,l6⟩:=eX (vO G)
        rw[p2]at cE;simp only[l6]at cI;have p0:=t3.out;rw[p2,l6]at p0;have t2:=dH p0;clear p2 l6 p0 t3 l5;go_upto_region 25 with fail
        clear U hi
        go_cut [13] (λv wx=>∃b:Bool,v=.bool b/\Hid (b=true↔E0=0/\rb=true)/\Below V.heap.size V wx)
        case first =>
         (go_wp2_with fail);refine cE.mono ?_;rintro e w2 ⟨rfl,a9⟩;have z9:w2.cell? ⟨gm,1,none⟩=some (.slice A' G.length cap'):=(a9.cell (p:=⟨gm,1,none⟩) i4).trans x1;have y4:=cI w2 a9;by_cases h0:E0=0
         ·have d5:(E0==0)=true:=by simpa using h0
          have H0:=dH h0;clear h0;(go_wp2_with fail);refine y4.mono ?_;rintro e w3 ⟨rfl,b9⟩;go_wp2_with fail
          go_meet
          exact⟨rb,rfl,(show _↔_ from⟨λh=>⟨H0.out,h⟩,λh=>h.2⟩),yE a9 b9⟩
         ·have d5:(E0==0)=false:=by simpa using h0
          have H0:=dH h0;clear h0;go_wp2_with fail
          go_meet
          exact⟨false,rfl,(show _↔_ from⟨λh=>absurd h sI,λh=>absurd h.1 H0.out⟩),a9⟩
        case rest =>
        obtain⟨k3,rfl,p3,b9⟩:=hcut;obtain⟨W3,n8⟩:∃W3,W3=wc:=⟨wc,rfl⟩
        rw[<-n8]at b9;have g4:=(b9.block gm i4).trans a7;have e6:=o0.below b9;have o6:=j8.below b9;have m9:Below g w W3:=m8.trans (b9.mono i1);have n5:gm<W3.heap.size:=oH b9.size;have n6:g<=W3.heap.size:=oH b9.size;clear cE cI x0 x1 o0 j8 m8 a7;go_upto_region 27 with fail
        go_loopw [13,14] (λt4 iv wr=>∃(i:Nat) (b:Bool),1<=i/\(i<=R.length\/i=1)/\iv=.int .i64 i/\t4=.bool b/\Hid (b=(k3&&k9 (R.take i)))/\Below W3.heap.size W3 wr) (λ_ iv _=>R.length-(intOf iv).toNat)
        case atStart=>exact⟨1,k3,lR,.inr rfl,rfl,rfl,dH (by rw[YH,Bool.and_true]),by rw[n8];exact Below.refl _ _⟩
        case round =>
         clear b9 n8;obtain⟨i,b,v6,hi,rfl,rfl,Hb,F⟩:=hrel;have a7:=(F.block gm n5).trans g4;have x0:wr.cell? ⟨gm,0,none⟩=some (.slice A1 R.length L):=by rw[cell_of_row wr gm _ _ _ _ a7];simp[gO]
         by_cases U:i<R.length
         ·obtain⟨k1,i0⟩:∃k1,i=k1+1:=⟨i-1,oM⟩
          subst i0;obtain⟨q2,o2,rfl,T⟩:=SlR.at_ (SlR.below e6.rd F) U;obtain⟨q',o',e',a4⟩:=SlR.at_ (SlR.below e6.rd F) (oM:k1<R.length);injection e' with e';injection e' with y0 x9
          subst y0;subst x9;rw[List.getElem_map]at T a4;have f8:=pG U;obtain⟨x,hx⟩:=eX (R[k1+1]'U)
          obtain⟨y,hy⟩:=eX (R[k1]'oM)
          rw[hx]at T f8;rw[hy]at a4 f8;have j0:z7 wr q2 (o2+(k1+1)*66) 32=some (idC x.id):=by have:=zX T (j:=0) (m:=32) oM;rwa [sJ]at this
          have l2:z7 wr q2 (o2+k1*66) 32=some (idC y.id):=by have:=zX a4 (j:=0) (m:=32) oM;rwa [sJ]at this
          have v4:(((k1+1:Nat):Int)-1)=(k1:Int):=oM;have A3:IntKind.i64.wrap (k1:Int)=(k1:Int):=IntWalk.i64_in _ oM;have v5:k1<R.length:=oM;have co:=λw0=>wB y.id x.id w0;obtain⟨c,hc⟩:=eX (zI y.id x.id)
          rw[hc]at f8;simp only[hc]at co;have a6:Hid (∀b':Bool,b'=(b&&decide (c<0))->b'=(k3&&k9 (R.take (k1+1+1)))):=λb' h=>by
           rw[h,Hb.out,show k1+1+1=k1+2 from rfl,f8,Bool.and_assoc]
          obtain⟨lt,m6⟩:=eX (decide (c<0))
          rw[m6]at a6;clear T a4 f8 hx hy hc Hb;obtain⟨i9,r0⟩:=eX (k1+1)
          rw[r0]at U v4 j0 a6 v6 hi |-;clear r0;go_upto_region 29 with fail
          cases b with
          | true =>
           have Hn:=dH (a6.out lt sI);clear a6;refine v9 (.loose 0 (.loose 1 (.loose 2 (.loose 3 (.loose 4 (.loose 5 (.loose 6 (.loose 7 (.loose 8 (.loose 9 (.loose 10 (.loose 11 (.loose 12 (.loose 13 (.loose 14 (.loose 15 (.loose 16 (.loose 17 (.loose 18 (.one 19 (.loose 20 (.loose 21 (.loose 22 .done))))))))))))))))))))))) (Bel wr) false kR kR kR kR (yZ wr) ?_;have c3:=wQ wr;have hS:=yZ wr;have b0:=zJ x0;have b1:=zU j0;have b2:=zU l2;refine tZ ?_;refine tH ?_;intro K hK;refine(co _).mono ?_;rintro e w' ⟨rfl,hb⟩;replace hS:=vC hS hb;refine⟨_,rfl,hS,hK _ _ ?_⟩;clear hK K hb;refine tZ ?_;refine fS ?_;intro hS;have f2:=yE F (show Below wr.heap.size wr _ from hS);clear hS c3 b0 b1 b2 co j0 l2 x0 a7 F;(go_wp2_with fail);go_roundw
           case rel=>exact⟨i9+1,lt,oM,.inl oM,by go_num,rfl,Hn,f2⟩
           case measure=>exact sZ
          | false =>
           have Hn:=dH (a6.out false sI);clear a6;refine v9 (.loose 0 (.loose 1 (.loose 2 (.loose 3 (.loose 4 (.loose 5 (.loose 6 (.loose 7 (.loose 8 (.loose 9 (.loose 10 (.loose 11 (.loose 12 (.loose 13 (.loose 14 (.loose 15 (.loose 16 (.loose 17 (.loose 18 (.one 19 (.loose 20 (.loose 21 (.loose 22 .done))))))))))))))))))))))) (Bel wr) false kR kR kR kR (yZ wr) ?_;have c3:=wQ wr;have hS:=yZ wr;refine tZ ?_;refine tH ?_;intro K hK;refine hK _ _ ?_;clear hK K;refine tZ ?_;refine fS ?_;intro hS;have f2:=yE F (show Below wr.heap.size wr _ from hS);clear hS c3 co j0 l2 x0 a7 F;(go_wp2_with fail);go_roundw
           case rel=>exact⟨i9+1,false,oM,.inl oM,by go_num,rfl,Hn,f2⟩
           case measure=>exact sZ
         ·have n3:R.take i=R:=List.take_of_length_le oM;have a9:=Hb.out;rw[n3]at a9;have q8:Below g w wr:=m9.trans (F.mono n6);have o1:=e6.below F;have o8:=o6.below F;have c7:b=true↔(E0=0/\rb=true)/\k9 R=true:=by
           rw[a9,Bool.and_eq_true,p3.out]
          cases b with
          | true =>
           have r8:LE=0:=by rw[t2.out,if_pos (c7.1 rfl)]
           have z3:=dH r8;have z0:=dH o1;have z5:=dH o8;have y5:=dH a7;clear c7 a9 n3 r8 o1 o8 a7 Hb;(go_wp2_with fail);go_ret2;exact⟨_,0,rfl,by rw[p5.out,z3.out],λ_=>⟨gm,_,_,_,_,_,_,rfl,y5.out,by rw[b7.out];exact z0.out,by rw[a1.out];exact z5.out,y6.out⟩,λh=>absurd rfl h,by rw[Hg.out];exact q8⟩
          | false =>
           have r7:LE=4:=by rw[t2.out,if_neg (λh=>absurd (c7.2 h) sI)]
           have z2:=dH r7;clear c7 a9 n3 r7 o1 o8 a7 Hb;(go_wp2_with fail);go_ret2;exact⟨none,4,rfl,by rw[p5.out,z2.out],λh=>absurd h (by decide),λ_=>rfl,by rw[Hg.out];exact q8⟩
     ·have hb:(e3 != 0)=true:=by simpa using h3
      have r6:e3=mM l:=by unfold mM;rw[a1.out,if_pos h3]
      have z1:=dH r6;have H3:=dH h3;clear r6 h3;go_upto_region 18 with fail
      refine lX wc ?_;intro c3 hS;have b1:=zJ q1;refine lZ ?_;refine zC ?_;intro hS;have x6:Below wc.heap.size wc wc.drew:=hS;clear hS c3 b1;(go_wp2_with fail);go_ret2;exact⟨none,e3,rfl,z1.out,λh=>absurd h H3.out,λ_=>rfl,by rw[Hg.out];exact g6.trans (x6.mono oM)⟩
def rvL(k:Int)(l:List UInt8):RV :=
 if k=1 then { rv0 with tal:=nI l } else if k=2 then { rv0 with adds:=(jN l).rows,gone:=(qW l).rows } else if k=3 then { rv0 with last:=(yQ l).rows }
 else if k=4 then { rv0 with mL:=(xK l).rows,mO:=(xV l).rows } else { rv0 with sL:=(yN l).rows,sG:=(xD l).rows }
theorem qJ{w:World}{g k:Nat}:SlX w g ⟨none,0,0⟩ k []:=⟨SlW.none_,by simp[blk]⟩
def slN:Sl:=⟨none,0,0⟩
theorem qe(w:World)(g:Nat)(t:ByteArray)(si:Sl)(I:List zE)(s:ByteArray)(hs:s.size<=90000)(ht:t.size<=9223372036854775807)(hk:yC t=1)(hp:w.heap[g]?=some (.cells (rvC t si 0 slN slN slN slN slN slN slN) 69 (0,0)))(m:SlX w g si 32 (I.map idC)) :
  Calls Tryz.prog 98 #[.pointer (some ⟨g,0,none⟩),.string s] w λe w'=>∃E,e=.returned (.int .i64 E)/\E=loadT s.data.toList/\(E=0->qV w' g t I (rvL 1 s.data.toList))/\z6 [g] w w':=by
 have F:g<w.heap.size:=(aG hp).1;have c1:=λw=>v8 t w ht;rw[hk]at c1;go_enter Tryz.func98,Tryz.ntmps98
 have x0:w.cell? ⟨g,0,none⟩=some (.string t):=by rw[cell_of_row w g 0 _ _ _ hp];rfl
 (go_wp2_with fail);refine(c1 w).mono ?_;rintro e w1 ⟨rfl,f⟩;have y:=(f.block g F).trans hp;clear c1 x0;(go_wp2_with fail);refine(rtload w1 s oM).mono ?_;rintro e w2 ⟨rfl,r⟩;have d:=yE f r;have j:=(r.block g (oH f.size)).trans y;obtain⟨E,hE⟩:=eX (loadT s.data.toList)
 obtain⟨V,hV⟩:∃V,(if E=0 then nI s.data.toList else 0)=V:=⟨_,rfl⟩
 rw[hE,hV];have HV:=dH hV;have HE:=dH hE;clear hV hE;have x2:w2.cell? ⟨g,2,none⟩=some (.int .i64 0):=by rw[cell_of_row w2 g 2 _ _ _ j];rfl
 have f2:w2.frozen? ⟨g,2,none⟩=false:=by simp[World.frozen?,j]
 have B:=z6.setCell w2 ⟨g,2,none⟩ (.int .i64 V);have A:=zA j 2 (.int .i64 V);have k:z6 [g] w (w2.setCell ⟨g,2,none⟩ (.int .i64 V)):=z6.trans (z6.of_below d |>.mono sI) B iL;have D:=m.keep k;have HF:=dH A;have HK:=dH k;have HI:=dH D;clear A k D B f r d y;(go_wp2_with fail);go_ret;exact⟨E,rfl,HE.out.symm,λh0=>⟨si,slN,slN,slN,slN,slN,slN,slN,by
  have:=HF.out;rw[this,<-HV.out,if_pos h0];rfl,HI.out,qJ,qJ,qJ,qJ,qJ,qJ,qJ⟩,HK.out⟩
theorem qd(w:World)(g:Nat)(t:ByteArray)(si:Sl)(I:List zE)(s:ByteArray)(hs:s.size<=90000)(ht:t.size<=9223372036854775807)(hk:yC t=2)(hp:w.heap[g]?=some (.cells (rvC t si 0 slN slN slN slN slN slN slN) 69 (0,0)))(m:SlX w g si 32 (I.map idC)) :
  Calls Tryz.prog 98 #[.pointer (some ⟨g,0,none⟩),.string s] w λe w'=>∃E,e=.returned (.int .i64 E)/\E=gS s.data.toList/\(E=0->qV w' g t I (rvL 2 s.data.toList))/\z6 [g] w w':=by
 have Y:g<w.heap.size:=(aG hp).1;have c1:=λw=>v8 t w ht;rw[hk]at c1;go_enter Tryz.func98,Tryz.ntmps98
 have x0:w.cell? ⟨g,0,none⟩=some (.string t):=by rw[cell_of_row w g 0 _ _ _ hp];rfl
 (go_wp2_with fail);refine(c1 w).mono ?_;rintro e w1 ⟨rfl,j⟩;have L:=(j.block g Y).trans hp;clear c1 x0;(go_wp2_with fail);refine(rload_b w1 s oM).mono ?_;rintro e w2 ⟨P,rfl,y,D,O⟩;have f:=yE j O;have r:=(O.block g (oH j.size)).trans L;obtain⟨E,hE⟩:=eX (gS s.data.toList)
 rw[hE]at y D |-;have HE:=dH hE;clear hE;by_cases h0:E=0
 ·subst h0;obtain⟨P0,A,n,cap,A',n',cap',rfl,hb,h1,h2,J⟩:=y rfl;have X:P0≠g:=λe=>by
   subst e;have:=r.symm.trans hb;simp[rvC,slN]at this
  have y0:w2.cell? ⟨P0,0,none⟩=some (.slice A n cap):=by rw[cell_of_row w2 P0 0 _ _ _ hb];rfl
  have x3:w2.cell? ⟨g,3,none⟩=some (.slice none 0 0):=by rw[cell_of_row w2 g 3 _ _ _ r];rfl
  have f3:w2.frozen? ⟨g,3,none⟩=false:=by simp[World.frozen?,r]
  have G:=z6.setCell w2 ⟨g,3,none⟩ (.slice A n cap);have F:=zA r 3 (.slice A n cap);have Z:=(G.block P0 (aG hb).1 (by simpa using X)).trans hb;have y1:(w2.setCell ⟨g,3,none⟩ (.slice A n cap)).cell? ⟨P0,1,none⟩=some (.slice A' n' cap'):=by rw[cell_of_row _ P0 1 _ _ _ Z];rfl
  have x4:(w2.setCell ⟨g,3,none⟩ (.slice A n cap)).cell? ⟨g,4,none⟩=some (.slice none 0 0):=by rw[cell_of_row (w2.setCell ⟨g,3,none⟩ (.slice A n cap)) g 4 _ _ _ F];rfl
  have f4:(w2.setCell ⟨g,3,none⟩ (.slice A n cap)).frozen? ⟨g,4,none⟩=false:=by simp[World.frozen?,F]
  have N:=z6.setCell (w2.setCell ⟨g,3,none⟩ (.slice A n cap)) ⟨g,4,none⟩ (.slice A' n' cap');have M:=zA F 4 (.slice A' n' cap');have B:z6 [g] w2 ((w2.setCell ⟨g,3,none⟩ (.slice A n cap)).setCell ⟨g,4,none⟩ (.slice A' n' cap')):=z6.trans G N iL;have k:z6 [g] w ((w2.setCell ⟨g,3,none⟩ (.slice A n cap)).setCell ⟨g,4,none⟩ (.slice A' n' cap')):=z6.trans (z6.of_below f |>.mono sI) B iL;have H:g∉blk A:=λhx=>(by have:=J g (.inl hx);have:=j.size;omega);have d:g∉blk A':=λhx=>(by have:=J g (.inr hx);have:=j.size;omega);have V:=h1.kept B (λx hx hm=>by rw[List.mem_singleton]at hm;exact H (hm ▸ hx));have T:=h2.kept B (λx hx hm=>by rw[List.mem_singleton]at hm;exact d (hm ▸ hx));have R:=m.keep k;have HF:=dH M;have HK:=dH k;have HI:=dH R;have HA:=dH (And.intro V T);have HG:=dH (And.intro H d);clear M k R B j f L y D V T H d J h1 h2 G N m;(go_wp2_with fail);go_ret;exact⟨0,rfl,HE.out.symm,λ_=>⟨si,⟨A,n,cap⟩,⟨A',n',cap'⟩,slN,slN,slN,slN,slN,by rw[HF.out];rfl,HI.out,⟨HA.out.1,HG.out.1⟩,⟨HA.out.2,HG.out.2⟩,qJ,qJ,qJ,qJ,qJ⟩,HK.out⟩
 ·have U:(E==0)=false:=by simpa using h0
  have H0:=dH h0;have k:z6 [g] w w2:=z6.of_below f |>.mono sI
  clear h0 y D;(go_wp2_with fail);go_ret;exact⟨E,rfl,HE.out.symm,λh=>absurd h H0.out,k⟩
theorem qc(w:World)(g:Nat)(t:ByteArray)(si:Sl)(I:List zE)(s:ByteArray)(hs:s.size<=90000)(ht:t.size<=9223372036854775807)(hk:yC t=3)(hp:w.heap[g]?=some (.cells (rvC t si 0 slN slN slN slN slN slN slN) 69 (0,0)))(y:SlX w g si 32 (I.map idC)) :
  Calls Tryz.prog 98 #[.pointer (some ⟨g,0,none⟩),.string s] w λe w'=>∃E,e=.returned (.int .i64 E)/\E=bC s.data.toList/\(E=0->qV w' g t I (rvL 3 s.data.toList))/\z6 [g] w w':=by
 have L:g<w.heap.size:=(aG hp).1;have c1:=λw=>v8 t w ht;rw[hk]at c1;go_enter Tryz.func98,Tryz.ntmps98
 have x0:w.cell? ⟨g,0,none⟩=some (.string t):=by rw[cell_of_row w g 0 _ _ _ hp];rfl
 (go_wp2_with fail);refine(c1 w).mono ?_;rintro e w1 ⟨rfl,f⟩;have D:=(f.block g L).trans hp;clear c1 x0;(go_wp2_with fail);refine(rload_w w1 s oM).mono ?_;rintro e w2 ⟨A,cap,n,rfl,k,B⟩;have d:=yE f B;have j:=(B.block g (oH f.size)).trans D;obtain⟨E,hE⟩:=eX (bC s.data.toList)
 rw[hE]at k |-;have HE:=dH hE;clear hE;have x5:w2.cell? ⟨g,5,none⟩=some (.slice none 0 0):=by rw[cell_of_row w2 g 5 _ _ _ j];rfl
 have f5:w2.frozen? ⟨g,5,none⟩=false:=by simp[World.frozen?,j]
 have r:=z6.setCell w2 ⟨g,5,none⟩ (.slice A n cap);have F:=zA j 5 (.slice A n cap);have m:z6 [g] w (w2.setCell ⟨g,5,none⟩ (.slice A n cap)):=z6.trans (z6.of_below d |>.mono sI) r iL;have J:E=0->SlX (w2.setCell ⟨g,5,none⟩ (.slice A n cap)) g ⟨A,n,cap⟩ 35 ((yQ s.data.toList).rows.map y4):=λh0=>by
  obtain⟨h1,M⟩:=k h0;have G:g∉blk A:=λhx=>(by have:=M g hx;have:=f.size;omega);exact⟨h1.kept r (λx hx hm=>by have e:x=g:=List.mem_singleton.1 hm;exact G (e ▸ hx)),G⟩
 have H:=y.keep m;have HF:=dH F;have HK:=dH m;have HI:=dH H;have HA:=dH J;clear F m H r f B d D k J;(go_wp2_with fail);go_ret;exact⟨E,rfl,HE.out.symm,λh0=>⟨si,slN,slN,⟨A,n,cap⟩,slN,slN,slN,slN,by rw[HF.out];rfl,HI.out,qJ,qJ,HA.out h0,qJ,qJ,qJ,qJ⟩,HK.out⟩
theorem qb(w:World)(g:Nat)(t:ByteArray)(si:Sl)(I:List zE)(s:ByteArray)(hs:s.size<=90000)(ht:t.size<=9223372036854775807)(hk:yC t=4)(hp:w.heap[g]?=some (.cells (rvC t si 0 slN slN slN slN slN slN slN) 69 (0,0)))(m:SlX w g si 32 (I.map idC)) :
  Calls Tryz.prog 98 #[.pointer (some ⟨g,0,none⟩),.string s] w λe w'=>∃E,e=.returned (.int .i64 E)/\dG s.data.toList E/\(E=0->qV w' g t I (rvL 4 s.data.toList))/\z6 [g] w w':=by
 have Y:g<w.heap.size:=(aG hp).1;have c1:=λw=>v8 t w ht;rw[hk]at c1;go_enter Tryz.func98,Tryz.ntmps98
 have x0:w.cell? ⟨g,0,none⟩=some (.string t):=by rw[cell_of_row w g 0 _ _ _ hp];rfl
 (go_wp2_with fail);refine(c1 w).mono ?_;rintro e w1 ⟨rfl,j⟩;have J:=(j.block g Y).trans hp;clear c1 x0;(go_wp2_with fail);refine(rmload w1 s hs).mono ?_;rintro e w2 ⟨P,E,rfl,hE,B,L,O⟩;have f:=yE j O;have r:=(O.block g (oH j.size)).trans J;have HE:=dH hE;clear hE;by_cases h0:E=0
 ·subst h0;obtain⟨P0,A,n,cap,A',n',cap',rfl,hb,h1,h2,H⟩:=B rfl;have X:P0≠g:=λe=>by
   subst e;have:=r.symm.trans hb;simp[rvC,d9]at this
  have y0:w2.cell? ⟨P0,0,none⟩=some (.slice A n cap):=by rw[cell_of_row w2 P0 0 _ _ _ hb];rfl
  have x6:w2.cell? ⟨g,6,none⟩=some (.slice none 0 0):=by rw[cell_of_row w2 g 6 _ _ _ r];rfl
  have f6:w2.frozen? ⟨g,6,none⟩=false:=by simp[World.frozen?,r]
  have F:=z6.setCell w2 ⟨g,6,none⟩ (.slice A n cap);have D:=zA r 6 (.slice A n cap);have Z:=(F.block P0 (aG hb).1 (by simpa using X)).trans hb;have y1:(w2.setCell ⟨g,6,none⟩ (.slice A n cap)).cell? ⟨P0,1,none⟩=some (.slice A' n' cap'):=by rw[cell_of_row _ P0 1 _ _ _ Z];rfl
  have x7:(w2.setCell ⟨g,6,none⟩ (.slice A n cap)).cell? ⟨g,7,none⟩=some (.slice none 0 0):=by rw[cell_of_row (w2.setCell ⟨g,6,none⟩ (.slice A n cap)) g 7 _ _ _ D];rfl
  have f7:(w2.setCell ⟨g,6,none⟩ (.slice A n cap)).frozen? ⟨g,7,none⟩=false:=by simp[World.frozen?,D]
  have N:=z6.setCell (w2.setCell ⟨g,6,none⟩ (.slice A n cap)) ⟨g,7,none⟩ (.slice A' n' cap');have M:=zA D 7 (.slice A' n' cap');have y:z6 [g] w2 ((w2.setCell ⟨g,6,none⟩ (.slice A n cap)).setCell ⟨g,7,none⟩ (.slice A' n' cap')):=z6.trans F N iL;have k:z6 [g] w ((w2.setCell ⟨g,6,none⟩ (.slice A n cap)).setCell ⟨g,7,none⟩ (.slice A' n' cap')):=z6.trans (z6.of_below f |>.mono sI) y iL;have G:g∉blk A:=λhx=>(by have:=H g (.inl hx);have:=j.size;omega);have d:g∉blk A':=λhx=>(by have:=H g (.inr hx);have:=j.size;omega);have V:=h1.kept y (λx hx hm=>by rw[List.mem_singleton]at hm;exact G (hm ▸ hx));have T:=h2.kept y (λx hx hm=>by rw[List.mem_singleton]at hm;exact d (hm ▸ hx));have R:=m.keep k;have HF:=dH M;have HK:=dH k;have HI:=dH R;have HA:=dH (And.intro V T);have HG:=dH (And.intro G d);clear M k R y j f J B L V T G d H h1 h2 F N m;(go_wp2_with fail);go_ret;exact⟨0,rfl,HE.out,λ_=>⟨si,slN,slN,slN,⟨A,n,cap⟩,⟨A',n',cap'⟩,slN,slN,by rw[HF.out];rfl,HI.out,qJ,qJ,qJ,⟨HA.out.1,HG.out.1⟩,⟨HA.out.2,HG.out.2⟩,qJ,qJ⟩,HK.out⟩
 ·have U:(E==0)=false:=by simpa using h0
  have H0:=dH h0;have k:z6 [g] w w2:=z6.of_below f |>.mono sI
  clear h0 B L;(go_wp2_with fail);go_ret;exact⟨E,rfl,HE.out,λh=>absurd h H0.out,k⟩
theorem qa(w:World)(g:Nat)(t:ByteArray)(si:Sl)(I:List zE)(s:ByteArray)(hs:s.size<=90000)(ht:t.size<=9223372036854775807)(hk:yC t=5)(hp:w.heap[g]?=some (.cells (rvC t si 0 slN slN slN slN slN slN slN) 69 (0,0)))(m:SlX w g si 32 (I.map idC)) :
  Calls Tryz.prog 98 #[.pointer (some ⟨g,0,none⟩),.string s] w λe w'=>∃E,e=.returned (.int .i64 E)/\E=mM s.data.toList/\(E=0->qV w' g t I (rvL 5 s.data.toList))/\z6 [g] w w':=by
 have Y:g<w.heap.size:=(aG hp).1;have c1:=λw=>v8 t w ht;rw[hk]at c1;go_enter Tryz.func98,Tryz.ntmps98
 have x0:w.cell? ⟨g,0,none⟩=some (.string t):=by rw[cell_of_row w g 0 _ _ _ hp];rfl
 (go_wp2_with fail);refine(c1 w).mono ?_;rintro e w1 ⟨rfl,j⟩;have J:=(j.block g Y).trans hp;clear c1 x0;(go_wp2_with fail);refine(rsload w1 s hs).mono ?_;rintro e w2 ⟨P,E,rfl,hE,B,L,O⟩;have f:=yE j O;have r:=(O.block g (oH j.size)).trans J;have HE:=dH hE;clear hE;by_cases h0:E=0
 ·subst h0;obtain⟨P0,A,n,cap,A',n',cap',rfl,hb,h1,h2,H⟩:=B rfl;have X:P0≠g:=λe=>by
   subst e;have:=r.symm.trans hb;simp[rvC,gO]at this
  have y0:w2.cell? ⟨P0,0,none⟩=some (.slice A n cap):=by rw[cell_of_row w2 P0 0 _ _ _ hb];rfl
  have x8:w2.cell? ⟨g,8,none⟩=some (.slice none 0 0):=by rw[cell_of_row w2 g 8 _ _ _ r];rfl
  have f8:w2.frozen? ⟨g,8,none⟩=false:=by simp[World.frozen?,r]
  have F:=z6.setCell w2 ⟨g,8,none⟩ (.slice A n cap);have D:=zA r 8 (.slice A n cap);have Z:=(F.block P0 (aG hb).1 (by simpa using X)).trans hb;have y1:(w2.setCell ⟨g,8,none⟩ (.slice A n cap)).cell? ⟨P0,1,none⟩=some (.slice A' n' cap'):=by rw[cell_of_row _ P0 1 _ _ _ Z];rfl
  have x9:(w2.setCell ⟨g,8,none⟩ (.slice A n cap)).cell? ⟨g,9,none⟩=some (.slice none 0 0):=by rw[cell_of_row (w2.setCell ⟨g,8,none⟩ (.slice A n cap)) g 9 _ _ _ D];rfl
  have f9:(w2.setCell ⟨g,8,none⟩ (.slice A n cap)).frozen? ⟨g,9,none⟩=false:=by simp[World.frozen?,D]
  have N:=z6.setCell (w2.setCell ⟨g,8,none⟩ (.slice A n cap)) ⟨g,9,none⟩ (.slice A' n' cap');have M:=zA D 9 (.slice A' n' cap');have y:z6 [g] w2 ((w2.setCell ⟨g,8,none⟩ (.slice A n cap)).setCell ⟨g,9,none⟩ (.slice A' n' cap')):=z6.trans F N iL;have k:z6 [g] w ((w2.setCell ⟨g,8,none⟩ (.slice A n cap)).setCell ⟨g,9,none⟩ (.slice A' n' cap')):=z6.trans (z6.of_below f |>.mono sI) y iL;have G:g∉blk A:=λhx=>(by have:=H g (.inl hx);have:=j.size;omega);have d:g∉blk A':=λhx=>(by have:=H g (.inr hx);have:=j.size;omega);have V:=h1.kept y (λx hx hm=>by rw[List.mem_singleton]at hm;exact G (hm ▸ hx));have T:=h2.kept y (λx hx hm=>by rw[List.mem_singleton]at hm;exact d (hm ▸ hx));have R:=m.keep k;have HF:=dH M;have HK:=dH k;have HI:=dH R;have HA:=dH (And.intro V T);have HG:=dH (And.intro G d);clear M k R y j f J B L V T G d H h1 h2 F N m;(go_wp2_with fail);go_ret;exact⟨0,rfl,HE.out,λ_=>⟨si,slN,slN,slN,slN,slN,⟨A,n,cap⟩,⟨A',n',cap'⟩,by rw[HF.out];rfl,HI.out,qJ,qJ,qJ,qJ,qJ,⟨HA.out.1,HG.out.1⟩,⟨HA.out.2,HG.out.2⟩⟩,HK.out⟩
 ·have U:(E==0)=false:=by simpa using h0
  have H0:=dH h0;have k:z6 [g] w w2:=z6.of_below f |>.mono sI
  clear h0 B L;(go_wp2_with fail);go_ret;exact⟨E,rfl,HE.out,λh=>absurd h H0.out,k⟩
theorem rvinner(w:World)(g:Nat)(t:ByteArray)(si:Sl)(I:List zE)(s:ByteArray)(hs:s.size<=90000)(ht:t.size<=9223372036854775807)(hk:yC t≠0)(hp:w.heap[g]?=some (.cells (rvC t si 0 slN slN slN slN slN slN slN) 69 (0,0)))(d:SlX w g si 32 (I.map idC)) :
  Calls Tryz.prog 98 #[.pointer (some ⟨g,0,none⟩),.string s] w λe w'=>∃E,e=.returned (.int .i64 E)/\za (yC t) s.data.toList E/\(E=0->qV w' g t I (rvL (yC t) s.data.toList))/\z6 [g] w w':=by
 have hr:=gT t;have h5:yC t=1\/yC t=2\/yC t=3\/yC t=4\/yC t=5:=oM;rcases h5 with h | h | h | h | h
 ·rw[h];exact qe w g t si I s hs ht h hp d
 ·rw[h];exact qd w g t si I s hs ht h hp d
 ·rw[h];exact qc w g t si I s hs ht h hp d
 ·rw[h];exact qb w g t si I s hs ht h hp d
 ·rw[h];exact qa w g t si I s hs ht h hp d
def Wf:VSt->Prop
 | .t n=>-9223372036854775808<=n/\n<9223372036854775808
 | .b L G=>(∀x∈L,small x)/\(∀x∈G,small x)/\Ris yG L/\Ris yG G/\∀x∈L,x∉G
 | .l L=>r4 L
 | .m X O=>(∀x∈X,vB x)/\Ris xN X/\Ris zI O/\∀x∈X,x.id∉O
 | .s N G=>(∀x∈N,qX x=0)/\s7 N/\Ris zI G
theorem dM.iface{w:World}{O M:List Nat}{v:Value}{s:VSt}(h:dM w O M v s):∃ty gs,v=.iface ty (.pointer (some ⟨gs,0,none⟩)):=by
 cases s with
 | t n=>obtain⟨g,e,_⟩:=h;exact⟨_,_,e⟩
 | b L G=>obtain⟨g,bl,bg,e,_⟩:=h;exact⟨_,_,e⟩
 | l L=>obtain⟨g,b,e,_⟩:=h;exact⟨_,_,e⟩
 | m X O=>obtain⟨g,bl,bo,e,_⟩:=h;exact⟨_,_,e⟩
 | s N G=>obtain⟨g,bn,bb,bg,e,_⟩:=h;exact⟨_,_,e⟩
theorem rd_left(w:World)(g:Nat)(l:List UInt8)(h:q8 w g l 0):Calls Tryz.prog 96 #[.pointer (some ⟨g,0,none⟩)] w λen w'=>en=.returned (.int .i64 l.length)/\Below w.heap.size w w':=by
 have h0:=h;obtain⟨s,a,ha,hs,hg,hl⟩:=h;obtain⟨c0,c1,c2,c3,_⟩:=mC hg;have j:l.length=s.size-a:=by rw[hl,List.length_drop];congr 1
 have d:((s.size:Int)-(a:Int))=((s.size-a:Nat):Int):=oM;have k:=dH j;have HL:=dH hl;clear hl j h0;have f:=tP w g 0 c3 c2;rw[show(!((0:Int)==0))=false from rfl]at f;obtain⟨m,hm⟩:=eX (s.size-a)
 rw[hm]at d;have y:m<=9223372036854775807:=oM;have r:IntKind.i64.wrap (m:Int)=(m:Int):=IntWalk.i64_in _ oM;have Hm:=dH hm;clear hm;go_enter Tryz.func96,Tryz.ntmps96
 (go_wp2_with fail);refine f.mono ?_;rintro e w1 ⟨rfl,rfl⟩;go_upto_region 3 with fail
 refine lX w ?_;intro t hS;have b1:=zJ c0;have b2:=zJ c1;refine lZ ?_;refine zC ?_;intro hS;(go_wp2_with fail);go_ret;exact⟨yA (by rw[k.out,Hm.out]),hS⟩
end Go.Proofs.YtgfpjjppeldhbaaGreatDoor
