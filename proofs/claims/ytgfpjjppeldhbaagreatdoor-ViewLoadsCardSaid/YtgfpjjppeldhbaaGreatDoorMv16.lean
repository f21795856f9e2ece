/- Part 16 of the texts that lead to this claim: the walks of the functions and the plain law, in order. -/
import Derived.Test.YtgfpjjppeldhbaaGreatDoorMv15
import Derived.Lib.BufferWrite
namespace Go.Proofs.YtgfpjjppeldhbaaGreatDoor
open Go.RowKit
set_option maxRecDepth 100000
set_option maxHeartbeats 8000000
structure vD(w:World)(g bl bg:Nat)(L G:List yH):Prop where
 blk:w.heap[g]?=some (.cells #[.map (some bl),.map (some bg)] 169 (0,0))
 live:fZ w bl L
 gone:fZ w bg G
 ne:bl≠bg
theorem jC.raw{w:World}{g bl bg:Nat}{L G:List yH}(h:jC w g bl bg L G):vD w g bl bg L G:=⟨h.blk,h.live,h.gone,h.ne⟩
theorem vD.nel{w:World}{g bl bg:Nat}{L G:List yH}(h:vD w g bl bg L G):g≠bl:=XX h.live h.blk
theorem vD.neg{w:World}{g bl bg:Nat}{L G:List yH}(h:vD w g bl bg L G):g≠bg:=XX h.gone h.blk
theorem vD.lt{w:World}{g bl bg:Nat}{L G:List yH}(h:vD w g bl bg L G):g<w.heap.size/\bl<w.heap.size/\bg<w.heap.size :=
 ⟨(aG h.blk).1,h.live.lt,h.gone.lt⟩
theorem vD.kept{w w':World}{g bl bg:Nat}{L G:List yH}{S:List Nat}(h:vD w g bl bg L G)(k:z6 S w w')(hg:g∉S)(hl:bl∉S)(hb:bg∉S):vD w' g bl bg L G :=
 ⟨(k.block g h.lt.1 hg).trans h.blk,h.live.kept k hl,h.gone.kept k hb,h.ne⟩
theorem vD.below{w w':World}{g bl bg:Nat}{L G:List yH}(h:vD w g bl bg L G)(k:Below w.heap.size w w'):vD w' g bl bg L G:=h.kept (z6.of_below k) sI sI sI
theorem vD.cell0{w:World}{g bl bg:Nat}{L G:List yH}(h:vD w g bl bg L G):w.cell? ⟨g,0,none⟩=some (.map (some bl)):=by rw[cell_of_row w g 0 _ _ _ h.blk];rfl
theorem vD.cell1{w:World}{g bl bg:Nat}{L G:List yH}(h:vD w g bl bg L G):w.cell? ⟨g,1,none⟩=some (.map (some bg)):=by rw[cell_of_row w g 1 _ _ _ h.blk];rfl
theorem bload(w:World)(s:ByteArray)(hs:s.size<=1000000) :
  Calls Tryz.prog 171 #[.string s] w λe w'=>∃P,e=.returned (.tuple #[.pointer P,.int .i64 (gS s.data.toList)])/\(gS s.data.toList=0->∃g bl bg,P=some ⟨g,0,none⟩/\jC w' g bl bg (jN s.data.toList).rows (qW s.data.toList).rows/\w.heap.size<=g/\w.heap.size<=bl/\w.heap.size<=bg)/\(gS s.data.toList≠0->P=none)/\Below w.heap.size w w':=by
 obtain⟨l,hl⟩:=eX s.data.toList
 have i8:s=mkB l:=by rw[<-hl];rfl
 have l0:l.length<=1000000:=by rw[<-hl];exact hs
 have f4:=wW s w oM;rw[hl]at f4 |-;subst i8;clear hl hs;have f9:=λh:gS l=0=>pU h;have g0:qW l=vF (jN l).l (jN l).e:=rfl;have g1:jN l=vF l 0:=rfl;have g3:gS l=if(qW l).e≠0 then(qW l).e
  else if kA (jN l).rows=true\/kA (qW l).rows=true then 3
  else if j4 (qW l).l (qW l).e≠0\/fV (jN l).rows=false\/fV (qW l).rows=false then 4
  else if gZ (jN l).rows (qW l).rows=true then 4 else 0:=rfl
 obtain⟨PG,f3⟩:=eX (qW l)
 obtain⟨PA,e6⟩:=eX (jN l)
 rw[f3,e6]at g0;rw[e6]at g1;rw[f3,e6]at g3 |-;rw[f3,e6]at f9;clear e6 f3;obtain⟨A,l1,e1⟩:=PA;obtain⟨G,l2,e2⟩:=PG;dsimp only at *;have f5:=dH g3;have k4:=dH g0;have k5:=dH g1;have k3:=dH f9;clear g3 g0 g1 f9;obtain⟨g,hg⟩:=eX w.heap.size
 rw[hg]at f4 |-;have Hg:=dH hg;clear hg;go_enter Tryz.func171,Tryz.ntmps171
 (go_wp2_with fail);refine f4.mono ?_;rintro e w0 ⟨rfl,f8,i0⟩;have c0:=bread w0 g l 0 f8;rw[<-k5.out]at c0;dsimp only at c0;have j5:g<w0.heap.size:=f8.lt;clear f4 f8;(go_wp2_with fail);refine c0.mono ?_;rintro e w1 ⟨Aa,ca,rfl,M,h5,h6,j7,k9⟩;have N:Below g w w1:=i0.trans (h6.below oM sI);have h7:∀x∈blk Aa,x∉[g]:=λx hx=>(oS ((M.at_base hx).1));have c1:=bread w1 g l1 e1 h5;rw[<-k4.out]at c1;dsimp only at c1;clear c0 i0 h6;(go_wp2_with fail);refine c1.mono ?_;rintro e w2 ⟨Ag,cg,rfl,a1,b9,a7,j6,k8⟩;have X:y7 w2 Aa A.length A:=(M.kept a7 h7).slr;have b7:y7 w2 Ag G.length G:=a1.slr;have b4:Below g w w2:=N.trans (a7.below (by have:=N.size;have:=Hg.out;omega) sI);have i7:Hid (∀x∈blk Aa,x<w2.heap.size):=λx hx=>(by have:=(M.at_base hx).2;have:=a7.size;omega);have i3:Hid (∀x∈blk Ag,x<w2.heap.size):=λx hx=>(a1.at_base hx).2;clear c1 h5 a7 M a1 h7 N j7 j6 j5;by_cases he:e2=0
 ·subst he;have J:=f5.out;rw[if_neg sI]at J;have D:=dH J;clear J f5;have cA:=λw' (h':y7 w' Aa A.length A)=>XI w' Aa A.length ca A h' oM;have cG:=λw' (h':y7 w' Ag G.length G)=>XI w' Ag G.length cg G h' oM;cases hlA:kA A with
  | true =>
   rw[hlA]at cA;have k:=D.out;rw[if_pos (.inl hlA)]at k;have r:=dH k;clear k D hlA cG;(go_wp2_with fail);refine(qA _ g l2 0 b9).mono ?_;rintro e w3 ⟨rfl,rfl⟩;(go_wp2_with fail);refine(cA _ X).mono ?_;rintro e w4 ⟨rfl,a4⟩;(go_wp2_with fail);go_ret2;exact⟨none,by rw[r.out];rfl,λh0=>absurd (r.out.symm.trans h0) oM,λ_=>rfl,b4.trans (a4.mono (by have:=b4.size;have:=Hg.out;omega))⟩
  | false =>
   rw[hlA]at cA;cases hlG:kA G with
   | true =>
    rw[hlG]at cG;have k:=D.out;rw[if_pos (.inr hlG)]at k;have r:=dH k;clear k D hlA hlG;(go_wp2_with fail);refine(qA _ g l2 0 b9).mono ?_;rintro e w3 ⟨rfl,rfl⟩;(go_wp2_with fail);refine(cA _ X).mono ?_;rintro e w4 ⟨rfl,a4⟩;have E:y7 w4 Ag G.length G:=SlR.below b7 a4;(go_wp2_with fail);refine(cG _ E).mono ?_;rintro e w5 ⟨rfl,B⟩;(go_wp2_with fail);go_ret2;exact⟨none,by rw[r.out];rfl,λh0=>absurd (r.out.symm.trans h0) oM,λ_=>rfl,b4.trans ((yE a4 B).mono (by have:=b4.size;have:=Hg.out;omega))⟩
   | false =>
    rw[hlG]at cG;have k:=D.out;rw[if_neg (by simp[hlA,hlG])]at k;have r:=dH k;have k2:=dH (t0.1 hlA);have k1:=dH (t0.1 hlG);clear k D hlA hlG;(go_wp2_with fail);refine(qA _ g l2 0 b9).mono ?_;rintro e w3 ⟨rfl,rfl⟩;(go_wp2_with fail);refine(cA _ X).mono ?_;rintro e w4 ⟨rfl,a4⟩;have E:y7 w4 Ag G.length G:=SlR.below b7 a4;(go_wp2_with fail);refine(cG _ E).mono ?_;rintro e w5 ⟨rfl,B⟩;have U:y7 w5 Aa A.length A:=SlR.below (SlR.below X a4) B;have Z:y7 w5 Ag G.length G:=SlR.below E B;have d7:=(b9.below a4).below B;have R:Below g w w5:=b4.trans ((yE a4 B).mono (by have:=b4.size;have:=Hg.out;omega));have e0:g<=w5.heap.size:=by have:=R.size;have:=Hg.out;omega
    have f7:=(yE a4 B).size;clear X b7 E b9 b4 a4 B cA cG;have c3:=λw' (h':y7 w' Aa A.length A)=>yk w' Aa A.length ca A h' oM;have L:=λw' (h':y7 w' Ag G.length G)=>yk w' Ag G.length cg G h' oM;by_cases c2:j4 l2 0=0
    ·have e8:=dH c2;cases hrA:fV A with
     | false =>
      rw[hrA]at c3;clear L;have d:=r.out;rw[if_pos (by simp[hrA])]at d;have m:=dH d;clear d;(go_wp2_with fail);refine(hU _ g l2 0 d7).mono ?_;rintro e w6 ⟨rfl,B⟩;rw[e8.out];have F:y7 w6 Aa A.length A:=SlR.below U B;have O:y7 w6 Ag G.length G:=SlR.below Z B;have V:Below g w w6:=R.trans (B.mono e0);(go_wp2_with fail);refine(c3 _ F).mono ?_;rintro e w7 ⟨rfl,a9⟩;(go_wp2_with fail);go_ret2;exact⟨none,by rw[m.out];rfl,λh0=>absurd (m.out.symm.trans h0) oM,λ_=>rfl,V.trans (a9.mono (by have:=V.size;have:=Hg.out;omega))⟩
     | true =>
      rw[hrA]at c3;cases hrG:fV G with
      | false =>
       rw[hrG]at L;have d:=r.out;rw[if_pos (by simp[hrG])]at d;have m:=dH d;clear d;(go_wp2_with fail);refine(hU _ g l2 0 d7).mono ?_;rintro e w6 ⟨rfl,B⟩;rw[e8.out];have F:y7 w6 Aa A.length A:=SlR.below U B;have O:y7 w6 Ag G.length G:=SlR.below Z B;have V:Below g w w6:=R.trans (B.mono e0);(go_wp2_with fail);refine(c3 _ F).mono ?_;rintro e w7 ⟨rfl,a9⟩;have Y:y7 w7 Ag G.length G:=SlR.below O a9;(go_wp2_with fail);refine(L _ Y).mono ?_;rintro e w8 ⟨rfl,c8⟩;(go_wp2_with fail);go_ret2;exact⟨none,by rw[m.out];rfl,λh0=>absurd (m.out.symm.trans h0) oM,λ_=>rfl,V.trans ((yE a9 c8).mono (by have:=V.size;have:=Hg.out;omega))⟩
      | true =>
       rw[hrG]at L;have d:=r.out;rw[if_neg (by simp[hrA,hrG,c2])]at d;have m:=dH d;clear d r c2 hrA hrG;(go_wp2_with fail);refine(hU _ g l2 0 d7).mono ?_;rintro e w6 ⟨rfl,V⟩;rw[e8.out];have F:y7 w6 Aa A.length A:=SlR.below U V;have O:y7 w6 Ag G.length G:=SlR.below Z V;(go_wp2_with fail);refine(c3 _ F).mono ?_;rintro e w7 ⟨rfl,a9⟩;have d5:y7 w7 Aa A.length A:=SlR.below F a9;have Y:y7 w7 Ag G.length G:=SlR.below O a9;(go_wp2_with fail);refine(L _ Y).mono ?_;rintro e w8 ⟨rfl,c8⟩;have d4:y7 w8 Aa A.length A:=SlR.below d5 c8;have d1:y7 w8 Ag G.length G:=SlR.below Y c8;have b0:=yE (yE V a9) c8;have e3:Below g w w8:=R.trans (b0.mono e0);have d9:g<=w8.heap.size:=oH b0.size;have f6:w2.heap.size<=w8.heap.size:=oH b0.size;clear U Z F O d5 Y R b0 V a9 c8 c3 L d7 e0;(go_wp2_with fail);refine(bnew _).mono ?_;rintro e w9 ⟨gb,bl,bg,rfl,i5,j3,j1,j2,f1⟩;have f2:=i5.raw;have d3:y7 w9 Aa A.length A:=SlR.below d4 f1;have d0:y7 w9 Ag G.length G:=SlR.below d1 f1;have c4:Below g w w9:=e3.trans (f1.mono d9);have g7:g<=gb:=oM;have g5:g<=bl:=oM;have g6:g<=bg:=oM;have h4:=dH (sO:∀x,x∈[bl,bg]->g<=x);have i9:=f2.nel;have j0:=f2.neg;have i6:Hid (∀x∈blk Aa,x∉[bl,bg]):=λx hx=>(oS (i7.out x hx));have j9:Hid (∀x∈blk Ag,x∉[bl,bg]):=λx hx=>(oS (i3.out x hx));clear i5 d4 d1 e3 f1 j3 j1 j2 d9 i7 i3 f6 f7;(go_wp2_with fail);obtain⟨wo,rfl⟩:∃wo:World,wo=w9:=⟨_,rfl⟩
       go_loopw [42] (λi wr=>∃j:Nat,j<=G.length/\i=.int .i64 j/\vD wr gb bl bg [] (G.take j)/\z6 [bl,bg] wo wr) (λi _=>G.length-(intOf i).toNat)
       case atStart=>exact⟨0,zL,rfl,f2,z6.refl _ _⟩
       case round =>
        clear f2;obtain⟨j,hj,rfl,hR,T⟩:=hrel;have d8:=hR.lt;by_cases I:j<G.length
        ·have c9:y7 wr Ag G.length G:=SlR.kept d0 T j9.out;obtain⟨q,o,rfl,hrow,-,-⟩:=y7.get c9 I I;have b5:G.take (j+1)=G.take j ++ [G[j]'I]:=by rw[List.take_add_one,List.getElem?_eq_getElem I];rfl
         have b6:=k1.out _ (List.getElem_mem I);obtain⟨x,hx⟩:=eX (G[j]'I)
         rw[hx]at hrow b5 b6;have h3:=dH b5;have e7:=dH b6;clear hx b5 b6 c9;have N:Below wr.heap.size wr (wr.alloc (.cells (zH x) 171)):=bA;have h1:=hR.below N;have f:z7 (wr.alloc (.cells (zH x) 171)) wr.heap.size 0 33=some (zH x):=by simp[go_sem]
         go_upto_region 16 with fail
         obtain⟨W1,e4⟩:=eR (wr.alloc (.cells (zH x) 171))
         rw[<-e4]at h1 f N |-;obtain⟨a8,b8,k0,a7⟩:=rput (x:=x) (h1.gone.kept (z6.drew W1) sI) e7.out;have a3:gb∉[bg]:=by simp;exact j0
         have c7:=h1.cell1;clear e4;refine kX [bg] W1 ?_;intro c5 hS;have b1:=zP c7 a3;have b2:=y9 f (S:=[bg]) sO;refine lZ ?_;refine lH ?_;intro K hK;refine zG (xA hS a7 sI) (λhS=>?_);refine hK _ _ ?_;clear hK K;refine zC ?_;intro hS;have b3:z6 [bg] W1 a8:=hS;have g2:bl∉[bg]:=by simp;exact h1.ne
         have a2:z6 [bg] wr a8:=z6.trans ((z6.of_below N).mono (S':=[bg]) sI) b3 iL;have g4:z6 [bl,bg] wo a8:=z6.trans T (a2.mono (S':=[bl,bg]) sI) iL;have g9:vD a8 gb bl bg [] (G.take (j+1)):=by
          rw[h3.out];refine⟨(b3.block gb h1.lt.1 a3).trans h1.blk,h1.live.kept b3 g2,k0.congr λy=>?_,h1.ne⟩;rw[List.mem_append,List.mem_singleton,List.mem_cons,or_comm]
         clear b1 b2 a7 b8 c5 hS b3 c7 f N a2;(go_wp2_with fail);go_roundw
         case rel=>exact⟨j+1,oM,by go_num,g9,g4⟩
         case measure=>exact sZ
        ·have i2:vD wr gb bl bg [] G:=by
          have:=hR
          rwa [List.take_of_length_le oM]at this
         have d6:y7 wr Aa A.length A:=SlR.kept d3 T i6.out;have a5:Below g w wr:=c4.trans (T.below (by have:=c4.size;have:=Hg.out;omega) h4.out);clear hR T d3 d0 c4 d8;(go_wp2_with fail);obtain⟨wp,rfl⟩:∃wp:World,wp=wr:=⟨_,rfl⟩
         go_loopw [54] (λi wr=>∃j:Nat,j<=A.length/\i=.int .i64 j/\vD wr gb bl bg (A.take j) G/\Hid (gZ A G=gZ (A.drop j) G)/\z6 [bl,bg] wp wr) (λi _=>A.length-(intOf i).toNat)
         case atStart=>exact⟨0,zL,rfl,i2,(show _=_ from rfl),z6.refl _ _⟩
         case round =>
          clear i2;obtain⟨j,hj,rfl,hR,e9,T⟩:=hrel;have d8:=hR.lt;by_cases I:j<A.length
          ·have d2:y7 wr Aa A.length A:=SlR.kept d6 T i6.out;obtain⟨q,o,rfl,hrow,-,-⟩:=y7.get d2 I I;have b5:A.take (j+1)=A.take j ++ [A[j]'I]:=by rw[List.take_add_one,List.getElem?_eq_getElem I];rfl
           have b6:=k2.out _ (List.getElem_mem I);have t:gZ A G=(decide (A[j]'I∈G)||gZ (A.drop (j+1)) G):=e9.out.trans (Z5 I);obtain⟨x,hx⟩:=eX (A[j]'I)
           rw[hx]at hrow b5 b6 t;have h3:=dH b5;have e7:=dH b6;clear hx b5 b6 d2 e9;have N:Below wr.heap.size wr (wr.alloc (.cells (zH x) 171)):=bA;have h1:=hR.below N;have f:z7 (wr.alloc (.cells (zH x) 171)) wr.heap.size 0 33=some (zH x):=by simp[go_sem]
           go_upto_region 21 with fail
           obtain⟨W1,e4⟩:=eR (wr.alloc (.cells (zH x) 171))
           rw[<-e4]at h1 f N |-;have c7:=h1.cell1;clear e4;by_cases c6:x∈G
           ·rw[decide_eq_true c6,Bool.true_or]at t;have H:=m.out;rw[if_pos t]at H;have a6:=dH H;have hk:∀y:Subtype (Bel W1),(Instr.lookup 167 (.map (some bg)) (.agg (zH x)) false).run Tryz.prog y.1=.ok (.bool true) y.1:=λy=>rhit (h1.gone.below y.2) e7.out c6;clear H t c6;refine lX W1 ?_;intro c5 hS;have b1:=zJ c7;have b2:=zU f;refine lZ ?_;refine zC ?_;intro hS;(go_wp2_with fail);go_ret2;exact⟨none,by rw[a6.out];rfl,λh0=>absurd (a6.out.symm.trans h0) oM,λ_=>rfl,a5.trans ((T.below (by have:=a5.size;have:=Hg.out;omega) h4.out).trans ((yE N hS).mono (by have:=a5.size;have:=T.size;have:=Hg.out;omega)))⟩
           ·rw[decide_eq_false c6,Bool.false_or]at t;have k6:=dH t;have hk:∀y:Subtype (Bel W1),(Instr.lookup 167 (.map (some bg)) (.agg (zH x)) false).run Tryz.prog y.1=.ok (.bool false) y.1:=λy=>rmiss (h1.gone.below y.2) e7.out c6;clear t c6;refine lX W1 ?_;intro c5 hS;have b1:=zJ c7;have b2:=zU f;refine lZ ?_;refine zC ?_;intro hS;have f0:=yZ W1;have h2:=h1.below f0;have a0:z7 W1.drew wr.heap.size 0 33=some (zH x):=f;clear b1 b2 hk c5 hS c7 f;go_upto_region 23 with fail
            obtain⟨W2,i1⟩:=eR W1.drew
            rw[<-i1]at h2 a0 f0 |-;have h9:=h2.cell0;obtain⟨a8,b8,j8,a7⟩:=rput (x:=x) (h2.live.kept (z6.drew W2) sI) e7.out;have a3:gb∉[bl]:=by simp;exact i9
            clear i1;refine kX [bl] W2 ?_;intro c5 hS;have b1:=zP h9 a3;have b2:=y9 a0 (S:=[bl]) sO;refine lZ ?_;refine lH ?_;intro K hK;refine zG (xA hS a7 sI) (λhS=>?_);refine hK _ _ ?_;clear hK K;refine zC ?_;intro hS;have b3:z6 [bl] W2 a8:=hS;have g2:bg∉[bl]:=by simp;exact λe=>h2.ne e.symm
            have a2:z6 [bl] wr a8:=z6.trans ((z6.of_below (yE N f0)).mono (S':=[bl]) sI) b3 iL;have g4:z6 [bl,bg] wp a8:=z6.trans T (a2.mono (S':=[bl,bg]) sI) iL;have g9:vD a8 gb bl bg (A.take (j+1)) G:=by
             rw[h3.out];refine⟨(b3.block gb h2.lt.1 a3).trans h2.blk,j8.congr λy=>?_,h2.gone.kept b3 g2,h2.ne⟩;rw[List.mem_append,List.mem_singleton,List.mem_cons,or_comm]
            clear b1 b2 a7 b8 c5 hS b3 h9 a0 N a2 f0;(go_wp2_with fail);go_roundw
            case rel=>exact⟨j+1,oM,by go_num,g9,k6,g4⟩
            case measure=>exact sZ
          ·have e5:vD wr gb bl bg A G:=by
            have:=hR
            rwa [List.take_of_length_le oM]at this
           have t:gZ A G=false:=by rw[e9.out,List.drop_eq_nil_of_le oM];rfl
           have H:=m.out;rw[if_neg (by rw[t];simp)]at H;obtain⟨_,p2,p3,_,p5,p6,p7⟩:=k3.out H;have i4:jC wr gb bl bg A G:=⟨e5.blk,e5.live,e5.gone,e5.ne,p5,p6,p2,p3,p7⟩
           have a6:=dH H;have k7:=dH i4;have g8:Below g w wr:=a5.trans (T.below (by have:=a5.size;have:=Hg.out;omega) h4.out);clear p2 p3 p5 p6 p7 i4 H t e5 hR e9 T;(go_wp2_with fail);go_ret2;exact⟨some ⟨gb,0,none⟩,by rw[a6.out];rfl,λ_=>⟨gb,bl,bg,rfl,k7.out,g7,g5,g6⟩,λh0=>absurd a6.out h0,g8⟩
    ·have h8:j4 l2 0=4:=by
      unfold j4 at c2 |-;rw[if_pos rfl]at c2 |-;split
      ·rename_i h;rw[if_pos h]at c2;exact absurd rfl c2
      ·rfl
     have e8:=dH h8;clear c3 L;have d:=r.out;rw[if_pos (by simp[h8])]at d;have m:=dH d;clear d;(go_wp2_with fail);refine(hU _ g l2 0 d7).mono ?_;rintro e w6 ⟨rfl,B⟩;rw[e8.out];have F:y7 w6 Aa A.length A:=SlR.below U B;have O:y7 w6 Ag G.length G:=SlR.below Z B;have V:Below g w w6:=R.trans (B.mono e0);(go_wp2_with fail);go_ret2;exact⟨none,by rw[m.out];rfl,λh0=>absurd (m.out.symm.trans h0) oM,λ_=>rfl,V⟩
 ·have l4:(e2==0)=false:=by simpa using he
  have l3:(e2 != 0)=true:=by simpa using he
  have J:=f5.out;rw[if_pos he]at J;have D:=dH J;have He:=dH he;clear J f5 he;(go_wp2_with fail);refine(qA _ g l2 e2 b9).mono ?_;rintro e w3 ⟨rfl,rfl⟩;(go_wp2_with fail);refine(qA _ g l2 e2 b9).mono ?_;rintro e w3 ⟨rfl,rfl⟩;(go_wp2_with fail);go_ret2;exact⟨none,by rw[D.out];rfl,λh0=>absurd (D.out.symm.trans h0) He.out,λ_=>rfl,b4⟩
structure Rds where
 rows:List Row
 l:List UInt8
 e:Int
def tD(l:List UInt8)(e:Int):Row:=⟨txV l e,txV (txL l e) (txE l e),(yK 4 (txL (txL l e) (txE l e)) (txE (txL l e) (txE l e)):Int),
 q3 (yV 32 (zK 4 (txL (txL l e) (txE l e)) (txE (txL l e) (txE l e))) (zM 4 (txL (txL l e) (txE l e)) (txE (txL l e) (txE l e))))⟩
def pK(l:List UInt8)(e:Int):List UInt8:=zK 32 (zK 4 (txL (txL l e) (txE l e)) (txE (txL l e) (txE l e))) (zM 4 (txL (txL l e) (txE l e)) (txE (txL l e) (txE l e)))
def pL(l:List UInt8)(e:Int):Int:=zM 32 (zK 4 (txL (txL l e) (txE l e)) (txE (txL l e) (txE l e))) (zM 4 (txL (txL l e) (txE l e)) (txE (txL l e) (txE l e)))
def dI(s:Rds):Rds:=⟨s.rows ++ [tD s.l s.e],pK s.l s.e,pL s.l s.e⟩
def jY:Nat->Rds->Rds
 | 0,s=>s
 | k+1,s=>if s.e=0 then jY k (dI s)else s
def yQ(l:List UInt8):Rds:=jY (yK 4 l 0) ⟨[],zK 4 l 0,zM 4 l 0⟩
theorem kZ(k:Nat)(s:Rds)(h:s.e≠0):jY k s=s:=by
 cases k with
 | zero=>rfl
 | succ k=>unfold jY;rw[if_neg h]
theorem dJ(k:Nat)(s:Rds)(h:s.e=0):jY (k+1) s=jY k (dI s):=by rw[jY,if_pos h]
def ZG(R:List Row):Prop:=∀x∈R,x.key.size<=255/\x.val.size<=255
theorem cZ{R:List Row}(h:ZG R)(l:List UInt8)(e:Int):ZG (R ++ [tD l e]):=λx hx=>by
 rcases List.mem_append.1 hx with h' | h'
 ·exact h x h'
 ·simp at h';subst h';exact⟨dV _ _,dV _ _⟩
def vM:List Row->Int
 | []=>0
 | x :: l=>if qC x.key (vL x)=0 then vM l else qC x.key (vL x)
def jX:List Row->Bool
 | []=>true
 | [_]=>true
 | x :: y :: l=>Z6 x.key y.key&&jX (y :: l)
def bC(l:List UInt8):Int :=
 if(yQ l).e≠0 then(yQ l).e
 else if vM (yQ l).rows≠0 then vM (yQ l).rows
 else if jX (yQ l).rows=false then 4
 else if(yQ l).l = []then 0 else 4
@[go_sem] theorem buildRow_0(a0:ByteArray)(w:World):(bdS 207 #[(0,.string a0)]).run Tryz.prog w=.ok (.agg (y4 ⟨a0,⟨#[]⟩,0,id0⟩)) w:=by
 refine qP w X9 _ (c7 w) _ (YL w) [(0,.string a0)] _ ?_;rw[show y4 m5=(#[]:Array Value) ++ #[.string ⟨#[]⟩]++(#[.string ⟨#[]⟩]++(#[.int .i64 0]++(idC id0)))from by first | (simp[y4,m5,Array.append_assoc];done) | (apply Array.ext';simp[y4,m5])];rw[yJ (off:=0) (size:=1) rfl sI sI (by simp[Value.cells])];simp only[Instr.fill,y4]
 all_goals try congr 1
 all_goals try (apply Array.ext';simp[Value.cells])
theorem YE(k v v':ByteArray)(n:Int)(d:zE):(y4 ⟨k,v,n,d⟩).setIfInBounds 1 (.string v')=y4 ⟨k,v',n,d⟩:=by
 apply Array.ext';simp[y4]
theorem YD(k v:ByteArray)(n n':Int)(d:zE):(y4 ⟨k,v,n,d⟩).setIfInBounds 2 (.int .i64 n')=y4 ⟨k,v,n',d⟩:=by
 apply Array.ext';simp[y4]
theorem YC(k v:ByteArray)(n:Int)(d d':zE):((y4 ⟨k,v,n,d⟩).toList.take (3+0)++(idC d').toList++(y4 ⟨k,v,n,d⟩).toList.drop (3+0+(idC d').toList.length)).toArray=y4 ⟨k,v,n,d'⟩:=by
 apply Array.ext';have h1:(idC d').toList.length=32:=sI;have h2:(idC d).toList.length=32:=sI;rw[h1];have e:(y4 ⟨k,v,n,d⟩).toList = [.string k,.string v,.int .i64 n]++(idC d).toList:=by simp[y4]
 have e':(y4 ⟨k,v,n,d'⟩).toList = [.string k,.string v,.int .i64 n]++(idC d').toList:=by simp[y4]
 rw[e,e'];simp[List.drop_eq_nil_of_le,h2]
theorem store_id{w:World}{g:Nat}{k v:ByteArray}{n:Int}{d:zE}(d':zE)(h:w.heap[g]?=some (.cells (y4 ⟨k,v,n,d⟩) 207 (0,0))) :
  (stS 39 ⟨g,3,none⟩ (.agg (idC d'))).run Tryz.prog w=.ok () (w.setRow g (y4 ⟨k,v,n,d'⟩)):=by
 have f:=run_storeCells_at Tryz.prog g 3 207 (idC d').toList 0 (y4 ⟨k,v,n,d⟩) w h sI (xG d');rw[YC]at f;unfold stS storeVar;have hi:=bU;cases hinfo:Tryz.prog.info? 39 with
 | none=>rw[hinfo]at hi;cases hi
 | some i =>
  rw[hinfo]at hi;have hk:i.size=32:=by simpa using hi
  simp[Value.cells,sizeOf,typeInfo,hinfo,hk];simpa using f
theorem rload_w(w:World)(s:ByteArray)(hs:s.size<=1000000) :
  Calls Tryz.prog 177 #[.string s] w λe w'=>∃A cap n,e=.returned (.tuple #[.slice A n cap,.int .i64 (bC s.data.toList)])/\(bC s.data.toList=0->SlW w' A n cap 35 ((yQ s.data.toList).rows.map y4)/\∀x∈blk A,w.heap.size<=x)/\Below w.heap.size w w':=by
 obtain⟨l,hl⟩:=eX s.data.toList
 have n6:s=mkB l:=by rw[<-hl];rfl
 have p8:l.length<=1000000:=by rw[<-hl];exact hs
 rw[hl];subst n6;clear hl hs;have m6:Below w.heap.size w (w.alloc (.cells (rrC ⟨mkB l,0⟩) 112)):=bA;have l7:jQ (w.alloc (.cells (rrC ⟨mkB l,0⟩) 112)) w.heap.size l 0:=⟨oM,heap_alloc_new w _⟩
 have c0:=fG _ _ l 0 l7;have hN:=yI 4 l 0;obtain⟨N,j2⟩:=eX (yK 4 l 0)
 have l4:Hid (yQ l=jY N ⟨[],zK 4 l 0,zM 4 l 0⟩):=by show _=_;rw[<-j2];rfl
 rw[j2]at c0 hN;clear j2;go_enter Tryz.func177,Tryz.ntmps177
 (go_wp2_with fail);refine c0.mono ?_;rintro e w1 ⟨rfl,a5⟩;have m5:Below w.heap.size w w1:=m6.trans (a5.2.below sI sI);have e9:=a5.1;clear c0 l7 m6 a5;obtain⟨g,hg⟩:=eX w.heap.size
 rw[hg]at e9 |-;have Hg:=dH hg;have q0:g<w1.heap.size:=e9.lt;clear hg;(go_wp2_with fail);go_loopw [6,7] (λout i wr=>∃(k:Nat) (R:List Row) (l1:List UInt8) (e1:Int) (A1:Option Addr) (a0:Nat),k<=N/\i=.int .i64 k/\out=.slice A1 R.length a0/\R.length=k/\Own wr w1.heap.size 207 35 A1 R.length a0 (R.map y4)/\jQ wr g l1 e1/\Hid (jY N ⟨[],zK 4 l 0,zM 4 l 0⟩=jY (N-k) ⟨R,l1,e1⟩)/\Hid (ZG R)/\Below w.heap.size w wr/\w1.heap.size<=wr.heap.size) (λ_ i _=>N-(intOf i).toNat)
 case atStart=>exact⟨0,[],_,_,none,0,zL,rfl,rfl,rfl,Own.nil _ _ _ _,e9,(show _=_ from rfl),(show ZG [] by intro x hx;cases hx),m5,lR⟩
 case round =>
  clear e9 m5;obtain⟨k,R,l1,e1,A1,a0,p9,rfl,rfl,m7,d,hr,f3,f5,hb,p7⟩:=hrel;have p4:=dH m7;have q5:R.length<=N:=oM;clear m7;obtain⟨c0,c1,_⟩:=vJ hr;by_cases hgo:k<N/\e1=0
  ·obtain⟨t,rfl⟩:=hgo;have a8:=f3.out;rw[(oM:N-k=(N-(k+1))+1),dJ _ _ rfl]at a8;have p0:=dH a8;have d5:=cZ f5.out l1 0;have e6:=dH d5;clear f3 a8 f5 d5;have o5:g∉blk A1:=λhx=>(oH ((d.at_base hx).1));(go_wp2_with fail);refine(n4 _ g l1 0 hr).mono ?_;rintro e w2 ⟨rfl,d0,m2⟩;have o2:=yI 1 l1 0;(go_wp2_with fail);refine(tA _ g _ _ _ d0 oM).mono ?_;rintro e w3 ⟨rfl,c9,m1⟩;have g0:jQ w3 g (txL l1 0) (txE l1 0):=c9;obtain⟨kv,h9⟩:=eX (mkB (yV (yK 1 l1 0) (zK 1 l1 0) (zM 1 l1 0)))
   have p1:=dH (show txV l1 0=kv from h9);rw[h9];obtain⟨l2,h7⟩:=eX (txL l1 0)
   obtain⟨e2,i7⟩:=eX (txE l1 0)
   rw[h7,i7]at g0;have j8:=dH h7;have k3:=dH i7;have b0:z6 [g] wr w3:=z6.trans m2 m1 iL;have c6:=b0.size;have i9:z6 [] w3 (w3.alloc (.cells (y4 ⟨kv,⟨#[]⟩,0,id0⟩) 207)):=z6.alloc _ _;have h8:=heap_alloc_new w3 (.cells (y4 ⟨kv,⟨#[]⟩,0,id0⟩) 207);have o6:g<w3.heap.size:=g0.lt;have n2:=g0.kept i9 sI;have d4:z6 [g] wr (w3.alloc (.cells (y4 ⟨kv,⟨#[]⟩,0,id0⟩) 207)):=z6.trans b0 (i9.mono (S':=[g]) sI) iL;clear hr d0 c9 m2 m1 h9 h7 i7 g0 i9 b0 o2 c0 c1;obtain⟨g8,i4⟩:=eX w3.heap.size
   rw[i4]at h8 o6 c6;go_upto_region 8 with fail
   have q7:=dH i4;clear i4;generalize w3.alloc (.cells (y4 ⟨kv,⟨#[]⟩,0,id0⟩) 207)=W at *;have i1:g8<W.heap.size:=(aG h8).1;have a7:g8∉[g]:=sO;have h4:g∉[g8]:=sO;(go_wp2_with fail);refine(n4 _ g l2 e2 n2).mono ?_;rintro e w5 ⟨rfl,l6,m0⟩;have o1:=yI 1 l2 e2;(go_wp2_with fail);refine(tA _ g _ _ _ l6 oM).mono ?_;rintro e w6 ⟨rfl,l5,l9⟩;have j3:jQ w6 g (txL l2 e2) (txE l2 e2):=l5;have a9:z6 [g] W w6:=z6.trans m0 l9 iL;have g4:=(a9.block g8 i1 a7).trans h8;obtain⟨vv,g6⟩:=eX (mkB (yV (yK 1 l2 e2) (zK 1 l2 e2) (zM 1 l2 e2)))
   have o7:=dH (show txV l2 e2=vv from g6);rw[g6];obtain⟨l3,h6⟩:=eX (txL l2 e2)
   obtain⟨e3,i6⟩:=eX (txE l2 e2)
   rw[h6,i6]at j3;have j7:=dH h6;have k2:=dH i6;have x1:w6.cell? ⟨g8,1,none⟩=some (.string ⟨#[]⟩):=by rw[cell_of_row w6 g8 _ _ _ _ g4];simp[go_sem]
   have f1:w6.frozen? ⟨g8,1,none⟩=false:=by simp[World.frozen?,g4]
   have g3:=zA g4 1 (.string vv);rw[YE]at g3;have O:=z6.setCell w6 ⟨g8,1,none⟩ (.string vv);have n1:=j3.kept O h4;have d3:z6 [g,g8] W (w6.setCell ⟨g8,1,none⟩ (.string vv)):=z6.trans (a9.mono (S':=[g,g8]) sI) (O.mono (S':=[g,g8]) sI) iL;clear l6 l5 m0 l9 g6 h6 i6 j3 n2 o1 a9 g4 h8 O;go_upto_region 9 with fail
   generalize w6.setCell ⟨g8,1,none⟩ (.string vv)=W7 at *;clear x1 f1;have i3:g8<W7.heap.size:=(aG g3).1;(go_wp2_with fail);refine(fG _ g l3 e3 n1).mono ?_;rintro e w8 ⟨rfl,n0,i0⟩;have g2:=(i0.block g8 i3 a7).trans g3;have x2:w8.cell? ⟨g8,2,none⟩=some (.int .i64 0):=by rw[cell_of_row w8 g8 _ _ _ _ g2];simp[go_sem]
   have f2:w8.frozen? ⟨g8,2,none⟩=false:=by simp[World.frozen?,g2]
   obtain⟨nv,h3⟩:=eX (yK 4 l3 e3)
   have o9:=dH h3;rw[h3];have g1:=zA g2 2 (.int .i64 nv);rw[YD]at g1;have O:=z6.setCell w8 ⟨g8,2,none⟩ (.int .i64 nv);have m9:=n0.kept O h4;have d2:z6 [g,g8] W (w8.setCell ⟨g8,2,none⟩ (.int .i64 nv)):=z6.trans (z6.trans d3 (i0.mono (S':=[g,g8]) sI) iL) (O.mono (S':=[g,g8]) sI) iL;clear n0 i0 h3 O d3 g2 g3 n1;go_upto_region 10 with fail
   generalize w8.setCell ⟨g8,2,none⟩ (.int .i64 nv)=W9 at *;clear x2 f2;have i2:g8<W9.heap.size:=(aG g1).1;(go_wp2_with fail);refine(nS _ g _ _ m9).mono ?_;rintro e c3 ⟨rfl,e0,b3⟩;have b9:=(b3.block g8 i2 a7).trans g1;obtain⟨dv,i8⟩:=eX (q3 (yV 32 (zK 4 l3 e3) (zM 4 l3 e3)))
   have p2:=dH i8;rw[i8];have n5:=store_id dv b9;have Y:=setRow_heap c3 g8 _ (y4 ⟨kv,vv,(nv:Int),dv⟩) _ _ b9;have O:z6 [g8] c3 (c3.setRow g8 (y4 ⟨kv,vv,(nv:Int),dv⟩)):=⟨rfl,rfl,rfl,by simp[World.setRow],λx _ hx=>setRow_other c3 g8 x _ (by simpa using hx)⟩
   have b8:=e0.kept O h4;have a2:z6 [g,g8] W (c3.setRow g8 (y4 ⟨kv,vv,(nv:Int),dv⟩)):=z6.trans (z6.trans d2 (b3.mono (S':=[g,g8]) sI) iL) (O.mono (S':=[g,g8]) sI) iL;clear e0 b3 i8 O d2 b9 g1 m9;go_upto_region 11 with fail
   generalize c3.setRow g8 (y4 ⟨kv,vv,(nv:Int),dv⟩)=W11 at *;have n3:∀x∈blk A1,x∉[g,g8]:=λx hx=>(oS (d.at_base hx));have X:z6 [g,g8] wr W11:=z6.trans (d4.mono (S':=[g,g8]) sI) a2 iL;have L:=d.kept X n3;have I:z7 W11 g8 0 35=some (y4 ⟨kv,vv,(nv:Int),dv⟩):=by unfold z7;rw[Y];simp[go_sem]
   have b7:Below w.heap.size w W11:=hb.trans (X.below hb.size (by intro x hx;simp at hx;have:=Hg.out;have:=hb.size;omega));have f7:Below W11.heap.size W11 (W11.alloc (.cells (y4 ⟨kv,vv,(nv:Int),dv⟩) 207)):=bA;have m:=L.below f7;have r:z7 (W11.alloc (.cells (y4 ⟨kv,vv,(nv:Int),dv⟩) 207)) W11.heap.size 0 35=some (y4 ⟨kv,vv,(nv:Int),dv⟩):=by simp[go_sem]
   have k8:w1.heap.size<=W11.heap.size:=oH X.size;have hx:tD l1 0=⟨kv,vv,(nv:Int),dv⟩:=by unfold tD;rw[p1.out,j8.out,k3.out,o7.out,j7.out,k2.out,o9.out,p2.out]
   have hL:pK l1 0=zK 32 (zK 4 l3 e3) (zM 4 l3 e3):=by unfold pK;rw[j8.out,k3.out,j7.out,k2.out]
   have m8:pL l1 0=zM 32 (zK 4 l3 e3) (zM 4 l3 e3):=by unfold pL;rw[j8.out,k3.out,j7.out,k2.out]
   rw[<-hL,<-m8]at b8;rw[hx]at e6;have Hx:=dH hx;clear hx hL m8 d L hb d4 a2 Y n3 c6;obtain⟨xx,k7⟩:∃xx:Row,(⟨kv,vv,(nv:Int),dv⟩:Row)=xx:=⟨_,rfl⟩
   rw[k7]at I f7 m r Hx e6;clear k7;go_wp2_with (at_builtin;refine yM qU rfl m rfl r (j9 _) oM oM sO ?_;intro p6 e4 k5 J a1 a4)
   have f4:z6 (blk A1) W11 k5:=z6.trans ((z6.of_below f7).mono (S':=blk A1) sI) a1 iL;have j5:=b8.kept f4 o5;have j1:=b7.trans (f4.below b7.size (λx hx=>by have:=(m.at_base hx).1;have:=Hg.out;omega));have c5:w1.heap.size<=k5.heap.size:=oH f4.size;rw[(sI:R.map y4 ++ [y4 xx]=(R ++ [xx]).map y4)]at J;have M:(R ++ [xx]).length=R.length+1:=sI;have G:=dH M;clear M f4 a1 a4 m r f7 I b7 b8;(go_wp2_with fail);go_roundw
   case rel=>exact⟨k+1,R ++ [xx],_,_,p6,e4,oM,by go_num,(by rw[G.out]),(by rw[G.out,p4.out]),(by rw[G.out];exact J),j5,(show _=_ by rw[p0.out];unfold dI;rw[Hx.out]),e6,j1,c5⟩
   case measure=>exact sZ
  ·have Y:yQ l=⟨R,l1,e1⟩:=by
    rw[l4.out,f3.out];by_cases he:e1=0
    ·rw[(oM:N-k=0)];rfl
    ·exact kZ _ _ he
   have c2:=dH Y;clear Y f3 l4;by_cases he:e1=0
   ·subst he;have o4:¬k<N:=oM;clear hgo;have g7:v3 wr A1 R.length R:=d.slr;have p3:=dH (show ∀x∈blk A1,w.heap.size<=x from λx hx=>by have h1:=(d.at_base hx).1;have h2:=Hg.out;omega);have j6:=dH (And.intro d.slw.le (And.intro d.slw.nil d.slw.plain));have q4:R.length<=4294967296:=oM;have d1:bC l=if vM R≠0 then vM R else if jX R=false then 4 else if l1 = []then 0 else 4:=by unfold bC;rw[c2.out,if_neg sI]
    have e5:=dH d1;have l0:(yQ l).rows=R:=by rw[c2.out]
    have o8:=dH l0;have e6:=dH f5.out;clear d1 l0 d f5;(go_wp2_with fail);obtain⟨wo,rfl⟩:∃wo:World,wo=wr:=⟨_,rfl⟩
    go_loopw [9] (λi wq=>∃j:Nat,j<=R.length/\i=.int .i64 j/\Hid (vM R=vM (R.drop j))/\Below wo.heap.size wo wq) (λi _=>R.length-(intOf i).toNat)
    case atStart=>exact⟨0,zL,rfl,(show _=_ from rfl),Below.refl _ _⟩
    case round =>
     obtain⟨j,hj,rfl,f6,F⟩:=hrel;by_cases t:j<R.length
     ·obtain⟨q,o,rfl,c7,_,_,_,_⟩:=v3.get (SlR.below g7 F) t t;have a3:R.drop j=R[j] :: R.drop (j+1):=List.drop_eq_getElem_cons t;have i5:=e6.out _ (List.getElem_mem t);obtain⟨x,hx⟩:=eX (R[j]'t)
      rw[hx]at c7 a3 i5;have b4:=f6.out;rw[a3]at b4;have d6:vM R=if qC x.key (vL x)=0 then vM (R.drop (j+1))else qC x.key (vL x):=b4;have k1:=dH d6;clear f6 b4 d6 a3 hx;(go_wp2_with fail);refine(rcheck x _ oM oM).mono ?_;rintro e w4 ⟨rfl,m3⟩;have d9:=yE F m3;clear m3 c7;obtain⟨E,hE⟩:=eX (qC x.key (vL x))
      rw[hE]at k1 |-;clear hE;cases hE0:(E==0)with
      | true =>
       obtain rfl:E=0:=by simpa using hE0
       have D:=k1.out;rw[if_pos rfl]at D;have k0:=dH D;clear D;(go_wp2_with fail);go_roundw
       case rel=>exact⟨j+1,oM,by go_num,k0,d9⟩
       case measure=>exact sZ
      | false =>
       have f9:E≠0:=by simpa using hE0
       have q6:(E != 0)=true:=by simpa using hE0
       have D:=k1.out;rw[if_neg f9]at D;have B:=e5.out;rw[D,if_pos f9]at B;have U:=dH B;have p5:=dH f9;clear D B f9;(go_wp2_with fail);go_ret2;exact⟨none,0,0,by rw[U.out];rfl,λh0=>absurd (U.out.symm.trans h0) p5.out,yE hb d9⟩
     ·have d7:vM R=0:=by rw[f6.out,List.drop_eq_nil_of_le oM];rfl
      have B:=e5.out;rw[if_neg (by rw[d7];simp)]at B;have U:=dH B;clear d7 B f6;have e7:v3 wr A1 R.length R:=SlR.below g7 F;have d0:=hr.below F;have j0:=yE hb F;clear g7 hr hb F;(go_wp2_with fail);obtain⟨wp,rfl⟩:∃wp:World,wp=wr:=⟨_,rfl⟩
      go_loopw [11] (λi wq=>∃j:Nat,(j<R.length\/j=0)/\i=.int .i64 ((j:Int)+1)/\Hid (jX R=jX (R.drop j))/\Below wp.heap.size wp wq) (λi _=>R.length+1-(intOf i).toNat)
      case atStart=>exact⟨0,.inr rfl,rfl,(show _=_ from rfl),Below.refl _ _⟩
      case round =>
       obtain⟨j,hj,rfl,e8,F⟩:=hrel;by_cases t:j+1<R.length
       ·obtain⟨q,o,rfl,_,T,_,_,_⟩:=v3.get (SlR.below e7 F) t t;obtain⟨q',o',g9,_,V,_,_,_⟩:=v3.get (SlR.below e7 F) (oM:j<R.length) (oM:j<R.length);injection g9 with g9
        injection g9 with o0 n9
        subst o0;subst n9;have a3:R.drop j=R[j] :: R[j+1] :: R.drop (j+2):=by rw[List.drop_eq_getElem_cons (oM:j<R.length),List.drop_eq_getElem_cons t]
        have b5:R.drop (j+1)=R[j+1] :: R.drop (j+2):=List.drop_eq_getElem_cons t;obtain⟨x,hx⟩:=eX (R[j]'oM)
        obtain⟨y,hy⟩:=eX (R[j+1]'t)
        rw[hx]at V a3;rw[hy]at T a3 b5;have a6:=e8.out;rw[a3]at a6;have c8:jX R=(Z6 x.key y.key&&jX (R.drop (j+1))):=by rw[a6,b5];rfl
        have g5:=dH c8;clear e8 a6 c8 a3 b5 hx hy;have h5:((j:Int)+1<R.length):=oM;have k6:IntKind.i64.wrap (j:Int)=j:=IntWalk.i64_in _ oM;have t1:((j:Int)+1).toNat=j+1:=oM;have t2:(0:Int)<=(j:Int)+1:=oM;have t3:(j:Int)<R.length:=oM;have t4:j<R.length:=oM;cases hbl:Z6 x.key y.key with
        | true =>
         have b6:Op.bytesLess x.key.toList y.key.toList=true:=hbl;rw[hbl,Bool.true_and]at g5;go_upto_region 23 with fail
         refine lX wr ?_;intro f0 hS;have b1:=zJ V;have b2:=zJ T;refine lZ ?_;refine zC ?_;intro hS;clear f0 hS b1 b2 hbl b6 k6;(go_wp2_with fail);go_roundw
         case rel=>exact⟨j+1,.inl t,by go_num,g5,F.drew⟩
         case measure=>exact sZ
        | false =>
         have b6:Op.bytesLess x.key.toList y.key.toList=false:=hbl;rw[hbl,Bool.false_and]at g5;have f:=U.out;rw[if_pos g5.out]at f;have H:=dH f;clear f;go_upto_region 23 with fail
         refine lX wr ?_;intro f0 hS;have b1:=zJ V;have b2:=zJ T;refine lZ ?_;refine zC ?_;intro hS;clear f0 hS b1 b2 hbl b6 k6;(go_wp2_with fail);go_ret2;exact⟨none,0,0,by rw[H.out];rfl,λh0=>absurd (H.out.symm.trans h0) oM,yE j0 F.drew⟩
       ·have k9:jX R=true:=by
         rw[e8.out];have l8:(R.drop j).length<=1:=by rw[List.length_drop];omega
         generalize R.drop j=Z at l8
         match Z,l8 with
         | [],_=>rfl
         | [_],_=>rfl
        have f:=U.out;rw[if_neg (by rw[k9];simp)]at f;have n8:v3 wr A1 R.length R:=SlR.below e7 F;have c9:=d0.below F;have m4:=yE j0 F;have h5:decide ((j:Int)+1<R.length)=false:=sO;have o3:decide (j+1<R.length)=false:=sO;have Hj:=dH hj;clear k9 e8 e7 d0 j0 F hj t;by_cases c4:l1 = []
        ·have d8:j4 l1 0=0:=by unfold j4;rw[if_pos rfl,if_pos c4]
         rw[if_pos c4]at f;have H:=dH f;have k4:=dH d8;clear f d8 c4;(go_wp2_with fail);refine(tB _ g l1 0 c9).mono ?_;rintro e w5 ⟨rfl,f8⟩;rw[k4.out];have n7:v3 w5 A1 R.length R:=SlR.below n8 f8;(go_wp2_with fail);go_ret2;exact⟨A1,a0,R.length,by rw[H.out];rfl,λ_=>⟨by rw[o8.out];exact⟨n7,j6.out.1,j6.out.2.1,j6.out.2.2⟩,p3.out⟩,yE m4 f8⟩
        ·have d8:j4 l1 0=4:=by unfold j4;rw[if_pos rfl,if_neg c4]
         rw[if_neg c4]at f;have H:=dH f;have k4:=dH d8;clear f d8 c4;(go_wp2_with fail);refine(tB _ g l1 0 c9).mono ?_;rintro e w5 ⟨rfl,f8⟩;rw[k4.out];(go_wp2_with fail);go_ret2;exact⟨none,0,0,by rw[H.out];rfl,λh0=>absurd (H.out.symm.trans h0) oM,yE m4 f8⟩
   ·have q2:(e1==0)=false:=by simpa using he
    have q1:(e1 != 0)=true:=by simpa using he
    have d1:bC l=e1:=by unfold bC;rw[c2.out,if_pos he]
    have e5:=dH d1;have He:=dH he;clear d1 he hgo d;by_cases t:k<N
    all_goals
     go_upto_region 13 with fail
     refine lX wr ?_;intro f0 hS;have b1:=zJ c1;refine lZ ?_;refine zC ?_;intro hS;(go_wp2_with fail);go_ret2;exact⟨none,0,0,by rw[e5.out];rfl,λh0=>absurd (e5.out.symm.trans h0) He.out,hb.drew⟩
structure Nm where
 key:ByteArray
 set:xC
def nmC(x:Nm):Array Value:=#[.string x.key]++zV x.set
@[simp] theorem rH(x:Nm):(nmC x).size=35:=by simp[nmC]
@[go_sem] theorem nmC_g0(x:Nm):(nmC x)[0]?=some (.string x.key):=by first | (simp[nmC,Array.getElem?_append];done) | (rw[show nmC x=((#[]:Array Value)) ++ #[.string x.key]++(zV x.set)from by apply Array.ext';simp[nmC]];exact qO _ _ _ _ sI)
@[go_sem] theorem nmC_gg0(x:Nm)(h:0<(nmC x).size):(nmC x)[0]'h=.string x.key:=Option.some.inj ((Array.getElem?_eq_getElem h).symm.trans (nmC_g0 x))
@[go_sem] theorem nmC_e1(x:Nm):(nmC x).extract 1 35=zV x.set:=by
 have h:nmC x=(#[.string x.key])++zV x.set++((#[]:Array Value)):=by first | (simp[nmC,Array.append_assoc];done) | (apply Array.ext';simp[nmC];done)
 rw[h];exact bP _ _ _ _ _ sI sI
@[go_sem] theorem nmC_all(x:Nm):(nmC x).extract 0 35=nmC x:=by have:=Array.extract_size (xs:=nmC x);rwa [rH]at this
theorem zw(x:Nm):∀u∈(nmC x).toList,u.oneCell'=true:=by
 intro u hu;simp only[nmC,Array.toList_append,List.mem_append]at hu;rcases hu with hu | hu
 ·simp at hu;subst hu;rfl
 ·exact rC _ u hu
def nm0:Nm:=⟨⟨#[]⟩,vU⟩
theorem Nm_ext{x y:Nm}(h:x.key=y.key/\x.set=y.set):x=y:=by cases x;cases y;simp_all
instance:DecidableEq Nm:=λx y=>if h:x.key=y.key/\x.set=y.set then isTrue (Nm_ext h)else isFalse (λe=>h (by subst e;simp))
theorem infoNm:(Tryz.prog.info? 312).map (·.size)=some 35:=kR
@[go_sem ↓] theorem zeroNm_run(w:World):(zeroValue 312).run Tryz.prog w=.ok (.agg (nmC nm0)) w:=by
 have h:(Tryz.prog.info? 312).bind (·.zero)=some (.agg (nmC nm0)):=kR;cases hi:Tryz.prog.info? 312 with
 | none=>rw[hi]at h;cases h
 | some i =>
  rw[hi]at h;have hz:i.zero=some (.agg (nmC nm0)):=h;simp[zeroValue,typeInfo,hi,hz]
@[go_sem ↓] theorem loadNm_rw(a:Addr):loadVar 312 a=ldS 312 a:=rfl
@[go_sem ↓] theorem storeNm_rw(a:Addr)(v:Value):storeVar 312 a v=stS 312 a v:=rfl
@[go_sem] theorem loadNm_run(w:World)(g o:Nat):(ldS 312 ⟨g,o,none⟩).run Tryz.prog w=match z7 w g o 35 with | some cs=>.ok (.agg cs) w | none=>(loadVar 312 ⟨g,o,none⟩).run Tryz.prog w :=
 vZ Tryz.underlying312 rfl infoNm w g o
@[go_sem] theorem storeNm_run(w:World)(g:Nat)(hg:g=w.heap.size)(z:Array Value)(hz:z.size=35)(x:Nm)(e:TypeId):(stS 312 ⟨g,0,none⟩ (.agg (nmC x))).run Tryz.prog (w.alloc (.cells z e))=.ok () (w.alloc (.cells (nmC x) e)) :=
 hg ▸ qY infoNm w z (nmC x) hz (rH x) (zw x)
@[go_sem ↓] theorem buildNm_rw(parts:Array (Nat×Value)):Instr.build 312 parts=bdS 312 parts:=rfl
def JX(x:Row):Nm:=⟨x.key,vL x⟩
theorem yc:xH Tryz.prog 309 312 35 72 :=
 .of (z:=.agg (nmC nm0)) Tryz.underlying309 kR kR kR (rH _) oM
@[go_sem ↓] theorem bsNm_rw(n:Nat)(parts:Array (Nat×Value)):Instr.buildSlice 309 n parts=bsS 309 n parts:=rfl
@[go_sem] theorem bsNm_run(w:World)(x:Nm):(bsS 309 1 #[(0,.agg (nmC x))]).run Tryz.prog w=.ok (.slice (some ⟨w.heap.size,0,none⟩) 1 1) (w.alloc (.cells (nmC x) 312)) :=
 bF yc oM w (nmC x) (rH x)
theorem nm_row(x:Row):nmC (JX x)=y4 x:=by
 unfold nmC JX y4 vL zV;apply Array.ext';simp
theorem qg(k k' v:ByteArray)(n:Int)(d:zE):(y4 ⟨k,v,n,d⟩).setIfInBounds 0 (.string k')=y4 ⟨k',v,n,d⟩:=by
 apply Array.ext';simp[y4]
theorem vf{w:World}{g:Nat}{k v:ByteArray}{n:Int}(b:List UInt8)(hb:b.length=32\/b = [])(ty:TypeId)(c:Nat)(h:w.heap[g]?=some (.cells (y4 ⟨k,v,n,id0⟩) 312 (0,0))) :
  ∃w' m,(Builtin.copy_ #[37,9] ty #[.slice (some ⟨g,3,none⟩) 32 c,.string (mkB b)]).run Tryz.prog w=.ok m w'/\w'.heap[g]?=some (.cells (y4 ⟨k,v,n,q3 b⟩) 312 (0,0))/\z6 [g] w w':=by
 rcases hb with hb | hb
 ·have hs:(mkB b).size=32:=by rw[vV,hb]
  have h1:=Go.Lib.run_copy_row_string (P:=Tryz.prog) w 37 9 ty 5 g 3 32 c (mkB b) _ _ Tryz.underlying37 kR h oM (by rw[hs];simp);refine⟨_,_,h1,?_,⟨rfl,rfl,rfl,by simp[World.setRow],λx _ hx=>setRow_other w g x _ (by simpa using hx)⟩⟩;rw[setRow_heap w g _ _ _ _ h];have e3:=YC k v n id0 (q3 b);have e:(q3 b).l=b:=by unfold q3;rw[dif_pos hb]
  have e2:(idC (q3 b)).toList=Go.Lib.byteCells (mkB b).data.toList:=by unfold idC;rw[e];rfl
  rw[e2]at e3;have e4:(Go.Lib.byteCells (mkB b).data.toList).length=32:=by rw[<-e2];simp
  rw[e4]at e3;rw[hs];simp only[Nat.add_zero]at e3;rw[e3]
 ·subst hb;have h1:=Go.Lib.run_copy_empty_string (P:=Tryz.prog) w 37 9 ty 5 (some ⟨g,3,none⟩) 32 c (mkB []) Tryz.underlying37 kR rfl;exact⟨_,_,h1,h,z6.refl _ _⟩
def QE(R:List Row):List (Array Value):=R.map λx=>nmC (JX x)
theorem lread(w:World)(g:Nat)(l:List UInt8)(c1:q8 w g l 0) :
  Calls Tryz.prog 229 #[.pointer (some ⟨g,0,none⟩)] w λe w'=>∃A cap,e=.returned (.slice A (yQ l).rows.length cap)/\Own w' w.heap.size 312 35 A (yQ l).rows.length cap (QE (yQ l).rows)/\q8 w' g (yQ l).l (yQ l).e/\z6 [g] w w'/\ZG (yQ l).rows:=by
 have c0:=k5 _ _ l 0 c1;have hN:=yI 4 l 0;obtain⟨N,d8⟩:=eX (yK 4 l 0)
 have f6:Hid (yQ l=jY N ⟨[],zK 4 l 0,zM 4 l 0⟩):=by show _=_;rw[<-d8];rfl
 rw[d8]at c0 hN;clear d8;have k0:=c1.lt;go_enter Tryz.func229,Tryz.ntmps229
 (go_wp2_with fail);refine c0.mono ?_;rintro e w1 ⟨rfl,g1,c8⟩;have h5:=dH c8;have Z:=c8.size;clear c0 c1 c8;(go_wp2_with fail);go_loopw [3,5] (λout i wr=>∃(k:Nat) (R:List Row) (l1:List UInt8) (e1:Int) (A1:Option Addr) (F:Nat),k<=N/\i=.int .i64 k/\out=.slice A1 R.length F/\R.length=k/\Own wr w1.heap.size 312 35 A1 R.length F (QE R)/\q8 wr g l1 e1/\Hid (jY N ⟨[],zK 4 l 0,zM 4 l 0⟩=jY (N-k) ⟨R,l1,e1⟩)/\Hid (ZG R)/\z6 [g] w1 wr) (λ_ i _=>N-(intOf i).toNat)
 case atStart=>exact⟨0,[],_,_,none,0,zL,rfl,rfl,rfl,Own.nil _ _ _ _,g1,(show _=_ from rfl),(show ZG [] by intro x hx;cases hx),z6.refl _ _⟩
 case round =>
  clear g1;obtain⟨k,R,l1,e1,A1,F,j8,rfl,rfl,g7,m,hr,b1,b2,hk⟩:=hrel;have j4:=dH g7;have k3:R.length<=N:=oM;clear g7;have j7:=hk.size;by_cases hgo:k<N/\e1=0
  ·obtain⟨i2,rfl⟩:=hgo;have M:=b1.out;rw[(oM:N-k=(N-(k+1))+1),dJ _ _ rfl]at M;have j1:=dH M;have a5:=cZ b2.out l1 0;have h6:=dH a5;clear b1 M b2 a5;have j9:=hr.lt;have i4:g∉blk A1:=λhx=>(oH ((m.at_base hx).1));have h8:=heap_alloc_new wr (.cells (y4 m5) 312);have f9:=hr.kept (z6.alloc wr (.cells (y4 m5) 312)) sI;have g4:z6 [] wr (wr.alloc (.cells (y4 m5) 312)):=z6.alloc _ _;have c3:nmC nm0=y4 m5:=nm_row m5;(go_wp2_with fail);refine(qA _ g l1 0 hr).mono ?_;rintro e w5 ⟨rfl,rfl⟩;go_upto_region 7 with fail
   obtain⟨g8,d4⟩:=eX wr.heap.size
   rw[d4]at h8 |-;have k1:g<g8:=oM;have j3:=dH d4;clear d4 hr c3;generalize wr.alloc (.cells (y4 m5) 312)=W at *;have d0:g8<W.heap.size:=(aG h8).1;have G:g8∉[g]:=sO;have b0:g∉[g8]:=sO;(go_wp2_with fail);refine(vQ _ g l1 0 f9).mono ?_;rintro e w2 ⟨rfl,g0,g5⟩;have i1:=yI 1 l1 0;(go_wp2_with fail);refine(bD _ g _ _ _ g0 oM).mono ?_;rintro e w3 ⟨rfl,U,a0⟩;have e0:q8 w3 g (txL l1 0) (txE l1 0):=U;have T:z6 [g] W w3:=z6.trans g5 a0 iL;have b7:=(T.block g8 d0 G).trans h8;obtain⟨kv,c6⟩:=eX (mkB (yV (yK 1 l1 0) (zK 1 l1 0) (zM 1 l1 0)))
   have j2:=dH (show txV l1 0=kv from c6);rw[c6];obtain⟨l2,c5⟩:=eX (txL l1 0)
   obtain⟨e2,d6⟩:=eX (txE l1 0)
   rw[c5,d6]at e0;have e8:=dH c5;have f3:=dH d6;have x0:w3.cell? ⟨g8,0,none⟩=some (.string ⟨#[]⟩):=by rw[cell_of_row w3 g8 _ _ _ _ b7];simp[y4,m5]
   have f0:w3.frozen? ⟨g8,0,none⟩=false:=by simp[World.frozen?,b7]
   have b6:=zA b7 0 (.string kv);rw[show m5=⟨⟨#[]⟩,⟨#[]⟩,0,id0⟩ from rfl,qg]at b6;have D:=z6.setCell w3 ⟨g8,0,none⟩ (.string kv);have h2:=e0.kept D b0;have a3:z6 [g,g8] W (w3.setCell ⟨g8,0,none⟩ (.string kv)):=z6.trans (T.mono (S':=[g,g8]) sI) (D.mono (S':=[g,g8]) sI) iL;clear g0 f9 U g5 a0 c6 c5 d6 e0 i1 b7 D T h8;go_upto_region 8 with fail
   generalize w3.setCell ⟨g8,0,none⟩ (.string kv)=W4 at *;clear x0 f0;have d3:g8<W4.heap.size:=(aG b6).1;(go_wp2_with fail);refine(vQ _ g l2 e2 h2).mono ?_;rintro e w5 ⟨rfl,f8,g3⟩;have i0:=yI 1 l2 e2;(go_wp2_with fail);refine(bD _ g _ _ _ f8 oM).mono ?_;rintro e w6 ⟨rfl,f7,g2⟩;have d9:q8 w6 g (txL l2 e2) (txE l2 e2):=f7;have O:z6 [g] W4 w6:=z6.trans g3 g2 iL;have b5:=(O.block g8 d3 G).trans b6;obtain⟨vv,b9⟩:=eX (mkB (yV (yK 1 l2 e2) (zK 1 l2 e2) (zM 1 l2 e2)))
   have i9:=dH (show txV l2 e2=vv from b9);rw[b9];obtain⟨l3,c4⟩:=eX (txL l2 e2)
   obtain⟨e3,d5⟩:=eX (txE l2 e2)
   rw[c4,d5]at d9;have e7:=dH c4;have e9:=dH d5;have x1:w6.cell? ⟨g8,1,none⟩=some (.string ⟨#[]⟩):=by rw[cell_of_row w6 g8 _ _ _ _ b5];simp[go_sem]
   have f1:w6.frozen? ⟨g8,1,none⟩=false:=by simp[World.frozen?,b5]
   have b4:=zA b5 1 (.string vv);rw[YE]at b4;have D:=z6.setCell w6 ⟨g8,1,none⟩ (.string vv);have h1:=d9.kept D b0;have a2:z6 [g,g8] W (w6.setCell ⟨g8,1,none⟩ (.string vv)):=z6.trans (z6.trans a3 (O.mono (S':=[g,g8]) sI) iL) (D.mono (S':=[g,g8]) sI) iL;clear f8 f7 g3 g2 b9 c4 d5 d9 h2 i0 O b5 b6 D a3;go_upto_region 9 with fail
   generalize w6.setCell ⟨g8,1,none⟩ (.string vv)=W7 at *;clear x1 f1;have d2:g8<W7.heap.size:=(aG b4).1;(go_wp2_with fail);refine(k5 _ g l3 e3 h1).mono ?_;rintro e w8 ⟨rfl,h0,c7⟩;have b3:=(c7.block g8 d2 G).trans b4;have x2:w8.cell? ⟨g8,2,none⟩=some (.int .i64 0):=by rw[cell_of_row w8 g8 _ _ _ _ b3];simp[go_sem]
   have f2:w8.frozen? ⟨g8,2,none⟩=false:=by simp[World.frozen?,b3]
   obtain⟨nv,c2⟩:=eX (yK 4 l3 e3)
   have j0:=dH c2;rw[c2];have e5:=zA b3 2 (.int .i64 nv);rw[YD]at e5;have D:=z6.setCell w8 ⟨g8,2,none⟩ (.int .i64 nv);have i7:=h0.kept D b0;have a1:z6 [g,g8] W (w8.setCell ⟨g8,2,none⟩ (.int .i64 nv)):=z6.trans (z6.trans a2 (c7.mono (S':=[g,g8]) sI) iL) (D.mono (S':=[g,g8]) sI) iL;clear h0 c7 c2 D a2 b3 b4 h1;go_upto_region 10 with fail
   generalize w8.setCell ⟨g8,2,none⟩ (.int .i64 nv)=W9 at *;clear x2 f2;have d1:g8<W9.heap.size:=(aG e5).1;have h4:=tQ W9.drew g _ _ (i7.kept (z6.drew W9) sI);refine kX [g,g8] W9 ?_;intro h9 hS;refine lZ ?_;refine lH ?_;intro K hK;refine h4.mono ?_;rintro e h7 ⟨rfl,a7,X⟩;replace hS:=xA hS X sI;have e6:h7.heap[g8]?=_:=(X.block g8 d1 G).trans e5;refine⟨_,rfl,hS,hK _ _ ?_⟩;clear hK K h4;obtain⟨r,j6,i6,E,V⟩:=vf (yV 32 (zK 4 l3 e3) (zM 4 l3 e3)) (lI _ _) 3 32 e6;refine lH ?_;intro K hK;refine zG (xA hS V sI) (λg6=>?_);refine hK _ _ ?_;clear hK K;refine zC ?_;intro hS;have H:z6 [g,g8] W9 r:=g6;have Y:=a7.kept V b0;have i5:=j3.out;have j:z6 [g,g8] wr r:=z6.trans (g4.mono (S':=[g,g8]) sI) (z6.trans a1 H iL) iL;have h3:∀x∈blk A1,x∉[g,g8]:=λx hx=>(oS (m.at_base hx));have y:=m.kept j h3;have a4:z6 [g] wr r:=j.mono (by intro x hx;simp at hx;rcases hx with rfl | rfl <;> simp;omega);have hx:tD l1 0=⟨kv,vv,(nv:Int),q3 (yV 32 (zK 4 l3 e3) (zM 4 l3 e3))⟩:=by unfold tD;rw[j2.out,e8.out,f3.out,i9.out,e7.out,e9.out,j0.out]
   have hL:pK l1 0=zK 32 (zK 4 l3 e3) (zM 4 l3 e3):=by unfold pK;rw[e8.out,f3.out,e7.out,e9.out]
   have g9:pL l1 0=zM 32 (zK 4 l3 e3) (zM 4 l3 e3):=by unfold pL;rw[e8.out,f3.out,e7.out,e9.out]
   rw[<-hL,<-g9]at Y;rw[<-hx]at E;obtain⟨xx,b8⟩:=eX (tD l1 0)
   rw[b8]at E h6;have i8:=dH b8;rw[<-nm_row]at E;clear b8 hx hL g9 m h3 h9 hS g6 i6 a7 X V H;have L:z7 r g8 0 35=some (nmC (JX xx)):=by unfold z7;rw[E];simp[go_sem]
   have d7:Below r.heap.size r (r.alloc (.cells (nmC (JX xx)) 312)):=bA;have d:=y.below d7;have s:z7 (r.alloc (.cells (nmC (JX xx)) 312)) r.heap.size 0 35=some (nmC (JX xx)):=by simp[go_sem]
   have f5:w1.heap.size<=r.heap.size:=oH j.size;clear y E j a1 g4;go_wp2_with (at_builtin;refine yM yc rfl d rfl s (zw _) oM oM sO ?_;intro j5 a8 f4 t I J)
   have c9:z6 (blk A1) r f4:=z6.trans ((z6.of_below d7).mono (S':=blk A1) sI) I iL;have e4:=Y.kept c9 i4;have i3:z6 [g] w1 f4:=z6.trans (z6.trans hk a4 iL) c9 (λx hx=>.inr (oH ((d.at_base hx).1)));rw[show QE R ++ [nmC (JX xx)]=QE (R ++ [xx]) by simp[QE]]at t;have B:(R ++ [xx]).length=R.length+1:=sI;have f:=dH B;clear B c9 I J d s d7 L Y;(go_wp2_with fail);go_roundw
   case rel=>exact⟨k+1,R ++ [xx],_,_,j5,a8,oM,by go_num,(by rw[f.out]),(by rw[f.out,j4.out]),(by rw[f.out];exact t),e4,(show _=_ by rw[j1.out];unfold dI;rw[i8.out]),h6,i3⟩
   case measure=>exact sZ
  ·have a6:yQ l=⟨R,l1,e1⟩:=by
    rw[f6.out,b1.out];by_cases he:e1=0
    ·rw[(oM:N-k=0)];rfl
    ·exact kZ _ _ he
   have a9:=dH a6;clear a6 b1 f6;by_cases i2:k<N
   ·have he:e1≠0:=oM;have k2:(e1==0)=false:=by simpa using he
    clear hgo he;(go_wp2_with fail);refine(qA _ g l1 e1 hr).mono ?_;rintro e w5 ⟨rfl,rfl⟩;(go_wp2_with fail);go_ret;rw[a9.out];exact⟨A1,F,rfl,m.mono Z,hr,z6.trans h5.out hk iL,b2.out⟩
   ·clear hgo;(go_wp2_with fail);go_ret;rw[a9.out];exact⟨A1,F,rfl,m.mono Z,hr,z6.trans h5.out hk iL,b2.out⟩
theorem JS{l:List UInt8}{e:Int}(h:pL l e=0):e=0/\gK (vX (tD l e))++pK l e=l:=by
 obtain⟨h1,h2,h3⟩:=tR (show zM _ _ _=0 from h);obtain⟨h4,h5⟩:=bY h1;obtain⟨h6,h7⟩:=tL h4;obtain⟨h8,h9⟩:=tL h6;refine⟨h8,?_⟩;have e1:(q3 (yV 32 (zK 4 (txL (txL l e) (txE l e)) (txE (txL l e) (txE l e))) (zM 4 (txL (txL l e) (txE l e)) (txE (txL l e) (txE l e))))).l=yV 32 (zK 4 (txL (txL l e) (txE l e)) (txE (txL l e) (txE l e))) (zM 4 (txL (txL l e) (txE l e)) (txE (txL l e) (txE l e))):=by
  unfold q3;rw[dif_pos h3]
 unfold gK vX tD vL pK;simp only[Int.toNat_natCast,e1,List.append_assoc];rw[h2,h5,h7,h9]
theorem rK:∀(k:Nat) (s:Rds),(jY k s).e=0->∃X:List Row,X.length=k/\(jY k s).rows=s.rows++X/\(X.map vX).flatMap gK++(jY k s).l=s.l
 | 0,s,_=>⟨[],rfl,by simp[jY],by simp[jY]⟩
 | k+1,s,h=>by
  by_cases he:s.e=0
  ·rw[dJ k s he]at h |-;obtain⟨X,h1,h2,h3⟩:=rK k (dI s) h;have h4:pL s.l s.e=0:=by
    by_cases hc:(dI s).e=0
    ·exact hc
    ·rw[kZ k _ hc]at h;exact h
   obtain⟨_,h5⟩:=JS h4;refine⟨tD s.l s.e :: X,by simp[h1],by rw[h2];simp[dI],?_⟩;rw[List.map_cons,List.flatMap_cons,List.append_assoc,h3];exact h5
  ·rw[kZ _ _ he]at h;exact absurd h he
theorem Q4{l:List UInt8}(h:(yQ l).e=0):nV ((yQ l).rows.map vX)++(yQ l).l=l:=by
 obtain⟨X,h1,h2,h3⟩:=rK _ _ h;have hE:zM 4 l 0=0:=by
  by_cases hc:zM 4 l 0=0
  ·exact hc
  ·have h':=h;unfold yQ at h';rw[kZ _ _ (show(Rds.mk [] (zK 4 l 0) (zM 4 l 0)).e≠0 from hc)]at h';exact h'
 obtain⟨_,h5⟩:=bY hE;unfold yQ;rw[h2];unfold nV;simp only[List.nil_append,List.length_map,List.append_assoc];rw[h1,h3,h5]
theorem rL{l:List UInt8}(h:bC l=0):(yQ l).e=0/\vM (yQ l).rows=0/\jX (yQ l).rows=true/\(yQ l).l = []:=by
 unfold bC at h;split at h
 ·exact absurd h (by assumption)
 ·rename_i h1
  split at h
  ·exact absurd h (by assumption)
  ·rename_i h2
   split at h
   ·cases h
   ·rename_i h3
    split at h
    ·rename_i h4
     exact⟨oM,oM,by simpa using h3,h4⟩
    ·cases h
theorem BL{l:List UInt8}(h:bC l=0):nV ((yQ l).rows.map vX)=l:=by
 obtain⟨h1,_,_,h4⟩:=rL h;have:=Q4 h1
 rwa [h4,List.append_nil]at this
theorem aQ:∀(R:List Row),vM R=0↔∀p∈R.map vX,qC p.1 p.2=0
 | []=>by simp[vM]
 | x :: R=>by
  unfold vM;have ih:=aQ R;constructor
  ·intro h;split at h
   ·rename_i hx
    intro p hp;rcases List.mem_cons.1 hp with e | hp
    ·rw[e];exact hx
    ·exact ih.1 h p hp
   ·exact absurd h (by assumption)
  ·intro h;rw[if_pos (show qC x.key (vL x)=0 from h (vX x) sI)];exact ih.2 λp hp=>h p (by simp only[List.map_cons,List.mem_cons];exact .inr hp)
theorem pF:∀(R:List Row),jX R=true↔g7 (R.map vX)
 | []=>by simp[jX,g7]
 | [x]=>by simp[jX,g7]
 | x :: y :: R=>by
  have ih:=pF (y :: R);unfold jX;rw[Bool.and_eq_true,ih,kD,decide_eq_true_eq];constructor
  ·rintro⟨h1,h2⟩;refine⟨λz hz=>?_,h2⟩;rcases List.mem_cons.1 hz with e | hz
   ·rw[e];exact h1
   ·exact lP _ _ _ h1 (h2.1 z hz)
  ·rintro⟨h1,h2⟩;exact⟨h1 (vX y) sI,h2⟩
theorem ji{l:List UInt8}(h:bC l=0):r4 ((yQ l).rows.map vX):=by
 obtain⟨_,h2,h3,_⟩:=rL h;exact⟨(pF _).1 h3,(aQ _).1 h2⟩
theorem VC:∀(X:List Row) (x:Row),(∀y∈X,xY y.key x.key<0)->lN X x=X ++ [x]
 | [],_,_=>rfl
 | y :: X,x,h=>by
  unfold lN;rw[if_pos (h y sI),VC X x (λz hz=>h z (by simp[hz]))];rfl
theorem p9:∀(Y X:List Row),g7 ((X++Y).map vX)->Y.foldl lN X=X++Y
 | [],X,_=>by simp
 | y :: Y,X,h=>by
  have d:∀z∈X,xY z.key y.key<0:=by
   intro z hz;obtain⟨i,hi,rfl⟩:=List.mem_iff_getElem.1 hz;clear hz;induction X generalizing i with
   | nil=>simp at hi
   | cons a X ih =>
    cases i with
    | zero=>exact h.1 (vX y) sI
    | succ i=>exact ih h.2 i (by simpa using hi)
  rw[List.foldl_cons,VC X y d,p9 Y (X ++ [y]) (by simpa using h)]
  simp
theorem aA{X:List Row}(h:g7 (X.map vX)):q9 X=X:=p9 X [] h
def addL(l:List jE)(x:Row):List jE:=sD l x.key (vL x)
def allL(R:List Row):List jE:=R.foldl addL []
def t8(w:World)(l:List UInt8)(e:Ending)(w':World):Prop :=
 ((bC l≠0/\e=.returned (.tuple #[.pointer none,.int .i64 (bC l)])) \/
  (bC l=0/\∃g b,e=.returned (.tuple #[.pointer (some ⟨g,0,none⟩),.int .i64 0])/\xR w' g b ((yQ l).rows.map vX)/\w.heap.size<=g/\w.heap.size<=b))/\Below w.heap.size w w'
theorem t8.bad{w w':World}{l:List UInt8}{E:Int}(h:bC l=E)(hE:E≠0)(hb:Below w.heap.size w w'):t8 w l (.returned (.tuple #[.pointer none,.int .i64 E])) w' :=
 ⟨.inl ⟨by rw[h];exact hE,by rw[h]⟩,hb⟩
theorem NmsIn.get{w:World}{A:Option Addr}{n:Nat}{R:List Row}(h:SlR w A n 35 (QE R)){i:Nat}(hi:i<n)(hR:i<R.length) :
  ∃g o,A=some ⟨g,o,none⟩/\z7 w g (o+i*35) 35=some (nmC ⟨(R[i]).key,vL R[i]⟩)/\w.cell? ⟨g,o+i*35,none⟩=some (.string (R[i]).key):=by
 obtain⟨g,o,e,hr⟩:=h.at_ hi;have e2:(QE R)[i]'(by rw[h.1];exact hi)=nmC ⟨(R[i]).key,vL R[i]⟩:=by unfold QE;rw[List.getElem_map];rfl
 rw[e2]at hr;refine⟨g,o,e,hr,?_⟩;have:=z8 hr (j:=0) oM
 rwa [nmC_g0]at this
theorem YG:∀ {R:List Row},jX R=true->∀ {j:Nat} (hj:j+1<R.length),Z6 (R[j]).key (R[j+1]).key=true
 | x :: y :: R,h,0,_=>by unfold jX at h;rw[Bool.and_eq_true]at h;exact h.1
 | x :: y :: R,h,j+1,hj=>by
  unfold jX at h;rw[Bool.and_eq_true]at h;have:=YG h.2 (j:=j) (by simpa using hj);simpa using this
 | [],_,_,hj=>by simp at hj
 | [x],_,_,hj=>by simp at hj
theorem sS:∀ {X:List jE} {k:ByteArray},(∀q∈X,xY q.1 k<0)->lO X k=none
 | [],_,_=>rfl
 | a :: X,k,h=>by
  have ha:=h a sI;rw[ju,if_neg (λe=>by rw[e]at ha;exact s4 ha)];exact sS λq hq=>h q (by simp[hq])
theorem aH:∀ {X:List jE} {k:ByteArray} {x:xC},(∀q∈X,xY q.1 k<0)->gX X k x=X ++ [(k,x)]
 | [],_,_,_=>rfl
 | a :: X,k,x,h=>by
  unfold gX;rw[if_pos (h a sI),aH λq hq=>h q (by simp[hq])];rfl
theorem iF:∀ {X:List jE} {k:ByteArray},g7 X->(∀q,X.getLast? = some q->xY q.1 k<0)->∀q∈X,xY q.1 k<0
 | [],_,_,_=>by simp
 | [a],k,_,h=>by intro q hq;simp at hq;subst hq;exact h q rfl
 | a :: b :: X,k,hr,h=>by
  have ih:=iF (k:=k) hr.2 (λq hq=>h q (by rw[List.getLast?_cons_cons];exact hq));intro q hq;rcases List.mem_cons.1 hq with e | hq
  ·rw[e];exact lP _ _ _ (hr.1 b sI) (ih b sI)
  ·exact ih q hq
theorem xf{R:List Row}{j:Nat}(hj:j+1<=R.length):((R.take (j+1)).map vX).getLast? = some (vX (R[j]'oM)):=by
 rw[List.take_add_one,List.getElem?_eq_getElem oM,List.map_append,List.getLast?_append]
 simp
theorem xe{R:List Row}{j:Nat}(hj:j<R.length):(R.take (j+1)).map vX=(R.take j).map vX ++ [(R[j].key,vL R[j])]:=by
 rw[List.take_add_one,List.getElem?_eq_getElem hj,List.map_append];rfl
theorem cS:∀(k:Nat) (s:Rds),(jY k s).rows.length<=s.rows.length+k
 | 0,s=>by simp[jY]
 | k+1,s=>by
  by_cases he:s.e=0
  ·rw[dJ k s he];have:=cS k (dI s);simp only[dI,List.length_append,List.length_singleton]at this |-;omega
  ·rw[kZ _ _ he];omega
theorem JJ(l:List UInt8):(yQ l).rows.length<=4294967296:=by
 have:=cS (yK 4 l 0) ⟨[],zK 4 l 0,zM 4 l 0⟩;have:=yI 4 l 0;simp only[List.length_nil]at *;unfold yQ;omega
theorem lload(w:World)(s:ByteArray)(hs:s.size<=9223372036854775807):Calls Tryz.prog 172 #[.string s] w (t8 w s.data.toList):=by
 obtain⟨l,hl⟩:=eX s.data.toList
 have i7:=JJ l;rw[hl];have Hl:=dH hl;clear hl;go_enter Tryz.func172,Tryz.ntmps172
 (go_wp2_with fail);refine(wW s _ hs).mono ?_;rintro e w1 ⟨rfl,b9,f7⟩;rw[Hl.out]at b9;clear Hl;obtain⟨g0,f1⟩:=eX w.heap.size
 have i4:w.heap.size<=g0:=oM;rw[f1]at b9;have f0:g0<w1.heap.size:=b9.lt;have j5:=dH f1;(go_wp2_with fail);clear f1;refine(lread _ g0 l b9).mono ?_;rintro e w2 ⟨A,cap,rfl,V,b5,a0,f2⟩;have d7:Below w.heap.size w w2:=f7.trans (a0.below f7.size sO);have a2:bC l=if(yQ l).e≠0 then(yQ l).e else if vM (yQ l).rows≠0 then vM (yQ l).rows else if jX (yQ l).rows=false then 4 else if(yQ l).l = []then 0 else 4:=rfl;obtain⟨R,hR⟩:=eX ((yQ l).rows)
 obtain⟨l1,e6⟩:=eX ((yQ l).l)
 obtain⟨e1,f3⟩:=eX ((yQ l).e)
 rw[hR,e6,f3]at a2;rw[hR]at V f2 i7 |-;rw[e6,f3]at b5;have HR:=dH hR;have b8:=dH a2;have j0:=dH f2;have e3:SlR w2 A R.length 35 (QE R):=V.slr;have h5:∀x∈blk A,x<w2.heap.size:=λx hx=>(V.at_base hx).2;clear hR e6 f3 a2 V f2 f7 b9 a0;cases he:(e1==0)with
 | false =>
  have d4:e1≠0:=by simpa using he
  have j2:(e1 != 0)=true:=by simpa using d4
  have hE:bC l=e1:=by rw[b8.out,if_pos d4]
  have HE:=dH hE;have He:=dH d4;clear hE d4;(go_wp2_with fail);refine(qA _ g0 l1 e1 b5).mono ?_;rintro e w3 ⟨rfl,rfl⟩;(go_wp2_with fail);refine(qA _ g0 l1 e1 b5).mono ?_;rintro e w3 ⟨rfl,rfl⟩;(go_wp2_with fail);go_ret2;exact t8.bad HE.out He.out d7
 | true =>
  obtain rfl:e1=0:=by simpa using he
  have a2:=b8.out;rw[if_neg sI]at a2;have b8:=dH a2;clear a2 he;(go_wp2_with fail);refine(qA _ g0 l1 0 b5).mono ?_;rintro e w3 ⟨rfl,rfl⟩;(go_wp2_with fail);obtain⟨wo,rfl⟩:∃wo:World,wo=w2:=⟨_,rfl⟩
  go_loopw [23] (λi wq=>∃j:Nat,j<=R.length/\i=.int .i64 j/\Hid (vM R=vM (R.drop j))/\Below wo.heap.size wo wq) (λi _=>R.length-(intOf i).toNat)
  case atStart=>exact⟨0,zL,rfl,(show _=_ from rfl),Below.refl _ _⟩
  case round =>
   obtain⟨j,hj,rfl,d3,M⟩:=hrel;by_cases k:j<R.length
   ·obtain⟨q,o,rfl,N,_⟩:=NmsIn.get (SlR.below e3 M) k k;have f4:R.drop j=R[j] :: R.drop (j+1):=List.drop_eq_getElem_cons k;have c3:=j0.out _ (List.getElem_mem k);obtain⟨x,hx⟩:=eX (R[j]'k)
    rw[hx]at N f4 c3;have a4:=d3.out;rw[f4]at a4;have c4:vM R=if qC x.key (vL x)=0 then vM (R.drop (j+1))else qC x.key (vL x):=a4;have g1:=dH c4;have i5:(vL x).val.size<=9223372036854775807:=by have:=c3.2;show x.val.size<=_;omega
    clear d3 a4 c4 f4 hx;(go_wp2_with fail);refine(wM x.key (vL x) _ oM i5).mono ?_;rintro e w4 ⟨rfl,a8⟩;have c7:=yE (M.alloc M.size (.cells (nmC ⟨x.key,vL x⟩) 312)) a8;clear a8 N M;obtain⟨E,hE⟩:=eX (qC x.key (vL x))
    rw[hE]at g1 |-;clear hE;cases hE0:(E==0)with
    | true =>
     obtain rfl:E=0:=by simpa using hE0
     have H:=g1.out;rw[if_pos rfl]at H;have f9:=dH H;clear H;(go_wp2_with fail);go_roundw
     case rel=>exact⟨j+1,oM,by go_num,f9,c7⟩
     case measure=>exact sZ
    | false =>
     have d9:E≠0:=by simpa using hE0
     have j3:(E != 0)=true:=by simpa using hE0
     have H:=g1.out;rw[if_neg d9]at H;have G:=b8.out;rw[H,if_pos d9]at G;have U:=dH G;have j1:=dH d9;clear H G d9;(go_wp2_with fail);go_ret2;exact t8.bad U.out j1.out (yE d7 c7)
   ·have a5:vM R=0:=by rw[d3.out,List.drop_eq_nil_of_le oM];rfl
    have G:=b8.out;rw[if_neg (by rw[a5];simp)]at G;have U:=dH G;have d0:=dH a5;have g6:=SlR.below e3 M;have e4:=b5.below M;have d6:=yE d7 M;have h4:∀x∈blk A,x<wr.heap.size:=λx hx=>(by have:=h5 x hx;have:=M.size;omega);have i3:=e4.lt;clear a5 G d3 e3 b5 d7 M h5 b8 f0;have c2:=(aQ R).1 d0.out;have i9:=dH c2;clear c2 d0;(go_wp2_with fail);refine(lnew _).mono ?_;rintro e w4 ⟨gm,bm,rfl,h2,h0,h1,a8⟩;have e2:=SlR.below g6 a8;have g8:=e4.below a8;have a7:=yE d6 a8;have h3:∀x∈blk A,x∉[bm]:=λx hx=>(oS (h4 x hx));have i2:g0∉[bm]:=sO;have i6:w.heap.size<=bm:=Nat.le_trans d6.size h1;have i1:w.heap.size<=gm:=Nat.le_trans d6.size h0;clear g6 e4 d6 h4 a8 h0 h1 i3;(go_wp2_with fail);obtain⟨wp,rfl⟩:∃wp:World,wp=w4:=⟨_,rfl⟩
    go_loopw [39] (λi wq=>∃j:Nat,j<=R.length/\i=.int .i64 j/\xR wq gm bm ((R.take j).map vX)/\z6 [bm] wp wq) (λi _=>R.length-(intOf i).toNat)
    case atStart=>exact⟨0,zL,rfl,h2,z6.refl _ _⟩
    case round =>
     clear h2;obtain⟨j,hj,rfl,hL,hk⟩:=hrel;have c8:Below w.heap.size w wr:=a7.trans (hk.below a7.size sO);by_cases k:j<R.length
     ·obtain⟨q,o,rfl,N,_⟩:=NmsIn.get (e2.kept hk h3) k k;have f5:qC (R[j]'k).key (vL (R[j]'k))=0:=i9.out (vX R[j]) (List.mem_map_of_mem (List.getElem_mem k));have e0:=xe k;have D:∀m (hm:m+1=j),xY (R[m]'oM).key (R[j]'k).key<0->∀q∈(R.take j).map vX,xY q.1 (R[j]'k).key<0:=λm hm h=>iF hL.rows.1 (λq hq=>by
       subst hm;rw[xf oM]at hq;injection hq with hq
       rw[<-hq];exact h)
      have T:∀m (hm:m+1=j),Z6 (R[m]'oM).key (R[j]'k).key=false->bC l=4:=λm hm h=>by
       subst hm;have d2:jX R=false:=by
        cases hr:jX R with
        | false=>rfl
        | true=>rw[YG hr k]at h;cases h
       rw[U.out,if_pos d2]
      have c1:∀m (hm:m+1=j),wr.cell? ⟨q,o+m*35,none⟩=some (.string (R[m]'oM).key):=λm hm=>by
       obtain⟨q',o',e5,_,e7⟩:=NmsIn.get (e2.kept hk h3) (oM:m<R.length) (oM:m<R.length);injection e5 with e5
       injection e5 with i0 h9
       rw[i0,h9];exact e7
      obtain⟨x,hx⟩:=eX (R[j]'k)
      rw[hx]at N f5 e0;simp only[hx]at D T;have h7:=dH f5;have h6:=dH e0;have b0:=dH D;have d1:=dH T;have f8:=dH c1;have b7:z6 [bm] wr (wr.alloc (.cells (nmC ⟨x.key,vL x⟩) 312)):=(z6.alloc _ _).mono sI;have d8:=hL.kept (z6.alloc wr (.cells (nmC ⟨x.key,vL x⟩) 312)) sI sI;have t:(wr.alloc (.cells (nmC ⟨x.key,vL x⟩) 312)).cell? ⟨wr.heap.size,0,none⟩=some (.string x.key):=by simp[go_sem]
      have g:z7 (wr.alloc (.cells (nmC ⟨x.key,vL x⟩) 312)) wr.heap.size 1 34=some (zV (vL x)):=by simp[go_sem]
      have f6:bm<wr.heap.size:=hL.lt.2;clear f5 e0 D T c1 hx hL;go_upto_region 16 with fail
      obtain⟨bq,M⟩:=eX wr.heap.size
      rw[M]at t g f6 |-;clear N;by_cases g9:j=0
      ·subst g9;have r:∀q∈(R.take 0).map vX,xY q.1 x.key<0:=sI;clear M;generalize wr.alloc (.cells (nmC ⟨x.key,vL x⟩) 312)=W at *;refine lX W ?_;intro X hS;have b2:=zJ t;refine lZ ?_;refine zC ?_;intro hS;clear b2 X hS;have B:=dH r;clear r;have Y:=d8.kept (z6.drew W) sI sI;have e8:z6 [bm] wr W.drew:=z6.trans b7 (z6.drew W) sI;have O:W.drew.cell? ⟨bq,0,none⟩=some (.string x.key):=t;have f:z7 W.drew bq 1 34=some (zV (vL x)):=g;clear d8 b7 t g;generalize W.drew=Z at *;obtain⟨w2,a1,a9,a0⟩:=(Y.kept (z6.drew Z) sI sI).put h7.out (λh8 e=>by rw[sS B.out]at e;cases e);rw[aH B.out]at a9;rw[<-h6.out]at a9;have c6:=Y.cell;have a3:gm∉[bm]:=by simp;exact Y.ne
       have c0:bq∉[bm]:=sO;go_upto_region 18 with fail
       refine kX [bm] Z ?_;intro X hS;have b1:=zP c6 a3;have b2:=zP O c0;have b3:=y9 f c0;refine lZ ?_;refine lH ?_;intro K hK;refine zG (xA hS a0 sI) (λhS=>?_);refine hK _ _ ?_;clear hK K;refine zC ?_;intro hS;have e9:z6 [bm] wp w2:=z6.trans hk (z6.trans e8 hS iL) iL;clear b1 b2 b3 X hS a1 a0 O f c6 Y;(go_wp2_with fail);go_roundw
       case rel=>exact⟨0+1,oM,by go_num,a9,e9⟩
       case measure=>exact sZ
      ·obtain⟨m,hm⟩:∃m,m+1=j:=⟨j-1,oM⟩
       have J:=f8.out m hm;have d:=b0.out m hm;have L:=d1.out m hm;obtain⟨y,hy⟩:=eX (R[m]'oM)
       rw[hy]at J;simp only[hy]at d L;have I:(wr.alloc (.cells (nmC ⟨x.key,vL x⟩) 312)).cell? ⟨q,o+m*35,none⟩=some (.string y.key):=(World.cell?_alloc_lt wr _ _ (World.block_lt_of_cell? wr _ J)).trans J;have g4:IntKind.i64.wrap ((j:Int)-1)=(m:Int):=by rw[(oM:(j:Int)-1=m)];exact IntWalk.i64_in _ oM
       have t1:decide ((0:Int)<j)=true:=sO;have t2:(0:Int)<=(m:Int):=oM;have t3:(m:Int)<R.length:=oM;have t4:m<R.length:=oM;have t5:0<j:=oM;clear hy J g9 hm M;generalize wr.alloc (.cells (nmC ⟨x.key,vL x⟩) 312)=W at *;cases hbl:Z6 y.key x.key with
       | true =>
        have a6:Op.bytesLess y.key.toList x.key.toList=true:=hbl;have r:=d (by rw[kD]at hbl;exact of_decide_eq_true hbl);clear d L hbl;refine lX W ?_;intro X hS;have b1:=zJ I;have b2:=zJ t;refine lZ ?_;refine zC ?_;intro hS;clear b1 b2 X hS a6 g4 t1 I;have B:=dH r;clear r;have Y:=d8.kept (z6.drew W) sI sI;have e8:z6 [bm] wr W.drew:=z6.trans b7 (z6.drew W) sI;have O:W.drew.cell? ⟨bq,0,none⟩=some (.string x.key):=t;have f:z7 W.drew bq 1 34=some (zV (vL x)):=g;clear d8 b7 t g;generalize W.drew=Z at *;obtain⟨w2,a1,a9,a0⟩:=(Y.kept (z6.drew Z) sI sI).put h7.out (λh8 e=>by rw[sS B.out]at e;cases e);rw[aH B.out]at a9;rw[<-h6.out]at a9;have c6:=Y.cell;have a3:gm∉[bm]:=by simp;exact Y.ne
        have c0:bq∉[bm]:=sO;go_upto_region 18 with fail
        refine kX [bm] Z ?_;intro X hS;have b1:=zP c6 a3;have b2:=zP O c0;have b3:=y9 f c0;refine lZ ?_;refine lH ?_;intro K hK;refine zG (xA hS a0 sI) (λhS=>?_);refine hK _ _ ?_;clear hK K;refine zC ?_;intro hS;have e9:z6 [bm] wp w2:=z6.trans hk (z6.trans e8 hS iL) iL;clear b1 b2 b3 X hS a1 a0 O f c6 Y;(go_wp2_with fail);go_roundw
        case rel=>exact⟨j+1,oM,by go_num,a9,e9⟩
        case measure=>exact sZ
       | false =>
        have a6:Op.bytesLess y.key.toList x.key.toList=false:=hbl;have c9:=L hbl;have g3:=dH c9;clear d L hbl c9;refine lX W ?_;intro X hS;have b1:=zJ I;have b2:=zJ t;refine lZ ?_;refine zC ?_;intro hS;clear b1 b2 X a6 g4 t1 I;(go_wp2_with fail);go_ret2;exact t8.bad g3.out oM ((c8.trans (b7.below c8.size sO)).trans (hS.mono (by have:=b7.size;have:=c8.size;omega)))
     ·have g5:R.take j=R:=List.take_of_length_le oM;rw[g5]at hL;have d2:jX R=true:=(pF R).2 hL.rows.1;have F:=U.out;rw[if_neg (by rw[d2];simp)]at F;have g7:=g8.kept hk i2;clear g5 d2 g8 hk e2 a7;by_cases b6:l1 = []
      ·have c5:j4 l1 0=0:=by unfold j4;rw[if_pos rfl,if_pos b6]
       rw[if_pos b6]at F;have b4:=dH F;have g2:=dH c5;clear F c5 b6;(go_wp2_with fail);refine(hU _ g0 l1 0 g7).mono ?_;rintro e w5 ⟨rfl,d5⟩;rw[g2.out];have i8:=hL.below d5;(go_wp2_with fail);go_ret2;exact⟨.inr ⟨b4.out,gm,bm,rfl,by rw[HR.out];exact i8,i1,i6⟩,yE c8 d5⟩
      ·have c5:j4 l1 0=4:=by unfold j4;rw[if_pos rfl,if_neg b6]
       rw[if_neg b6]at F;have b4:=dH F;have g2:=dH c5;clear F c5 b6;(go_wp2_with fail);refine(hU _ g0 l1 0 g7).mono ?_;rintro e w5 ⟨rfl,d5⟩;rw[g2.out];(go_wp2_with fail);go_ret2;exact t8.bad b4.out oM (yE c8 d5)
def za(k:Int)(l:List UInt8)(E:Int):Prop :=
 if k=1 then E=loadT l else if k=2 then E=gS l else if k=3 then E=bC l else if k=4 then dG l E else E=mM l
def stL(k:Int)(l:List UInt8):VSt :=
 if k=1 then .t (nI l)else if k=2 then .b (jN l).rows (qW l).rows else if k=3 then .l ((yQ l).rows.map vX)else if k=4 then .m (xK l).rows (xV l).rows else .s (yN l).rows (xD l).rows
theorem va{k:Int}{l:List UInt8}{E E':Int}(h:za k l E)(h':za k l E'):E=E':=by
 unfold za at h h';split at h
 ·rw[if_pos ‹_›]at h';omega
 rw[if_neg ‹_›]at h';split at h
 ·rw[if_pos ‹_›]at h';omega
 rw[if_neg ‹_›]at h';split at h
 ·rw[if_pos ‹_›]at h';omega
 rw[if_neg ‹_›]at h';split at h
 ·rw[if_pos ‹_›]at h';exact BN h h'
 ·rw[if_neg ‹_›]at h';omega
theorem kq(w:World)(s:ByteArray)(Z:Option Addr->Int->World->Prop)(c:Calls Tryz.prog 170 #[.string s] w λe w'=>∃P E,e=.returned (.tuple #[.pointer P,.int .i64 E])/\Z P E w') :
  Calls Tryz.prog 95 #[.int .i64 1,.string s] w λe w'=>∃P E,e=.returned (.tuple #[.iface 100 (.pointer P),.int .i64 E])/\Z P E w':=by
 go_enter Tryz.func95,Tryz.ntmps95
 (go_wp2_with fail);refine c.mono ?_;rintro e w1 ⟨P,E,rfl,hz⟩;have Hz:=dH hz;clear hz c;(go_wp2_with fail);go_ret2;exact⟨P,E,rfl,Hz.out⟩
theorem ku(w:World)(s:ByteArray)(Z:Option Addr->Int->World->Prop)(c:Calls Tryz.prog 171 #[.string s] w λe w'=>∃P E,e=.returned (.tuple #[.pointer P,.int .i64 E])/\Z P E w') :
  Calls Tryz.prog 95 #[.int .i64 2,.string s] w λe w'=>∃P E,e=.returned (.tuple #[.iface 102 (.pointer P),.int .i64 E])/\Z P E w':=by
 go_enter Tryz.func95,Tryz.ntmps95
 (go_wp2_with fail);refine c.mono ?_;rintro e w1 ⟨P,E,rfl,hz⟩;have Hz:=dH hz;clear hz c;(go_wp2_with fail);go_ret2;exact⟨P,E,rfl,Hz.out⟩
theorem kt(w:World)(s:ByteArray)(Z:Option Addr->Int->World->Prop)(c:Calls Tryz.prog 172 #[.string s] w λe w'=>∃P E,e=.returned (.tuple #[.pointer P,.int .i64 E])/\Z P E w') :
  Calls Tryz.prog 95 #[.int .i64 3,.string s] w λe w'=>∃P E,e=.returned (.tuple #[.iface 104 (.pointer P),.int .i64 E])/\Z P E w':=by
 go_enter Tryz.func95,Tryz.ntmps95
 (go_wp2_with fail);refine c.mono ?_;rintro e w1 ⟨P,E,rfl,hz⟩;have Hz:=dH hz;clear hz c;(go_wp2_with fail);go_ret2;exact⟨P,E,rfl,Hz.out⟩
theorem ks(w:World)(s:ByteArray)(Z:Option Addr->Int->World->Prop)(c:Calls Tryz.prog 173 #[.string s] w λe w'=>∃P E,e=.returned (.tuple #[.pointer P,.int .i64 E])/\Z P E w') :
  Calls Tryz.prog 95 #[.int .i64 4,.string s] w λe w'=>∃P E,e=.returned (.tuple #[.iface 105 (.pointer P),.int .i64 E])/\Z P E w':=by
 go_enter Tryz.func95,Tryz.ntmps95
 (go_wp2_with fail);refine c.mono ?_;rintro e w1 ⟨P,E,rfl,hz⟩;have Hz:=dH hz;clear hz c;(go_wp2_with fail);go_ret2;exact⟨P,E,rfl,Hz.out⟩
theorem kr(w:World)(s:ByteArray)(Z:Option Addr->Int->World->Prop)(c:Calls Tryz.prog 174 #[.string s] w λe w'=>∃P E,e=.returned (.tuple #[.pointer P,.int .i64 E])/\Z P E w') :
  Calls Tryz.prog 95 #[.int .i64 5,.string s] w λe w'=>∃P E,e=.returned (.tuple #[.iface 106 (.pointer P),.int .i64 E])/\Z P E w':=by
 go_enter Tryz.func95,Tryz.ntmps95
 (go_wp2_with fail);refine c.mono ?_;rintro e w1 ⟨P,E,rfl,hz⟩;have Hz:=dH hz;clear hz c;(go_wp2_with fail);go_ret2;exact⟨P,E,rfl,Hz.out⟩
theorem vload_k(w:World)(s:ByteArray)(hs:s.size<=90000)(k:Int)(hk:1<=k/\k<=5)(M0:List Nat)(j:∀x∈M0,x<w.heap.size) :
  Calls Tryz.prog 95 #[.int .i64 k,.string s] w λe w'=>∃v E,e=.returned (.tuple #[v,.int .i64 E])/\za k s.data.toList E/\(E=0->∃O,dM w' O (M0++O) v (stL k s.data.toList)/\∀x∈O,w.heap.size<=x/\x<w'.heap.size)/\Below w.heap.size w w':=by
 obtain⟨l,hl⟩:=eX s.data.toList
 have d:k=1\/k=2\/k=3\/k=4\/k=5:=oM;rcases d with rfl | rfl | rfl | rfl | rfl
 ·refine(kq w s (λP E w'=>E=loadT l/\(E=0->∃g,P=some ⟨g,0,none⟩/\xO w' g (nI l)/\w.heap.size<=g)/\Below w.heap.size w w') ((tload w s oM).mono ?_)).mono ?_
  ·rintro e w' ⟨P,rfl,h1,_,hb⟩;rw[hl]at h1 |-;exact⟨P,_,rfl,rfl,h1,hb⟩
  ·rintro e w' ⟨P,E,rfl,h1,h2,hb⟩;refine⟨_,E,rfl,by rw[hl];exact h1,λh0=>?_,hb⟩;obtain⟨g,rfl,h4,h5⟩:=h2 h0;exact⟨[g],by rw[hl];exact⟨g,rfl,h4,rfl⟩,λx hx=>by rw[List.mem_singleton]at hx;subst hx;exact⟨h5,h4.lt⟩⟩
 ·refine(ku w s (λP E w'=>E=gS l/\(E=0->∃g bl bg,P=some ⟨g,0,none⟩/\jC w' g bl bg (jN l).rows (qW l).rows/\w.heap.size<=g/\w.heap.size<=bl/\w.heap.size<=bg)/\Below w.heap.size w w') ((bload w s oM).mono ?_)).mono ?_
  ·rintro e w' ⟨P,rfl,h1,_,hb⟩;rw[hl]at h1 |-;exact⟨P,_,rfl,rfl,h1,hb⟩
  ·rintro e w' ⟨P,E,rfl,h1,h2,hb⟩;refine⟨_,E,rfl,by rw[hl];exact h1,λh0=>?_,hb⟩;obtain⟨g,bl,bg,rfl,h5,k1,k2,k3⟩:=h2 h0;refine⟨[g,bl,bg],by rw[hl];exact⟨g,bl,bg,rfl,h5,rfl⟩,λx hx=>?_⟩;have:=h5.lt.1;have:=h5.live.lt;have:=h5.gone.lt;simp at hx;rcases hx with rfl | rfl | rfl <;> omega
 ·refine(kt w s (λP E w'=>E=bC l/\(E=0->∃g b,P=some ⟨g,0,none⟩/\xR w' g b ((yQ l).rows.map vX)/\w.heap.size<=g/\w.heap.size<=b)/\Below w.heap.size w w') ((lload w s oM).mono ?_)).mono ?_
  ·unfold t8;rw[hl];rintro e w' ⟨⟨h3,rfl⟩ | ⟨h3,g,b,rfl,h5,k1,k2⟩,hb⟩
   ·exact⟨_,_,rfl,rfl,λh=>absurd h h3,hb⟩
   ·exact⟨_,_,rfl,h3.symm,λ_=>⟨g,b,rfl,h5,k1,k2⟩,hb⟩
  ·rintro e w' ⟨P,E,rfl,h1,h2,hb⟩;refine⟨_,E,rfl,by rw[hl];exact h1,λh0=>?_,hb⟩;obtain⟨g,b,rfl,h5,k1,k2⟩:=h2 h0;obtain⟨M',es,r,hm,_⟩:=h5.map;refine⟨[g,b],by rw[hl];exact⟨g,b,rfl,h5,rfl⟩,λx hx=>?_⟩;have:=(aG h5.blk).1;have:=hm.lt;simp at hx;rcases hx with rfl | rfl <;> omega
 ·refine(ks w s (λP E w'=>dG l E/\(E=0->∃g bl bo,P=some ⟨g,0,none⟩/\qB w' g bl bo (xK l).rows (xV l).rows/\w.heap.size<=g/\w.heap.size<=bl/\w.heap.size<=bo)/\Below w.heap.size w w') ((mload w s oM).mono ?_)).mono ?_
  ·rintro e w' ⟨P,E,rfl,h4,h5,_,hb⟩;rw[hl]at h4 h5;exact⟨P,E,rfl,h4,h5,hb⟩
  ·rintro e w' ⟨P,E,rfl,h1,h2,hb⟩;refine⟨_,E,rfl,by rw[hl];exact h1,λh0=>?_,hb⟩;obtain⟨g,bl,bo,rfl,h5,k1,k2,k3⟩:=h2 h0;refine⟨[g,bl,bo],by rw[hl];exact⟨g,bl,bo,rfl,h5,rfl⟩,λx hx=>?_⟩;have:=h5.lt.1;have:=h5.live.lt;have:=h5.over.lt;simp at hx;rcases hx with rfl | rfl | rfl <;> omega
 ·refine(kr w s (λP E w'=>E=mM l/\(E=0->∃g bn bb bg,P=some ⟨g,0,none⟩/\q7 w' (M0 ++ [g,bn,bb,bg]) g bn bb bg (yN l).rows (xD l).rows/\w.heap.size<=g/\w.heap.size<=bn/\w.heap.size<=bb/\w.heap.size<=bg)/\Below w.heap.size w w') ?_).mono ?_
  ·by_cases he:mM l=0
   ·refine(xh w s hs (by rw[hl];exact XB he) M0 j).mono ?_;rintro e w' ⟨g,bn,bb,bg,rfl,h5,k1,k2,k3,k4,hb⟩;rw[hl]at h5;exact⟨_,0,rfl,he.symm,λ_=>⟨g,bn,bb,bg,rfl,h5,k1,k2,k3,k4⟩,hb⟩
   ·refine(KQ w s hs (by rw[hl];exact he)).mono ?_;rintro e w' ⟨rfl,hb⟩;rw[hl];exact⟨_,_,rfl,rfl,λh=>absurd h he,hb⟩
  ·rintro e w' ⟨P,E,rfl,h1,h2,hb⟩;refine⟨_,E,rfl,by rw[hl];exact h1,λh0=>?_,hb⟩;obtain⟨g,bn,bb,bg,rfl,h5,k1,k2,k3,k4⟩:=h2 h0;obtain⟨es,r,hn⟩:=h5.nodes;obtain⟨BM,t,m,f,_⟩:=h5.behind;refine⟨[g,bn,bb,bg],by rw[hl];exact⟨g,bn,bb,bg,rfl,h5,rfl⟩,λx hx=>?_⟩;have:=h5.ltg;have:=hn.lt;have:=f.lt;have:=h5.gone.lt;simp at hx;rcases hx with rfl | rfl | rfl | rfl <;> omega
theorem rtload(w:World)(s:ByteArray)(hs:s.size<=1000000) :
  Calls Tryz.prog 175 #[.string s] w λe w'=>e=.returned (.tuple #[.int .i64 (if loadT s.data.toList=0 then nI s.data.toList else 0),.int .i64 (loadT s.data.toList)])/\Below w.heap.size w w':=by
 obtain⟨l,hl⟩:=eX s.data.toList
 have R:l.length<=1000000:=by rw[<-hl];simpa using hs
 have J:s=mkB l:=by rw[<-hl];rfl
 rw[hl];subst J;clear hl hs;have hT:loadT l=j4 (zK 4 (zK 4 l 0) (zM 4 l 0)) (zM 4 (zK 4 l 0) (zM 4 l 0)):=rfl;have G:nI l=wrap64 ((yK 4 l 0:Int)*4294967296+yK 4 (zK 4 l 0) (zM 4 l 0)):=rfl;obtain⟨E,hE⟩:=eX (loadT l)
 rw[hE]at hT |-;have HT:=dH hT;have N:=dH G;clear hE hT G;have g:Below w.heap.size w (w.alloc (.cells (rrC ⟨mkB l,0⟩) 112)):=bA;have d:jQ (w.alloc (.cells (rrC ⟨mkB l,0⟩) 112)) w.heap.size l 0:=⟨oM,heap_alloc_new w _⟩
 go_enter Tryz.func175,Tryz.ntmps175
 go_upto_region 2 with fail
 obtain⟨gr,t⟩:=eX w.heap.size
 obtain⟨w1,y⟩:=eX (w.alloc (.cells (rrC ⟨mkB l,0⟩) 112))
 rw[y]at g d |-;rw[t]at g d |-;have H:=dH t;clear t y;(go_wp2_with fail);refine(fG w1 gr l 0 d).mono ?_;rintro e w2 ⟨rfl,k,B⟩;have ha:=yI 4 l 0;obtain⟨a,r⟩:=eX (yK 4 l 0)
 have M:=dH r;rw[r]at ha |-;clear r;(go_wp2_with fail);refine(fG w2 gr _ _ k).mono ?_;rintro e w3 ⟨rfl,j,A⟩;have hb:=yI 4 (zK 4 l 0) (zM 4 l 0);obtain⟨b,m⟩:=eX (yK 4 (zK 4 l 0) (zM 4 l 0))
 have L:=dH m;rw[m]at hb |-;clear m;have F:Below gr w w3:=(g.trans (B.below (oH d.lt) sI)).trans (A.below (oH k.lt) sI);have I:gr<w3.heap.size:=j.lt;(go_wp2_with fail);refine(tB w3 gr _ _ j).mono ?_;rintro e w4 ⟨rfl,D⟩;have f:Below gr w w4:=F.trans (D.mono oM);rw[<-HT.out];clear d g k B j A F D;by_cases h0:E=0
 ·subst h0;(go_wp2_with fail);go_ret2;exact⟨by rw[N.out,M.out,L.out];rfl,by rw[H.out];exact f⟩
 ·have O:(E != 0)=true:=by simpa using h0
  have Hh:=dH h0;clear h0;(go_wp2_with fail);go_ret2;exact⟨rfl,by rw[H.out];exact f⟩
end Go.Proofs.YtgfpjjppeldhbaaGreatDoor
