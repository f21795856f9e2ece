/- Part 13 of the texts that lead to this claim: the walks of the functions and the plain law, in order. -/
import Derived.Test.YtgfpjjppeldhbaaGreatDoorMv12
import Derived.LoopN
import Derived.Laws.StructEq
namespace Go.Proofs.YtgfpjjppeldhbaaGreatDoor
open Go.RowKit
set_option maxRecDepth 100000
set_option maxHeartbeats 8000000
theorem BP(Z:List xW)(k:Nat)(hk:k<Z.length):vN (Z.take (k+1))=xS xT (vN (Z.take k)) (cP Z[k]):=by
 unfold vN;rw[List.take_add_one,List.getElem?_eq_getElem hk,Option.toList_some,List.map_append,List.map_cons,List.map_nil,bQ]
theorem BV(x y:jM):xT x y<0↔xY x.key y.key<0\/(x.key=y.key/\xY x.val y.val<0):=by
 unfold xT;rw[orL2,QB,dQ]
theorem rmlist(w:World)(g:Nat)(X:List xW)(G:List zE)(h:RefM w g 6 X G)(hX:X.length<=100000)(hG:G.length<=100000) :
  Calls Tryz.prog 76 #[.pointer (some ⟨g,6,none⟩)] w λe w'=>∃A n cap,e=.returned (.slice A n cap)/\Own w' w.heap.size 98 2 A n cap ((vN (lvM X G)).map zS)/\Below w.heap.size w w':=by
 have c1:=rmlive w g X G h hX hG;have j4:=zz X G;obtain⟨Z,hZ⟩:=eX (lvM X G)
 rw[hZ]at c1 j4 |-;clear hZ h;go_enter Tryz.func76,Tryz.ntmps76
 (go_wp2_with fail);refine c1.mono ?_;rintro e w1 ⟨RA,nz,rc,rfl,f9,i7⟩;have f8:gH w1 RA nz Z:=f9.slr;have i4:Z.length=nz:=f8.len;have i8:=dH i4;have j3:nz<=100000:=oM;clear f9 c1 i4;(go_wp2_with fail);go_loopw [3,5] (λout i wr=>∃(k:Nat) (A1:Option Addr) (n1 R:Nat),k<=nz/\i=.int .i64 k/\out=.slice A1 n1 R/\Own wr w1.heap.size 98 2 A1 n1 R ((vN (Z.take k)).map zS)/\Below w1.heap.size w1 wr) (λ_ i _=>nz-(intOf i).toNat)
 case atStart=>exact⟨0,none,0,0,zL,rfl,rfl,Own.nil _ _ _ _,Below.refl _ _⟩
 case round =>
  obtain⟨k,A1,n,R,hk,rfl,rfl,a6,hb⟩:=hrel;by_cases h5:k<nz
  ·have e7:k<Z.length:=by rw[i8.out];exact h5
   obtain⟨q,o,rfl,_,_,h6,h3⟩:=gH.get (SlR.below f8 hb) h5 e7;have h4:=BP Z k e7;have h9:(vN (Z.take k)).length=n:=by simpa using a6.len
   have j8:n<=100000:=by have:=YT (Z.take k);simp at this;omega
   have e5:Ris xT (vN (Z.take k)):=xJ kW _;obtain⟨O,hO⟩:=eX (vN (Z.take k))
   obtain⟨⟨xi,xk,xv⟩,hx⟩:∃x,Z[k]'e7=x:=⟨_,rfl⟩
   rw[hx]at h6 h3 h4;rw[hO]at h4 a6 e5 h9;dsimp only at h6 h3;have f5:vN (Z.take (k+1))=xS xT O ⟨xk,xv⟩:=h4;have f4:=dH f5;have N:=dH h9;have h0:=dH e5;clear hx hO h4 f5 h9 e5;have f6:=hb.size;go_upto_region 6 with fail
   refine kF [] wr ?_;intro a0 hS;have b1:=zP h6 (S:=[]) sI;have b2:=zP h3 (S:=[]) sI;refine lZ ?_;refine lH ?_;intro K hK;refine zG (z6.trans (z6.trans (z6.refl [] wr) (z6.drew _) sI) (z6.alloc _ _) sI) (λj7=>?_);refine hK _ _ ?_;clear hK K;refine lZ ?_;have j1:(stS 98 ⟨wr.heap.size,0,none⟩ (.agg (zS ⟨xk,xv⟩))).run Tryz.prog (wr.alloc (.cells (zS wG) 98)).drew=.ok () (wr.alloc (.cells (zS ⟨xk,xv⟩) 98)).drew:=ZO wr.drew wr.heap.size rfl (zS wG) (bS _) ⟨xk,xv⟩ 98;refine vI ?_ ?_;(focus(simp only[yO];done));intro K hK;go_simp;refine hK _ _ ?_;clear hK K j1;have h8:Below wr.heap.size wr (wr.alloc (.cells (zS ⟨xk,xv⟩) 98)).drew:=(bA).drew;have U:=a6.below h8;have a4:Below w1.heap.size w1 (wr.alloc (.cells (zS ⟨xk,xv⟩) 98)).drew:=hb.trans (h8.mono f6);have d0:z7 (wr.alloc (.cells (zS ⟨xk,xv⟩) 98)).drew wr.heap.size 0 2=some (zS ⟨xk,xv⟩):=by
    show z7 (wr.alloc (.cells (zS ⟨xk,xv⟩) 98)) wr.heap.size 0 2=_;simp[go_sem]
   clear hS j7 a0 b1 b2 a6 hb h8 h6 h3 f6;obtain⟨d,hd⟩:∃d:jM,d=⟨xk,xv⟩:=⟨_,rfl⟩
   rw[<-hd]at d0 U a4 f4 |-;have j6:d.key=xk:=by rw[hd]
   have j5:d.val=xv:=by rw[hd]
   clear hd j6 j5;obtain⟨gx,i5⟩:=eX wr.heap.size
   generalize (wr.alloc (.cells (zS d) 98)).drew=V at *;rw[i5]at d0 |-;clear i5;have c9:=U.slw;(go_wp2_with fail);go_loopw [7] (λj wj=>∃m:Nat,m<=n/\j=.int .i64 m/\Hid (∀i (hi:i<O.length),i<m->xT O[i] d<0)/\Below V.heap.size V wj) (λj _=>n-(intOf j).toNat)
   case atStart=>exact⟨0,zL,rfl,(show ∀i (hi:i<O.length),i<0->_ from λi _ h=>absurd h oM),Below.refl _ _⟩
   case round =>
    obtain⟨m,a7,rfl,b9,c7⟩:=hrel;have c6:z7 wr gx 0 2=some (zS d):=(z9 (c7.block gx (zD d0)) _ _).trans d0;have f1:wr.cell? ⟨gx,0,none⟩=some (.string d.key):=by have:=z8 c6 (j:=0) oM;rwa [rG]at this
    have f0:wr.cell? ⟨gx,1,none⟩=some (.string d.val):=by have:=z8 c6 (j:=1) oM;rwa [iT]at this
    have c8:=c9.below c7;by_cases a3:m<n
    ·obtain⟨q2,o2,rfl,g0,e3,e2⟩:=vS.get c8.rd a3 (by rw[N.out];exact a3);have e6:O[m]'(by rw[N.out];exact a3)∈O:=List.getElem_mem _;obtain⟨y,hy⟩:=eX (O[m]'(by rw[N.out];exact a3))
     rw[hy]at g0 e6 e3 e2;have Hy:=dH hy;have h2:=dH e6;clear hy e6;have g7:=BV y d;have i3:=kD y.key d.key;have i2:=kD y.val d.val;have i1:(y.key.toList==d.key.toList)=decide (y.key=d.key):=by rw[Bool.eq_iff_iff,beq_iff_eq,toList_inj,decide_eq_true_eq]
     obtain⟨sk,j2⟩:=eX (Op.bytesLess y.key.toList d.key.toList)
     obtain⟨sv,j0⟩:=eX (Op.bytesLess y.val.toList d.val.toList)
     obtain⟨se,h7⟩:=eX (y.key.toList==d.key.toList)
     have f2:sk=decide (xY y.key d.key<0):=j2.symm.trans i3;have i0:sv=decide (xY y.val d.val<0):=j0.symm.trans i2;have i6:se=decide (y.key=d.key):=h7.symm.trans i1;have hD:xT y d<0↔(sk=true\/(se=true/\sv=true)):=by rw[g7,f2,i0,i6];simp only[decide_eq_true_eq]
     have HD:=dH hD;clear g7 i3 i2 i1 f2 i0 i6 hD;cases sk with
     | true =>
      have f3:Hid (xT y d<0):=(show _ from HD.out.2 (.inl rfl))
      go_upto_region 8 with fail
      refine lX wr ?_;intro a0 hS;have b1:=zJ f1;have b2:=zJ f0;have b3:=zJ e3;have b4:=zJ e2;refine lZ ?_;refine zC ?_;intro hS;clear b1 b2 b3 b4 a0 hS;(go_wp2_with fail);go_roundw
      case rel =>
       refine⟨m+1,oM,by go_num,(show ∀i (hi:i<O.length),i<m+1->xT O[i] d<0 from λi hi h5=>?_),c7.drew⟩;by_cases e:i=m
       ·subst e;rw[Hy.out];exact f3.out
       ·exact b9.out i hi oM
      case measure=>exact sZ
     | false =>
      by_cases e4:se=true/\sv=true
      ·obtain⟨rfl,rfl⟩:=e4;have f3:Hid (xT y d<0):=(show _ from HD.out.2 (.inr ⟨rfl,rfl⟩))
       go_upto_region 8 with fail
       refine lX wr ?_;intro a0 hS;have b1:=zJ f1;have b2:=zJ f0;have b3:=zJ e3;have b4:=zJ e2;refine lZ ?_;refine zC ?_;intro hS;clear b1 b2 b3 b4 a0 hS;(go_wp2_with fail);go_roundw
       case rel =>
        refine⟨m+1,oM,by go_num,(show ∀i (hi:i<O.length),i<m+1->xT O[i] d<0 from λi hi h5=>?_),c7.drew⟩;by_cases e:i=m
        ·subst e;rw[Hy.out];exact f3.out
        ·exact b9.out i hi oM
       case measure=>exact sZ
      ·have f3:Hid (¬xT y d<0):=(show _ from λhh=>by rcases HD.out.1 hh with h1 | h1;cases h1;exact e4 h1)
       have e8:=bR y d;obtain⟨eb,e9⟩:=eX (gD y d)
       rw[e9]at e8;have d1:=dH e8;have i9:=dH e9;clear e8 e9;cases se with
       | false =>
        go_upto_region 8 with fail
        refine lX wr ?_;intro a0 hS;have b1:=zJ f1;have b2:=zJ f0;have b3:=zJ e3;have b4:=zJ e2;refine lZ ?_;refine zC ?_;intro hS;clear b1 b2 b3 b4 a0 hS;have b7:z7 wr.drew gx 0 2=some (zS d):=c6;have b8:z7 wr.drew q2 (o2+m*2) 2=some (zS y):=g0;have e9:=i9.out;go_upto_region 10 with fail
        refine lX wr.drew ?_;intro a0 hS;have b1:=zU b7;have b2:=zU b8;refine lZ ?_;refine zC ?_;intro hS;have E:Below V.heap.size V wr.drew.drew:=c7.drew.drew;have b5:z7 wr.drew.drew gx 0 2=some (zS d):=c6;have F:=c9.below E;have t:=U.below E;have a2:=a4.trans (E.mono a4.size);clear b1 b2 a0 hS b7 b8 E c6 g0 c7 e9 f1 f0 e3 e2 c8;obtain⟨W,hW⟩:=eX wr.drew.drew
        rw[hW]at b5 F t a2 |-;clear hW;cases eb with
        | true =>
         have e:y=d:=d1.out.1 rfl;have a5:=tV kW h0.out (x:=d) (by rw[<-e];exact h2.out);have d2:Hid (vN (Z.take (k+1))=O):=(show _=_ by rw[f4.out,a5])
         clear e a5;(go_wp2_with fail);go_roundw
         case rel=>exact⟨k+1,_,n,R,oM,by go_num,rfl,(by rw[d2.out];exact t),a2⟩
         case measure=>exact sZ
        | false =>
         have e:¬y=d:=λe'=>(by have:=d1.out.2 e';cases this);have a5:=vE (c:=xT) O d m (by rw[N.out];exact a7) b9.out (λf2=>by
          rw[Hy.out];have h1:xT y d≠0:=λe'=>e ((kW.zero _ _).1 e');have:=f3.out;omega)
         have d2:=dH a5;clear e a5;obtain⟨A,e1⟩:=eX (some ⟨q2,o2,none⟩:Option Addr)
         rw[e1]at F t |-;clear e1;obtain⟨cap,a1⟩:=eR R
         rw[<-a1]at F t |-;clear a1;have c2:Below W.heap.size W (W.alloc (.cells #[] 98)):=bA;have L:=Own.empty W W.heap.size 98 2 lR;have g1:∀w0:World,(slS 23 (.slice A n cap) none (some (.int .i64 m)) none).run Tryz.prog w0=.ok (.slice A m cap) w0:=λw0=>SlW.lo yP F a7 w0;obtain⟨Ah,ch,g5,d7,g6⟩:=F.hi (P:=Tryz.prog) yP (m:=m) a7;have T:SlR (W.alloc (.cells #[] 98)) A m 2 ((O.map zS).take m):=(F.rd.below c2).take_ a7;have d8:=F.nil;have I:∀r∈(O.map zS).take m,∀u∈r.toList,u.oneCell'=true:=λr hr=>(by obtain⟨y',_,rfl⟩:=List.mem_map.1 (List.mem_of_mem_take hr);exact qD _);have B:∀r∈(O.map zS).drop m,∀u∈r.toList,u.oneCell'=true:=λr hr=>(by obtain⟨y',_,rfl⟩:=List.mem_map.1 (List.mem_of_mem_drop hr);exact qD _);go_upto_region 12 with(at_builtin;refine yD yP rfl L rfl T d8 I oM oM sI ?_;intro A2 g9 w2 s g4 d5)
         simp only[Nat.zero_add,List.nil_append]at s;have a9:Below W.heap.size W w2:=c2.trans (g4.below sI (by simp[blk]));have b6:z7 w2 gx (0) 2=some (zS d):=(z9 (a9.block gx (zD b5)) _ _).trans b5;have c4:Below w2.heap.size w2 (w2.alloc (.cells (zS d) 98)):=bA;have J:=s.below c4;have H:z7 (w2.alloc (.cells (zS d) 98)) w2.heap.size 0 2=some (zS d):=by simp[go_sem]
         have b0:=a9.size;go_upto_region 13 with(at_builtin;refine yM yP rfl J rfl H (qD _) oM oM sO ?_;intro A4 g8 w4 D g3 d4)
         have M:Below W.heap.size W w4:=(a9.trans (c4.mono b0)).trans (g3.below sO (λx hx=>(s.at_base hx).1));have d6:=d7 w4 (F.rd.below M);have f7:=M.size;clear J H c4 L c2 T b6 g1;go_upto_region 14 with(at_builtin;refine yD yP rfl D rfl d6 g6 B oM oM oM ?_;intro A5 c5 w5 f g2 d3)
         have a8:Below W.heap.size W w5:=M.trans (g2.below oM (λx hx=>(D.at_base hx).1));have e0:(O.map zS).take m ++ [zS d]++(O.map zS).drop m=(O.take m++d :: O.drop m).map zS:=by simp[List.map_take,List.map_drop]
         rw[e0]at f;clear D s e0 d6 g5 d7 I B d8;have c3:=a2.trans (a8.mono a2.size);have c0:(O.take m++d :: O.drop m).length=m+1+(n-m):=by simp[N.out];omega
         have d9:O.take m++d :: O.drop m=vN (Z.take (k+1)):=by rw[f4.out,d2.out]
         rw[d9]at f c0;have Y:=f.mono a2.size;have HL:=dH c0;clear f d9 c0;(go_wp2_with fail);go_roundw
         case rel=>exact⟨k+1,A5,m+1+(n-m),c5,oM,by go_num,rfl,Y,c3⟩
         case measure=>exact sZ
       | true =>
        cases sv with
        | true=>exact absurd ⟨rfl,rfl⟩ e4
        | false =>
         go_upto_region 8 with fail
         refine lX wr ?_;intro a0 hS;have b1:=zJ f1;have b2:=zJ f0;have b3:=zJ e3;have b4:=zJ e2;refine lZ ?_;refine zC ?_;intro hS;clear b1 b2 b3 b4 a0 hS;have b7:z7 wr.drew gx 0 2=some (zS d):=c6;have b8:z7 wr.drew q2 (o2+m*2) 2=some (zS y):=g0;have e9:=i9.out;go_upto_region 10 with fail
         refine lX wr.drew ?_;intro a0 hS;have b1:=zU b7;have b2:=zU b8;refine lZ ?_;refine zC ?_;intro hS;have E:Below V.heap.size V wr.drew.drew:=c7.drew.drew;have b5:z7 wr.drew.drew gx 0 2=some (zS d):=c6;have F:=c9.below E;have t:=U.below E;have a2:=a4.trans (E.mono a4.size);clear b1 b2 a0 hS b7 b8 E c6 g0 c7 e9 f1 f0 e3 e2 c8;obtain⟨W,hW⟩:=eX wr.drew.drew
         rw[hW]at b5 F t a2 |-;clear hW;cases eb with
         | true =>
          have e:y=d:=d1.out.1 rfl;have a5:=tV kW h0.out (x:=d) (by rw[<-e];exact h2.out);have d2:Hid (vN (Z.take (k+1))=O):=(show _=_ by rw[f4.out,a5])
          clear e a5;(go_wp2_with fail);go_roundw
          case rel=>exact⟨k+1,_,n,R,oM,by go_num,rfl,(by rw[d2.out];exact t),a2⟩
          case measure=>exact sZ
         | false =>
          have e:¬y=d:=λe'=>(by have:=d1.out.2 e';cases this);have a5:=vE (c:=xT) O d m (by rw[N.out];exact a7) b9.out (λf2=>by
           rw[Hy.out];have h1:xT y d≠0:=λe'=>e ((kW.zero _ _).1 e');have:=f3.out;omega)
          have d2:=dH a5;clear e a5;obtain⟨A,e1⟩:=eX (some ⟨q2,o2,none⟩:Option Addr)
          rw[e1]at F t |-;clear e1;obtain⟨cap,a1⟩:=eR R
          rw[<-a1]at F t |-;clear a1;have c2:Below W.heap.size W (W.alloc (.cells #[] 98)):=bA;have L:=Own.empty W W.heap.size 98 2 lR;have g1:∀w0:World,(slS 23 (.slice A n cap) none (some (.int .i64 m)) none).run Tryz.prog w0=.ok (.slice A m cap) w0:=λw0=>SlW.lo yP F a7 w0;obtain⟨Ah,ch,g5,d7,g6⟩:=F.hi (P:=Tryz.prog) yP (m:=m) a7;have T:SlR (W.alloc (.cells #[] 98)) A m 2 ((O.map zS).take m):=(F.rd.below c2).take_ a7;have d8:=F.nil;have I:∀r∈(O.map zS).take m,∀u∈r.toList,u.oneCell'=true:=λr hr=>(by obtain⟨y',_,rfl⟩:=List.mem_map.1 (List.mem_of_mem_take hr);exact qD _);have B:∀r∈(O.map zS).drop m,∀u∈r.toList,u.oneCell'=true:=λr hr=>(by obtain⟨y',_,rfl⟩:=List.mem_map.1 (List.mem_of_mem_drop hr);exact qD _);go_upto_region 12 with(at_builtin;refine yD yP rfl L rfl T d8 I oM oM sI ?_;intro A2 g9 w2 s g4 d5)
          simp only[Nat.zero_add,List.nil_append]at s;have a9:Below W.heap.size W w2:=c2.trans (g4.below sI (by simp[blk]));have b6:z7 w2 gx (0) 2=some (zS d):=(z9 (a9.block gx (zD b5)) _ _).trans b5;have c4:Below w2.heap.size w2 (w2.alloc (.cells (zS d) 98)):=bA;have J:=s.below c4;have H:z7 (w2.alloc (.cells (zS d) 98)) w2.heap.size 0 2=some (zS d):=by simp[go_sem]
          have b0:=a9.size;go_upto_region 13 with(at_builtin;refine yM yP rfl J rfl H (qD _) oM oM sO ?_;intro A4 g8 w4 D g3 d4)
          have M:Below W.heap.size W w4:=(a9.trans (c4.mono b0)).trans (g3.below sO (λx hx=>(s.at_base hx).1));have d6:=d7 w4 (F.rd.below M);have f7:=M.size;clear J H c4 L c2 T b6 g1;go_upto_region 14 with(at_builtin;refine yD yP rfl D rfl d6 g6 B oM oM oM ?_;intro A5 c5 w5 f g2 d3)
          have a8:Below W.heap.size W w5:=M.trans (g2.below oM (λx hx=>(D.at_base hx).1));have e0:(O.map zS).take m ++ [zS d]++(O.map zS).drop m=(O.take m++d :: O.drop m).map zS:=by simp[List.map_take,List.map_drop]
          rw[e0]at f;clear D s e0 d6 g5 d7 I B d8;have c3:=a2.trans (a8.mono a2.size);have c0:(O.take m++d :: O.drop m).length=m+1+(n-m):=by simp[N.out];omega
          have d9:O.take m++d :: O.drop m=vN (Z.take (k+1)):=by rw[f4.out,d2.out]
          rw[d9]at f c0;have Y:=f.mono a2.size;have HL:=dH c0;clear f d9 c0;(go_wp2_with fail);go_roundw
          case rel=>exact⟨k+1,A5,m+1+(n-m),c5,oM,by go_num,rfl,Y,c3⟩
          case measure=>exact sZ
    ·have hd:decide (m<n)=false:=by simpa using a3
     have a5:=vE (c:=xT) O d m (by rw[N.out];exact a7) b9.out (λf2=>absurd (by rw[<-N.out];exact f2) a3);have d2:=dH a5;clear a5;go_upto_region 8 with fail
     refine lX wr ?_;intro a0 hS;refine lZ ?_;refine zC ?_;intro hS;clear a0 hS;go_upto_region 10 with fail
     refine lX wr.drew ?_;intro a0 hS;refine lZ ?_;refine zC ?_;intro hS;have E:Below V.heap.size V wr.drew.drew:=c7.drew.drew;have b5:z7 wr.drew.drew gx 0 2=some (zS d):=c6;have F:=c9.below E;have t:=U.below E;have a2:=a4.trans (E.mono a4.size);clear a0 hS E c6 c7 a3 hd c8 f1 f0;obtain⟨W,hW⟩:=eX wr.drew.drew
     rw[hW]at b5 F t a2 |-;clear hW;obtain⟨A,e1⟩:=eR A1
     rw[<-e1]at F t |-;clear e1;obtain⟨cap,a1⟩:=eR R
     rw[<-a1]at F t |-;clear a1;have c2:Below W.heap.size W (W.alloc (.cells #[] 98)):=bA;have L:=Own.empty W W.heap.size 98 2 lR;have g1:∀w0:World,(slS 23 (.slice A n cap) none (some (.int .i64 m)) none).run Tryz.prog w0=.ok (.slice A m cap) w0:=λw0=>SlW.lo yP F a7 w0;obtain⟨Ah,ch,g5,d7,g6⟩:=F.hi (P:=Tryz.prog) yP (m:=m) a7;have T:SlR (W.alloc (.cells #[] 98)) A m 2 ((O.map zS).take m):=(F.rd.below c2).take_ a7;have d8:=F.nil;have I:∀r∈(O.map zS).take m,∀u∈r.toList,u.oneCell'=true:=λr hr=>(by obtain⟨y',_,rfl⟩:=List.mem_map.1 (List.mem_of_mem_take hr);exact qD _);have B:∀r∈(O.map zS).drop m,∀u∈r.toList,u.oneCell'=true:=λr hr=>(by obtain⟨y',_,rfl⟩:=List.mem_map.1 (List.mem_of_mem_drop hr);exact qD _);go_upto_region 12 with(at_builtin;refine yD yP rfl L rfl T d8 I oM oM sI ?_;intro A2 g9 w2 s g4 d5)
     simp only[Nat.zero_add,List.nil_append]at s;have a9:Below W.heap.size W w2:=c2.trans (g4.below sI (by simp[blk]));have b6:z7 w2 gx (0) 2=some (zS d):=(z9 (a9.block gx (zD b5)) _ _).trans b5;have c4:Below w2.heap.size w2 (w2.alloc (.cells (zS d) 98)):=bA;have J:=s.below c4;have H:z7 (w2.alloc (.cells (zS d) 98)) w2.heap.size 0 2=some (zS d):=by simp[go_sem]
     have b0:=a9.size;go_upto_region 13 with(at_builtin;refine yM yP rfl J rfl H (qD _) oM oM sO ?_;intro A4 g8 w4 D g3 d4)
     have M:Below W.heap.size W w4:=(a9.trans (c4.mono b0)).trans (g3.below sO (λx hx=>(s.at_base hx).1));have d6:=d7 w4 (F.rd.below M);have f7:=M.size;clear J H c4 L c2 T b6 g1;go_upto_region 14 with(at_builtin;refine yD yP rfl D rfl d6 g6 B oM oM oM ?_;intro A5 c5 w5 f g2 d3)
     have a8:Below W.heap.size W w5:=M.trans (g2.below oM (λx hx=>(D.at_base hx).1));have e0:(O.map zS).take m ++ [zS d]++(O.map zS).drop m=(O.take m++d :: O.drop m).map zS:=by simp[List.map_take,List.map_drop]
     rw[e0]at f;clear D s e0 d6 g5 d7 I B d8;have c3:=a2.trans (a8.mono a2.size);have c0:(O.take m++d :: O.drop m).length=m+1+(n-m):=by simp[N.out];omega
     have d9:O.take m++d :: O.drop m=vN (Z.take (k+1)):=by rw[f4.out,d2.out]
     rw[d9]at f c0;have Y:=f.mono a2.size;have HL:=dH c0;clear f d9 c0;(go_wp2_with fail);go_roundw
     case rel=>exact⟨k+1,A5,m+1+(n-m),c5,oM,by go_num,rfl,Y,c3⟩
     case measure=>exact sZ
  ·have e:Z.take k=Z:=List.take_of_length_le (by rw[i8.out];omega);rw[e]at a6;clear e;(go_wp2_with fail);go_ret;exact⟨A1,n,R,rfl,a6.mono i7.size,yE i7 hb⟩
def nZ(x:Row):jM:=⟨x.key,x.val⟩
abbrev OwnP(w:World)(B:Nat)(A:Option Addr)(cap:Nat)(L:List jM):Prop:=Own w B 98 2 A L.length cap (L.map zS)
theorem rlistL(w:World)(A:Option Addr)(n cap:Nat)(R:List Row)(h:v3 w A n R)(hn:n<=1000000) :
  Calls Tryz.prog 75 #[.slice A n cap] w λe w'=>∃A' cap',e=.returned (.slice A' ((q9 R).map nZ).length cap')/\OwnP w' w.heap.size A' cap' ((q9 R).map nZ)/\Below w.heap.size w w':=by
 have N:(q9 R).length<=1000000:=by have:=mH R;have:=v3.len h;omega
 obtain⟨O,hO⟩:=eX (q9 R)
 have c1:=rlatest w A n cap R h hn;rw[hO]at c1 N |-;clear hO;go_enter Tryz.func75,Tryz.ntmps75
 (go_wp2_with fail);refine c1.mono ?_;rintro e w1 ⟨A1,Z,rfl,t,L⟩;have H:v3 w1 A1 O.length O:=t.slr;clear c1;(go_wp2_with fail);go_loopw [3,5] (λout i wr=>∃(k:Nat) (A2:Option Addr) (f:Nat),k<=O.length/\i=.int .i64 k/\out=.slice A2 k f/\Own wr w1.heap.size 98 2 A2 k f (((O.take k).map nZ).map zS)/\Below w1.heap.size w1 wr) (λ_ i _=>O.length-(intOf i).toNat)
 case atStart=>exact⟨0,none,0,zL,rfl,rfl,Own.nil _ _ _ _,Below.refl _ _⟩
 case round =>
  obtain⟨k,A2,f,hk,rfl,rfl,d,hb⟩:=hrel;by_cases B:k<O.length
  ·obtain⟨q,o,rfl,hr,y,j,_,_⟩:=v3.get (SlR.below H hb) B B;have hq:q<w1.heap.size:=SlR.old H rfl oM;have I:q∉blk A2:=λhx=>(oH ((d.at_base hx).1));have D:((O.take (k+1)).map nZ).map zS=((O.take k).map nZ).map zS ++ [zS (nZ O[k])]:=by
    have e:O.take (k+1)=O.take k ++ [O[k]]:=by rw[List.take_add_one,List.getElem?_eq_getElem B];rfl
    rw[e,List.map_append,List.map_append];rfl
   obtain⟨x,hx⟩:=eX (O[k]'B)
   rw[hx]at y j D;have U:=dH D;have M:=hb.size;clear hx hr D;go_upto_region 6 with fail
   refine kX (blk A2) wr ?_;intro T hS;have b1:=zP y I;have b2:=zP j I;refine lZ ?_;refine lH ?_;intro K hK;refine zG (z6.trans (z6.trans (z6.refl (blk A2) wr) (z6.drew _) sI) (z6.alloc _ _) sI) (λY=>?_);refine hK _ _ ?_;clear hK K;have E:z6 [] wr (wr.drew.alloc (.cells (zS ⟨x.key,x.val⟩) 98)):=z6.trans (z6.drew wr) (z6.alloc _ _) sI;have r:=d.kept E sI;have m:z7 (wr.drew.alloc (.cells (zS ⟨x.key,x.val⟩) 98)) wr.heap.size 0 2=some (zS ⟨x.key,x.val⟩):=by simp[go_sem]
   refine vW yP rfl r rfl m (qD _) oM oM sO ?_;intro A3 F w3 s J G;refine zG (z6.trans (E.mono (S':=blk A2) sI) J iL) (λX=>?_);refine lZ ?_;refine zC ?_;intro hS;have V:Below w1.heap.size w1 w3:=hb.trans ((z6.trans (E.mono (S':=blk A2) sI) J iL).below M (λx hx=>(d.at_base hx).1));clear T hS Y X b1 b2;(go_wp2_with fail);go_roundw
   case rel=>exact⟨k+1,A3,F,oM,by go_num,rfl,by rw[U.out];exact s,V⟩
   case measure=>exact sZ
  ·have e:k=O.length:=oM;have e2:O.take k=O:=List.take_of_length_le oM;have g:OwnP wr w.heap.size A2 f (O.map nZ):=by rw[e2]at d;show Own _ _ _ _ _ _ _ _;rw[List.length_map,<-e];exact d.mono L.size
   have Ho:=dH g;have El:=dH e;clear e e2 d g;(go_wp2_with fail);go_ret;refine⟨A2,f,?_,Ho.out,yE L hb⟩;rw[List.length_map,<-El.out];rfl
def numR(k:Int)(x:RV):Int:=if k=1 then x.tal else 0
def pairsR(k:Int)(x:RV):List jM :=
 if k=1 then[]else if k=2 then(vG (wJ x.adds x.gone)).map nY else if k=3 then(q9 x.last).map nZ
 else if k=4 then vN (lvM x.mL x.mO)else wL x.sL x.sG
def bytesRV(k:Int)(x:RV):List UInt8 :=
 if k=1 then cM x.tal else if k=2 then B9 (wJ x.adds x.gone) (yB yG x.gone)else if k=3 then nV ((q9 x.last).map vX)
 else if k=4 then rF (lvM x.mL x.mO) (yB zI x.mO)else nU x.sL x.sG
theorem jc{X G:List yH}{z:yH}:z∈wJ X G↔z∈X/\z∉G:=by
 unfold wJ;rw[List.mem_filter,qE jI];simp
theorem mem_lvM{X:List xW}{G:List zE}{z:xW}:z∈lvM X G↔z∈X/\z.id∉G:=by
 unfold lvM;rw[qE dD,List.mem_filter];simp
theorem rel_b{x:RV}{L G:List yH}(h:QS x (.b L G)):wJ x.adds x.gone=L/\yB yG x.gone=G:=by
 obtain⟨a1,a2,a3,a4⟩:=h;refine⟨bL jI ((xJ jI _).filter _) a1 λz=>?_,bL jI (xJ jI _) a2 λz=>?_⟩
 ·rw[jc,a4]
 ·rw[qE jI,a3]
theorem rel_m{x:RV}{X:List xW}{O:List zE}(h:QS x (.m X O)):lvM x.mL x.mO=X/\yB zI x.mO=O:=by
 obtain⟨a1,a2,a3,a4⟩:=h;subst a3;refine⟨bL dD (xJ dD _) a1 λz=>?_,fT q6 a2⟩;rw[mem_lvM,a4]
theorem rel_num{x:RV}{s:VSt}(h:QS x s):numR s.kind x=s.num:=by
 cases s with
 | t n=>exact h
 | b L G=>rfl
 | l L=>rfl
 | m X O=>rfl
 | s N G=>rfl
theorem qk{x:RV}{s:VSt}(h:QS x s):pairsR s.kind x=s.pairs:=by
 cases s with
 | t n=>rfl
 | b L G=>show(vG (wJ x.adds x.gone)).map nY=_;rw[(rel_b h).1];rfl
 | l L =>
  obtain⟨a1,_,_⟩:=h;show(q9 x.last).map nZ=L.map iS;rw[a1,List.map_map];rfl
 | m X O=>show vN (lvM x.mL x.mO)=_;rw[(rel_m h).1];rfl
 | s N G =>
  obtain⟨a1,a2,a3,a4⟩:=h;show wL x.sL x.sG=wL N G;rw[a2];have e:jJ x.sL=jJ N:=Q9 (λn=>(a4 n).symm) a3.forest;show pS (jJ x.sL) x.sG=pS (jJ N) x.sG;rw[e]
theorem ids_cons(I:List zE)(d:zE):xS zI (yB zI I) d=yB zI (d :: I):=bL q6 (vA q6 (xJ q6 _)) (xJ q6 _) λz=>by
 rw[qN q6,qE q6,qE q6,List.mem_cons]
theorem V7{L:List zO}{r:zE}:(qF L r).length<=L.length:=gU L r
theorem rest_len{L:List zO}{out row:List zO}(hf:gB L)(h:out++gN (qF L) zO.id (L.length+1) row=jJ L):out.length+(gN (qF L) zO.id (L.length+1) row).length<=L.length:=by
 have h1:=bG hf;rw[<-h,List.length_append]at h1;exact h1
theorem JI(L:List zO)(k:Nat):∀row:List zO,row.length<=(gN (qF L) zO.id k row).length
 | []=>zL
 | n :: row=>by
  have h:=JI L k row;unfold gN at h |-;rw[List.flatMap_cons,List.length_append,List.length_cons,List.length_cons];omega
theorem rsorder(w:World)(g:Nat)(L:List zO)(G:List zE)(h:vu w g 8 L G)(d2:jZ L)(hX:L.length<=100000) :
  Calls Tryz.prog 153 #[.pointer (some ⟨g,8,none⟩)] w λe w'=>∃A n cap,e=.returned (.slice A n cap)/\Own w' w.heap.size 213 66 A n cap ((jJ L).map yL)/\Below w.heap.size w w':=by
 have d9:=fun (w':World) (hb:Below w.heap.size w w') (r:zE)=>rsbehind w' g L G r (h.below hb) d2 hX;have hf:=d2.forest;have F:=hf.deep;have a9:jJ L=gN (qF L) zO.id (L.length+1) (qF L id0):=JL F;have g0:∀c∈qF L id0,Deep (qF L) zO.id (L.length+1) c.id:=λc hc=>rX (F c hc);have h4:=dH d9;have Hf:=dH hf;have e3:=dH a9;have h6:=dH g0;have c0:=d9 w (Below.refl _ _) id0;clear d9 hf F a9 g0 h d2;go_enter Tryz.func153,Tryz.ntmps153
 (go_wp2_with fail);refine c0.mono ?_;rintro e w1 ⟨RA,nr,rc,rfl,d1,g8⟩;clear c0;(go_wp2_with fail);go_loopw [3,4] (λout row wr=>∃(X R:List zO) (A1:Option Addr) (n1 M:Nat) (A2:Option Addr) (n2 J:Nat),out=.slice A1 n1 M/\row=.slice A2 n2 J/\Own wr w.heap.size 213 66 A1 n1 M (X.map yL)/\SlW wr A2 n2 J 66 (R.map yL)/\(∀x∈blk A2,x∉blk A1)/\Hid (X++gN (qF L) zO.id (L.length+1) R=jJ L)/\Hid (∀c∈R,Deep (qF L) zO.id (L.length+1) c.id)/\Below w.heap.size w wr) (λout _ _=>L.length-(match out with | .slice _ n _=>n | _=>0))
 case atStart=>exact⟨[],qF L id0,none,0,0,RA,nr,rc,rfl,rfl,Own.nil _ _ _ _,d1.slw,(by simp[blk]),(show _=_ by rw[e3.out];rfl),h6,g8⟩
 case round =>
  obtain⟨X,R,A1,n1,M,A2,n2,J,rfl,rfl,D,b6,b1,E,c1,hb⟩:=hrel;have d5:X.length=n1:=by simpa using D.len
  have b7:R.length=n2:=by simpa using b6.len
  have e8:=rest_len Hf.out E.out;have e7:=JI L (L.length+1) R;have i0:n1+n2<=L.length:=oM;have i2:=dH d5;cases R with
  | nil =>
   have g7:n2=0:=by simpa using b7.symm
   subst g7;have g9:X=jJ L:=by have:=E.out;simpa[gN]using this
   subst g9;clear E c1 e8 e7 d5 b7;(go_wp2_with fail);go_ret;exact⟨A1,n1,M,rfl,D,hb⟩
  | cons d R' =>
   have d4:n2=R'.length+1:=by simpa using b7.symm
   subst d4;obtain⟨q,o,rfl,hr⟩:=fN.get b6.rd (i:=0) oM sI;rw[Nat.zero_mul,Nat.add_zero,List.getElem_cons_zero]at hr;have d8:=c1.out d sI;have Y:X ++ [d]++gN (qF L) zO.id (L.length+1) (qF L d.id++R')=jJ L:=by
    have:=E.out;rw[sH d8]at this;simpa using this
   have b0:∀c∈qF L d.id++R',Deep (qF L) zO.id (L.length+1) c.id:=λc hc=>by
    rcases List.mem_append.1 hc with hc | hc
    ·exact XF d8 c hc
    ·exact c1.out c (by simp[hc])
   have b4:=dH Y;have e4:=dH b0;clear E c1 d8 Y b0 e8 e7 d5 b7;have c7:=hb.size;have c2:Below wr.heap.size wr ((wr.alloc (.cells (y8 (fQ d)) 213)).alloc (.cells (y8 (fQ d)) 213)):=(bA).alloc sI _;have T:=D.below c2;have N:z7 ((wr.alloc (.cells (y8 (fQ d)) 213)).alloc (.cells (y8 (fQ d)) 213)) (wr.heap.size+1) 0 66=some (yL d):=by simp[go_sem]
   have b2:z7 ((wr.alloc (.cells (y8 (fQ d)) 213)).alloc (.cells (y8 (fQ d)) 213)) wr.heap.size 0 66=some (yL d):=by simp[go_sem]
   have c9:((wr.alloc (.cells (y8 (fQ d)) 213)).alloc (.cells (y8 (fQ d)) 213)).heap.size=wr.heap.size+2:=sI;have g3:∀x∈blk A1,w.heap.size<=x/\x<wr.heap.size:=λx hx=>D.at_base hx;have g4:=dH g3;have e5:=dH b1;clear g3 b1;go_upto_region 6 with(at_builtin;refine yM qR rfl T rfl N (jD _) oM oM sO ?_;intro A3 e1 w3 k b9 a8)
   have U:wr.heap.size∉blk A1:=λhx=>(oH ((g4.out _ hx).2));have a0:z7 w3 wr.heap.size 0 66=some (yL d):=(b9.row oM U 0 66).trans b2;obtain⟨f1,_,_,_⟩:=bT a0;have a2:=(b6.below c2).kept b9 e5.out;have c6:Below w.heap.size w w3:=hb.trans ((c2.mono c7).trans (b9.below oM λx hx=>(g4.out x hx).1));have g2:∀x∈blk A3,x<w3.heap.size:=λx hx=>(k.at_base hx).2;have h8:=dH g2;obtain⟨gx,f7⟩:=eX wr.heap.size
   have t:(X.map yL) ++ [yL d]=(X ++ [d]).map yL:=sI;rw[t]at k;rw[f7]at f1 |-;have d7:gx<w3.heap.size:=zD f1;clear D T N b2 a0 U c2 c9 b9 a8 f7 g2 b6 hr t hb;have c3:Below w3.heap.size w3 (w3.alloc (.cells #[] 213)):=bA;have b3:Below w.heap.size w (w3.alloc (.cells #[] 213)):=c6.trans (c3.mono c6.size);have h0:=(z9 (c3.block gx d7) 0 32).trans f1;have O:=Own.empty w3 w3.heap.size 213 66 lR;have c4:=h4.out _ b3 d.id;(go_wp2_with fail);refine c4.mono ?_;rintro e w4 ⟨KA,nk,kc,rfl,b8,c5⟩;have e9:(qF L d.id).length=nk:=by simpa using b8.len
   have d3:=V7 (L:=L) (r:=d.id);have y:=O.below c5;have I:Below w3.heap.size w3 w4:=yE c3 c5;have d0:=a2.below I;have g5:=I.size;have f8:KA=none->kc=0:=λe=>(b8.cap_le.2 e).2;have f0:=b8.slr;have h9:w3.heap.size+1<=w4.heap.size:=by have:=c5.size;simpa using this
   have g6:nk<=100000:=oM;have i1:=dH e9;clear c4 O c3 h0 f1 b8 e9 d3 c5 b3;go_upto_region 7 with(at_builtin;refine yD qR rfl y rfl f0 f8 (onesN _) oM oM oM ?_;intro A5 h3 w5 j f3 a7)
   simp only[Nat.zero_add,List.nil_append]at j;have H:Below w3.heap.size w3 w5:=I.trans (f3.below oM (by simp[blk]));have a1:=a2.below H;have c8:=H.size;obtain⟨Ah,ch,f5,f4,f6⟩:=a1.hi (P:=Tryz.prog) qR (m:=1) oM;have d6:∀w0:World,(slS 65 (.slice (some ⟨q,o,none⟩) (R'.length+1) J) (some (.int .i64 1)) none none).run Tryz.prog w0=.ok (.slice Ah R'.length ch) w0:=f5;have e6:SlR w5 Ah R'.length 66 (((d :: R').map yL).drop 1):=f4 w5 a1.rd;have V:∀r∈((d :: R').map yL).drop 1,∀u∈r.toList,u.oneCell'=true:=λr hr=>(by obtain⟨y',_,rfl⟩:=List.mem_map.1 (List.mem_of_mem_drop hr);exact jD _);have g1:∀x∈blk A5,w3.heap.size<=x:=λx hx=>(j.at_base hx).1;have h7:=dH g1;clear g1 f3 a7 y f0 f8 d0 I a2 a1 f4 f5;go_upto_region 8 with(at_builtin;refine yD qR rfl j rfl e6 f6 V oM oM oM ?_;intro A6 e0 w6 f f2 a6)
   have a3:Below w3.heap.size w3 w6:=H.trans (f2.below c8 h7.out);have B:=k.below a3;have s:((qF L d.id).map yL)++((d :: R').map yL).drop 1=(qF L d.id++R').map yL:=sI;rw[s]at f;have a5:=f.slw;have Z:∀x∈blk A6,x∉blk A3:=λx hx hm=>by
    have h1:=(f.at_base hx).1;have h2:=h8.out x hm;omega
   have f9:=c6.trans (a3.mono c6.size);have b5:=dH Z;have e2:=dH a5;have h5:=dH f9;have a4:=dH B;clear f s f2 a6 k e6 d6 f6 V j Z a5 f9 B H a3;(go_wp2_with fail);go_roundw
   case rel=>exact⟨X ++ [d],qF L d.id++R',A3,n1+1,e1,A6,_,e0,rfl,rfl,a4.out,e2.out,b5.out,b4,e4,h5.out⟩
   case measure=>simp only[];omega
theorem rslist(w:World)(g:Nat)(L:List zO)(G:List zE)(h:vu w g 8 L G)(O:jZ L)(hX:L.length<=100000)(hG:G.length<=100000) :
  Calls Tryz.prog 77 #[.pointer (some ⟨g,8,none⟩)] w λe w'=>∃A n cap,e=.returned (.slice A n cap)/\Own w' w.heap.size 98 2 A n cap ((wL L G).map zS)/\Below w.heap.size w w':=by
 have c1:=rsorder w g L G h O hX;have b6:=bG O.forest;have a0:wL L G=pS (jJ L) G:=rfl;rw[a0];obtain⟨Z,hZ⟩:=eX (jJ L)
 rw[hZ]at c1 b6 |-;clear hZ a0 O;obtain⟨XA,nx,xc,GA,ng,gc,b8,R,c0,T⟩:=h;have b4:G.length=ng:=by simpa using T.len
 have b3:ng<=100000:=oM;clear b4 b8 c0;go_enter Tryz.func77,Tryz.ntmps77
 (go_wp2_with fail);refine c1.mono ?_;rintro e w1 ⟨RA,nz,rc,rfl,t,J⟩;have r:fN w1 RA nz Z:=t.slr;have Y:Z.length=nz:=r.len;have a7:=dH Y;have b0:nz<=100000:=oM;have F:=(J.cell (p:=⟨g,9,none⟩) (World.block_lt_of_cell? w _ R)).trans R;have c4:=SlR.below T J;clear t c1 Y R T;(go_wp2_with fail);go_loopw [3,5] (λout i wr=>∃(k:Nat) (A1:Option Addr) (n1 m:Nat),k<=nz/\i=.int .i64 k/\out=.slice A1 n1 m/\Own wr w1.heap.size 98 2 A1 n1 m ((pS (Z.take k) G).map zS)/\Below w1.heap.size w1 wr) (λ_ i _=>nz-(intOf i).toNat)
 case atStart=>exact⟨0,none,0,0,zL,rfl,rfl,Own.nil _ _ _ _,Below.refl _ _⟩
 case round =>
  obtain⟨k,A1,n,m,hk,rfl,rfl,d,hb⟩:=hrel;by_cases U:k<nz
  ·have j:k<Z.length:=by rw[a7.out];exact U
   obtain⟨q,o,rfl,N⟩:=fN.get (SlR.below r hb) U j;have I:pS (Z.take (k+1)) G=if(Z[k]'j).id∈G then pS (Z.take k) G else pS (Z.take k) G ++ [⟨⟨#[]⟩,(Z[k]'j).val⟩]:=by
    rw[List.take_add_one,List.getElem?_eq_getElem j,Option.toList_some,zq]
   have c3:(pS (Z.take k) G).length=n:=by simpa using d.len
   have c5:n<=100000:=by have:=pS_len (Z.take k) G;simp at this;omega
   obtain⟨c,hc⟩:=eX (Z[k]'j)
   rw[hc]at N I;obtain⟨T0,a4⟩:=eX (pS (Z.take k) G)
   rw[a4]at I d;have a5:=dH I;obtain⟨f1,_,_,f4⟩:=bT N;clear hc a4 I c3 N;have a8:=hb.size;have a1:=(hb.cell (p:=⟨g,9,none⟩) (World.block_lt_of_cell? w1 _ F)).trans F;have c2:=YI wr.drew GA ng gc G c.id (SlR.below c4 hb.drew) oM;obtain⟨rr,M⟩:=eX (decide (c.id∈G))
   rw[M]at c2;have a6:=dH M;clear M;go_upto_region 6 with fail
   refine lX wr ?_;intro b5 hS;have b1:=zU f1;have b2:=zJ a1;refine lZ ?_;refine lC (c2) ?_;clear hS;intro w' hS;refine lZ ?_;refine zC ?_;intro hS;have H:Below wr.heap.size wr w':=hS;have a2:=yE hb H;have f:=d.below H;have c6:=(H.cell (World.block_lt_of_cell? wr _ f4)).trans f4;have a9:=H.size;clear b1 b2 b5 hS c2 f1 f4 a1 d H hb;cases rr with
   | true =>
    have e5:=a5.out;rw[if_pos (of_decide_eq_true a6.out)]at e5;have E5:=dH e5;clear e5;(go_wp2_with fail);go_roundw
    case rel=>exact⟨k+1,A1,n,m,oM,by go_num,rfl,(by rw[E5.out];exact f),a2⟩
    case measure=>exact sZ
   | false =>
    have e5:=a5.out;rw[if_neg (of_decide_eq_false a6.out)]at e5;have E5:=dH e5;clear e5;have a3:Below w'.heap.size w' (w'.alloc (.cells (zS ⟨⟨#[]⟩,c.val⟩) 98)):=bA;have E:=f.below a3;have s:z7 (w'.alloc (.cells (zS ⟨⟨#[]⟩,c.val⟩) 98)) w'.heap.size 0 2=some (zS ⟨⟨#[]⟩,c.val⟩):=by simp[go_sem]
    go_wp2_with (at_builtin;refine yM yP rfl E rfl s (qD _) oM oM sO ?_;intro A2 V w2 D b7 X)
    have b9:Below w1.heap.size w1 w2:=a2.trans ((a3.mono oM).trans (b7.below (B:=w1.heap.size) sO λy hy=>(f.at_base hy).1));(go_wp2_with fail);go_roundw
    case rel=>exact⟨k+1,A2,n+1,V,oM,by go_num,rfl,(by rw[E5.out];simpa using D),b9⟩
    case measure=>exact sZ
  ·have e:Z.take k=Z:=List.take_of_length_le (by rw[a7.out];omega);rw[e]at d;clear e;(go_wp2_with fail);go_ret;exact⟨A1,n,m,rfl,d.mono J.size,yE J hb⟩
def valC(k n:Int)(A:Option Addr)(m c:Nat):Array Value:=zQ ⟨k,n,.slice A m c⟩
theorem rsame26(w:World)(k n k' n':Int)(A B:Option Addr)(m m' c c':Nat)(X Y:List jM)(hx:vS w A m X)(hy:vS w B m' Y)(hm:m<=1000000)(r:m'<=1000000) :
  Calls Tryz.prog 15 #[.agg (valC k n A m c),.agg (valC k' n' B m' c')] w λe w'=>e=.returned (.bool (decide (k=k'/\n=n'/\X=Y)))/\Below w.heap.size w w':=by
 have hB:Below w.heap.size w ((w.alloc (.cells (valC k n A m c) 25)).alloc (.cells (valC k' n' B m' c') 25)):=(bA).alloc sI _;have f:=SlR.below hx hB;have d:=SlR.below hy hB;have cp:=rpairs _ A B m m' c c' X Y f d hm r;unfold valC at hB cp |-;have hd:decide (k=k'/\n=n'/\X=Y)=((k==k')&&(n==n')&&decide (X=Y)):=by
  rw[Bool.eq_iff_iff];simp[and_assoc]
 obtain⟨b,hb⟩:=eX (decide (X=Y))
 rw[hb]at cp hd;have Hd:=dH hd;clear hd f d hb hx hy;obtain⟨b1,h1⟩:=eX (k==k')
 obtain⟨b2,h2⟩:=eX (n==n')
 have j:Hid (decide (k=k'/\n=n'/\X=Y)=(b1&&b2&&b)):=by show _=_;rw[Hd.out,h1,h2]
 clear Hd;cases b1 <;> cases b2
 all_goals
  go_enter Tryz.func15,Tryz.ntmps15
  go_wp2_with fail
  first
  | (go_ret;exact⟨yF (by rw[j.out];rfl),hB⟩)
  | (refine cp.mono ?_;rintro e w1 ⟨rfl,g⟩
     have s:=yE hB g;clear cp g hB;(go_wp2_with fail);go_ret;exact⟨yF (by rw[j.out];rfl),s⟩)
 @[go_sem] theorem buildValV_kn(k n:Int)(w:World):(bdS 25 #[(0,.int .i64 k),(1,.int .i64 n)]).run Tryz.prog w=.ok (.agg (zQ ⟨k,n,.slice none 0 0⟩)) w:=kR
@[go_sem] theorem buildValV_kl(k:Int)(A:Option Addr)(n c:Nat)(w:World):(bdS 25 #[(0,.int .i64 k),(2,.slice A n c)]).run Tryz.prog w=.ok (.agg (zQ ⟨k,0,.slice A n c⟩)) w:=kR
theorem xy(w:World)(g:Nat)(t:ByteArray)(I:List zE)(x:RV)(L:List jM)(h:qV w g t I x)(ht:t.size<=9223372036854775807)(hk:yC t=2)
  (cl:∀w' si sa sg sl sm so ss sd,nJ w' g t I x si sa sg sl sm so ss sd->Calls Tryz.prog 74 #[.pointer (some ⟨g,3,none⟩)] w' λe F=>∃A n cap,e=.returned (.slice A n cap)/\Own F w'.heap.size 98 2 A n cap (L.map zS)/\Below w'.heap.size w' F) :
  Calls Tryz.prog 31 #[.pointer (some ⟨g,0,none⟩)] w λe w'=>∃A n cap,e=.returned (.agg (zQ ⟨2,0,.slice A n cap⟩))/\Own w' w.heap.size 98 2 A n cap (L.map zS)/\Below w.heap.size w w':=by
 obtain⟨si,sa,sg,sl,sm,so,ss,sd,h⟩:=h;have c1:=λw=>v8 t w ht;rw[hk]at c1;have hB:Below w.heap.size w (w.alloc (.cells (zQ xZ) 25)):=bA;have h1:=h.below hB;have f:(w.alloc (.cells (zQ xZ) 25)).heap[w.heap.size]?=some (.cells (zQ xZ) 25 (0,0)):=heap_alloc_new w _;go_enter Tryz.func31,Tryz.ntmps31
 go_upto_region 1 with fail
 obtain⟨ga,r⟩:=eX w.heap.size
 have k:=dH r;rw[r]at f hB |-;obtain⟨W,hW⟩:=eR (w.alloc (.cells (zQ xZ) 25))
 rw[<-hW]at h1 f hB |-;clear hW r h;have O:W.cell? ⟨g,0,none⟩=some (.string t):=h1.cell 0 rfl;(go_wp2_with fail);refine(c1 _).mono ?_;rintro e w2 ⟨rfl,j⟩;have h2:=h1.below j;have y:=(j.block ga (aG f).1).trans f;have G:Below ga w w2:=hB.trans (j.mono (by have:=hB.size;have:=k.out;omega));have M:ga<w2.heap.size:=(aG y).1;clear O h1 f hB j c1;have H:=cl w2 si sa sg sl sm so ss sd h2;have N:w2.cell? ⟨g,5,none⟩=some (.slice sl.A sl.n sl.c):=h2.cell 5 rfl;clear cl h2;(go_wp2_with fail);refine H.mono ?_;rintro e w3 ⟨A,n,cap,rfl,d,B⟩;have s:=(B.block ga M).trans y;have D:Below ga w w3:=G.trans (B.mono oM);clear y G H N;have J:=yU (P:=Tryz.prog) qT w3 ga (zQ xZ) (zQ ⟨2,0,.slice A n cap⟩) _ s sI sI (vT _ rfl);have m:z6 [ga] w3 (w3.setRow ga (zQ ⟨2,0,.slice A n cap⟩)):=⟨rfl,rfl,rfl,by simp[World.setRow],λx _ hx=>setRow_other w3 ga x _ (by simpa using hx)⟩
 have E:=dH (setRow_heap w3 ga _ (zQ ⟨2,0,.slice A n cap⟩) _ _ s);have R:=dH (D.trans (m.below (by have:=D.size;have:=k.out;omega) sI));have HO:=dH ((d.kept m (λx hx=>oS (d.at_base hx))).mono (B':=w.heap.size) (oH k.out));clear m s D d B;(go_wp2_with fail);refine bodyPost_ret (results_cell_row Tryz.results31 _ _ ga 25 (zQ ⟨2,0,.slice A n cap⟩) (0,0) _ rfl E.out Tryz.underlying25 rfl (by rw[v4];exact qT)) rfl ?_;exact⟨A,n,cap,rfl,HO.out,by rw[k.out];exact R.out⟩
theorem xw(w:World)(g:Nat)(t:ByteArray)(I:List zE)(x:RV)(L:List jM)(h:qV w g t I x)(ht:t.size<=9223372036854775807)(hk:yC t=3)
  (cl:∀w' si sa sg sl sm so ss sd,nJ w' g t I x si sa sg sl sm so ss sd->Calls Tryz.prog 75 #[.slice sl.A sl.n sl.c] w' λe F=>∃A n cap,e=.returned (.slice A n cap)/\Own F w'.heap.size 98 2 A n cap (L.map zS)/\Below w'.heap.size w' F) :
  Calls Tryz.prog 31 #[.pointer (some ⟨g,0,none⟩)] w λe w'=>∃A n cap,e=.returned (.agg (zQ ⟨3,0,.slice A n cap⟩))/\Own w' w.heap.size 98 2 A n cap (L.map zS)/\Below w.heap.size w w':=by
 obtain⟨si,sa,sg,sl,sm,so,ss,sd,h⟩:=h;have c1:=λw=>v8 t w ht;rw[hk]at c1;have hB:Below w.heap.size w (w.alloc (.cells (zQ xZ) 25)):=bA;have h1:=h.below hB;have f:(w.alloc (.cells (zQ xZ) 25)).heap[w.heap.size]?=some (.cells (zQ xZ) 25 (0,0)):=heap_alloc_new w _;go_enter Tryz.func31,Tryz.ntmps31
 go_upto_region 1 with fail
 obtain⟨ga,r⟩:=eX w.heap.size
 have k:=dH r;rw[r]at f hB |-;obtain⟨W,hW⟩:=eR (w.alloc (.cells (zQ xZ) 25))
 rw[<-hW]at h1 f hB |-;clear hW r h;have O:W.cell? ⟨g,0,none⟩=some (.string t):=h1.cell 0 rfl;(go_wp2_with fail);refine(c1 _).mono ?_;rintro e w2 ⟨rfl,j⟩;have h2:=h1.below j;have y:=(j.block ga (aG f).1).trans f;have G:Below ga w w2:=hB.trans (j.mono (by have:=hB.size;have:=k.out;omega));have M:ga<w2.heap.size:=(aG y).1;clear O h1 f hB j c1;have H:=cl w2 si sa sg sl sm so ss sd h2;have N:w2.cell? ⟨g,5,none⟩=some (.slice sl.A sl.n sl.c):=h2.cell 5 rfl;clear cl h2;(go_wp2_with fail);refine H.mono ?_;rintro e w3 ⟨A,n,cap,rfl,d,B⟩;have s:=(B.block ga M).trans y;have D:Below ga w w3:=G.trans (B.mono oM);clear y G H N;have J:=yU (P:=Tryz.prog) qT w3 ga (zQ xZ) (zQ ⟨3,0,.slice A n cap⟩) _ s sI sI (vT _ rfl);have m:z6 [ga] w3 (w3.setRow ga (zQ ⟨3,0,.slice A n cap⟩)):=⟨rfl,rfl,rfl,by simp[World.setRow],λx _ hx=>setRow_other w3 ga x _ (by simpa using hx)⟩
 have E:=dH (setRow_heap w3 ga _ (zQ ⟨3,0,.slice A n cap⟩) _ _ s);have R:=dH (D.trans (m.below (by have:=D.size;have:=k.out;omega) sI));have HO:=dH ((d.kept m (λx hx=>oS (d.at_base hx))).mono (B':=w.heap.size) (oH k.out));clear m s D d B;(go_wp2_with fail);refine bodyPost_ret (results_cell_row Tryz.results31 _ _ ga 25 (zQ ⟨3,0,.slice A n cap⟩) (0,0) _ rfl E.out Tryz.underlying25 rfl (by rw[v4];exact qT)) rfl ?_;exact⟨A,n,cap,rfl,HO.out,by rw[k.out];exact R.out⟩
theorem xu(w:World)(g:Nat)(t:ByteArray)(I:List zE)(x:RV)(L:List jM)(h:qV w g t I x)(ht:t.size<=9223372036854775807)(hk:yC t=4)
  (cl:∀w' si sa sg sl sm so ss sd,nJ w' g t I x si sa sg sl sm so ss sd->Calls Tryz.prog 76 #[.pointer (some ⟨g,6,none⟩)] w' λe F=>∃A n cap,e=.returned (.slice A n cap)/\Own F w'.heap.size 98 2 A n cap (L.map zS)/\Below w'.heap.size w' F) :
  Calls Tryz.prog 31 #[.pointer (some ⟨g,0,none⟩)] w λe w'=>∃A n cap,e=.returned (.agg (zQ ⟨4,0,.slice A n cap⟩))/\Own w' w.heap.size 98 2 A n cap (L.map zS)/\Below w.heap.size w w':=by
 obtain⟨si,sa,sg,sl,sm,so,ss,sd,h⟩:=h;have c1:=λw=>v8 t w ht;rw[hk]at c1;have hB:Below w.heap.size w (w.alloc (.cells (zQ xZ) 25)):=bA;have h1:=h.below hB;have f:(w.alloc (.cells (zQ xZ) 25)).heap[w.heap.size]?=some (.cells (zQ xZ) 25 (0,0)):=heap_alloc_new w _;go_enter Tryz.func31,Tryz.ntmps31
 go_upto_region 1 with fail
 obtain⟨ga,r⟩:=eX w.heap.size
 have k:=dH r;rw[r]at f hB |-;obtain⟨W,hW⟩:=eR (w.alloc (.cells (zQ xZ) 25))
 rw[<-hW]at h1 f hB |-;clear hW r h;have O:W.cell? ⟨g,0,none⟩=some (.string t):=h1.cell 0 rfl;(go_wp2_with fail);refine(c1 _).mono ?_;rintro e w2 ⟨rfl,j⟩;have h2:=h1.below j;have y:=(j.block ga (aG f).1).trans f;have G:Below ga w w2:=hB.trans (j.mono (by have:=hB.size;have:=k.out;omega));have M:ga<w2.heap.size:=(aG y).1;clear O h1 f hB j c1;have H:=cl w2 si sa sg sl sm so ss sd h2;have N:w2.cell? ⟨g,5,none⟩=some (.slice sl.A sl.n sl.c):=h2.cell 5 rfl;clear cl h2;(go_wp2_with fail);refine H.mono ?_;rintro e w3 ⟨A,n,cap,rfl,d,B⟩;have s:=(B.block ga M).trans y;have D:Below ga w w3:=G.trans (B.mono oM);clear y G H N;have J:=yU (P:=Tryz.prog) qT w3 ga (zQ xZ) (zQ ⟨4,0,.slice A n cap⟩) _ s sI sI (vT _ rfl);have m:z6 [ga] w3 (w3.setRow ga (zQ ⟨4,0,.slice A n cap⟩)):=⟨rfl,rfl,rfl,by simp[World.setRow],λx _ hx=>setRow_other w3 ga x _ (by simpa using hx)⟩
 have E:=dH (setRow_heap w3 ga _ (zQ ⟨4,0,.slice A n cap⟩) _ _ s);have R:=dH (D.trans (m.below (by have:=D.size;have:=k.out;omega) sI));have HO:=dH ((d.kept m (λx hx=>oS (d.at_base hx))).mono (B':=w.heap.size) (oH k.out));clear m s D d B;(go_wp2_with fail);refine bodyPost_ret (results_cell_row Tryz.results31 _ _ ga 25 (zQ ⟨4,0,.slice A n cap⟩) (0,0) _ rfl E.out Tryz.underlying25 rfl (by rw[v4];exact qT)) rfl ?_;exact⟨A,n,cap,rfl,HO.out,by rw[k.out];exact R.out⟩
theorem xt(w:World)(g:Nat)(t:ByteArray)(I:List zE)(x:RV)(L:List jM)(h:qV w g t I x)(ht:t.size<=9223372036854775807)(hk:yC t=5)
  (cl:∀w' si sa sg sl sm so ss sd,nJ w' g t I x si sa sg sl sm so ss sd->Calls Tryz.prog 77 #[.pointer (some ⟨g,8,none⟩)] w' λe F=>∃A n cap,e=.returned (.slice A n cap)/\Own F w'.heap.size 98 2 A n cap (L.map zS)/\Below w'.heap.size w' F) :
  Calls Tryz.prog 31 #[.pointer (some ⟨g,0,none⟩)] w λe w'=>∃A n cap,e=.returned (.agg (zQ ⟨5,0,.slice A n cap⟩))/\Own w' w.heap.size 98 2 A n cap (L.map zS)/\Below w.heap.size w w':=by
 obtain⟨si,sa,sg,sl,sm,so,ss,sd,h⟩:=h;have c1:=λw=>v8 t w ht;rw[hk]at c1;have hB:Below w.heap.size w (w.alloc (.cells (zQ xZ) 25)):=bA;have h1:=h.below hB;have f:(w.alloc (.cells (zQ xZ) 25)).heap[w.heap.size]?=some (.cells (zQ xZ) 25 (0,0)):=heap_alloc_new w _;go_enter Tryz.func31,Tryz.ntmps31
 go_upto_region 1 with fail
 obtain⟨ga,r⟩:=eX w.heap.size
 have k:=dH r;rw[r]at f hB |-;obtain⟨W,hW⟩:=eR (w.alloc (.cells (zQ xZ) 25))
 rw[<-hW]at h1 f hB |-;clear hW r h;have O:W.cell? ⟨g,0,none⟩=some (.string t):=h1.cell 0 rfl;(go_wp2_with fail);refine(c1 _).mono ?_;rintro e w2 ⟨rfl,j⟩;have h2:=h1.below j;have y:=(j.block ga (aG f).1).trans f;have G:Below ga w w2:=hB.trans (j.mono (by have:=hB.size;have:=k.out;omega));have M:ga<w2.heap.size:=(aG y).1;clear O h1 f hB j c1;have H:=cl w2 si sa sg sl sm so ss sd h2;have N:w2.cell? ⟨g,5,none⟩=some (.slice sl.A sl.n sl.c):=h2.cell 5 rfl;clear cl h2;(go_wp2_with fail);refine H.mono ?_;rintro e w3 ⟨A,n,cap,rfl,d,B⟩;have s:=(B.block ga M).trans y;have D:Below ga w w3:=G.trans (B.mono oM);clear y G H N;have J:=yU (P:=Tryz.prog) qT w3 ga (zQ xZ) (zQ ⟨5,0,.slice A n cap⟩) _ s sI sI (vT _ rfl);have m:z6 [ga] w3 (w3.setRow ga (zQ ⟨5,0,.slice A n cap⟩)):=⟨rfl,rfl,rfl,by simp[World.setRow],λx _ hx=>setRow_other w3 ga x _ (by simpa using hx)⟩
 have E:=dH (setRow_heap w3 ga _ (zQ ⟨5,0,.slice A n cap⟩) _ _ s);have R:=dH (D.trans (m.below (by have:=D.size;have:=k.out;omega) sI));have HO:=dH ((d.kept m (λx hx=>oS (d.at_base hx))).mono (B':=w.heap.size) (oH k.out));clear m s D d B;(go_wp2_with fail);refine bodyPost_ret (results_cell_row Tryz.results31 _ _ ga 25 (zQ ⟨5,0,.slice A n cap⟩) (0,0) _ rfl E.out Tryz.underlying25 rfl (by rw[v4];exact qT)) rfl ?_;exact⟨A,n,cap,rfl,HO.out,by rw[k.out];exact R.out⟩
theorem xq(w:World)(g:Nat)(t:ByteArray)(I:List zE)(x:RV)(h:qV w g t I x)(ht:t.size<=9223372036854775807)(hk:yC t=1) :
  Calls Tryz.prog 31 #[.pointer (some ⟨g,0,none⟩)] w λe w'=>e=.returned (.agg (zQ ⟨1,x.tal,.slice none 0 0⟩))/\Below w.heap.size w w':=by
 obtain⟨si,sa,sg,sl,sm,so,ss,sd,h⟩:=h;have c1:=λw=>v8 t w ht;rw[hk]at c1;have hB:Below w.heap.size w (w.alloc (.cells (zQ xZ) 25)):=bA;have h1:=h.below hB;have d:(w.alloc (.cells (zQ xZ) 25)).heap[w.heap.size]?=some (.cells (zQ xZ) 25 (0,0)):=heap_alloc_new w _;go_enter Tryz.func31,Tryz.ntmps31
 go_upto_region 1 with fail
 obtain⟨ga,j⟩:=eX w.heap.size
 have s:=dH j;rw[j]at d hB |-;obtain⟨W,hW⟩:=eR (w.alloc (.cells (zQ xZ) 25))
 rw[<-hW]at h1 d hB |-;clear hW j h;have E:W.cell? ⟨g,0,none⟩=some (.string t):=h1.cell 0 rfl;(go_wp2_with fail);refine(c1 _).mono ?_;rintro e w2 ⟨rfl,f⟩;have h2:=h1.below f;have m:=(f.block ga (aG d).1).trans d;have B:Below ga w w2:=hB.trans (f.mono (by have:=hB.size;have:=s.out;omega));have G:ga<w2.heap.size:=(aG m).1;clear E h1 d hB f c1;have H:w2.cell? ⟨g,2,none⟩=some (.int .i64 x.tal):=h2.cell 2 rfl;clear h2;obtain⟨w3,rfl⟩:=eR w2
 have k:=m;have r:=B;clear m B;have D:=yU (P:=Tryz.prog) qT w3 ga (zQ xZ) (zQ ⟨1,x.tal,.slice none 0 0⟩) _ k sI sI (vT _ rfl);have A:z6 [ga] w3 (w3.setRow ga (zQ ⟨1,x.tal,.slice none 0 0⟩)):=⟨rfl,rfl,rfl,by simp[World.setRow],λx _ hx=>setRow_other w3 ga x _ (by simpa using hx)⟩
 have y:=dH (setRow_heap w3 ga _ (zQ ⟨1,x.tal,.slice none 0 0⟩) _ _ k);have F:=dH (r.trans (A.below (by have:=r.size;have:=s.out;omega) sI));clear A k r;(go_wp2_with fail);refine bodyPost_ret (results_cell_row Tryz.results31 _ _ ga 25 (zQ ⟨1,x.tal,.slice none 0 0⟩) (0,0) _ rfl y.out Tryz.underlying25 rfl (by rw[v4];exact qT)) rfl ?_;exact⟨rfl,by rw[s.out];exact F.out⟩
theorem rvvalue(w:World)(g:Nat)(t:ByteArray)(I:List zE)(x:RV)(h:qV w g t I x)(ht:t.size<=9223372036854775807)(hk:yC t≠0)(f:mV x)(hl:x.len<=10000) :
  Calls Tryz.prog 31 #[.pointer (some ⟨g,0,none⟩)] w λe w'=>∃A n cap,e=.returned (.agg (zQ ⟨yC t,numR (yC t) x,.slice A n cap⟩))/\Own w' w.heap.size 98 2 A n cap ((pairsR (yC t) x).map zS)/\Below w.heap.size w w':=by
 unfold RV.len at hl;rcases gT t with e | e | e | e | e | e
 ·exact absurd e hk
 ·rw[e];exact(xq w g t I x h ht e).mono λe w' ⟨h1,h2⟩=>⟨none,0,0,h1,Own.nil _ _ _ _,h2⟩
 ·rw[e];exact xy w g t I x ((vG (wJ x.adds x.gone)).map nY) h ht e λw' si sa sg sl sm so ss sd h' =>
   (rlist3 w' g x.adds x.gone ⟨sa.A,sa.n,sa.c,sg.A,sg.n,sg.c,h'.cell 3 rfl,h'.cell 4 rfl,h'.adds.1.rd,h'.gone.1.rd⟩ oM oM).mono λe d ⟨A,cap,h1,h2,h3⟩ =>
    ⟨A,_,cap,h1,(by rw[List.map_map];exact h2),h3⟩
 ·rw[e];exact xw w g t I x ((q9 x.last).map nZ) h ht e λw' si sa sg sl sm so ss sd h' =>
   (rlistL w' sl.A sl.n sl.c x.last h'.last.1.rd (oH h'.lens)).mono λe d ⟨A,cap,h1,h2,h3⟩=>⟨A,_,cap,h1,h2,h3⟩
 ·rw[e];exact xu w g t I x (vN (lvM x.mL x.mO)) h ht e λw' si sa sg sl sm so ss sd h' =>
   (rmlist w' g x.mL x.mO ⟨sm.A,sm.n,sm.c,so.A,so.n,so.c,h'.cell 6 rfl,h'.cell 7 rfl,h'.mL.1.rd,h'.mO.1.rd⟩ oM oM).mono λe d ⟨A,n,cap,h1,h2,h3⟩=>⟨A,n,cap,h1,h2,h3⟩
 ·rw[e];exact xt w g t I x (wL x.sL x.sG) h ht e λw' si sa sg sl sm so ss sd h' =>
   (rslist w' g x.sL x.sG ⟨ss.A,ss.n,ss.c,sd.A,sd.n,sd.c,h'.cell 8 rfl,h'.cell 9 rfl,h'.sL.1.rd,h'.sG.1.rd⟩ f.sL oM oM).mono λe d ⟨A,n,cap,h1,h2,h3⟩=>⟨A,n,cap,h1,h2,h3⟩
def pow256:Nat->Int | 0=>1 | k+1=>256*pow256 k
theorem Z7(k n:Nat):beL (k+1) n=beL k (n / 256) ++ [UInt8.ofNat n]:=by
 induction k generalizing n with
 | zero=>simp[beL]
 | succ k ih =>
  have h1:=ih n;show UInt8.ofNat (n / 256 ^ (k+1)) :: beL (k+1) n=(UInt8.ofNat (n / 256 / 256 ^ k) :: beL k (n / 256)) ++ [UInt8.ofNat n];rw[h1,Nat.pow_succ,Nat.mul_comm,<-Nat.div_div_eq_div_mul];rfl
theorem mk1(w:World):(Instr.makeSlice 37 (.int .i64 1) (.int .i64 1)).run Tryz.prog w=.ok (.slice (some ⟨w.heap.size,0,none⟩) 1 1) (w.alloc (.cells #[.int .u8 0] 5)):=kR
theorem mk4(w:World):(Instr.makeSlice 37 (.int .i64 4) (.int .i64 4)).run Tryz.prog w=.ok (.slice (some ⟨w.heap.size,0,none⟩) 4 4) (w.alloc (.cells #[.int .u8 0,.int .u8 0,.int .u8 0,.int .u8 0] 5)):=kR
theorem aX(w:World)(bs:List UInt8)(n:Nat)(hn:n=bs.length)(cs:Array Value)(hc:cs=(bs.map vY).toArray) :
  (convert 37 9 (.slice (some ⟨w.heap.size,0,none⟩) n n)).run Tryz.prog (w.alloc (.cells cs 5))=.ok (.string ⟨bs.toArray⟩) (w.alloc (.cells cs 5)):=by
 subst hn;subst hc;exact run_convert_bytes_back (P:=Tryz.prog) _ 37 9 5 ⟨w.heap.size,0,none⟩ bs.length bs Tryz.underlying37 Tryz.underlying5 Tryz.underlying9 (λj hj=>by simp[go_sem,vY,hj])
theorem u8n(n:Nat):((n:Int) % 256)=((UInt8.ofNat n).toNat:Int):=sI
theorem rnum1(n:Nat)(w:World)(h:n<256) :
  Calls Tryz.prog 83 #[.int .i64 n,.int .i64 1] w λe w'=>e=.returned (.tuple #[.string ⟨(beL 1 n).toArray⟩,.int .i64 0])/\Below w.heap.size w w':=by
 have k:decide ((n:Int)<0)=false:=sI;have j:decide (256<=(n:Int))=false:=sO;have f:=aX w (beL 1 n) 1 rfl #[.int .u8 ((n:Int) % 256)] (by rw[u8n];simp[beL,vY]);obtain⟨bs,d⟩:=eX (beL 1 n)
 rw[d]at f |-;clear d;have g:=mk1;go_enter Tryz.func83,Tryz.ntmps83
 (go_wp2_with fail);refine wp_loop_rounds 1 ?_;rw[rounds_succ];(go_wp2_with fail);refine wp_loop_rounds 2 ?_;rw[rounds_succ];(go_wp2_with fail);rw[rounds_succ];(go_wp2_with fail);go_ret2;exact⟨rfl,bA⟩
theorem rnum4(n:Nat)(w:World)(h:n<4294967296) :
  Calls Tryz.prog 83 #[.int .i64 n,.int .i64 4] w λe w'=>e=.returned (.tuple #[.string ⟨(beL 4 n).toArray⟩,.int .i64 0])/\Below w.heap.size w w':=by
 have k:decide ((n:Int)<0)=false:=sI;have j:decide (4294967296<=(n:Int))=false:=sO;have f:=aX w (beL 4 n) 4 rfl #[.int .u8 ((n:Int) / 256 / 256 / 256 % 256),.int .u8 ((n:Int) / 256 / 256 % 256),.int .u8 ((n:Int) / 256 % 256),.int .u8 ((n:Int) % 256)] (by
  have e1:(n:Int) / 256=((n / 256:Nat):Int):=sI;have e2:((n / 256:Nat):Int) / 256=((n / 256 / 256:Nat):Int):=sI;have e3:((n / 256 / 256:Nat):Int) / 256=((n / 256 / 256 / 256:Nat):Int):=sI;rw[e1,e2,e3,u8n,u8n,u8n,u8n,Z7,Z7,Z7];simp[beL,vY])
 obtain⟨bs,d⟩:=eX (beL 4 n)
 rw[d]at f |-;clear d;have g:=mk4;go_enter Tryz.func83,Tryz.ntmps83
 (go_wp2_with fail);refine wp_loop_rounds 4 ?_;rw[rounds_succ];(go_wp2_with fail);rw[rounds_succ];(go_wp2_with fail);rw[rounds_succ];(go_wp2_with fail);rw[rounds_succ];(go_wp2_with fail);refine wp_loop_rounds 5 ?_;rw[rounds_succ];(go_wp2_with fail);rw[rounds_succ];(go_wp2_with fail);rw[rounds_succ];(go_wp2_with fail);rw[rounds_succ];(go_wp2_with fail);rw[rounds_succ];(go_wp2_with fail);go_ret2;exact⟨rfl,bA⟩
theorem rnumP(n M:Nat)(w:World)(hM:M=1\/M=4)(h:n<256 ^ M) :
  Calls Tryz.prog 83 #[.int .i64 n,.int .i64 M] w λe w'=>∃s:ByteArray,e=.returned (.tuple #[.string s,.int .i64 0])/\s.size=M/\s.data.toList=beL M n/\Below w.heap.size w w':=by
 have c:Calls Tryz.prog 83 #[.int .i64 n,.int .i64 M] w λe w'=>e=.returned (.tuple #[.string ⟨(beL M n).toArray⟩,.int .i64 0])/\Below w.heap.size w w':=by
  rcases hM with rfl | rfl
  ·exact rnum1 n w h
  ·exact rnum4 n w h
 exact c.mono λ_ _ ⟨he,hb⟩=>⟨_,he,(by show(beL M n).toArray.size=M;simp[y6]),sI,hb⟩
section
open Go.RowKit
end
section
open Go.RowKit
end
section
open Go.RowKit
end
section
open Go.RowKit
end
section
open Go.RowKit
end
section
open Go.RowKit
end
section
open Go.RowKit
end
section
open Go.RowKit
end
section
open Go.RowKit
end
section
open Go.RowKit
end
section
open Go.RowKit
end
section
open Go.RowKit
end
section
open Go.RowKit
def m4(w:World)(x:Nat):Prop:=∀o k cs,32<=k->z7 w x o k=some cs->False
theorem mZ{w:World}{x:Nat}{es:Array MapEntry}{d:Nat}(h:w.heap[x]?=some (.map es d)):m4 w x:=λo k cs _ hr=>by
 unfold z7 at hr;rw[h]at hr;cases hr
theorem kN{w:World}{x:Nat}{cs:Array Value}{t:TypeId}{f:Nat×Nat}(h:w.heap[x]?=some (.cells cs t f))(hs:cs.size<32):m4 w x:=λo k c hk hr=>by
 unfold z7 at hr;rw[h]at hr;dsimp only at hr;rw[if_neg oM]at hr;cases hr
theorem SlR.kept_small{w w':World}{A:Option Addr}{n k:Nat}{R:List (Array Value)}{S:List Nat}(h:SlR w A n k R)(hk:32<=k)(hw:z6 S w w')(hs:∀x∈S,m4 w x):SlR w' A n k R:=by
 refine⟨h.1,λh0=>?_⟩;obtain⟨q,o,e,hc⟩:=h.2 h0;refine⟨q,o,e,λi hi=>?_⟩;have d:=zD (hc i hi);rw[hw.row d (λhm=>hs q hm _ _ _ hk (hc i hi)) _ _];exact hc i hi
theorem SlX.kept_small{w w':World}{g:Nat}{s:Sl}{k:Nat}{R:List (Array Value)}{S:List Nat}(h:SlX w g s k R)(hk:32<=k)(hw:z6 S w w')(hs:∀x∈S,m4 w x):SlX w' g s k R :=
 ⟨⟨h.1.rd.kept_small hk hw hs,h.1.le,h.1.nil,h.1.plain⟩,h.2⟩
theorem qV.kept_small{w w':World}{g:Nat}{t:ByteArray}{I:List zE}{x:RV}{S:List Nat}(h:qV w g t I x)(hw:z6 S w w')(hs:∀x∈S,m4 w x)(hg:g∉S):qV w' g t I x:=by
 obtain⟨si,sa,sg,sl,sm,so,ss,sd,h⟩:=h;exact⟨si,sa,sg,sl,sm,so,ss,sd,(hw.block g h.lt hg).trans h.hp,h.ids.kept_small oM hw hs,h.adds.kept_small oM hw hs,h.gone.kept_small oM hw hs,h.last.kept_small oM hw hs,h.mL.kept_small oM hw hs,h.mO.kept_small oM hw hs,h.sL.kept_small oM hw hs,h.sG.kept_small oM hw hs⟩
theorem qV.small{w:World}{g:Nat}{t:ByteArray}{I:List zE}{x:RV}(h:qV w g t I x):m4 w g:=by
 obtain⟨si,sa,sg,sl,sm,so,ss,sd,h⟩:=h;exact kN h.hp (by simp[rvC])
theorem qV.ids{w:World}{g:Nat}{t:ByteArray}{I:List zE}{x:RV}(h:qV w g t I x):∃A c,w.cell? ⟨g,1,none⟩=some (.slice A I.length c)/\zY w A I.length I:=by
 obtain⟨⟨A,n,c⟩,sa,sg,sl,sm,so,ss,sd,h⟩:=h;have hn:I.length=n:=by simpa using h.ids.1.len
 subst hn;exact⟨A,c,h.cell 1 rfl,h.ids.1.rd⟩
section
variable {w w':World} {M S:List Nat}
theorem q7.kept_small{g bn bb bg:Nat}{N:List zO}{G:List zE}(h:q7 w M g bn bb bg N G)(k:z6 S w w')(hS:∀x∈S,m4 w x)(hg:g∉S)(h1:bn∉S)(h2:bb∉S)(h3:bg∉S):q7 w' M g bn bb bg N G:=by
 obtain⟨es,r,hn⟩:=h.nodes;obtain⟨BM,m,d,hb,f,j⟩:=h.behind;refine⟨(k.block g h.ltg hg).trans h.blk,⟨es,r,hn.kept k h1⟩,⟨BM,m,d,hb.kept k h2,λp hp=>?_,j⟩,h.gone.kept k h3,h.inM,h.ne,h.one,h.ok⟩;obtain⟨s1,s2⟩:=f p hp;exact⟨⟨s1.rd.kept_small oM k hS,s1.le,s1.nil,s1.plain⟩,λx hx=>⟨(s2 x hx).1,Nat.lt_of_lt_of_le (s2 x hx).2 k.size⟩⟩
theorem dM.kept_small{O:List Nat}{v:Value}{s:VSt}(h:dM w O M v s)(k:z6 S w w')(hS:∀x∈S,m4 w x)(hO:∀x∈O,x∉S):dM w' O M v s:=by
 cases s with
 | t n=>obtain⟨g,e,h1,rfl⟩:=h;exact⟨g,e,h1.kept k (hO g sI),rfl⟩
 | b L G=>obtain⟨g,bl,bg,e,h1,rfl⟩:=h;exact⟨g,bl,bg,e,h1.kept k (hO g sI) (hO bl sI) (hO bg sI),rfl⟩
 | l L=>obtain⟨g,b,e,h1,rfl⟩:=h;exact⟨g,b,e,h1.kept k (hO g sI) (hO b sI),rfl⟩
 | m X Ov=>obtain⟨g,bl,bo,e,h1,rfl⟩:=h;exact⟨g,bl,bo,e,h1.kept k (hO g sI) (hO bl sI) (hO bo sI),rfl⟩
 | s N G=>obtain⟨g,bn,bb,bg,e,h1,rfl⟩:=h;exact⟨g,bn,bb,bg,e,h1.kept_small k hS (hO g sI) (hO bn sI) (hO bb sI) (hO bg sI),rfl⟩
theorem bW{κ:Type}{kv:κ->Value}{ok:κ->Prop}{b:Nat}{X:List κ}(h:yS w b kv ok X):m4 w b:=by
 obtain⟨M,es,d,hm,_⟩:=h;exact mZ hm.heap
theorem dM.small{O:List Nat}{v:Value}{s:VSt}(h:dM w O M v s):∀x∈O,m4 w x:=by
 cases s with
 | t n =>
  obtain⟨g,e,h1,rfl⟩:=h;intro x hx;simp at hx;subst hx;exact kN h1 sI
 | b L G =>
  obtain⟨g,bl,bg,e,h1,rfl⟩:=h;intro x hx;simp at hx;rcases hx with rfl | rfl | rfl
  ·exact kN h1.blk sI
  ·exact bW h1.live
  ·exact bW h1.gone
 | l L =>
  obtain⟨g,b,e,h1,rfl⟩:=h;obtain⟨M',es,f,hm,_⟩:=h1.map;intro x hx;simp at hx;rcases hx with rfl | rfl
  ·exact kN h1.blk sI
  ·exact mZ hm.heap
 | m X Ov =>
  obtain⟨g,bl,bo,e,h1,rfl⟩:=h;intro x hx;simp at hx;rcases hx with rfl | rfl | rfl
  ·exact kN h1.blk sI
  ·exact bW h1.live
  ·exact bW h1.over
 | s N G =>
  obtain⟨g,bn,bb,bg,e,h1,rfl⟩:=h;obtain⟨es,f,hn⟩:=h1.nodes;obtain⟨BM,j,d,hb,_,_⟩:=h1.behind;intro x hx;simp at hx;rcases hx with rfl | rfl | rfl | rfl
  ·exact kN h1.blk sI
  ·exact mZ hn.heap
  ·exact mZ hb.heap
  ·exact bW h1.gone
end
theorem VAt.small{w:World}{g:Nat}{t:ByteArray}{b:Nat}{O:List Nat}{I:List zE}{v:Value}{s:VSt}(h:VAt w g t b O I v s):∀x∈b :: O,m4 w x:=by
 intro x hx;rcases List.mem_cons.1 hx with rfl | hx
 ·exact bW h.view.ids
 ·exact h.st.small x hx
theorem VAt.kept_small{w w':World}{g:Nat}{t:ByteArray}{b:Nat}{O S:List Nat}{I:List zE}{v:Value}{s:VSt}(h:VAt w g t b O I v s)(k:z6 S w w')(hS:∀x∈S,m4 w x)(hd:∀x∈g :: b :: O,x∉S):VAt w' g t b O I v s :=
 ⟨h.view.kept k (hd g sI) (hd b sI),h.st.kept_small k hS (λx hx=>hd x (by simp[hx])),h.gM,h.bO,λx hx=>Nat.lt_of_lt_of_le (h.lt x hx) k.size,h.b0⟩
def nQ(m:yW)(I:List zE):List zE:=if m.id∈I then I else m.id :: I
def cC(t:ByteArray)(m:yW)(I:List zE)(s:VSt):VSt:=if m.id∈I then s else wP t m s
def cB(t:ByteArray)(m:yW)(I:List zE)(x:RV):RV:=if m.id∈I then x else fW t m x
structure K5(t:ByteArray)(i:Nat)(I:List zE)(s:VSt):Prop where
 kind:s.kind=yC t
 len:s.len<=i
 big:s.big<=9*i
 ris:s.ris
 ids:I.length<=i
structure Z9(t:ByteArray)(i:Nat)(I:List zE)(s:VSt)(x:RV):Prop extends K5 t i I s where
 rel:QS x s
 ok:mV x
 xlen:x.len<=9*i
theorem K5.step{t:ByteArray}{i:Nat}{I:List zE}{s:VSt}(h:K5 t i I s)(m:yW):K5 t (i+1) (nQ m I) (cC t m I s):=by
 have h1:=h.len;have h2:=h.big;have h3:=h.ids;unfold nQ cC;by_cases hm:m.id∈I
 ·rw[if_pos hm,if_pos hm];exact⟨h.kind,oM,oM,h.ris,oM⟩
 ·rw[if_neg hm,if_neg hm];have h4:=jy t m s;have h5:=jz t m s;exact⟨(BR t m s).trans h.kind,oM,oM,jx t m s h.ris,sO⟩
theorem Z9.step{t:ByteArray}{i:Nat}{I:List zE}{s:VSt}{x:RV}(h:Z9 t i I s x)(m:yW):Z9 t (i+1) (nQ m I) (cC t m I s) (cB t m I x):=by
 refine⟨h.toK5.step m,?_,?_,?_⟩
 ·unfold cC cB;by_cases hm:m.id∈I
  ·rw[if_pos hm,if_pos hm];exact h.rel
  ·rw[if_neg hm,if_neg hm];exact B5 h.rel h.kind.symm
 ·unfold cB;by_cases hm:m.id∈I
  ·rw[if_pos hm];exact h.ok
  ·rw[if_neg hm];exact qh h.ok
 ·have h1:=h.xlen;unfold cB;by_cases hm:m.id∈I
  ·rw[if_pos hm];omega
  ·rw[if_neg hm];have:=B2 t m x;omega
theorem KL(m:yW)(w:World)(g:Nat)(t:ByteArray)(b:Nat)(O:List Nat)(I:List zE)(v:Value)(s:VSt)(h:VAt w g t b O I v s)(hp:xL w)(hs:m.body.size<=9223372036854775807)(ht:t.size<=9223372036854775807)(hk:yC t=s.kind)(hl:s.len<=1000) :
  Calls Tryz.prog 26 #[.pointer (some ⟨g,0,none⟩),.agg (zN m)] w λe w'=>e=.returned (.bool (!decide (m.id∈I)))/\VAt w' g t b O (nQ m I) v (cC t m I s)/\z6 (b :: O) w w':=by
 by_cases hm:m.id∈I
 ·refine(yx m w g t b I v h.view hm).mono ?_;rintro e w' ⟨rfl,hb⟩;rw[decide_eq_true hm];unfold nQ cC;rw[if_pos hm,if_pos hm];exact⟨rfl,h.below hb,(z6.of_below hb).mono sI⟩
 ·refine(yw m w g t b O I v s h hm hp hs ht hk hl).mono ?_;rintro e w' ⟨rfl,h1,h2⟩;rw[decide_eq_false hm];unfold nQ cC;rw[if_neg hm,if_neg hm];exact⟨rfl,h1,h2⟩
theorem J5(m:yW)(w:World)(g:Nat)(t:ByteArray)(I:List zE)(x:RV)(h:qV w g t (yB zI I) x)(hI:I.length<=1000)(hs:m.body.size<=9223372036854775807)(ht:t.size<=9223372036854775807)(d:mV x)(hl:x.len<=10000) :
  Calls Tryz.prog 30 #[.pointer (some ⟨g,0,none⟩),.agg (zN m)] w λe w'=>e=.returned (.bool (!decide (m.id∈I)))/\qV w' g t (yB zI (nQ m I)) (cB t m I x)/\z6 [g] w w':=by
 have f:=xF (c:=zI) I;by_cases hm:m.id∈I
 ·refine(KW m w g t _ x h ((qE q6).2 hm) oM).mono ?_;rintro e w' ⟨rfl,hb⟩;rw[decide_eq_true hm];unfold nQ cB;rw[if_pos hm,if_pos hm];exact⟨rfl,h.below hb,(z6.of_below hb).mono sI⟩
 ·refine(KX m w g t _ x h (λhx=>hm ((qE q6).1 hx)) (xJ q6 _) oM hs ht d hl).mono ?_;rintro e w' ⟨rfl,h1,h2⟩;rw[decide_eq_false hm];unfold nQ cB;rw[if_neg hm,if_neg hm,<-ids_cons];exact⟨rfl,h1,h2⟩
theorem kn(t:ByteArray)(w:World)(ht:t.size<=9223372036854775807)(hk:yC t=0) :
  Calls Tryz.prog 23 #[.string t] w λe w'=>e=.returned (.tuple #[.pointer none,.int .i64 (fL t)])/\Below w.heap.size w w':=by
 have c1:=λw=>XG t w ht;have d:fL t≠0:=by unfold fL;rw[if_pos hk];decide
 obtain⟨E,hE⟩:=eX (fL t)
 rw[hE]at d c1 |-;have g:(E != 0)=true:=by simpa using d
 clear d hE hk;go_enter Tryz.func23,Tryz.ntmps23
 (go_wp2_with fail);refine(c1 _).mono ?_;rintro e w1 ⟨rfl,f⟩;(go_wp2_with fail);go_ret2;exact⟨rfl,f⟩
theorem iR{w:World}{O M:List Nat}{v:Value}(s:VSt)(hs:dM w O M v s):s.pairs.length<=s.len:=by
 cases s with
 | t n=>exact lR
 | b L G=>show((vG L).map nY).length<=L.length;rw[List.length_map];exact sQ L
 | l L=>show(L.map iS).length<=L.length;rw[List.length_map];exact lR
 | m X O=>exact YT X
 | s N G =>
  obtain⟨g,bn,bb,bg,rfl,h1,rfl⟩:=hs;exact jl (N:=N) (G:=G) ⟨h1.one,λa ha=>(gQ (h1.ok a ha)).1⟩
section
variable {t:ByteArray} {i:Nat} {I:List zE} {s:VSt} {x:RV}
theorem vval_t(T:K5 t i I s)(ht:t.size<=9223372036854775807)(hi:i<=200)(w:World)(g b:Nat)(O:List Nat)(v:Value)(h:VAt w g t b O I v s) :
  Calls Tryz.prog 24 #[.pointer (some ⟨g,0,none⟩)] w λe w'=>∃A m c,e=.returned (.agg (zQ ⟨s.kind,s.num,.slice A m c⟩))/\(vS w' A m s.pairs/\m<=1000000)/\Below w.heap.size w w':=by
 have h1:=T.len;have h2:=iR s h.st;refine(vvalue w g t b I v O (b :: O) s h.view h.st ht T.kind.symm oM).mono ?_;rintro e w' ⟨A,c,rfl,ho,hb⟩;exact⟨A,_,c,rfl,⟨ho.slr,oM⟩,hb⟩
theorem rval_t(T:Z9 t i I s x)(ht:t.size<=9223372036854775807)(hk:yC t≠0)(hi:i<=200)(w:World)(g gx b:Nat)(O:List Nat)(v:Value)(J:List zE)(h:VAt w g t b O I v s)(hx:qV w gx t J x) :
  Calls Tryz.prog 31 #[.pointer (some ⟨gx,0,none⟩)] w λe w'=>∃A m c,e=.returned (.agg (zQ ⟨s.kind,s.num,.slice A m c⟩))/\(vS w' A m s.pairs/\m<=1000000)/\Below w.heap.size w w':=by
 have h1:=T.len;have h2:=iR s h.st;have h3:=T.xlen;have c:=rvvalue w gx t J x hx ht hk T.ok oM;rw[<-T.kind,rel_num T.rel,qk T.rel]at c;refine c.mono ?_;rintro e w' ⟨A,m,c,rfl,ho,hb⟩;have hl:s.pairs.length=m:=by simpa using ho.len
 exact⟨A,m,c,rfl,⟨ho.slr,oM⟩,hb⟩
theorem same_t(w:World)(k n:Int)(A B:Option Addr)(m m' c c':Nat)(L:List jM)(hx:vS w A m L/\m<=1000000)(hy:vS w B m' L/\m'<=1000000) :
  Calls Tryz.prog 15 #[.agg (zQ ⟨k,n,.slice A m c⟩),.agg (zQ ⟨k,n,.slice B m' c'⟩)] w λe w'=>e=.returned (.bool true)/\Below w.heap.size w w':=by
 have cs:=rsame26 w k n k n A B m m' c c' L L hx.1 hy.1 hx.2 hy.2;rw[decide_eq_true ⟨rfl,rfl,rfl⟩]at cs;exact cs
theorem vids_t(T:K5 t i I s)(hi:i<=200)(w:World)(g b:Nat)(O:List Nat)(v:Value)(h:VAt w g t b O I v s) :
  Calls Tryz.prog 33 #[.pointer (some ⟨g,0,none⟩)] w λe w'=>∃A m c,e=.returned (.slice A m c)/\(zY w' A m (yB zI I)/\m<=1000000)/\Below w.heap.size w w':=by
 have h1:=T.ids;have h2:=xF (c:=zI) I;refine(yu w g t b (yB zI I) v ⟨h.view.blk,yS.congr h.view.ids (λx=>(qE q6).symm)⟩ (xJ q6 _) oM).mono ?_;rintro e w' ⟨A,c,rfl,ho,hb⟩;exact⟨A,_,c,rfl,⟨ho.slr,oM⟩,hb⟩
theorem sameI_t(w:World)(A B:Option Addr)(m m' c c':Nat)(L:List zE)(hx:zY w A m L/\m<=1000000)(hy:zY w B m' L/\m'<=1000000) :
  Calls Tryz.prog 32 #[.slice A m c,.slice B m' c'] w λe w'=>e=.returned (.bool true)/\Below w.heap.size w w':=by
 have cs:=YB w A B m m' c c' L L hx.1 hy.1 hx.2 hy.2;rw[decide_eq_true rfl]at cs;exact cs
theorem vputT(T:K5 t i I s)(hi:i<=200)(w:World)(g b:Nat)(O:List Nat)(v:Value)(h:VAt w g t b O I v s) :
  Calls Tryz.prog 34 #[.pointer (some ⟨g,0,none⟩)] w λe w'=>e=.returned (.string ⟨(JK I s).toArray⟩)/\Below w.heap.size w w' :=
 km w g t b O I v s h (oH T.ids) (oH T.big) T.ris
theorem qV.ids_t(T:K5 t i I s)(hi:i<=200){w:World}{gx:Nat}(h:qV w gx t (yB zI I) x):∃A m c,w.cell? ⟨gx,1,none⟩=some (.slice A m c)/\zY w A m (yB zI I)/\m<=1000000:=by
 obtain⟨A,c,h1,h2⟩:=h.ids;have h3:=T.ids;have h4:=xF (c:=zI) I;exact⟨A,_,c,h1,h2,oM⟩
end
end
section
open Go.RowKit
structure tG(α:Type) where
 rows:List α
 l:List UInt8
 e:Int
structure RowP(α:Type) where
 one:List UInt8->Int->α
 oL:List UInt8->Int->List UInt8
 oE:List UInt8->Int->Int
 put:α->List UInt8
 ok:α->Prop
section
variable {α:Type} (p:RowP α)
structure r5:Prop where
 split:∀l e,p.oE l e=0->e=0/\p.put (p.one l e)++p.oL l e=l
 back:∀x t,p.ok x->p.one (p.put x++t) 0=x/\p.oL (p.put x++t) 0=t/\p.oE (p.put x++t) 0=0
 some_:∀x,1<=(p.put x).length
def k8(s:tG α):tG α:=⟨s.rows ++ [p.one s.l s.e],p.oL s.l s.e,p.oE s.l s.e⟩
def qS:Nat->tG α->tG α
 | 0,s=>s
 | k+1,s=>if s.e=0 then qS k (k8 p s)else s
def xM(l:List UInt8)(e:Int):tG α:=qS p (yK 4 l e) ⟨[],zK 4 l e,zM 4 l e⟩
def Q6(X:List α):List UInt8:=beL 4 X.length++X.flatMap p.put
variable {p}
theorem jK(k:Nat)(s:tG α)(h:s.e≠0):qS p k s=s:=by
 cases k with
 | zero=>rfl
 | succ k=>unfold qS;rw[if_neg h]
theorem jL(k:Nat)(s:tG α)(h:s.e=0):qS p (k+1) s=qS p k (k8 p s):=by rw[qS,if_pos h]
theorem YR:∀(k:Nat) (s:tG α),(qS p k s).rows.length<=s.rows.length+k
 | 0,s=>lR
 | k+1,s=>by
  unfold qS;split
  ·have:=YR k (k8 p s);unfold k8 at this |-;simp only[List.length_append,List.length_cons,List.length_nil]at this;omega
  ·omega
theorem YK(l:List UInt8)(e:Int):(xM p l e).rows.length<4294967296:=by
 have h1:=YR (p:=p) (yK 4 l e) ⟨[],zK 4 l e,zM 4 l e⟩;have h2:=yI 4 l e;unfold xM;simp only[List.length_nil]at h1;omega
theorem cT(L:r5 p):∀(k:Nat) (s:tG α),(qS p k s).e=0->∃X:List α,X.length=k/\(qS p k s).rows=s.rows++X/\X.flatMap p.put++(qS p k s).l=s.l/\s.e=0
 | 0,s,h=>⟨[],rfl,by simp[qS],by simp[qS],h⟩
 | k+1,s,h=>by
  by_cases he:s.e=0
  ·rw[jL k s he]at h |-;obtain⟨X,h1,h2,h3,h0⟩:=cT L k (k8 p s) h;obtain⟨_,h5⟩:=L.split s.l s.e h0;refine⟨p.one s.l s.e :: X,by simp[h1],by rw[h2];simp[k8],?_,he⟩;rw[List.flatMap_cons,List.append_assoc,h3];exact h5
  ·rw[jK _ _ he]at h;exact absurd h he
theorem jS(L:r5 p){l:List UInt8}{e:Int}(h:(xM p l e).e=0):e=0/\Q6 p (xM p l e).rows++(xM p l e).l=l:=by
 obtain⟨X,h1,h2,h3,h4⟩:=cT L _ _ h;obtain⟨h6,h5⟩:=bY (show zM 4 l e=0 from h4);refine⟨h6,?_⟩;unfold xM;rw[h2];unfold Q6;simp only[List.nil_append,List.append_assoc];rw[h1,h3,h5]
theorem putG_len(L:r5 p):∀X:List α,X.length<=(Q6 p X).length:=by
 intro X;have h:∀Y:List α,Y.length<=(Y.flatMap p.put).length:=by
  intro Y;induction Y with
  | nil=>exact lR
  | cons y Y ih=>have:=L.some_ y;simp only[List.flatMap_cons,List.length_append,List.length_cons];omega
 have:=h X;unfold Q6;rw[List.length_append];omega
theorem jG(L:r5 p){l:List UInt8}{e:Int}(h:(xM p l e).e=0):(xM p l e).rows.length+(xM p l e).l.length<=l.length:=by
 obtain⟨_,h2⟩:=jS L h;have h3:=putG_len L (xM p l e).rows;have h4:=congrArg List.length h2;rw[List.length_append]at h4;omega
end
def idP:RowP zE:=⟨λl e=>q3 (yV 32 l e),λl e=>zK 32 l e,λl e=>zM 32 l e,zE.l,λ_=>True⟩
theorem eO{d:zE}(t:List UInt8):q3 (yV 32 (d.l++t) 0)=d/\zK 32 (d.l++t) 0=t/\zM 32 (d.l++t) 0=0:=by
 have hd:=Q5 d.l t;rw[d.h]at hd;obtain⟨d1,d2,d3⟩:=hd;rw[d1,d2,d3];exact⟨by unfold q3;rw[dif_pos d.h],rfl,rfl⟩
theorem rP{l:List UInt8}{e:Int}(h:zM 32 l e=0):e=0/\(q3 (yV 32 l e)).l++zK 32 l e=l:=by
 obtain⟨h1,h2,h3⟩:=tR h;have e1:(q3 (yV 32 l e)).l=yV 32 l e:=by unfold q3;rw[dif_pos h3]
 exact⟨h1,by rw[e1,h2]⟩
theorem wN:r5 idP:=⟨λl e h=>rP h,λx t _=>eO t,λx=>by show 1<=x.l.length;rw[x.h];omega⟩
end
end Go.Proofs.YtgfpjjppeldhbaaGreatDoor
