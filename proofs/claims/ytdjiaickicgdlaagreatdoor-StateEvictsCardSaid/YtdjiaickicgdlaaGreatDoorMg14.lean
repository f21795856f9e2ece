/- Part 14 of the texts that lead to this claim: the walks of the functions and the plain law, in order. -/
import Derived.Test.YtdjiaickicgdlaaGreatDoorMg13
namespace Go.Proofs.YtdjiaickicgdlaaGreatDoor
open Go.RowKit
open List hiding and get max min or set
open Go.Proofs.Tryz
open World
set_option maxRecDepth 100000
set_option maxHeartbeats 8000000
variable {b g k:Nat}{A:Option Addr}{L:List (Array Value)}{w:World}{D:List HdX}{Tm:List (ByteArray×Sl)}{Cm:List (zB×Sl)}
theorem BC:∀(L:List UInt32) (i:Nat),i<4*L.length->(L.flatMap b4U).getD i 0=(b4U (L.getD (i / 4) 0)).getD (i % 4) 0
 | [],i,h=>by simp at h
 | x :: L,i,h=>by
  rw[flatMap_cons];by_cases h4:i<4
  ·rw[B5 _ _ _ (by rw[tB];exact h4),(oM:i / 4=0),(oM:i % 4=i)];rfl
  ·have ih:=BC L (i-4) (by simp at h;omega);rw[getD_eq_getElem?_getD,getElem?_append_right (by rw[tB];omega),tB,<-getD_eq_getElem?_getD,ih,(oM:(i-4) % 4=i % 4),(oM:i / 4=(i-4) / 4+1),getD_cons_succ]
theorem b4_get(x:UInt32)(hb:b<4):nU x / 2 ^ (24-8*b) % (256:Int)=((((b4U x).getD b 0).toNat:Nat):Int):=by
 have h4:b=0\/b=1\/b=2\/b=3:=oM;rcases h4 with rfl | rfl | rfl | rfl
 ·exact w24 x
 ·exact w16 x
 ·exact w8 x
 ·have h:=w0 x;show nU x / 1 % 256=_;rw[Int.ediv_one];exact h
theorem out_get(F:StU){i:Nat}(hi:i<32):nU (F.l.getD (i / 4) 0) / 2 ^ (24-8*(i % 4)) % (256:Int)=((((fP F).getD i 0).toNat:Nat):Int):=by
 rw[<-KE,BC _ _ (by rw[F.l_len];omega),b4_get _ oM]
theorem rsum(w:World)(s:ByteArray)(hs:s.size<=1000000) :
  Calls prog 63 #[.string s] w λe w'=>e=.returned (.agg (idC (qM s.data.toList)))/\Below w.heap.size w w':=by
 obtain⟨N,hN⟩:=eX s.size
 obtain⟨l,hl⟩:=eX s.data.toList
 have h4:l.length=N:=by rw[<-hl,<-hN];rfl
 have j0:Below w.heap.size w (w.alloc (.cells (idC id0) 31)):=bA;have hid:=heap_alloc_new w (.cells (idC id0) 31);obtain⟨cap0,c9,B,Z⟩:=BuZ.conv (w.alloc (.cells (idC id0) 31)) (w.heap.size+1) sI s (by simp only[maxLen];omega);rw[hl,hN]at B;rw[hl];have d0:Below w.heap.size w (Go.Lib.bytesWorld (w.alloc (.cells (idC id0) 31)) 5 s):=j0.trans (Z.mono sI);have G:=(Z.block w.heap.size sI).trans hid;have m9:s.size=N:=hN;rw[hN]at hs c9;obtain⟨W,hW⟩:=eX (Go.Lib.bytesWorld (w.alloc (.cells (idC id0) 31)) 5 s)
 obtain⟨A0,f6⟩:=eX (some (⟨(w.alloc (.cells (idC id0) 31)).heap.size,0,none⟩:Addr))
 rw[hW]at c9 B d0 G;rw[f6]at c9 B;obtain⟨ga,i5⟩:=eX w.heap.size
 have q1:=JI W 128;have k2:ga+1<=W.heap.size:=by have:=B.at_base;rw[<-f6]at this;have:=this _ (by simp[blk];rfl);omega
 have d3:=B.kept (z9.alloc W (.cells #[.int .u8 128] 5)) sI;have g4:(W.alloc (.cells #[.int .u8 128] 5)).cell? ⟨W.heap.size,0,none⟩=some (yI 128):=by simp[go_sem,yI]
 have j8:=dH h4;have HN:=dH hN;have m4:=dH i5;rw[i5]at d3 B d0 G;clear j0 hid Z hW f6 h4 hN hl;go_enter func63,ntmps63
 go_wp2_with (at_builtin;refine eG rfl d3 rfl g4 oM sO ?_;intro A1 g0 w1 g3 i3)
 have c5:z9 (blk A0) W w1:=z9.trans ((z9.alloc W _).mono (S':=blk A0) sI) i3 iL;have l9:Below ga w w1:=d0.trans (c5.below oM (λx hx=>oH ((B.at_base x hx).1)));have e7:=(c5.block ga oM (λhx=>oH ((B.at_base ga hx).1))).trans G;have h7:l ++ [128]=l++128 :: replicate 0 0:=rfl;rw[h7]at g3;have k1:=c5.size;clear d3 g4 i3 c5 d0 G B q1 h7 c9;obtain⟨z,hz⟩:=eX ((119-N % 64) % 64)
 have Hz:=dH hz;have j9:z<64:=oM;have g9:(N+1+z) % 64=56:=oM;have h0:∀j,j<z->(N+1+j) % 64≠56:=λj hj=>oM;have j7:=dH g9;have m2:=dH h0;clear hz g9 h0;go_loopw [3] (λsv wr=>∃(j:Nat) (A3:Option Addr) (H:Nat),j<=z/\sv=.slice A3 (N+1+j) H/\BuZ wr (ga+1) A3 (N+1+j) H (l++128 :: replicate j 0)/\wr.heap[ga]?=some (.cells (idC id0) 31 (0,0))/\Below ga w wr/\ga+1<=wr.heap.size) (λsv _=>2000000-VU sv)
 case atStart=>exact⟨0,A1,g0,oM,rfl,g3,e7,l9,oM⟩
 case round =>
  obtain⟨j,A3,H,hj,rfl,ho,d,hb,a0⟩:=hrel;obtain⟨ln,d8⟩:=eX (N+1+j)
  rw[d8]at ho |-;have b9:=dH d8;have n4:ln<=1000100:=oM;clear d8;by_cases d7:j<z
  ·have e1:((ln:Int) % (64:Int) != 56)=true:=by
    rw[bne_iff_ne];have:=m2.out j d7;have:=b9.out;omega
   have q1:=JI wr 0;have a7:=ho.kept (z9.alloc wr (.cells #[.int .u8 0] 5)) sI;have a6:(wr.alloc (.cells #[.int .u8 0] 5)).cell? ⟨wr.heap.size,0,none⟩=some (yI 0):=by simp[go_sem,yI]
   go_wp2_with (at_builtin;refine eG rfl a7 rfl a6 oM sO ?_;intro A4 f8 w4 g8 i2)
   have t:z9 (blk A3) wr w4:=z9.trans ((z9.alloc wr _).mono (S':=blk A3) sI) i2 iL;have l8:Below ga w w4:=hb.trans (t.below oM (λx hx=>oH ((ho.at_base x hx).1)));have e6:=(t.block ga oM (λhx=>oH ((ho.at_base ga hx).1))).trans d;have n1:=t.size;have h6:l++128 :: replicate j 0 ++ [0]=l++128 :: replicate (j+1) 0:=by
    rw[replicate_succ'];simp
   rw[h6]at g8;clear h6 i2 a7 a6 q1 ho hb t d;go_roundw
   case rel=>exact⟨j+1,A4,f8,oM,(by rw[<-b9.out,Nat.add_assoc]),(by rw[show N+1+(j+1)=ln+1 by have:=b9.out;omega];exact g8),e6,l8,oM⟩
   case measure=>simp[VU];omega
  ·have e4:j=z:=oM;have e1:((ln:Int) % (64:Int) != 56)=false:=by
    rw[bne_eq_false_iff_eq];have:=j7.out;have:=b9.out;omega
   have a9:N+1+z=ln:=by rw[<-b9.out,e4]
   have b8:=dH a9;obtain⟨D,hD⟩:=eX (l++128 :: replicate z 0)
   rw[e4,hD]at ho;have HD:=dH hD;clear e4 a9 hD hj d7;go_upto_region 6 with fail
   go_loopw [3,5] (λsv iv wr=>∃(i r1:Nat) (A5:Option Addr) (y:Nat),i+r1=8/\iv=.int .i64 ((r1:Int)-1)/\sv=.slice A5 (ln+i) y/\BuZ wr (ga+1) A5 (ln+i) y (D++(sW N).take i)/\wr.heap[ga]?=some (.cells (idC id0) 31 (0,0))/\Below ga w wr/\ga+1<=wr.heap.size) (λ_ iv _=>(intOf iv+1).toNat)
   case atStart=>exact⟨0,8,A3,H,rfl,rfl,rfl,(by rw[take_zero,append_nil];exact ho),d,hb,a0⟩
   case round =>
    clear ho hb d a0;obtain⟨i,r1,A5,y,e5,rfl,rfl,ho,d,hb,a0⟩:=hrel;by_cases d7:0<r1
    ·obtain⟨r,hr⟩:∃r:Nat,r1=r+1:=⟨r1-1,oM⟩
     have er:(r1:Int)-1=(r:Int):=oM;have n2:r<8:=oM;have j5:7-i=r:=oM;obtain⟨c,hc⟩:=eX (UInt8.ofNat (N*8 / 2 ^ (8*r)))
     have d4:=KO (n:=N) (i:=i) oM oM;rw[j5,hc]at d4;have eb:(N:Int)*(8:Int) / 2 ^ (8*r) % (256:Int)=((c.toNat:Nat):Int):=by
      rw[<-hc];have h3:((N*8 / 2 ^ (8*r):Nat):Int)=(N:Int)*(8:Int) / 2 ^ (8*r):=sI;rw[<-h3]
      simp
     have q1:=JI wr ((c.toNat:Nat):Int);have a6:(wr.alloc (.cells #[.int .u8 ((c.toNat:Nat):Int)] 5)).cell? ⟨wr.heap.size,0,none⟩=some (yI c):=by simp[go_sem,yI]
     have a7:=ho.kept (z9.alloc wr (.cells #[.int .u8 ((c.toNat:Nat):Int)] 5)) sI;have j6:=dH d4;have c6:i<8:=oM;have m3:=dH e5;have Hr:=dH hr;clear hc hr d4 j5 e5;go_wp2_with (at_builtin;refine eG rfl a7 rfl a6 oM sO ?_;intro A6 f7 w6 Y O)
     have t:z9 (blk A5) wr w6:=z9.trans ((z9.alloc wr _).mono (S':=blk A5) sI) O iL;have b6:Below ga w w6:=hb.trans (t.below oM (λx hx=>oH ((ho.at_base x hx).1)));have A:=(t.block ga oM (λhx=>oH ((ho.at_base ga hx).1))).trans d;have n0:=t.size;have h5:D++(sW N).take i ++ [c]=D++(sW N).take (i+1):=by rw[j6.out];simp
     rw[h5]at Y;clear h5 O a7 a6 q1 ho hb j6 eb t d;(go_wp2_with fail);go_roundw
     case rel=>exact⟨i+1,r,A6,f7,(by have:=m3.out;have:=Hr.out;omega),rfl,rfl,Y,A,b6,oM⟩
     case measure=>exact sZ
    ·have k6:r1=0:=oM;have c6:i=8:=oM;have k8:((r1:Int)-1)<0:=oM;obtain⟨E,hE⟩:=eX (l++wV N)
     have f:D++(sW N).take i=E:=by
      rw[c6,take_of_length_le (by rw[tP];omega),<-HD.out,<-hE];unfold wV;rw[Hz.out];simp
     rw[f]at ho;obtain⟨M,hM⟩:=eX (ln+i)
     have b7:M % 64=0:=by have h1:=b8.out;have h2:=j7.out;omega
     have f5:E.length=M:=by rw[<-hE,length_append,j8.out,pB,Hz.out,<-hM,c6];have:=b8.out;omega
     have n5:M<=1000200:=oM;rw[hM]at ho |-;have b4:(⟨fP (vE (M / 64) q8 E),q7 _⟩:zB)=qM l:=by
      unfold qM;apply vu;unfold shaU;rw[j8.out,hE,f5]
     have c0:=dH b4;have g2:=dH b7;have n6:=dH f5;have c1:=λw=>rstart w;have c2:=λw=>rconsts w;clear f hM b7 f5 b4 hE c6 k6 e5;(go_wp2_with fail);refine(c1 _).mono ?_;rintro e w5 ⟨rfl,f4⟩;have k3:=nV w5 w5.heap.size rfl (wsC (zU 8)) (by simp[gB]) q8.l q8.l_len 171;have e0:z9 [] wr (w5.alloc (.cells (wsC q8.l) 171)):=z9.trans (z9.of_below f4) (z9.alloc w5 _) sI;have c4:=heap_alloc_new w5 (.cells (wsC q8.l) 171);have k4:=f4.size;(go_wp2_with fail);refine(c2 _).mono ?_;rintro e w6 ⟨rfl,rfl⟩;obtain⟨gh,e8⟩:=eX w5.heap.size
     obtain⟨V,hV⟩:=eR (w5.alloc (.cells (wsC q8.l) 171))
     have d1:V.heap.size=gh+1:=by rw[hV,<-e8];simp
     rw[<-hV]at e0 c4 |-;rw[e8]at c4 k4 |-;rw[d1];have O:z9 [] wr (V.alloc (.cells (wsC kU) 170)):=z9.trans e0 (z9.alloc V _) sI;have c8:=heap_alloc_new V (.cells (wsC kU) 170);rw[d1]at c8;have T:=(Below.heap_alloc V (.cells (wsC kU) 170) gh oM).trans c4;have Y:=ho.kept O sI;have A:=(O.block ga oM sI).trans d;have b6:Below ga w (V.alloc (.cells (wsC kU) 170)):=hb.trans (O.below oM sI);have j4:=ho.at_base;obtain⟨U,hU⟩:=eR (V.alloc (.cells (wsC kU) 170))
     have m0:U.heap.size=gh+2:=by rw[hU];simp[d1]
     rw[<-hU]at c8 T Y A b6 |-;have j2:∀x∈blk A5,x≠gh:=λx hx=>(oH ((j4 x hx).2));have m7:=dH j2;have l5:ga<gh:=oM;have m1:gh+1<U.heap.size:=oM;clear hU hV e8 e0 c4 k3 f4 ho d hb O d1 m0 j4 j2 c1 c2;go_upto_region 12 with fail
     go_loopw [8] (λiv wr=>∃(k m:Nat),64*k=m/\m<=M/\iv=.int .i64 m/\wr.heap[gh]?=some (.cells (wsC (vE k q8 E).l) 171 (0,0))/\z9 [gh] U wr) (λiv _=>M+64-(intOf iv).toNat)
     case atStart=>exact⟨0,0,rfl,oM,rfl,T,z9.refl _ _⟩
     case round =>
      clear T;obtain⟨k,m,l1,n3,rfl,hc,g⟩:=hrel;by_cases l0:m<M
      ·have d6:m+64<=M:=oH g2.out;have d2:=Y.kept g (λx hx=>by simpa using m7.out x hx);obtain⟨A7,a5,g6⟩:=d2.slw.mid qX (m:=m) (j:=64) d6 oM;have a3:∀w0:World,(slS 128 (.slice A5 M y) (some (.int .i64 m)) (some (.int .i64 ((m:Int)+64))) none).run prog w0=.ok (.slice A7 64 (y-m)) w0:=λw0=>by
        have h:=a5 w0
        rwa [(oM:((m+64:Nat):Int)=(m:Int)+64)]at h
       have b5:bE wr A7 64 ((E.drop m).take 64):=by
        have h:=g6 wr d2.slw.rd;unfold yJ at h;rw[<-map_drop,<-map_take]at h;exact h
       have h9:=(g.block (gh+1) m1 sI).trans c8;have cb:=rblock wr.drew (vE k q8 E) A7 (y-m) ((E.drop m).take 64) (gh+1) 64 170 (b5.kept (z9.drew wr) sI) h9;have a2:rS (vE k q8 E) ((E.drop m).take 64)=vE (k+1) q8 E:=by rw[ZK,l1]
       rw[a2]at cb;have k0:IntKind.i64.wrap ((m:Int)+64)=(m:Int)+64:=by simp[IntKind.wrap,IntKind.bits,IntKind.signed];omega
       have c7:gh<wr.heap.size:=(aG hc).1;have J:zA wr gh 0 8=some (wsC (vE k q8 E).l):=by unfold zA;rw[hc];simp[StU.l_len]
       clear a5 g6 b5 d2 h9 a2;go_upto_region 14 with fail
       have q1:gh∉([]:List Nat):=sI;refine kF ([]:List Nat) wr ?_;intro k9 hS;have b0:=zY J q1;refine lQ ?_;intro K hK;refine cb.mono ?_;rintro e w7 ⟨rfl,f3⟩;have d9:z9 [] wr w7:=z9.trans (z9.drew wr) (z9.of_below f3) sI;replace hS:=bW hS f3;refine⟨_,rfl,hS,hK _ _ ?_⟩;clear hK K;have f0:=(d9.block gh c7 sI).trans hc;have a1:=y9 (P:=prog) aU w7 gh (wsC (vE k q8 E).l) (wsC (vE (k+1) q8 E).l) _ f0 (by simp[StU.l_len]) (by simp[StU.l_len]) (r6 _);have l7:=setRow_heap w7 gh _ (wsC (vE (k+1) q8 E).l) _ _ f0;have i1:z9 [gh] w7 (w7.setRow gh (wsC (vE (k+1) q8 E).l)):=⟨rfl,rfl,rfl,by simp[setRow],λx _ hx=>setRow_other w7 gh x _ (by simpa using hx)⟩
       have t:z9 [gh] U (w7.setRow gh (wsC (vE (k+1) q8 E).l)):=z9.trans (z9.trans g (d9.mono (S':=[gh]) sI) iL) i1 iL;refine lZ ?_;refine j3 ?_ ?_;(focus(simp only[yO];done));intro K hK;go_simp;refine hK _ _ ?_;clear hK K;clear k9 hS b0 J hc f0 d9 i1 g f3 cb a1 a3;(go_wp2_with fail);go_roundw
       case rel=>exact⟨k+1,m+64,oM,oM,by go_num,l7,t⟩
       case measure=>exact sZ
      ·have d5:m=M:=oM;have i0:k=M / 64:=oM;obtain⟨F,hF⟩:=eX (vE (M / 64) q8 E)
       rw[i0,hF]at hc;rw[hF]at c0;have c7:gh<wr.heap.size:=(aG hc).1;have d:=(g.block ga oM sO).trans A;have i7:Below ga w wr:=b6.trans (g.below oM sO);have ha:=z9.alloc wr (.cells (idC id0) 31);have b3:=heap_alloc_new wr (.cells (idC id0) 31);have e9:=(ha.block gh c7 sI).trans hc;have R:=(ha.block ga oM sI).trans d;have f2:Below ga w (wr.alloc (.cells (idC id0) 31)):=i7.trans (ha.below oM sI);clear hF i0 d5 g d i7 ha hc A b6 Y c8;go_upto_region 17 with fail
       obtain⟨gb,i4⟩:=eX wr.heap.size
       obtain⟨V,hV⟩:=eR (wr.alloc (.cells (idC id0) 31))
       rw[<-hV]at b3 f2 R e9 |-;rw[i4]at b3 c7 |-;have l3:gb<V.heap.size:=(aG b3).1;clear hV i4;go_loopw [10] (λiv wr=>∃i:Nat,i<=32/\iv=.int .i64 i/\wr.heap[gb]?=some (.cells (idA (fP F) i) 31 (0,0))/\z9 [gb] V wr) (λiv _=>32-(intOf iv).toNat)
       case atStart=>exact⟨0,oM,rfl,(by rw[vy];exact b3),z9.refl _ _⟩
       case round =>
        clear b3;obtain⟨i,hi,rfl,hc,g⟩:=hrel;by_cases a8:i<32
        ·have i6:=(g.block gh oM sO).trans e9;have x0:wr.cell? ⟨gh,i / 4,none⟩=some (.int .u32 (nU (F.l.getD (i / 4) 0))):=lG i6 (by rw[F.l_len];omega);have c3:=out_get F a8;have k7:=q7 F;have L:=idA_set (fP F) i oM a8;have i9:(fP F).getD i 0=(fP F)[i]'oM:=by rw[getD_eq_getElem?_getD,getElem?_eq_getElem oM];rfl
         rw[i9]at c3;obtain⟨bb,i8⟩:=eX ((fP F)[i]'oM)
         rw[i8]at c3 L;obtain⟨x,hx⟩:=eX (F.l.getD (i / 4) 0)
         rw[hx]at c3 x0;obtain⟨a4,j1⟩:=eX (i / 4)
         obtain⟨r4,g7⟩:=eX (i % 4)
         obtain⟨sh,g5⟩:=eX (24-8*r4)
         rw[j1]at x0;rw[g7,g5]at c3;have e1:(i:Int) / (4:Int)=(a4:Int):=oM;have e2:(i:Int) % (4:Int)=(r4:Int):=oM;have e3:(24:Int)-8*(r4:Int)=(sh:Int):=oM;have l4:(a4:Int)<8:=oM;have m8:(sh:Int)<=32:=oM;have a0:=idA_size (fP F) i oM oM;have l6:∃v,wr.cell? ⟨gb,i,none⟩=some v:=⟨(idA (fP F) i)[i]'oM,by rw[cell_of_row wr gb i _ _ _ hc,Array.getElem?_eq_getElem]⟩
         obtain⟨v9,x9⟩:=l6;have f9:wr.frozen? ⟨gb,i,none⟩=false:=by simp[frozen?,hc]
         have f1:=zF hc i (.int .u8 ((bb.toNat:Nat):Int));have I:(idA (fP F) i).setIfInBounds i (.int .u8 ((bb.toNat:Nat):Int))=idA (fP F) (i+1):=L;rw[I]at f1;have l2:z9 [gb] V (wr.setCell ⟨gb,i,none⟩ (.int .u8 ((bb.toNat:Nat):Int))):=z9.trans g (z9.setCell wr ⟨gb,i,none⟩ _) iL;have m5:=dH f1;clear L I f1 a0 i8 i9 k7 hx j1 g7 g5 hc g i6;(go_wp2_with fail);go_roundw
         case rel=>exact⟨i+1,oM,by go_num,m5.out,l2⟩
         case measure=>exact sZ
        ·have b2:i=(fP F).length:=by rw[q7];omega
         have f:=idA_full (fP F) (.inl (q7 F));rw[b2,f]at hc;have b1:xV (fP F)=qM l:=by rw[<-c0.out];unfold xV;rw[dif_pos (q7 F)]
         rw[b1]at hc;have k5:zA wr gb 0 32=some (idC (qM l)):=by unfold zA;rw[hc];simp
         have X:=(g.block ga oM sO).trans R;have a1:=y9 (P:=prog) xU wr ga (idC id0) (idC (qM l)) _ X sI sI (yN _);have g1:=dH (setRow_heap wr ga _ (idC (qM l)) _ _ X);have t:z9 [ga] wr (wr.setRow ga (idC (qM l))):=⟨rfl,rfl,rfl,by simp[setRow],λx _ hx=>setRow_other wr ga x _ (by simpa using hx)⟩
         have h8:=z9.trans (g.mono (S':=[ga,gb]) sI) (t.mono (S':=[ga,gb]) sI) iL;have Z:Below ga w (wr.setRow ga (idC (qM l))):=f2.trans (h8.below oM sO);have m6:=dH Z;clear t h8 Z X hc g R f2 f b2 b1 e9;(go_wp2_with fail);exact bodyPost_ret (results_cell_row results63 _ _ ga 31 (idC (qM l)) (0,0) _ rfl g1.out underlying31 rfl (by rw[xQ];exact xU)) rfl ⟨rfl,by rw[m4.out];exact m6.out⟩
theorem tA(m n:Nat):(⟨(beL m n).toArray⟩:ByteArray).size=m:=by
 show(beL m n).toArray.size=m;simp[xA]
theorem YF{s:ByteArray}(h:j8 s=0):s.size<=12:=by
 by_cases hf:jY s=true
 ·exact(mW hf).2
 ·have h1:yH s=0:=if_neg hf;have h2:j8 s=9:=if_pos h1;rw[h2]at h;exact absurd h (by decide)
theorem hd_put(w:World)(h:HdV)(A:Option Addr)(c:Nat)(hT:zX w A h.ps.length h.ps)(hn:h.ps.length<=1000000)(ht:h.tp.size<=9223372036854775807) :
  Calls prog 171 #[.agg (hdC (hdO h A c))] w λe w'=>∃s:ByteArray,e=.returned (.tuple #[.string s,.int .i64 (hdE h)])/\(hdE h=0->s.data.toList=hdB h)/\Below w.heap.size w w':=by
 have hB:Below w.heap.size w (w.alloc (.cells (hdC (hdO h A c)) 52)):=bA;have hr:zA (w.alloc (.cells (hdC (hdO h A c)) 52)) w.heap.size 0 38=some (hdC (hdO h A c)):=by simp[go_sem]
 have b7:=SlR.below hT hB;have cc:=J3 _ h A c b7 hn ht;obtain⟨E,hE⟩:=eX (hdE h)
 rw[hE]at cc |-;have HE:=dH hE;obtain⟨W,hW⟩:=eR (w.alloc (.cells (hdC (hdO h A c)) 52))
 rw[<-hW]at hB hr b7 cc;have HW:=dH hW;obtain⟨g,hg⟩:=eX w.heap.size
 have Hg:=dH hg;have h3:g<W.heap.size:=by rw[hW,<-hg];simp
 rw[hg]at hB hr;clear hE hW hT;go_enter func171,ntmps171
 go_upto_region 1 with fail
 rw[<-HW.out];clear hg;(go_wp2_with fail);refine cc.mono ?_;rintro e w2 ⟨rfl,d6⟩;have d8:Below g w w2:=hB.trans (d6.mono oM);clear cc;by_cases h0:E=0
 ·subst h0;have L:=aY HE.out;have d1:=(zH (d6.block g h3) 0 38).trans hr;have b6:=SlR.below b7 d6;have f4:g<w2.heap.size:=zE d1;obtain⟨H,hH⟩:∃H:Nat,h.ht=H:=⟨h.ht.toNat,oH L.ht⟩
  obtain⟨au,d7⟩:∃au:Nat,h.au=au:=⟨h.au.toNat,oH L.au⟩
  obtain⟨sq,d0⟩:∃sq:Nat,h.sq=sq:=⟨h.sq.toNat,oH L.sq⟩
  obtain⟨sz,c9⟩:∃sz:Nat,h.sz=sz:=⟨h.sz.toNat,oH L.sz⟩
  have i5:=YF L.tp;have g9:=L.ps;have b1:H<256 ^ 4:=oH L.ht;have b3:au<256 ^ 1:=oH L.au;have b4:sq<256 ^ 4:=oH L.sq;have b5:sz<256 ^ 2:=oH L.sz;have f6:hdB h=beL 1 h.ps.length++h.ps.flatMap zB.l++beL 4 H++beL 1 h.tp.size++h.tp.data.toList++beL 1 au++beL 4 sq++beL 2 sz++h.cm.l:=by
   unfold hdB;rw[hH,d7,d0,c9];rfl
  have g6:=dH f6;have cl:∀(w':World),w'.heap[g]?=w2.heap[g]?->w'.cell? ⟨g,0,none⟩=some (.slice A h.ps.length c)/\w'.cell? ⟨g,1,none⟩=some (.int .i64 H)/\w'.cell? ⟨g,2,none⟩=some (.string h.tp)/\w'.cell? ⟨g,3,none⟩=some (.int .i64 au)/\w'.cell? ⟨g,4,none⟩=some (.int .i64 sq)/\w'.cell? ⟨g,5,none⟩=some (.int .i64 sz)/\zA w' g 6 32=some (idC h.cm):=λw' hw=>by
   have X:=(zH hw 0 38).trans d1;have x0:=zC X (j:=0) oM;have x1:=zC X (j:=1) oM;have x2:=zC X (j:=2) oM;have x3:=zC X (j:=3) oM;have x4:=zC X (j:=4) oM;have x5:=zC X (j:=5) oM;have x6:=yF X (j:=6) (m:=32) oM;simp only[t8,mV,mU,pM,pL,pK,Nat.zero_add]at x0 x1 x2 x3 x4 x5 x6;rw[J4]at x6;simp only[hdO,hH,d7,d0,c9]at x0 x1 x2 x3 x4 x5 x6;exact⟨x0,x1,x2,x3,x4,x5,x6⟩
  have c6:=dH cl;obtain⟨x0,_⟩:=cl w2 rfl;obtain⟨S,g0⟩:=eX h.ps
  rw[g0]at b6 x0 g9 g6 c6;clear cl f6 d1 hH d7 d0 c9 L g0 hr b7;go_upto_region 4 with fail
  refine lX w2 ?_;intro a3 hS;have c0:=zK x0;refine lQ ?_;intro K hK;refine(wnew _).mono ?_;rintro e w3 ⟨rfl,e8,f8⟩;have h6:=hS.size;replace hS:=xL hS f8;refine⟨_,rfl,hS,hK _ _ ?_⟩;clear hK K;refine lQ ?_;intro K hK;refine(wnum _ _ _ _ _ _ e8 S.length 1 oM oM sI).mono ?_;rintro e W3 ⟨rfl,AW,a8,c7,f0,a0⟩;simp only[nil_append]at c7;have I:mD W3 (w2.heap.size+1) w2.heap.size AW a8 (beL 1 S.length):=c7;have a4:z9 [] w2 w3:=z9.of_below hS;have F:Below w2.heap.size w2 W3:=(hS:Below w2.heap.size w2 w3).trans (f0.below a4.size (by show ∀x∈w2.heap.size :: blk none,_;simp[blk]));refine⟨_,rfl,F,hK _ _ ?_⟩;clear hK K;refine lZ ?_;refine zD ?_;intro hS;clear a3 hS c0 e8 f8 f0 a4 h6 c7;obtain⟨gw,d2⟩:=eX w2.heap.size
  have d9:∀x∈blk AW,gw<x:=λx hx=>(oH ((I.own.at_base hx).1));have g5:Below g w W3:=d8.trans (F.mono oM);have d4:=F.block g f4;have h4:=SlR.below b6 F;have f9:∀x∈blk A,x<gw\/S.length=0:=λx hx=>by
   by_cases h0:S.length=0
   ·exact .inr h0
   ·left
    obtain⟨q,o,rfl,hq⟩:=zX.get b6 (i:=0) oM oM;simp[blk]at hx;subst hx;have:=zE hq;omega
  have i1:=dH f9;have i6:g<gw:=oM;rw[d2]at I F;simp only[d2];have h2:gw<W3.heap.size:=I.lt;clear d2 f9 b6 d8 f4 F a0;obtain⟨_,_,_⟩:=c6.out W3 d4;go_upto_region 6 with fail
  go_loopw [7,21] (λ_ i wr=>∃k:Nat,k<=S.length/\i=.int .i64 (k:Nat)/\sC W3 (gw+1) gw AW (beL 1 S.length++(S.take k).flatMap zB.l) wr) (λ_ i _=>S.length-(intOf i).toNat)
  case atStart=>exact⟨0,zL,rfl,AW,a8,by simpa using I,z9.refl _ _,λx hx=>.inl hx⟩
  case round =>
   clear I;obtain⟨k,hk,rfl,A4,a9,O,U,J⟩:=hrel;by_cases b0:k<S.length
   ·have a6:∀x∈blk A,x∉gw :: blk AW:=λx hx=>by
     have h1:=i1.out x hx;simp only[mem_cons,not_or];exact⟨oM,λhy=>oH (d9 x hy)⟩
    have g1:=h4.kept U a6;obtain⟨q,o,rfl,hr⟩:=zX.get g1 b0 b0;have c8:(S.take (k+1)).flatMap zB.l=(S.take k).flatMap zB.l++(S[k]).l:=by rw[take_add_one,getElem?_eq_getElem b0,flatMap_append];simp only[Option.toList_some,flatMap_cons,flatMap_nil,append_nil]
    have b2:=tR zB.l 32 (S.take k) (λx hx=>by rw[x.h];exact lR);have e9:(S.take k).length=k:=sO;rw[e9]at b2;obtain⟨x,hx⟩:=eX (S[k]'b0)
    rw[hx]at hr c8;have h9:=dH c8;clear hx c8 g1 e9 a6;have d5:(beL 1 S.length++(S.take k).flatMap zB.l).length<=300000000:=by rw[length_append,xA];omega
    obtain⟨h8,Y⟩:=eX (beL 1 S.length++(S.take k).flatMap zB.l)
    have e6:=dH Y;rw[Y]at O d5;clear Y b2;have f7:Below wr.heap.size wr (wr.alloc (.cells (idC x) 31)):=bA;have R:=O.below f7;have Z:z9 [] wr (wr.alloc (.cells (idC x) 31)):=z9.alloc _ _;have a7:zA (wr.alloc (.cells (idC x) 31)) wr.heap.size 0 32=some (idC x):=by simp[go_sem]
    have N:∀c,(convert 128 9 (.slice (some ⟨wr.heap.size,0,none⟩) 32 c)).run prog (wr.alloc (.cells (idC x) 31))=.ok (.string ⟨x.l.toArray⟩) (wr.alloc (.cells (idC x) 31)):=λc=>KX a7;have e3:(⟨x.l.toArray⟩:ByteArray).size=32:=by show x.l.toArray.size=32;simp[x.h]
    have e4:(⟨x.l.toArray⟩:ByteArray).data.toList=x.l:=sI;have cw:=wraw _ (gw+1) gw A4 a9 h8 R ⟨x.l.toArray⟩ (by rw[e3];omega);rw[e4]at cw;clear e3 e4 a7;(go_wp2_with fail);refine cw.mono ?_;rintro e w6 ⟨rfl,t⟩;have V:=qR O U J (qR R (Z.mono (S':=gw :: blk A4) sI) iL t);rw[<-e6.out,append_assoc,<-h9.out]at V;have i0:=dH V;clear t V N cw f7 R Z O U J;(go_wp2_with fail);go_roundw
    case rel=>exact⟨k+1,oM,by go_num,i0.out⟩
    case measure=>exact sZ
   ·have f1:S.take k=S:=take_of_length_le oM;rw[f1]at O;obtain⟨P0,b9⟩:=eX (beL 1 S.length++S.flatMap zB.l)
    have b2:=tR zB.l 32 S (λx hx=>by rw[x.h];exact lR);have i7:P0.length<=200:=by rw[<-b9,length_append,xA];omega
    rw[b9]at O;have i3:=dH b9;have e2:∀x∈blk A4,gw<x:=λx hx=>(oH ((O.own.at_base hx).1));have f3:g∉gw :: blk AW:=by
     simp only[mem_cons,not_or];exact⟨oM,λhy=>oH (d9 g hy)⟩
    have T:g∉gw :: blk A4:=by
     simp only[mem_cons,not_or];exact⟨oM,λhy=>oH (e2 g hy)⟩
    have d3:=(U.block g oM f3).trans d4;have g4:Below g w wr:=g5.trans (U.below (B:=g) oM (λx hx=>by
     rcases mem_cons.1 hx with rfl | hx
     ·omega
     ·have:=d9 x hx;omega))
    have g7:gw<wr.heap.size:=O.lt;obtain⟨_,x1,x2,_⟩:=c6.out wr d3;have e1:h.tp.data.toList.length=h.tp.size:=Array.length_toList;have E1:=dH e1;clear f1 b9 b2 e1 U J d4 g5 f3;go_upto_region 10 with fail
    have t:sC wr (gw+1) gw A4 P0 wr.drew:=⟨A4,a9,O.kept (z9.drew wr) sI sI,(z9.drew wr).mono sI,λx hx=>.inl hx⟩
    refine kX (gw :: blk A4) wr ?_;intro a3 hS;have c1:=zG x1 T;have c2:=zG x2 T;refine lQ ?_;intro K hK;obtain⟨Ai,G,r,D,d⟩:=t;refine(wnum _ _ _ _ _ _ r H 4 oM b1 oM).mono ?_;rintro e w' ⟨rfl,f⟩;replace t:=qR r D d f;have hS:=t.choose_spec.choose_spec.2.1;refine⟨_,rfl,hS,hK _ _ ?_⟩;clear hK K r D d f;refine lQ ?_;intro K hK;obtain⟨Ai,G,r,D,d⟩:=t;refine(wnum _ _ _ _ _ _ r h.tp.size 1 oM oM (by rw[length_append,xA];omega)).mono ?_;rintro e w' ⟨rfl,f⟩;replace t:=qR r D d f;have hS:=t.choose_spec.choose_spec.2.1;refine⟨_,rfl,hS,hK _ _ ?_⟩;clear hK K r D d f;refine lQ ?_;intro K hK;obtain⟨Ai,G,r,D,d⟩:=t;refine(wraw _ _ _ _ _ _ r h.tp (by simp only[length_append,xA];omega)).mono ?_;rintro e w' ⟨rfl,f⟩;replace t:=qR r D d f;have hS:=t.choose_spec.choose_spec.2.1;refine⟨_,rfl,hS,hK _ _ ?_⟩;clear hK K r D d f;refine lZ ?_;refine zD ?_;intro hS;obtain⟨A5,e5,R,Z,a2⟩:=t;obtain⟨w5,rfl⟩:∃w5,w5=w':=⟨w',rfl⟩
    have a5:=(Z.block g oM T).trans d3;have g3:Below g w w5:=g4.trans (Z.below (B:=g) oM (λx hx=>by
     rcases mem_cons.1 hx with rfl | hx
     ·omega
     ·have:=e2 x hx;omega))
    obtain⟨_,_,_,x3,x4,x5,x6⟩:=c6.out w5 a5;obtain⟨P1,b8⟩:=eX (P0++beL 4 H++beL 1 h.tp.size++h.tp.data.toList)
    have h5:P1.length<=300:=by rw[<-b8];simp only[length_append,xA];have:=E1.out;omega
    rw[b8]at R;have i2:=dH b8;have e0:∀x∈blk A5,gw<x:=λx hx=>(oH ((R.own.at_base hx).1));have M:g∉gw :: blk A5:=by
     simp only[mem_cons,not_or];exact⟨oM,λhy=>oH (e0 g hy)⟩
    have g8:gw<w5.heap.size:=R.lt;clear b8 a3 hS c1 c2 Z a2 d3 g4 O e2 T x1 x2;go_upto_region 11 with fail
    have N:∀(y:Subtype (Kp (gw :: blk A5) w5)) c,(convert 128 9 (.slice (some ⟨g,6,none⟩) 32 c)).run prog y.1=.ok (.string ⟨h.cm.l.toArray⟩) y.1:=λy c=>KX (zY x6 M y);have e3:(⟨h.cm.l.toArray⟩:ByteArray).size=32:=by show h.cm.l.toArray.size=32;simp[h.cm.h]
    have e4:(⟨h.cm.l.toArray⟩:ByteArray).data.toList=h.cm.l:=sI;have E3:=dH e3;have E4:=dH e4;clear e3 e4;have t:sC w5 (gw+1) gw A5 P1 w5.drew:=⟨A5,e5,R.kept (z9.drew w5) sI sI,(z9.drew w5).mono sI,λx hx=>.inl hx⟩
    refine kX (gw :: blk A5) w5 ?_;intro a3 hS;have c3:=zG x3 M;have c4:=zG x4 M;have c5:=zG x5 M;refine lQ ?_;intro K hK;obtain⟨Ai,G,r,D,d⟩:=t;refine(wnum _ _ _ _ _ _ r au 1 oM b3 oM).mono ?_;rintro e w' ⟨rfl,f⟩;replace t:=qR r D d f;have hS:=t.choose_spec.choose_spec.2.1;refine⟨_,rfl,hS,hK _ _ ?_⟩;clear hK K r D d f;refine lQ ?_;intro K hK;obtain⟨Ai,G,r,D,d⟩:=t;refine(wnum _ _ _ _ _ _ r sq 4 oM b4 (by rw[length_append,xA];omega)).mono ?_;rintro e w' ⟨rfl,f⟩;replace t:=qR r D d f;have hS:=t.choose_spec.choose_spec.2.1;refine⟨_,rfl,hS,hK _ _ ?_⟩;clear hK K r D d f;refine lQ ?_;intro K hK;obtain⟨Ai,G,r,D,d⟩:=t;refine(wnum _ _ _ _ _ _ r sz 2 oM b5 (by simp only[length_append,xA];omega)).mono ?_;rintro e w' ⟨rfl,f⟩;replace t:=qR r D d f;have hS:=t.choose_spec.choose_spec.2.1;refine⟨_,rfl,hS,hK _ _ ?_⟩;clear hK K r D d f;refine lQ ?_;intro K hK;obtain⟨Ai,G,r,D,d⟩:=t;refine(wraw _ _ _ _ _ _ r ⟨h.cm.l.toArray⟩ (by rw[E3.out];simp only[length_append,xA];omega)).mono ?_;rintro e w' ⟨rfl,f⟩;replace t:=qR r D d f;have hS:=t.choose_spec.choose_spec.2.1;refine⟨_,rfl,hS,hK _ _ ?_⟩;clear hK K r D d f;refine lZ ?_;refine zD ?_;intro hS;obtain⟨A6,h7,e7,f2,a1⟩:=t;obtain⟨w6,rfl⟩:∃w6,w6=w':=⟨w',rfl⟩
    have g2:Below g w w6:=g3.trans (f2.below (B:=g) oM (λx hx=>by
     rcases mem_cons.1 hx with rfl | hx
     ·omega
     ·have:=e0 x hx;omega))
    have f5:P1++beL 1 au++beL 4 sq++beL 2 sz++(⟨h.cm.l.toArray⟩:ByteArray).data.toList=hdB h:=by
     rw[g6.out,E4.out,<-i2.out,<-i3.out]
    rw[f5]at e7;have i4:=dH g2;clear a3 hS c3 c4 c5 f2 a1 a5 g3 R e0 M x3 x4 x5 x6 N f5 g2;(go_wp2_with fail);refine(wdone _ _ _ _ _ _ e7).mono ?_;rintro e w7 ⟨rfl,rfl⟩;(go_wp2_with fail);go_ret2;refine⟨_,rfl,?_,by rw[Hg.out];exact i4.out⟩;first | trivial | rfl | simp
 ·have hb:(E != 0)=true:=by rw[bne_iff_ne];exact h0
  have H0:=dH h0;clear h0;(go_wp2_with fail);go_ret2;exact⟨⟨#[]⟩,rfl,λh=>absurd h H0.out,by rw[Hg.out];exact d8⟩
theorem hd_ident(w:World)(h:HdV)(A:Option Addr)(c:Nat)(hv:xY w)(hT:zX w A h.ps.length h.ps)(hn:h.ps.length<=1000000)(ht:h.tp.size<=9223372036854775807) :
  Calls prog 115 #[.agg (hdC (hdO h A c))] w λe w'=>e=.returned (.tuple #[.agg (idC (hdI h)),.int .i64 (hdE h)])/\Below w.heap.size w w':=by
 have hB:Below w.heap.size w ((w.alloc (.cells (hdC (hdO h A c)) 52)).alloc (.cells (idC id0) 31)):=(bA).alloc sI _;have hr:zA ((w.alloc (.cells (hdC (hdO h A c)) 52)).alloc (.cells (idC id0) 31)) w.heap.size 0 38=some (hdC (hdO h A c)):=by
  rw[zH (Below.heap_alloc _ _ _ sI)];simp[go_sem]
 have hid:=heap_alloc_new (w.alloc (.cells (hdC (hdO h A c)) 52)) (.cells (idC id0) 31);rw[(sI:(w.alloc (.cells (hdC (hdO h A c)) 52)).heap.size=w.heap.size+1)]at hid;have cp:=hd_put _ h A c (SlR.below hT hB) hn ht;have y:=hv.below hB;obtain⟨W,hW⟩:=eR ((w.alloc (.cells (hdC (hdO h A c)) 52)).alloc (.cells (idC id0) 31))
 rw[<-hW]at hB hr hid cp y;have HW:=dH hW;obtain⟨g,hg⟩:=eX w.heap.size
 have Hg:=dH hg;have O:g+1<W.heap.size:=by rw[hW,<-hg];simp
 rw[hg]at hB hr hid;obtain⟨E,hE⟩:=eX (hdE h)
 have hI:hdI h=if E=0 then qM (hdB h)else id0:=by rw[<-hE];rfl
 have D:E=0->(hdB h).length<=1000000:=λe0=>by
  have J:=aY (hE.trans e0);have h1:=YF J.tp;have h2:=J.ps;have h3:=tR zB.l 32 h.ps (λx hx=>by rw[x.h];exact lR);have h4:h.tp.data.toList.length=h.tp.size:=Array.length_toList;have h5:(h.ps.flatMap (·.l)).length<=h.ps.length*32:=h3;unfold hdB;simp only[length_append,xA,h4,h.cm.h];omega
 rw[hE]at cp;obtain⟨I,F⟩:=eX (hdI h)
 rw[F]at hI;rw[F,hE];have HI:=dH hI;clear hW hT hE hI F hv;go_enter func115,ntmps115
 go_upto_region 1 with fail
 rw[<-HW.out];clear hg;(go_wp2_with fail);refine cp.mono ?_;rintro e w2 ⟨s,rfl,hs,m⟩;have d:=(m.block (g+1) O).trans hid;have t:Below g w w2:=hB.trans (m.mono oM);have R:g+1<w2.heap.size:=oH m.size;have L:=y.below m;clear cp hr hid m y;by_cases h0:E=0
 ·have T:(E != 0)=false:=by rw[bne_eq_false_iff_eq];exact h0
  have B:=hs h0;have N:s.size<=1000000:=by have h1:=D h0;rw[<-B]at h1;exact h1
  have cs:=sha_sum w2 s L N;rw[B]at cs;have G:Hid (I=qM (hdB h)):=(show _=_ by rw[HI.out,if_pos h0])
  have H0:=dH h0;clear hs B h0 D;(go_wp2_with fail);refine cs.mono ?_;rintro e w3 ⟨rfl,r⟩;have f:=(r.block (g+1) R).trans d;have M:=y9 (P:=prog) xU w3 (g+1) (idC id0) (idC (qM (hdB h))) _ f sI sI (yN _);have j:=dH (setRow_heap w3 (g+1) _ (idC (qM (hdB h))) _ _ f);have hk:z9 [g+1] w3 (w3.setRow (g+1) (idC (qM (hdB h)))):=⟨rfl,rfl,rfl,by simp[setRow],λx _ hx=>setRow_other w3 (g+1) x _ (by simpa using hx)⟩
  have k:Below g w (w3.setRow (g+1) (idC (qM (hdB h)))):=(t.trans (r.mono oM)).trans (hk.below (oH r.size) sI);have H:=dH k;clear hk k f d r t cs;(go_wp2_with fail);refine bodyPost_ret (yZ results115 _ _ (g+1) 31 (idC (qM (hdB h))) (0,0) _ rfl j.out underlying31 rfl (by rw[xQ];exact xU)) rfl ?_;exact⟨by rw[G.out,H0.out];rfl,by rw[Hg.out];exact H.out⟩
 ·have T:(E != 0)=true:=by rw[bne_iff_ne];exact h0
  have G:Hid (I=id0):=(show _=_ by rw[HI.out,if_neg h0])
  have M:=y9 (P:=prog) xU w2 (g+1) (idC id0) (idC id0) _ d sI sI (yN _);have j:=dH (setRow_heap w2 (g+1) _ (idC id0) _ _ d);have hk:z9 [g+1] w2 (w2.setRow (g+1) (idC id0)):=⟨rfl,rfl,rfl,by simp[setRow],λx _ hx=>setRow_other w2 (g+1) x _ (by simpa using hx)⟩
  have k:Below g w (w2.setRow (g+1) (idC id0)):=t.trans (hk.below oM sI);have H:=dH k;clear hk k d t hs h0 D;(go_wp2_with fail);refine bodyPost_ret (yZ results115 _ _ (g+1) 31 (idC id0) (0,0) _ rfl j.out underlying31 rfl (by rw[xQ];exact xU)) rfl ?_;exact⟨by rw[G.out];rfl,by rw[Hg.out];exact H.out⟩
structure fZ where
 h:HdV
 A:Option Addr
 c:Nat
abbrev hdR(x:fZ):Array Value:=hdC (hdO x.h x.A x.c)
abbrev hdVA(x:fZ):Value:=.agg (hdR x)
section
abbrev bU(k:ByteArray):Prop:=k.size<=maxLen
def psF(N:List (zB×fZ)):List Nat:=N.flatMap λp=>blk p.2.A
abbrev dagC(bh bp bt bc:Nat):Array Value:=#[.map (some bh),.map (some bp),.map (some bt),.map (some bc)]
structure fJ(w:World)(g:Nat)(D:List HdX)(bh bp bt bc:Nat)(N:List (zB×fZ))(Tm:List (ByteArray×Sl))(Cm:List (zB×Sl)):Prop where
 heap:w.heap[g]?=some (.cells (dagC bh bp bt bc) 102 (0,0))
 hs:∃es clk,yL w bh idV hdVA vN N es clk
 perm:(N.map λp=>(⟨p.1,p.2.h⟩:HdX)).Perm D
 ps:∀p∈N,Own w 0 31 32 p.2.A p.2.h.ps.length p.2.c (p.2.h.ps.map idC)
 par:jS w bp (V7 D)
 tm:kB w bt Value.string bU Tm (jC D)
 cm:kB w bc idV vN Cm (vD D)
 ne:[bh,bp,bt,bc].Nodup
 dis:(∀y∈psF N,y∉slF Tm/\y∉slF Cm)/\∀y∈slF Tm,y∉slF Cm
structure ZQ(w:World)(g:Nat)(D:List HdX)(bh bp bt bc:Nat)(N:List (zB×fZ)):Prop where
 heap:w.heap[g]?=some (.cells (dagC bh bp bt bc) 102 (0,0))
 hs:∃es clk,yL w bh idV hdVA vN N es clk
 perm:(N.map λp=>(⟨p.1,p.2.h⟩:HdX)).Perm D
def YI(w:World)(g:Nat)(D:List HdX):Prop:=∃bh bp bt bc N,ZQ w g D bh bp bt bc N
def kC(w:World)(g:Nat)(F:List Nat)(D:List HdX):Prop :=
 ∃bh bp bt bc N Tm Cm,fJ w g D bh bp bt bc N Tm Cm/\F=g :: bh :: bp :: bt :: bc :: (psF N++slF Tm++slF Cm)
section
variable {w w':World} {g:Nat} {F:List Nat} {D:List HdX} {bh bp bt bc:Nat} {N:List (zB×fZ)} {Tm:List (ByteArray×Sl)} {Cm:List (zB×Sl)}
theorem wI{B n cap y:Nat}{E:TypeId}(h:Own w B E k A n cap L)(hy:y∈blk A):∃cur,w.heap[y]?=some (.cells cur E (0,0)):=by
 obtain⟨⟨_,h2⟩,_,_⟩:=h;rcases h2 with⟨e,_⟩ | ⟨g,c,cur,e,_,hg,_⟩
 ·injection e with e;rw[e]at hy;simp[blk]at hy
 ·injection e with e;rw[e]at hy
  have e2:y=g:=by simpa[blk]using hy
  exact⟨cur,by rw[e2];exact hg⟩
theorem J0{L:List zB}(h:jS w b L):∃es d,w.heap[b]?=some (.map es d):=by
 obtain⟨M,es,d,hm,_⟩:=h;exact⟨es,d,hm.heap⟩
theorem fJ.kinds(h:fJ w g D bh bp bt bc N Tm Cm):(∀y,y=bh\/y=bp\/y=bt\/y=bc->∃es clk,w.heap[y]?=some (.map es clk))/\∀y∈psF N++slF Tm++slF Cm,∃cur,w.heap[y]?=some (.cells cur 31 (0,0)):=by
 obtain⟨e1,c1,m1⟩:=h.hs;obtain⟨e3,c3,m3⟩:=h.tm.map;obtain⟨e4,c4,m4⟩:=h.cm.map;refine⟨?_,λy hy=>?_⟩
 ·rintro y (rfl | rfl | rfl | rfl)
  ·exact⟨_,_,m1.heap⟩
  ·exact J0 h.par
  ·exact⟨_,_,m3.heap⟩
  ·exact⟨_,_,m4.heap⟩
 ·rcases mem_append.1 hy with hy | hy
  ·rcases mem_append.1 hy with hy | hy
   ·obtain⟨q,hq,hy⟩:=mem_flatMap.1 hy;exact wI (h.ps q hq) hy
   ·obtain⟨q,hq,hy⟩:=mem_flatMap.1 hy;exact wI (h.tm.own q hq) hy
  ·obtain⟨q,hq,hy⟩:=mem_flatMap.1 hy;exact wI (h.cm.own q hq) hy
theorem fJ.kept{S:List Nat}(h:fJ w g D bh bp bt bc N Tm Cm)(k:z9 S w w')(hF:∀x∈g :: bh :: bp :: bt :: bc :: (psF N++slF Tm++slF Cm),x∉S):fJ w' g D bh bp bt bc N Tm Cm:=by
 obtain⟨es,d,hm⟩:=h.hs;simp only[mem_cons,mem_append]at hF;exact⟨(k.block g (aG h.heap).1 (hF g (.inl rfl))).trans h.heap,⟨es,d,hm.kept k (hF bh sI)⟩,h.perm,λp hp=>(h.ps p hp).kept k λy hy=>hF y (.inr (.inr (.inr (.inr (.inr (.inl (.inl (mem_flatMap.2 ⟨p,hp,hy⟩)))))))),
  h.par.kept k (hF bp sI),h.tm.kept k (hF bt sI) λy hy=>hF y (.inr (.inr (.inr (.inr (.inr (.inl (.inr hy))))))),h.cm.kept k (hF bc sI) λy hy=>hF y (.inr (.inr (.inr (.inr (.inr (.inr hy)))))),h.ne,h.dis⟩
theorem fJ.lt(h:fJ w g D bh bp bt bc N Tm Cm):∀x∈g :: bh :: bp :: bt :: bc :: (psF N++slF Tm++slF Cm),x<w.heap.size:=by
 obtain⟨h1,h2⟩:=h.kinds;intro x hx;rcases mem_cons.1 hx with e | hx
 ·rw[e];exact(aG h.heap).1
 have d:∀y,y=bh\/y=bp\/y=bt\/y=bc->y<w.heap.size:=λy hy=>(by obtain⟨_,_,hh⟩:=h1 y hy;exact(aG hh).1);simp only[mem_cons]at hx;rcases hx with e | e | e | e | hx
 ·exact d x (.inl e)
 ·exact d x (.inr (.inl e))
 ·exact d x (.inr (.inr (.inl e)))
 ·exact d x (.inr (.inr (.inr e)))
 ·obtain⟨_,hh⟩:=h2 x hx;exact(aG hh).1
theorem kC.kept{S:List Nat}(h:kC w g F D)(k:z9 S w w')(hF:∀x∈F,x∉S):kC w' g F D:=by
 obtain⟨bh,bp,bt,bc,N,Tm,Cm,h,rfl⟩:=h;exact⟨bh,bp,bt,bc,N,Tm,Cm,h.kept k hF,rfl⟩
theorem kC.below(h:kC w g F D)(k:Below w.heap.size w w'):kC w' g F D:=h.kept (z9.of_below k) sI
theorem kC.lt(h:kC w g F D):∀x∈F,x<w.heap.size:=by
 obtain⟨bh,bp,bt,bc,N,Tm,Cm,h,rfl⟩:=h;exact h.lt
theorem zeroHdV(w:World):(zeroValue 52).run prog w=.ok (.agg (hdC hd0)) w:=zeroHd_run w
theorem fJ.toH(h:fJ w g D bh bp bt bc N Tm Cm):ZQ w g D bh bp bt bc N:=⟨h.heap,h.hs,h.perm⟩
theorem ZQ.kept{S:List Nat}(h:ZQ w g D bh bp bt bc N)(k:z9 S w w')(h1:g∉S)(h2:bh∉S):ZQ w' g D bh bp bt bc N:=by
 obtain⟨es,d,hm⟩:=h.hs;exact⟨(k.block g (aG h.heap).1 h1).trans h.heap,⟨es,d,hm.kept k h2⟩,h.perm⟩
theorem ZQ.below(h:ZQ w g D bh bp bt bc N)(hb:Below w.heap.size w w'):ZQ w' g D bh bp bt bc N:=h.kept (z9.of_below hb) sI sI
theorem YI.below(h:YI w g D)(hb:Below w.heap.size w w'):YI w' g D:=by
 obtain⟨bh,bp,bt,bc,N,h⟩:=h;exact⟨bh,bp,bt,bc,N,h.below hb⟩
theorem ZQ.look(h:ZQ w g D bh bp bt bc N)(hn:(qT D).Nodup)(a:zB) :
  (∃x:fZ,(a,x)∈N/\kZ D a=some x.h/\∀w2,Below w.heap.size w w2->∀cm,(Instr.lookup 98 (.map (some bh)) (.agg (idC a)) cm).run prog w2=.ok (if cm then .tuple #[.agg (hdR x),.bool true]else .agg (hdR x)) w2) \/
  (kZ D a=none/\∀w2,Below w.heap.size w w2->∀cm,(Instr.lookup 98 (.map (some bh)) (.agg (idC a)) cm).run prog w2=.ok (if cm then .tuple #[.agg (hdC hd0),.bool false]else .agg (hdC hd0)) w2):=by
 obtain⟨es,f,hm⟩:=h.hs;by_cases hx:a∈N.map (·.1)
 ·obtain⟨q,hq,rfl⟩:=mem_map.1 hx;refine .inl ⟨q.2,hq,t7 (x:=⟨q.1,q.2.h⟩) hn (h.perm.mem_iff.1 (mem_map.2 ⟨q,hq,rfl⟩)),λw2 hb cm=>(hm.kept (z9.of_below hb) sI).hit jA underlying98 trivial hq cm⟩
 ·refine .inr ⟨aX.2 λd=>hx ?_,λw2 hb cm=>(hm.kept (z9.of_below hb) sI).miss jA underlying98 (zeroHdV w2) trivial hx cm⟩;have:=(h.perm.map (·.id)).mem_iff.2 d;rw[map_map]at this;exact this
theorem fJ.look(h:fJ w g D bh bp bt bc N Tm Cm)(hn:(qT D).Nodup)(a:zB) :
  (∃x:fZ,(a,x)∈N/\kZ D a=some x.h/\∀w2,Below w.heap.size w w2->∀cm,(Instr.lookup 98 (.map (some bh)) (.agg (idC a)) cm).run prog w2=.ok (if cm then .tuple #[.agg (hdR x),.bool true]else .agg (hdR x)) w2) \/
  (kZ D a=none/\∀w2,Below w.heap.size w w2->∀cm,(Instr.lookup 98 (.map (some bh)) (.agg (idC a)) cm).run prog w2=.ok (if cm then .tuple #[.agg (hdC hd0),.bool false]else .agg (hdC hd0)) w2):=h.toH.look hn a
theorem ord_ahead(f:zB->Int)(a b:zB):dR f a b=if bG (f a) a (f b) b then -1 else if bG (f b) b (f a) a then 1 else 0:=by
 rw[JO,JO];have h1:=(XI f).anti a b;have h2:dR f a b = -1\/dR f a b=0\/dR f a b=1:=by
  unfold dR orC;split
  ·exact cmpId_range a b
  ·exact cmpI_range _ _
 rcases h2 with h2 | h2 | h2
 ·rw[if_pos (by simp[h2]),h2]
 ·rw[if_neg (by simp[h2]),if_neg (by simp[h1,h2]),h2]
 ·rw[if_neg (by simp[h2]),if_pos (by simp[h1,h2]),h2]
end
theorem mB(w:World)(g b:Nat)(h:w.cell? ⟨g,0,none⟩=some (.map (some b))):Calls prog 98 #[.pointer (some ⟨g,0,none⟩)] w λe w'=>e=.returned (.bool false)/\w=w':=by
 have hn:=λr=>run_eql_map_nil (P:=prog) w 98 31 52 r underlying98;go_enter func98,ntmps98
 (go_wp2_with fail);go_ret;exact⟨rfl,rfl⟩
end
theorem ZQ.lookHt{bh bp bt bc:Nat}{N:List (zB×fZ)}(h:ZQ w g D bh bp bt bc N)(hn:(qT D).Nodup)(a:zB) :
  ∃v,(∀w2,Below w.heap.size w w2->(Instr.lookup 98 (.map (some bh)) (.agg (idC a)) false).run prog w2=.ok v w2)/\∀w2,(Instr.field 52 v 1).run prog w2=.ok (.int .i64 (htX D a)) w2:=by
 rcases h.look hn a with⟨x,_,he,hl⟩ | ⟨he,hl⟩
 ·exact⟨_,λw2 hb=>hl w2 hb false,λw2=>by
   have e:htX D a=x.h.ht:=by unfold htX;rw[he]
   rw[e];exact BD _ w2⟩
 ·exact⟨_,λw2 hb=>hl w2 hb false,λw2=>by
   have e:htX D a=0:=by unfold htX;rw[he]
   rw[e];exact BD _ w2⟩
theorem dag_order(w:World)(g:Nat)(D:List HdX)(h:YI w g D)(hn:(qT D).Nodup)(a b:zB) :
  Calls prog 101 #[.pointer (some ⟨g,0,none⟩),.agg (idC a),.agg (idC b)] w λe w'=>e=.returned (.int .i64 (dR (htX D) a b))/\Below w.heap.size w w':=by
 obtain⟨bh,bp,bt,bc,N,h⟩:=h;obtain⟨va,I,V⟩:=h.lookHt hn a;obtain⟨vb,H,T⟩:=h.lookHt hn b;have hB:Below w.heap.size w ((w.alloc (.cells (idC a) 31)).alloc (.cells (idC b) 31)):=(bA).alloc sI _;have r:zA ((w.alloc (.cells (idC a) 31)).alloc (.cells (idC b) 31)) w.heap.size 0 32=some (idC a):=by
  rw[zH (Below.heap_alloc _ _ _ sI)];simp[go_sem]
 have m:zA ((w.alloc (.cells (idC a) 31)).alloc (.cells (idC b) 31)) (w.heap.size+1) 0 32=some (idC b):=by simp[go_sem]
 obtain⟨W,hW⟩:=eR ((w.alloc (.cells (idC a) 31)).alloc (.cells (idC b) 31))
 obtain⟨ga,A⟩:=eX w.heap.size
 rw[<-hW,A]at r m;rw[<-hW]at hB;have c0:W.cell? ⟨g,0,none⟩=some (.map (some bh)):=by rw[cell_of_row W g 0 _ _ _ ((hB.block g (aG h.heap).1).trans h.heap)];rfl
 have R:∀x:Subtype (Bel W),(Instr.lookup 98 (.map (some bh)) (.agg (idC a)) false).run prog x.1=.ok va x.1:=λx=>I x.1 (hB.trans (x.2.mono hB.size));have M:∀x:Subtype (Bel W),(Instr.lookup 98 (.map (some bh)) (.agg (idC b)) false).run prog x.1=.ok vb x.1:=λx=>H x.1 (hB.trans (x.2.mono hB.size));obtain⟨X,hX⟩:=eX (htX D a)
 obtain⟨Y,hY⟩:=eX (htX D b)
 have ho:=ord_ahead (htX D) a b;rw[hX,hY]at ho;rw[hX]at V;rw[hY]at T;obtain⟨O,hO⟩:=eX (dR (htX D) a b)
 rw[hO]at ho |-;have HO:=dH ho;have HW:=dH hW;have HB:=dH hB;have Z:=dH A;clear ho hO hX hY hW hB A h I H;go_enter func101,ntmps101
 go_upto_region 1 with fail
 rw[<-HW.out,Z.out];refine lX W ?_;intro L hS;have b1:=zK c0;have b2:=zS r;have b3:=zS m;refine lZ ?_;refine zD ?_;intro hS;have f:zA W.drew ga 0 32=some (idC a):=r;have d:zA W.drew (ga+1) 0 32=some (idC b):=m;obtain⟨t1,y⟩:=eX (bG X a Y b)
 obtain⟨t2,F⟩:=eX (bG Y b X a)
 have c1:=yd X a Y b W.drew;rw[y]at c1;have E:=dH y;have B:=dH F;clear L hS b1 b2 b3 R M c0 y F r m;(go_wp2_with fail);refine c1.mono ?_;rintro e w1 ⟨rfl,s⟩;have t:Below w.heap.size w w1:=HB.out.drew.trans (s.mono HB.out.drew.size);have k:=((z9.of_below s).row (zE f) sI _ _).trans f;have j:=((z9.of_below s).row (zE d) sI _ _).trans d;clear c1 f d s;cases t1 with
 | true =>
  clear k j;(go_wp2_with fail);go_ret;exact⟨yA (by rw[HO.out,if_pos E.out]),t⟩
 | false =>
  have c2:=yd Y b X a w1;rw[B.out]at c2;(go_wp2_with fail);refine c2.mono ?_;rintro e w2 ⟨rfl,G⟩;have J:Below w.heap.size w w2:=t.trans (G.mono t.size);clear c2 k j G t;cases t2 with
  | true =>
   (go_wp2_with fail);go_ret;exact⟨yA (by rw[HO.out,if_neg (by rw[E.out];decide),if_pos B.out]),J⟩
  | false =>
   (go_wp2_with fail);go_ret;exact⟨yA (by rw[HO.out,if_neg (by rw[E.out];decide),if_neg (by rw[B.out];decide)]),J⟩
theorem isFn_order:yy 101:=λargs w=>by kernel_rfl
theorem BU(h:YI w g D)(hn:(qT D).Nodup)(t:zB):Weighs 101 #[.pointer (some ⟨g,0,none⟩)] #[] w t (λx=>dR (htX D) x t) :=
 λx w' hb=>dag_order w' g D (h.below hb) hn x t
theorem dag_put(w:World)(g:Nat)(D:List HdX)(h:YI w g D)(hn:(qT D).Nodup)(s:Sl)(L:List zB)(ho:Own w 0 31 32 s.A s.n s.c (L.map idC))(T:s.n<=100000)(x:zB)(hr:Ris (dR (htX D)) L)(hx:x∉L) :
  Calls prog 117 #[.pointer (some ⟨g,0,none⟩),slV s,.agg (idC x)] w λe w'=>∃s':Sl,e=.returned (slV s')/\s'.n=s.n+1/\Own w' 0 31 32 s'.A s'.n s'.c ((jO (dR (htX D)) L x).map idC)/\z9 (blk s.A) w w'/\∀y∈blk s'.A,y∈blk s.A\/w.heap.size<=y:=by
 obtain⟨A,n,cap⟩:=s;have k:L.length=n:=by simpa using ho.len
 have hB:Below w.heap.size w (w.alloc (.cells (idC x) 31)):=bA;have d:zA (w.alloc (.cells (idC x) 31)) w.heap.size 0 32=some (idC x):=by simp[go_sem]
 obtain⟨W,hW⟩:=eR (w.alloc (.cells (idC x) 31))
 rw[<-hW]at hB d;have E:=ho.below hB;have c1:=YG 101 #[.pointer (some ⟨g,0,none⟩)] #[] isFn_order (λy=>dR (htX D) y x) x W (BU (h.below hB) hn x) A n cap L E.slr (by show n<=1000000;have:n<=100000:=T;omega) (λa b hb a1 U=>(XI (htX D)).trans _ _ _ (YZ hr a1 hb) U);obtain⟨ga,G⟩:=eX w.heap.size
 rw[G]at d;have HW:=dH hW;have a3:=dH G;have J:=dH k;have Hx:=dH hx;have HB:=dH hB;have F:ga<W.heap.size:=zE d;have a2:∀y∈blk A,y<ga:=λy hy=>(oH ((ho.at_base (x:=y) hy).2));unfold slV;clear hW G k hx hB h hr ho;go_enter func117,ntmps117
 (go_wp2_with fail);rw[<-HW.out,a3.out];refine c1.mono ?_;rintro e w1 ⟨i,b,rfl,hi,V,Y,_,f⟩;have R:=E.below f;have Z:zA w1 ga 0 32=some (idC x):=((z9.of_below f).row (zE d) sI _ _).trans d;have B:Below w1.heap.size w1 (w1.alloc (.cells (idC x) 31)):=bA;have hq:=heap_alloc_new w1 (.cells (idC x) 31);obtain⟨W2,H⟩:=eR (w1.alloc (.cells (idC x) 31))
 rw[<-H]at B hq;have m:jO (dR (htX D)) L x=L.take i++x :: L.drop i:=X4 L x i (by have:=J.out;have:i<=n:=hi;omega) (λj hj a0=>V j hj a0) (λhk=>by
  have h1:=Y i hk lR;have h2:dR (htX D) L[i] x≠0:=λe=>Hx.out (by rw[<-((XI (htX D)).zero _ _).1 e];exact getElem_mem hk);have h3:0<=dR (htX D) L[i] x:=h1;omega)
 have a5:=f.size;have c2:=insert_id W2 0 A n cap L (R.below B) i hi x w1.heap.size hq (λhm=>oH (a2 _ hm)) (by have:n<=100000:=T;omega) zL;have r:Below w.heap.size w W2:=HB.out.trans ((f.mono HB.out.size).trans (B.mono (Nat.le_trans HB.out.size f.size)));have a4:=dH H;have M:=dH m;have t:=dH r;clear c1 V Y f B hq H m r R E d F;(go_wp2_with fail);rw[<-a4.out];refine c2.mono ?_;rintro e w3 ⟨A3,I,rfl,O,X,N⟩;have HF:=dH (And.intro O (And.intro (z9.trans ((z9.of_below t.out).mono (S':=blk A) sI) X (λy hy=>.inl hy)) (λy (hy:y∈blk A3)=>(N y hy).elim (λh=>(Or.inl h:y∈blk A\/w.heap.size<=y)) (λh=>Or.inr (Nat.le_trans t.out.size h)))));clear c2 O X N;(go_wp2_with fail);go_ret;exact⟨⟨A3,n+1,I⟩,rfl,rfl,by rw[M.out];exact HF.out.1,HF.out.2.1,HF.out.2.2⟩
theorem fJ.c0{bh bp bt bc:Nat}{N:List (zB×fZ)}(h:fJ w g D bh bp bt bc N Tm Cm)(w2:World)(hb:Below w.heap.size w w2) :
  w2.cell? ⟨g,0,none⟩=some (.map (some bh))/\w2.cell? ⟨g,1,none⟩=some (.map (some bp))/\w2.cell? ⟨g,2,none⟩=some (.map (some bt))/\w2.cell? ⟨g,3,none⟩=some (.map (some bc)):=by
 have hh:=(hb.block g (aG h.heap).1).trans h.heap;refine⟨?_,?_,?_,?_⟩ <;> (rw[cell_of_row w2 g _ _ _ _ hh];rfl)
theorem mI(w:World)(g:Nat)(hg:g=w.heap.size)(z:Array Value)(hz:z.size=38)(x:Hd)(h:x.ps.oneCell'=true)(e:TypeId):(stS 52 ⟨g,0,none⟩ (.agg (hdC x))).run prog (w.alloc (.cells z e)).drew=.ok () (w.alloc (.cells (hdC x) e)).drew :=
 tF w.drew g hg z hz x h e
theorem cZ:hd0.ps.oneCell'=true:=rfl
theorem cX(x:fZ):(hdO x.h x.A x.c).ps.oneCell'=true:=rfl
theorem vz{i:zB}:(kZ D i).isSome=decide (i∈qT D):=by
 by_cases h:i∈qT D
 ·rw[decide_eq_true h];cases e:kZ D i with
  | none=>exact absurd h (aX.1 e)
  | some x=>rfl
 ·rw[aX.2 h,decide_eq_false h];rfl
theorem dag_has(w:World)(g:Nat)(F:List Nat)(D:List HdX)(h:kC w g F D)(hn:(qT D).Nodup)(a:zB) :
  Calls prog 116 #[.pointer (some ⟨g,0,none⟩),.agg (idC a)] w λe w'=>e=.returned (.bool (decide (a∈qT D)))/\Below w.heap.size w w':=by
 rw[<-vz];obtain⟨bh,bp,bt,bc,N,Tm,Cm,h,rfl⟩:=h;have hB:Below w.heap.size w (w.alloc (.cells (idC a) 31)):=bA;have d:zA (w.alloc (.cells (idC a) 31)) w.heap.size 0 32=some (idC a):=by simp[go_sem]
 obtain⟨W,hW⟩:=eR (w.alloc (.cells (idC a) 31))
 obtain⟨ga,f⟩:=eX w.heap.size
 rw[<-hW]at d hB;rw[f]at d;have c0:=(h.c0 W hB).1;have r:∃(v:Hd) (b:Bool),v.ps.oneCell'=true/\b=(kZ D a).isSome/\∀x:Subtype (Bel W),(Instr.lookup 98 (.map (some bh)) (.agg (idC a)) true).run prog x.1=.ok (.tuple #[.agg (hdC v),.bool b]) x.1:=by
  rcases h.look hn a with⟨x,_,he,hl⟩ | ⟨he,hl⟩
  ·exact⟨_,true,cX x,by rw[he];rfl,λy=>hl y.1 (hB.trans (y.2.mono hB.size)) true⟩
  ·exact⟨_,false,cZ,by rw[he];rfl,λy=>hl y.1 (hB.trans (y.2.mono hB.size)) true⟩
 obtain⟨v,b,hv,hb,hl⟩:=r;rw[<-hb];have c1:=mB W g bh c0;have HW:=dH hW;have HB:=dH hB;have t:=dH f;clear hW hB f h hb;go_enter func116,ntmps116
 (go_wp2_with fail);rw[<-HW.out,t.out];refine c1.mono ?_;rintro e w' ⟨rfl,rfl⟩;clear c1;go_upto_region 3 with fail
 refine lX W ?_;intro m hS;have b1:=zK c0;have b2:=zS d;refine lZ ?_;have j:=hS;refine lH ?_;intro K hK;refine zI (fH hS _) (λhS=>?_);refine hK _ _ ?_;clear hK K;have k:=mI W W.heap.size rfl (hdC hd0) rfl v hv 52;refine lH ?_;intro K hK;refine zI (fH j (.cells (hdC v) 52)) (λhS=>?_);refine hK _ _ ?_;clear hK K;refine lZ ?_;refine zD ?_;intro hS;have s:=yK HB.out hS;clear m hS j b1 b2 hl k;(go_wp2_with fail);go_ret;exact⟨rfl,s⟩
theorem rM(w:World)(g:Nat)(c:Array Value):z9 [g] w (w.setRow g c):=⟨rfl,rfl,rfl,by simp[setRow],λx _ hx=>setRow_other w g x _ (by simpa using hx)⟩
theorem JD(w:World)(x:fZ)(hT:zX w x.A x.h.ps.length x.h.ps)(hn:x.h.ps.length<=1000000)(hA:x.A=none->x.c=0) :
  Calls prog 102 #[.agg (hdR x)] w λe w'=>∃A' c',e=.returned (.agg (hdR ⟨x.h,A',c'⟩))/\Own w' w.heap.size 31 32 A' x.h.ps.length c' (x.h.ps.map idC)/\Below w.heap.size w w':=by
 have hB:Below w.heap.size w ((w.alloc (.cells (hdR x) 52)).alloc (.cells (hdC hd0) 52)):=(bA).alloc sI _;have x1:((w.alloc (.cells (hdR x) 52)).alloc (.cells (hdC hd0) 52)).heap[w.heap.size+1]?=some (.cells (hdC hd0) 52 (0,0)):=by
  have:=heap_alloc_new (w.alloc (.cells (hdR x) 52)) (.cells (hdC hd0) 52)
  rwa [(sI:(w.alloc (.cells (hdR x) 52)).heap.size=w.heap.size+1)]at this
 have x0:((w.alloc (.cells (hdR x) 52)).alloc (.cells (hdC hd0) 52)).heap[w.heap.size]?=some (.cells (hdR x) 52 (0,0)):=by
  rw[Below.heap_alloc _ _ _ sI];exact heap_alloc_new _ _
 obtain⟨W,hW⟩:=eR ((w.alloc (.cells (hdR x) 52)).alloc (.cells (hdC hd0) 52))
 obtain⟨ga,d⟩:=eX w.heap.size
 rw[<-hW]at hB x0 x1;rw[d]at x0 x1;have y0:W.cell? ⟨ga,0,none⟩=some (.slice x.A x.h.ps.length x.c):=by rw[cell_of_row W ga 0 _ _ _ x0];simp[hdR,hdO,hdC]
 have c1:=rG W x.A x.h.ps.length x.c x.h.ps (SlR.below hT hB) hn hA;have HW:=dH hW;have HB:=dH hB;have g:=dH d;clear hW hB d;go_enter func102,ntmps102
 (go_wp2_with fail);rw[<-HW.out,g.out];refine c1.mono ?_;rintro e w1 ⟨A',c',rfl,ho,hb⟩;have z0:=(hb.block ga (aG x0).1).trans x0;have z1:=(hb.block (ga+1) (aG x1).1).trans x1;have fz:w1.frozen? ⟨ga,0,none⟩=false:=by simp[frozen?,z0]
 have cz:w1.cell? ⟨ga,0,none⟩=some (.slice x.A x.h.ps.length x.c):=((hb.cell (p:=⟨ga,0,none⟩) (aG x0).1)).trans y0;have q0:=zF z0 0 (.slice A' x.h.ps.length c');have e0:(hdR x).setIfInBounds 0 (.slice A' x.h.ps.length c')=hdR ⟨x.h,A',c'⟩:=by
  simp[hdR,hdO,hdC]
 rw[e0]at q0;have q1:(w1.setCell ⟨ga,0,none⟩ (.slice A' x.h.ps.length c')).heap[ga+1]?=some (.cells (hdC hd0) 52 (0,0)):=(Below.heap_setCell w1 ⟨ga,0,none⟩ _ (ga+1) sI).trans z1;have hr:zA (w1.setCell ⟨ga,0,none⟩ (.slice A' x.h.ps.length c')) ga 0 38=some (hdR ⟨x.h,A',c'⟩):=by unfold zA;rw[q0];simp[hdR]
 have r:=y9 (P:=prog) kJ (w1.setCell ⟨ga,0,none⟩ (.slice A' x.h.ps.length c')) (ga+1) (hdC hd0) (hdR ⟨x.h,A',c'⟩) _ q1 sI (by simp[hdR]) (gX _ (cX ⟨x.h,A',c'⟩));have f:=dH (setRow_heap (w1.setCell ⟨ga,0,none⟩ (.slice A' x.h.ps.length c')) (ga+1) _ (hdR ⟨x.h,A',c'⟩) _ _ q1);have hk:z9 [ga,ga+1] w1 ((w1.setCell ⟨ga,0,none⟩ (.slice A' x.h.ps.length c')).setRow (ga+1) (hdR ⟨x.h,A',c'⟩)):=z9.trans (S:=[ga,ga+1]) (S':=[ga+1]) ((z9.setCell w1 ⟨ga,0,none⟩ _).mono sI) (rM _ _ _) sI;have j:Below w.heap.size w ((w1.setCell ⟨ga,0,none⟩ (.slice A' x.h.ps.length c')).setRow (ga+1) (hdR ⟨x.h,A',c'⟩)):=(HB.out.trans (hb.mono HB.out.size)).trans (hk.below (Nat.le_trans HB.out.size hb.size) (oS g.out));have s:ga+1<W.heap.size:=(aG x1).1;have k:=dH ((ho.kept hk (λy hy=>oS (ho.at_base hy))).mono (by have:=g.out;omega:w.heap.size<=W.heap.size));have m:=dH j;clear hk j c1 ho hb z0 z1 q0 q1 e0 x0 x1 y0;(go_wp2_with fail);refine bodyPost_ret (results_cell_row results102 _ _ (ga+1) 52 (hdR ⟨x.h,A',c'⟩) (0,0) _ rfl f.out underlying52 rfl (by rw[k7];exact kJ)) rfl ?_;exact⟨A',c',rfl,k.out,m.out⟩
theorem Own.cap0{B E:Nat}{n cap:Nat}(h:Own w B E k A n cap L)(hA:A=none):cap=0:=by
 obtain⟨⟨_,h2⟩,_,_⟩:=h;rcases h2 with⟨e,_⟩ | ⟨g,c,cur,e,_⟩
 ·injection e
 ·injection e with e;rw[hA]at e;cases e
theorem ZD(w:World)(g:Nat)(F:List Nat)(D:List HdX)(h:kC w g F D)(t:ByteArray)(ht:bU t)(hD:D.length<=1000000) :
  Calls prog 45 #[.pointer (some ⟨g,0,none⟩),.string t] w λe w'=>∃s:Sl,e=.returned (slV s)/\s.n=(jC D t).length/\Own w' w.heap.size 31 32 s.A s.n s.c ((jC D t).map idC)/\Below w.heap.size w w':=by
 obtain⟨bh,bp,bt,bc,N,Tm,Cm,h,rfl⟩:=h;obtain⟨c0,_,c2,_⟩:=h.c0 w (Below.refl _ _);obtain⟨⟨A,n,cap⟩,hl,ho,_⟩:=h.tm.get dM underlying99 ht;have d:(jC D t).length=n:=by simpa using ho.len
 have j:=hl w (Below.refl _ _);have hn:n<=1000000:=by rw[<-d];exact Nat.le_trans (by unfold jC;simpa using length_filter_le _ D) hD
 have cN:=mB w g bh c0;have cc:=rG w A n cap (jC D t) ho.slr hn ho.cap0;have f:=dH d;unfold slV at j |-;clear h hl ho d;go_enter func45,ntmps45
 (go_wp2_with fail);refine cN.mono ?_;rintro e w' ⟨rfl,rfl⟩;clear cN;(go_wp2_with fail);refine cc.mono ?_;rintro e w1 ⟨A',c',rfl,ho,hb⟩;have HF:=dH (And.intro ho hb);clear cc ho hb j;(go_wp2_with fail);go_ret;exact⟨⟨A',n,c'⟩,rfl,f.out.symm,HF.out.1,HF.out.2⟩
theorem lB(w:World)(g:Nat)(F:List Nat)(D:List HdX)(h:kC w g F D)(c:zB)(hD:D.length<=1000000) :
  Calls prog 72 #[.pointer (some ⟨g,0,none⟩),.agg (idC c)] w λe w'=>∃s:Sl,e=.returned (slV s)/\s.n=(vD D c).length/\Own w' w.heap.size 31 32 s.A s.n s.c ((vD D c).map idC)/\Below w.heap.size w w':=by
 obtain⟨bh,bp,bt,bc,N,Tm,Cm,h,rfl⟩:=h;have hB:Below w.heap.size w (w.alloc (.cells (idC c) 31)):=bA;have f:zA (w.alloc (.cells (idC c) 31)) w.heap.size 0 32=some (idC c):=by simp[go_sem]
 obtain⟨W,hW⟩:=eR (w.alloc (.cells (idC c) 31))
 obtain⟨ga,j⟩:=eX w.heap.size
 rw[<-hW]at f hB;rw[j]at f;obtain⟨c0,_,_,c3⟩:=h.c0 W hB;obtain⟨⟨A,n,cap⟩,hl,ho,_⟩:=h.cm.get jA underlying100 (k:=c) trivial;have d:(vD D c).length=n:=by simpa using ho.len
 have t:∀x:Subtype (Bel W),(Instr.lookup 100 (.map (some bc)) (.agg (idC c)) false).run prog x.1=.ok (.slice A n cap) x.1:=λx=>hl x.1 (hB.trans (x.2.mono hB.size));have hn:n<=1000000:=by rw[<-d];exact Nat.le_trans (by unfold vD;simpa using length_filter_le _ D) hD
 have cN:=mB W g bh c0;have cc:=fun (V:World) (hV:Below W.heap.size W V)=>rG V A n cap (vD D c) (SlR.below ho.slr (hB.trans (hV.mono hB.size))) hn ho.cap0;have m:=dH d;have HW:=dH hW;have HB:=dH hB;have B:=dH j;unfold slV;clear h hl ho d hW hB j;go_enter func72,ntmps72
 (go_wp2_with fail);rw[<-HW.out,B.out];refine cN.mono ?_;rintro e w' ⟨rfl,rfl⟩;clear cN;go_upto_region 3 with fail
 refine lX W ?_;intro r hS;have b1:=zK c3;have b2:=zS f;refine lQ ?_;intro K hK;refine(cc _ hS).mono ?_;rintro e w1 ⟨A',c',rfl,ho,hb⟩;have HF:=dH (ho.mono (Nat.le_trans HB.out.size (show W.heap.size<=_ from hS.size)));replace hS:=xL hS hb;refine⟨_,rfl,hS,hK _ _ ?_⟩;clear hK K hb ho;refine lZ ?_;refine zD ?_;intro hS;have y:=dH (yK HB.out hS);clear r hS b1 b2 t cc;(go_wp2_with fail);go_ret;exact⟨⟨A',n,c'⟩,rfl,m.out.symm,HF.out,y.out⟩
theorem idset_new(w:World):jS (w.alloc (.map #[] 0)) w.heap.size []:=⟨[],_,_,yL.new w w.heap.size rfl,sI⟩
theorem dag_new(w:World):Calls prog 25 #[] w λe w'=>∃g F,e=.returned (.pointer (some ⟨g,0,none⟩))/\kC w' g F []/\(∀x∈F,w.heap.size<=x)/\Below w.heap.size w w':=by
 have y:=@run_makeMap prog;go_enter func25,ntmps25
 (go_wp2_with fail);go_ret;have k1:=z9.alloc w (.map #[] 0);have m1:=yL.new (kv:=idV) (vv:=hdVA) (ok:=vN) w w.heap.size rfl;obtain⟨w1,s⟩:=eR (w.alloc (.map #[] 0))
 have z1:w1.heap.size=w.heap.size+1:=by rw[s];simp
 rw[<-s]at m1 k1 |-;have k2:=z9.alloc w1 (.map #[] 0);have m2:=idset_new w1;obtain⟨w2,r⟩:=eR (w1.alloc (.map #[] 0))
 have z2:w2.heap.size=w.heap.size+1+1:=by rw[r];simp[z1]
 rw[<-r]at m2 k2 |-;have k3:=z9.alloc w2 (.map #[] 0);have m3:=kB.new (kv:=Value.string) (ok:=bU) w2 w2.heap.size rfl;obtain⟨w3,m⟩:=eR (w2.alloc (.map #[] 0))
 have z3:w3.heap.size=w.heap.size+1+1+1:=by rw[m];simp[z2]
 rw[<-m]at m3 k3 |-;have k4:=z9.alloc w3 (.map #[] 0);have m4:=kB.new (kv:=idV) (ok:=vN) w3 w3.heap.size rfl;obtain⟨w4,k⟩:=eR (w3.alloc (.map #[] 0))
 have z4:w4.heap.size=w.heap.size+1+1+1+1:=by rw[k];simp[z3]
 rw[<-k]at m4 k4 |-;rw[z1]at m2;rw[z2]at m3;rw[z3]at m4;have k5:=z9.alloc w4 (.cells (dagC w.heap.size (w.heap.size+1) (w.heap.size+1+1) (w.heap.size+1+1+1)) 102);have hg:=heap_alloc_new w4 (.cells (dagC w.heap.size (w.heap.size+1) (w.heap.size+1+1) (w.heap.size+1+1+1)) 102 (0,0));rw[z4]at hg;have d:=z9.trans k4 k5 sI;have f:=z9.trans k3 d sI;have j:=z9.trans k2 f sI;have t:=z9.trans k1 j sI;refine⟨w.heap.size+1+1+1+1,_,rfl,⟨w.heap.size,w.heap.size+1,w.heap.size+1+1,w.heap.size+1+1+1,[],[],[],⟨hg,⟨_,_,m1.kept j sI⟩,Perm.refl _,sI,m2.kept f sI,m3.kept d sI sI,m4.kept k5 sI sI,sO,by simp[psF,slF]⟩,rfl⟩,λx hx=>?_,t.below lR sI⟩;simp[psF,slF]at hx;omega
@[go_sem] theorem bdHd0(w:World):(bdS 52 #[]).run prog w=.ok (.agg (hdC hd0)) w:=kR
theorem dag_get(w:World)(g:Nat)(F:List Nat)(D:List HdX)(h:kC w g F D)(hn:(qT D).Nodup)(a:zB)(E:∀x,kZ D a=some x->x.ps.length<=1000000) :
  Calls prog 48 #[.pointer (some ⟨g,0,none⟩),.agg (idC a)] w λe w'=>((∃x A' c',kZ D a=some x/\e=.returned (.tuple #[.agg (hdR ⟨x,A',c'⟩),.int .i64 0])/\Own w' w.heap.size 31 32 A' x.ps.length c' (x.ps.map idC))\/(kZ D a=none/\e=.returned (.tuple #[.agg (hdC hd0),.int .i64 7])))/\Below w.heap.size w w':=by
 obtain⟨bh,bp,bt,bc,N,Tm,Cm,h,rfl⟩:=h;have hB:Below w.heap.size w ((w.alloc (.cells (idC a) 31)).alloc (.cells (hdC hd0) 52)):=(bA).alloc sI _;have m:zA ((w.alloc (.cells (idC a) 31)).alloc (.cells (hdC hd0) 52)) w.heap.size 0 32=some (idC a):=by
  rw[zH (Below.heap_alloc _ _ _ sI)];simp[go_sem]
 have x1:((w.alloc (.cells (idC a) 31)).alloc (.cells (hdC hd0) 52)).heap[w.heap.size+1]?=some (.cells (hdC hd0) 52 (0,0)):=by
  have:=heap_alloc_new (w.alloc (.cells (idC a) 31)) (.cells (hdC hd0) 52)
  rwa [(sI:(w.alloc (.cells (idC a) 31)).heap.size=w.heap.size+1)]at this
 obtain⟨W,hW⟩:=eR ((w.alloc (.cells (idC a) 31)).alloc (.cells (hdC hd0) 52))
 obtain⟨ga,H⟩:=eX w.heap.size
 rw[<-hW]at m hB x1;rw[H]at m x1;have c0:=(h.c0 W hB).1;obtain⟨gb,M⟩:=eX W.heap.size
 have c1:=mB W g bh c0;have HW:=dH hW;have HB:=dH hB;have B:=dH H;have I:=dH M;have Y:=h.look hn a;have d:=h.ps;clear hW hB H M h;have s:ga+1<W.heap.size:=(aG x1).1;rcases Y with⟨x,hx,he,hl⟩ | ⟨he,hl⟩
 ·have ho:=d _ hx;have L:=E _ he;rw[he];have hl:∀y:Subtype (Bel W),(Instr.lookup 98 (.map (some bh)) (.agg (idC a)) true).run prog y.1=.ok (.tuple #[.agg (hdR x),.bool true]) y.1:=λy=>hl y.1 (HB.out.trans (y.2.mono HB.out.size)) true;have cc:=fun (V:World) (hV:Below w.heap.size w V)=>JD V ⟨x.h,x.A,x.c⟩ (SlR.below ho.slr hV) L ho.cap0;have r:=mI W W.heap.size rfl (hdC hd0) sI (hdO x.h x.A x.c) (cX x) 52;clear d E hx he ho L;go_enter func48,ntmps48
  (go_wp2_with fail);rw[<-HW.out,B.out];refine c1.mono ?_;rintro e w' ⟨rfl,rfl⟩;clear c1;go_upto_region 3 with fail
  refine lX W ?_;intro G hS;have b1:=zK c0;have b2:=zS m;refine lZ ?_;have t:=hS;refine lH ?_;intro K hK;refine zI (fH hS _) (λhS=>?_);refine hK _ _ ?_;clear hK K;refine lH ?_;intro K hK;refine zI (fH t (.cells (hdR x) 52)) (λhS=>?_);refine hK _ _ ?_;clear hK K;refine lZ ?_;refine zD ?_;intro hS;have T:zA (W.alloc (.cells (hdR x) 52)).drew gb 0 38=some (hdR x):=by rw[<-I.out];simp[go_sem,hdR]
  have f:Below W.heap.size W (W.alloc (.cells (hdR x) 52)).drew:=hS;rw[show(W.alloc (.cells (hdC (hdO x.h x.A x.c)) 52)).drew=(W.alloc (.cells (hdR x) 52)).drew from rfl,I.out];obtain⟨Z,hZ⟩:=eX ((W.alloc (.cells (hdR x) 52)).drew)
  rw[hZ]at f T |-;have z1:=(f.block (ga+1) s).trans x1;have c2:=cc Z (HB.out.trans (f.mono HB.out.size));have j:=dH (HB.out.trans (f.mono HB.out.size));have Hz:ga+1<Z.heap.size:=(aG z1).1;clear G hS t b1 b2 hl r cc hZ f x1 c0 m s;(go_wp2_with fail);refine c2.mono ?_;rintro e w1 ⟨A',c',rfl,ho,hb⟩;have z2:=(hb.block (ga+1) Hz).trans z1;have r:=y9 (P:=prog) kJ w1 (ga+1) (hdC hd0) (hdR ⟨x.h,A',c'⟩) _ z2 sI (by simp[hdR]) (gX _ (cX ⟨x.h,A',c'⟩));have k:=dH (setRow_heap w1 (ga+1) _ (hdR ⟨x.h,A',c'⟩) _ _ z2);have hk:=rM w1 (ga+1) (hdR ⟨x.h,A',c'⟩);have O:Below w.heap.size w (w1.setRow (ga+1) (hdR ⟨x.h,A',c'⟩)):=(j.out.trans (hb.mono j.out.size)).trans (hk.below (Nat.le_trans j.out.size hb.size) (oS B.out));have X:=dH ((ho.kept hk (λy hy=>oS (ho.at_base hy))).mono j.out.size);have J:=dH O;clear hk O c2 ho hb z1 z2 Hz;(go_wp2_with fail);refine bodyPost_ret (yZ results48 _ _ (ga+1) 52 (hdR ⟨x.h,A',c'⟩) (0,0) _ rfl k.out underlying52 rfl (by rw[k7];exact kJ)) rfl ?_;exact⟨.inl ⟨x.h,A',c',rfl,rfl,X.out⟩,J.out⟩
 ·rw[he];have hl:∀y:Subtype (Bel W),(Instr.lookup 98 (.map (some bh)) (.agg (idC a)) true).run prog y.1=.ok (.tuple #[.agg (hdC hd0),.bool false]) y.1:=λy=>hl y.1 (HB.out.trans (y.2.mono HB.out.size)) true;have r:=mI W W.heap.size rfl (hdC hd0) sI hd0 cZ 52;clear d E he;go_enter func48,ntmps48
  (go_wp2_with fail);rw[<-HW.out,B.out];refine c1.mono ?_;rintro e w' ⟨rfl,rfl⟩;clear c1;go_upto_region 3 with fail
  refine lX W ?_;intro G hS;have b1:=zK c0;have b2:=zS m;refine lZ ?_;have t:=hS;refine lH ?_;intro K hK;refine zI (fH hS _) (λhS=>?_);refine hK _ _ ?_;clear hK K;refine lH ?_;intro K hK;refine hK _ _ ?_;clear hK K;refine lZ ?_;refine zD ?_;intro hS;have f:Below W.heap.size W (W.alloc (.cells (hdC hd0) 52)).drew:=hS;rw[I.out];obtain⟨Z,hZ⟩:=eX ((W.alloc (.cells (hdC hd0) 52)).drew)
  rw[hZ]at f |-;have z1:=(f.block (ga+1) s).trans x1;have R:=y9 (P:=prog) kJ Z (ga+1) (hdC hd0) (hdC hd0) _ z1 sI sI (gX _ cZ);have k:=dH (setRow_heap Z (ga+1) _ (hdC hd0) _ _ z1);have hk:=rM Z (ga+1) (hdC hd0);have j:=HB.out.trans (f.mono HB.out.size);have J:=dH (j.trans (hk.below j.size (oS B.out)));clear G hS t b1 b2 hl r hZ f x1 c0 m s hk j z1;(go_wp2_with fail);refine bodyPost_ret (yZ results48 _ _ (ga+1) 52 (hdC hd0) (0,0) _ rfl k.out underlying52 rfl (by rw[k7];exact kJ)) rfl ?_;exact⟨.inr (by first | exact⟨rfl,rfl⟩ | exact⟨trivial,rfl⟩),J.out⟩
abbrev iC(x:Int):Array Value:=#[.int .i64 x]
def YJ(L:List Int):Int:=L.foldl max 0
theorem XK:∀(L:List Int) (m:Int),0<=m->m<=1073741824->(∀x∈L,x<=1073741824)->0<=L.foldl max m/\L.foldl max m<=1073741824
 | [],m,h0,h1,_=>⟨h0,h1⟩
 | x :: L,m,h0,h1,h=>XK L (max m x) oM (oH (h x sI)) (λy hy=>h y (by simp[hy]))
theorem topL_step(L:List Int)(hk:k<L.length):YJ (L.take (k+1))=max (YJ (L.take k)) L[k]:=by
 unfold YJ;rw[take_succ_eq_append_getElem hk,foldl_append];rfl
theorem rule_above(w:World)(A:Option Addr)(n cap:Nat)(L:List Int)(h:SlR w A n 1 (L.map iC))(hL:∀x∈L,x<=1073741824)(hn:n<=1000000) :
  Calls prog 231 #[.slice A n cap] w λe w'=>e=.returned (.int .i64 (YJ L+1))/\w=w':=by
 have d:L.length=n:=by simpa using h.1
 obtain⟨t1,t2⟩:=XK L 0 oM oM hL;have HT:=dH (show 0<=YJ L/\YJ L<=1073741824 from⟨t1,t2⟩);clear t1 t2;go_enter func231,ntmps231
 go_upto_region 3 with fail
 go_loopw [3,5,8] (λm _ i wr=>∃(k:Nat) (v:Int),k<=n/\i=.int .i64 k/\m=.int .i64 v/\Hid (YJ (L.take k)=v)/\w=wr) (λ_ _ i _=>n-(intOf i).toNat)
 case atStart=>exact⟨0,0,zL,rfl,rfl,(show _=_ from rfl),rfl⟩
 case round =>
  obtain⟨k,v,hk,rfl,rfl,hg,rfl⟩:=hrel;by_cases r:k<n
  ·have g:k<L.length:=oM;obtain⟨q,o,rfl,hr⟩:=h.at_ r;rw[getElem_map]at hr;have hgs:=topL_step L g;rw[hg.out]at hgs;obtain⟨x,hx⟩:=eX (L[k]'g)
   rw[hx]at hr hgs;have hc:w.cell? ⟨q,o+k,none⟩=some (.int .i64 x):=by
    have:=zC hr (j:=0) oM;simpa using this
   have s:=dH hgs;clear hgs hx hg hr d;(go_wp2_with fail);exact⟨⟨k+1,_,oM,rfl,rfl,s,trivial⟩,by simp only[intOf];omega⟩
  ·have f:L.take k=L:=take_of_length_le oM;have Hg:Hid (YJ L=v):=(show _=_ by rw[<-f];exact hg.out)
   have y:0<=v:=by rw[<-Hg.out];exact HT.out.1
   have t:v<=1073741824:=by rw[<-Hg.out];exact HT.out.2
   clear f hg;(go_wp2_with fail);go_ret;exact⟨yA (by rw[Hg.out]),rfl⟩
theorem einfoIn8:yR prog 308 3 1 8 :=
 .of (z:=.int .i64 0) underlying308 kR kR kR rfl oM
theorem infoIn8:∃i,prog.info? 3=some i/\i.zero=some (.int .i64 0)/\i.size=1/\i.bytes=8:=by
 have h:(prog.info? 3).map (λi=>(i.zero,i.size,i.bytes))=some (some (.int .i64 0),1,8):=kR;cases e:prog.info? 3 with
 | none=>rw[e]at h;cases h
 | some i =>
  rw[e]at h;injection h with h;injection h with h1 h;injection h with h2 h3
  exact⟨i,rfl,h1,h2,h3⟩
theorem iC_one(x:Int):∀u∈(iC x).toList,u.oneCell'=true:=by intro u hu;simp at hu;subst hu;rfl
theorem mkInts(w:World)(n:Nat)(hn:n<=1000000):∃w',(Instr.makeSlice 308 (.int .i64 0) (.int .i64 n)).run prog w=.ok (.slice (some ⟨w.heap.size,0,none⟩) 0 n) w'/\Own w' w.heap.size 3 1 (some ⟨w.heap.size,0,none⟩) 0 n []/\Below w.heap.size w w':=by
 obtain⟨i,h1,h2,h3,h4⟩:=infoIn8;obtain⟨w',e1,e2,e3⟩:=run_makeSlice_owned (P:=prog) (w:=w) w.heap.size 308 3 i (.int .i64 0) 1 underlying308 h1 h2 h3 .i64 .i64 n oM (by rw[h4];omega) (by unfold maxLen;omega) lR;refine⟨w',e1,⟨e2,rfl,sI⟩,(z9.grown e3).below lR sI⟩
theorem qo(w:World)(A:Option Addr)(n cap:Nat)(L:List Hd)(h:SlR w A n 38 (L.map hdC))(ho:∀x∈L,x.ps.oneCell'=true)(hn:n<=100000) :
  Calls prog 170 #[.slice A n cap] w λe w'=>e=.returned (.int .i64 (YJ (L.map λx=>min x.ht 1073741824)+1))/\Below w.heap.size w w':=by
 have f:L.length=n:=by simpa using h.1
 obtain⟨W,B,d,hB⟩:=mkInts w n oM;have N:=dH f;have HW:Hid (w.heap.size<=W.heap.size):=dH hB.size;go_enter func170,ntmps170
 go_upto_region 3 with fail
 go_loopw [3,5,11] (λl _ i wr=>∃(k:Nat) (A':Option Addr) (c':Nat),k<=n/\i=.int .i64 k/\l=.slice A' k c'/\Own wr w.heap.size 3 1 A' k c' ((L.take k).map λx=>iC (min x.ht 1073741824))/\Below w.heap.size w wr) (λ_ _ i _=>n-(intOf i).toNat)
 case atStart=>exact⟨0,_,_,zL,rfl,rfl,by simpa using d,hB⟩
 case round =>
  obtain⟨k,A',c',hk,rfl,rfl,g,hb⟩:=hrel;by_cases G:k<n
  ·have r:k<L.length:=oM;obtain⟨q,o,rfl,hr⟩:=(SlR.below h hb).at_ G;rw[getElem_map]at hr;obtain⟨x,hx⟩:=eX (L[k]'r)
   have T:x.ps.oneCell'=true:=by rw[<-hx];exact ho _ (getElem_mem r)
   have hgs:(L.take (k+1)).map (λx=>iC (min x.ht 1073741824))=(L.take k).map (λx=>iC (min x.ht 1073741824)) ++ [iC (min x.ht 1073741824)]:=by
    rw[take_succ_eq_append_getElem r,map_append,hx];rfl
   rw[hx]at hr;have O:=dH hgs;have m:Below wr.heap.size wr ((wr.alloc (.cells (hdC x) 52)).alloc (.cells (iC (min x.ht 1073741824)) 3)):=(bA).alloc sI _;have t:=g.below m;have j:zA ((wr.alloc (.cells (hdC x) 52)).alloc (.cells (iC (min x.ht 1073741824)) 3)) (wr.heap.size+1) 0 1=some (iC (min x.ht 1073741824)):=by simp[go_sem]
   have M:∀y∈blk A',w.heap.size<=y:=λy hy=>(g.at_base hy).1;have J:w.heap.size<=((wr.alloc (.cells (hdC x) 52)).alloc (.cells (iC (min x.ht 1073741824)) 3)).heap.size:=Nat.le_trans hb.size m.size;have E:=dH (hb.trans (m.mono hb.size));clear hgs hx f B d hB m g hb;go_wp2_with (at_builtin;refine xN einfoIn8 rfl t rfl j (iC_one _) oM oM J ?_;clear t j;intro A2 s w2 F I R)
   exact⟨⟨k+1,A2,s,oM,rfl,rfl,by rw[O.out];exact F,E.out.trans (I.below E.out.size M)⟩,by simp only[intOf];omega⟩
  ·have H:k=n:=oM;subst H;have D:L.take k=L:=take_of_length_le oM;rw[D]at g;have ca:=rule_above wr A' k c' (L.map λx=>min x.ht 1073741824) (by rw[map_map];exact g.slr) (by intro x hx;obtain⟨y,_,rfl⟩:=mem_map.1 hx;omega) oM;have HF:=dH hb;clear D B d hB f hb g;(go_wp2_with fail);refine ca.mono ?_;rintro e w' ⟨rfl,rfl⟩;clear ca;(go_wp2_with fail);go_ret;exact⟨rfl,HF.out⟩
theorem unkX_step(ps:List zB)(hk:k<ps.length):sF D (ps.take (k+1))=if decide (ps[k]∈qT D)=true then sF D (ps.take k)else sF D (ps.take k) ++ [ps[k]]:=by
 unfold sF;rw[take_succ_eq_append_getElem hk,filter_append];by_cases h:ps[k]∈qT D
 ·rw[if_pos (decide_eq_true h)];simp[h]
 ·rw[if_neg (by simpa using h)];simp[h]
theorem unkX_len(D:List HdX)(ps:List zB):(sF D ps).length<=ps.length:=length_filter_le _ _
theorem kw(w:World)(g:Nat)(F:List Nat)(D:List HdX)(h:kC w g F D)(a2:(qT D).Nodup)(x:fZ)(hT:zX w x.A x.h.ps.length x.h.ps)(hn:x.h.ps.length<=100000) :
  Calls prog 169 #[.pointer (some ⟨g,0,none⟩),.agg (hdR x)] w λe w'=>∃s:Sl,e=.returned (slV s)/\s.n=(sF D x.h.ps).length/\Own w' w.heap.size 31 32 s.A s.n s.c ((sF D x.h.ps).map idC)/\Below w.heap.size w w':=by
 obtain⟨hv,A0,c0⟩:=x;have hB:Below w.heap.size w (w.alloc (.cells (hdR ⟨hv,A0,c0⟩) 52)):=bA;have x0:(w.alloc (.cells (hdR ⟨hv,A0,c0⟩) 52)).cell? ⟨w.heap.size,0,none⟩=some (.slice A0 hv.ps.length c0):=by simp[go_sem,hdR,hdO]
 obtain⟨R,hR⟩:=eX hv.ps
 simp only[hR]at x0 hT hn |-;have hd:=h;obtain⟨bh,bp,bt,bc,N,Tm,Cm,hi,_⟩:=h;have cN:=mB _ g bh (hi.c0 _ hB).1;clear hi;go_enter func169,ntmps169
 (go_wp2_with fail);refine cN.mono ?_;rintro e w' ⟨rfl,rfl⟩;clear cN;go_upto_region 5 with fail
 go_loopw [5,7,13] (λl _ i wr=>∃(k:Nat) (A:Option Addr) (n cap:Nat),k<=R.length/\i=.int .i64 k/\l=.slice A n cap/\Hid (n=(sF D (R.take k)).length)/\Own wr w.heap.size 31 32 A n cap ((sF D (R.take k)).map idC)/\Below w.heap.size w wr) (λ_ _ i _=>R.length-(intOf i).toNat)
 case atStart=>exact⟨0,none,0,0,zL,rfl,rfl,(show _=_ from rfl),Own.nil _ _ _ _,hB⟩
 case round =>
  obtain⟨k,A,n,cap,hk,rfl,rfl,j,ho,hb⟩:=hrel;have a8:n<=R.length:=by rw[j.out];exact Nat.le_trans (unkX_len _ _) sO
  by_cases E:k<R.length
  ·obtain⟨q,o,rfl,hr⟩:=zX.get (SlR.below hT hb) E E;have m:=unkX_step (D:=D) R E;obtain⟨p,hp⟩:=eX (R[k]'E)
   rw[hp]at hr m;have V:Below wr.heap.size wr (wr.alloc (.cells (idC p) 31)):=bA;have I:=hb.trans (V.mono hb.size);have r:zA (wr.alloc (.cells (idC p) 31)) wr.heap.size 0 32=some (idC p):=by simp[go_sem]
   have cH:=dag_has _ g F D (hd.below I) a2 p;have O:=ho.below V;obtain⟨t,ht⟩:=eX (decide (p∈qT D))
   rw[ht]at m cH;have G:wr.heap.size<(wr.alloc (.cells (idC p) 31)).heap.size:=sI;obtain⟨W,hW⟩:=eR (wr.alloc (.cells (idC p) 31))
   obtain⟨gp,T⟩:=eX wr.heap.size
   rw[<-hW]at I r cH O G;rw[T]at r G;have HW:=dH hW;have a6:=dH T;have d:=dH m;have a0:=dH I;clear hp ht V ho hb hd hB hW T m I;(go_wp2_with fail);rw[<-HW.out,a6.out];refine cH.mono ?_;rintro e w1 ⟨rfl,H⟩;have M:=((z9.of_below H).row G sI _ _).trans r;have B:=O.below H;have L:=dH (a0.out.trans (H.mono a0.out.size));clear cH r O H G;cases t with
   | true =>
    have d:=dH (d.out.trans (if_pos rfl));clear M;(go_wp2_with fail);go_roundw
    case rel=>exact⟨k+1,A,n,cap,oM,by go_num,rfl,(show _=_ by rw[d.out];exact j.out),by rw[d.out];exact B,L.out⟩
    case measure=>exact sZ
   | false =>
    have d:=dH (d.out.trans (if_neg (by decide)));have J:Below w1.heap.size w1 (w1.alloc (.cells (idC p) 31)):=bA;have Y:=B.below J;have f:zA (w1.alloc (.cells (idC p) 31)) w1.heap.size 0 32=some (idC p):=by simp[go_sem]
    have a4:w.heap.size<=(w1.alloc (.cells (idC p) 31)).heap.size:=Nat.le_trans L.out.size J.size;have a5:∀y∈blk A,w.heap.size<=y:=λy hy=>(B.at_base hy).1;have U:=dH (L.out.trans (J.mono L.out.size));clear J B;go_wp2_with (at_builtin;refine xN yP rfl Y rfl f (yN _) oM oM a4 ?_;clear Y f;intro A2 X w2 a1 a3 a7)
    go_roundw
    case rel=>exact⟨k+1,A2,n+1,X,oM,by go_num,rfl,(show _=_ by rw[d.out,length_append,<-j.out];rfl),by rw[d.out,map_append];exact a1,U.out.trans (a3.below U.out.size a5)⟩
    case measure=>exact sZ
  ·have Z:R.take k=R:=take_of_length_le oM;have HF:=dH (And.intro j.out (And.intro ho hb));rw[Z]at HF;clear Z j ho hb;(go_wp2_with fail);go_ret;exact⟨⟨A,n,cap⟩,rfl,HF.out⟩
theorem einfoHd:yR prog 253 52 38 104 :=
 .of (z:=.agg (hdC hd0)) underlying253 kR kR kR (k7 _) oM
@[go_sem ↓] theorem bsHd_rw(n:Nat)(parts:Array (Nat×Value)):Instr.buildSlice 253 n parts=bsS 253 n parts:=rfl
@[go_sem] theorem bsHd_run(w:World)(x:Hd):(bsS 253 1 #[(0,.agg (hdC x))]).run prog w=.ok (.slice (some ⟨w.heap.size,0,none⟩) 1 1) (w.alloc (.cells (hdC x) 52)) :=
 fK einfoHd oM w (hdC x) (k7 x)
theorem topX_topL(D:List HdX)(ps:List zB):topX D ps=YJ (ps.map λp=>min (htX D p) 1073741824)+1:=by
 unfold topX YJ;rw[foldl_map]
theorem fJ.lookHd{bh bp bt bc:Nat}{N:List (zB×fZ)}(h:fJ w g D bh bp bt bc N Tm Cm)(hn:(qT D).Nodup)(a:zB) :
  ∃v:Hd,v.ps.oneCell'=true/\v.ht=htX D a/\∀w2,Below w.heap.size w w2->(Instr.lookup 98 (.map (some bh)) (.agg (idC a)) false).run prog w2=.ok (.agg (hdC v)) w2:=by
 rcases h.look hn a with⟨x,_,he,hl⟩ | ⟨he,hl⟩
 ·exact⟨hdO x.h x.A x.c,cX x,by unfold htX;rw[he];rfl,λw2 hb=>hl w2 hb false⟩
 ·exact⟨hd0,cZ,by unfold htX;rw[he];rfl,λw2 hb=>hl w2 hb false⟩
theorem ku(w:World)(g:Nat)(F:List Nat)(D:List HdX)(h:kC w g F D)(c8:(qT D).Nodup)(x:fZ)(hT:zX w x.A x.h.ps.length x.h.ps)(hn:x.h.ps.length<=100000)(d8:x.h.tp.size<=9223372036854775807) :
  Calls prog 114 #[.pointer (some ⟨g,0,none⟩),.agg (hdR x)] w λe w'=>e=.returned (.int .i64 (gD D x.h))/\Below w.heap.size w w':=by
 obtain⟨hv,A0,c0⟩:=x;have hB:Below w.heap.size w (w.alloc (.cells (hdR ⟨hv,A0,c0⟩) 52)):=bA;have I:zA (w.alloc (.cells (hdR ⟨hv,A0,c0⟩) 52)) w.heap.size 0 38=some (hdR ⟨hv,A0,c0⟩):=by simp[go_sem,hdR]
 obtain⟨W,hW⟩:=eR (w.alloc (.cells (hdR ⟨hv,A0,c0⟩) 52))
 obtain⟨ga,b5⟩:=eX w.heap.size
 rw[<-hW]at hB I;rw[b5]at I;have HW:=dH hW;have HB:=dH hB;have f0:=dH b5;have ck:=J3 W hv A0 c0 (SlR.below hT hB) (by show hv.ps.length<=_;have:hv.ps.length<=100000:=hn;omega) d8;obtain⟨E,hE⟩:=eX (hdE hv)
 have m:gD D hv=if E≠0 then E else if sF D hv.ps≠[]then 11 else if topX D hv.ps≠hv.ht then 12 else 0:=by rw[<-hE];rfl
 rw[hE]at ck;obtain⟨V,hV⟩:=eX (gD D hv)
 show Calls prog 114 #[.pointer (some ⟨g,0,none⟩),.agg (hdR ⟨hv,A0,c0⟩)] w λe w'=>e=.returned (.int .i64 (gD D hv))/\Below w.heap.size w w';rw[hV]at m |-;have HV:=dH m;have T:=h;clear hW hB b5 hE m hV h;go_enter func114,ntmps114
 (go_wp2_with fail);rw[<-HW.out,f0.out];refine ck.mono ?_;rintro e w1 ⟨rfl,b7⟩;have U:=dH (HB.out.trans (b7.mono HB.out.size));have r:=((z9.of_below b7).row (zE I) sI _ _).trans I;clear ck I b7;by_cases B:E=0
 ·have e6:(E != 0)=false:=by rw[bne_eq_false_iff_eq];exact B
  have a0:=dH B;have cu:=kw w1 g F D (T.below U.out) c8 ⟨hv,A0,c0⟩ (SlR.below hT U.out) hn;clear B;(go_wp2_with fail);refine cu.mono ?_;rintro e w2 ⟨⟨A2,n2,c2⟩,rfl,s,_,b6⟩;have d:=((z9.of_below b6).row (zE r) sI _ _).trans r;have f:=dH (U.out.trans (b6.mono U.out.size));replace s:n2=(sF D hv.ps).length:=s;clear cu r b6;unfold slV;by_cases hu:sF D hv.ps = []
  ·have c9:n2=0:=by rw[s,hu];rfl
   subst c9;have HU:=dH hu;clear hu s;have q0:w2.cell? ⟨ga,0,none⟩=some (.slice A0 hv.ps.length c0):=by have:=zC d (j:=0) oM;rw[Nat.zero_add]at this;rw[this];simp[hdR,hdO,hdC]
   have q1:w2.cell? ⟨ga,1,none⟩=some (.int .i64 hv.ht):=by have:=zC d (j:=1) oM;rw[Nat.zero_add]at this;rw[this];simp[hdR,hdO,hdC]
   obtain⟨R,hR⟩:=eX hv.ps
   have c1:=HV;simp only[hR]at q0 hT hn HU c1;have e1:ga<w2.heap.size:=zE d;have d4:Hid (w.heap.size<=w2.heap.size):=dH f.out.size;clear d;go_upto_region 8 with fail
   go_loopw [6,8,22] (λl _ i wr=>∃(k:Nat) (A:Option Addr) (cap:Nat) (xs:List Hd),k<=R.length/\i=.int .i64 k/\l=.slice A k cap/\Hid (xs.map Hd.ht=(R.take k).map (htX D))/\Hid (∀x∈xs,x.ps.oneCell'=true)/\Own wr w2.heap.size 52 38 A k cap (xs.map hdC)/\Below w2.heap.size w2 wr) (λ_ _ i _=>R.length-(intOf i).toNat)
   case atStart=>exact⟨0,none,0,[],zL,rfl,rfl,(show _=_ from rfl),(sI:∀x∈[],_),Own.nil _ _ _ _,Below.refl _ _⟩
   case round =>
    obtain⟨k,A,cap,xs,hk,rfl,rfl,a5,O,ho,hb⟩:=hrel;by_cases a2:k<R.length
    ·obtain⟨q,o,rfl,hr⟩:=zX.get (SlR.below hT (f.out.trans (hb.mono f.out.size))) a2 a2;have a6:(R.take (k+1)).map (htX D)=(R.take k).map (htX D) ++ [htX D R[k]]:=by rw[take_succ_eq_append_getElem a2,map_append];rfl
     obtain⟨p,hp⟩:=eX (R[k]'a2)
     rw[hp]at hr a6;have b8:Below wr.heap.size wr (wr.alloc (.cells (idC p) 31)):=bA;have a8:zA (wr.alloc (.cells (idC p) 31)) wr.heap.size 0 32=some (idC p):=by simp[go_sem]
     have a4:=hb.trans (b8.mono hb.size);have G:=f.out.trans (a4.mono f.out.size);obtain⟨bh,bp,bt,bc,N,Tm,Cm,a3,_⟩:=T;obtain⟨v,c6,c5,c4⟩:=a3.lookHd c8 p;have a1:=ho.below b8;have d2:=(a3.c0 _ G).1;have f1:g<w.heap.size:=(aG a3.heap).1;obtain⟨Z,hZ⟩:=eR (wr.alloc (.cells (idC p) 31))
     obtain⟨gp,b4⟩:=eX wr.heap.size
     have b3:gp∉blk A:=λhx=>(oH ((ho.at_base hx).2));rw[<-hZ]at a8 a4 G a1 d2;rw[b4]at a8;have e2:g∉blk A:=λhx=>(by have:=(ho.at_base hx).1;have:=d4.out;omega);have e0:∀y:Subtype (Kp (blk A) Z),(Instr.lookup 98 (.map (some bh)) (.agg (idC p)) false).run prog y.1=.ok (.agg (hdC v)) y.1:=λy=>c4 y.1 (G.trans (y.2.below G.size (λz hz=>Nat.le_trans d4.out (a1.at_base hz).1)));have e8:=dH a6;have e7:=dH c5;have HZ:=dH hZ;have e9:=dH b4;have d6:=dH a4;clear b8 hp a6 c5 c4 hZ b4 ho hb a4 G a3;go_upto_region 10 with fail
     rw[<-HZ.out,e9.out];refine kX (blk A) Z ?_;intro a9 hS;have b1:=zG d2 e2;have b2:=zY a8 (S:=blk A) b3;refine lQ ?_;intro K hK;refine zI (z9.trans (z9.trans (z9.refl (blk A) Z) (z9.drew _) sI) (z9.alloc _ _) sI) (λe5=>?_);refine hK _ _ ?_;clear hK K;have b0:z9 [] Z (Z.drew.alloc (.cells (hdC v) 52)):=z9.trans (z9.drew Z) (z9.alloc _ _) sI;have L:=a1.kept b0 sI;have J:zA (Z.drew.alloc (.cells (hdC v) 52)) Z.heap.size 0 38=some (hdC v):=by simp[go_sem]
     have a7:=d6.out.size;refine mE einfoHd rfl L rfl J (gX v c6) oM oM sO ?_;intro A3 b9 w3 M d1 c7;refine zI (z9.trans (b0.mono (S':=blk A) sI) d1 iL) (λe4=>?_);refine lZ ?_;refine zD ?_;intro hS;have e3:Below w2.heap.size w2 w3:=d6.out.trans ((z9.trans (b0.mono (S':=blk A) sI) d1 iL).below a7 (λx hx=>(a1.at_base hx).1));clear a9 hS e5 e4 b1 b2 e0;(go_wp2_with fail);go_roundw
     case rel=>exact⟨k+1,A3,b9,xs ++ [v],oM,by go_num,rfl,(show _=_ by rw[e8.out,map_append,a5.out,<-e7.out];rfl),(show ∀x∈xs ++ [v],_ by
      intro x hx;rcases mem_append.1 hx with hx | hx
      ·exact O.out x hx
      ·rw[mem_singleton.1 hx];exact c6),by rw[map_append];exact M,e3⟩
     case measure=>exact sZ
    ·have d0:R.take k=R:=take_of_length_le oM;have c3:=(hb.cell (p:=⟨ga,1,none⟩) e1).trans q1;have d7:=congrArg List.length a5.out;have d9:k=R.length:=oM;subst d9;have ch:=fun (V:World) (hV:Below wr.heap.size wr V)=>qo V A R.length cap xs (SlR.below ho.slr hV) O.out oM;have H:YJ (xs.map λx=>min x.ht 1073741824)+1=topX D R:=by
      rw[topX_topL];have e:xs.map (λx=>min x.ht 1073741824)=(xs.map Hd.ht).map (λz=>min z 1073741824):=by rw[map_map];rfl
      rw[e,a5.out,d0,map_map];rfl
     simp only[H]at ch;obtain⟨X,hX⟩:=eX (topX D R)
     simp only[hX]at ch;have HX:=dH hX;have d5:=dH (f.out.trans (hb.mono f.out.size));clear d0 d7 H hX ho hb;obtain⟨Y,hY⟩:=eX hv.ht
     have HY:=dH hY;rw[hY]at c3;clear hY q1 q0;obtain⟨t,ht⟩:=eX (X != Y)
     go_upto_region 12 with fail
     refine lX wr ?_;intro a9 hS;have b1:=zK c3;refine lZ ?_;refine lC (ch _ hS) ?_;clear hS;intro w' hS;refine lZ ?_;refine zD ?_;intro hS;have d3:=dH (d5.out.trans (show Below w.heap.size wr _ from Below.mono hS d5.out.size));have HT:=dH ht;clear a9 hS b1 ch ht;cases t with
     | true =>
      (go_wp2_with fail);go_ret;exact⟨yA (by rw[c1.out,if_neg (by rw[a0.out];simp),if_neg (by rw[HU.out];simp),if_pos (by rw[HX.out,HY.out];exact bne_iff_ne.1 HT.out)]),d3.out⟩
     | false =>
      (go_wp2_with fail);go_ret;exact⟨yA (by rw[c1.out,if_neg (by rw[a0.out];simp),if_neg (by rw[HU.out];simp),if_neg (by rw[HX.out,HY.out];exact λh=>h (bne_eq_false_iff_eq.1 HT.out))]),d3.out⟩
  ·have c9:0<n2:=by rw[s];exact length_pos_iff.2 hu
   have HU:=dH hu;clear hu s;(go_wp2_with fail);go_ret;exact⟨yA (by rw[HV.out,if_neg (by rw[a0.out];simp),if_pos HU.out]),f.out⟩
 ·have e6:(E != 0)=true:=by rw[bne_iff_ne];exact B
  have a0:=dH B;clear B;(go_wp2_with fail);go_ret;exact⟨yA (by rw[HV.out,if_pos a0.out]),U.out⟩
section
theorem kB.getK{κ:Type}{kv:κ->Value}{ok:κ->Prop}{M:List (κ×Sl)}{f:κ->List zB}{K T:TypeId}(h:kB w b kv ok M f)(E:bH prog K kv ok)(ht:prog.underlying T=some (.map K 34)){k:κ}(hk:ok k) :
  ∃s:Sl,(∀w2 S,z9 S w w2->b∉S->(Instr.lookup T (.map (some b)) (kv k) false).run prog w2=.ok (slV s) w2)/\Own w 0 31 32 s.A s.n s.c ((f k).map idC)/\((k,s)∈M\/(k∉M.map (·.1)/\s=⟨none,0,0⟩))/\∀y∈blk s.A,y∈slF M:=by
 obtain⟨es,d,hm⟩:=h.map;by_cases hx:k∈M.map (·.1)
 ·obtain⟨q,hq,rfl⟩:=mem_map.1 hx;exact⟨q.2,λw2 S hb hn=>(hm.kept hb hn).hit E ht hk hq false,h.own q hq,.inl hq,λy hy=>mem_flatMap.2 ⟨q,hq,hy⟩⟩
 ·refine⟨⟨none,0,0⟩,λw2 S hb hn=>(hm.kept hb hn).miss E ht (lF w2) hk hx false,?_,.inr ⟨hx,rfl⟩,by simp[blk]⟩;rw[h.non k hx];exact Own.nil _ _ _ _
structure gQ(w:World)(g:Nat)(D:List HdX)(P:List zB)(ft:ByteArray->List zB)(fc:zB->List zB)(bh bp bt bc:Nat)(N:List (zB×fZ))(Tm:List (ByteArray×Sl))(Cm:List (zB×Sl)):Prop where
 heap:w.heap[g]?=some (.cells (dagC bh bp bt bc) 102 (0,0))
 hs:∃es clk,yL w bh idV hdVA vN N es clk
 perm:(N.map λp=>(⟨p.1,p.2.h⟩:HdX)).Perm D
 ps:∀p∈N,Own w 0 31 32 p.2.A p.2.h.ps.length p.2.c (p.2.h.ps.map idC)
 par:jS w bp P
 tm:kB w bt Value.string bU Tm ft
 cm:kB w bc idV vN Cm fc
 ne:[bh,bp,bt,bc].Nodup
 dis:(∀y∈psF N,y∉slF Tm/\y∉slF Cm)/\∀y∈slF Tm,y∉slF Cm
section
variable {w w1 w':World} {g:Nat} {D D':List HdX} {P:List zB} {ft:ByteArray->List zB} {fc:zB->List zB} {bh bp bt bc:Nat} {N:List (zB×fZ)} {Tm:List (ByteArray×Sl)} {Cm:List (zB×Sl)}
theorem fJ.g'(h:fJ w g D bh bp bt bc N Tm Cm):gQ w g D (V7 D) (jC D) (vD D) bh bp bt bc N Tm Cm:=⟨h.heap,h.hs,h.perm,h.ps,h.par,h.tm,h.cm,h.ne,h.dis⟩
theorem gQ.toIn(h:gQ w g D P ft fc bh bp bt bc N Tm Cm)(h1:∀z,z∈P↔z∈V7 D)(h2:∀t,jC D t=ft t)(h3:∀c,vD D c=fc c):fJ w g D bh bp bt bc N Tm Cm :=
 ⟨h.heap,h.hs,h.perm,h.ps,yM.congr h.par h1,h.tm.congr h2,h.cm.congr h3,h.ne,h.dis⟩
theorem gQ.toH(h:gQ w g D P ft fc bh bp bt bc N Tm Cm):ZQ w g D bh bp bt bc N:=⟨h.heap,h.hs,h.perm⟩
theorem gQ.far(h:gQ w g D P ft fc bh bp bt bc N Tm Cm):(∀y∈psF N++slF Tm++slF Cm,y≠g/\y≠bh/\y≠bp/\y≠bt/\y≠bc/\y<w.heap.size)/\g≠bh/\g≠bp/\g≠bt/\g≠bc/\g<w.heap.size/\bh<w.heap.size/\bp<w.heap.size/\bt<w.heap.size/\bc<w.heap.size:=by
 obtain⟨e1,c1,m1⟩:=h.hs;obtain⟨e2,c2,m2⟩:=J0 h.par;obtain⟨e3,c3,m3⟩:=h.tm.map;obtain⟨e4,c4,m4⟩:=h.cm.map;have hg:=h.heap;have hm:∀b es d,w.heap[b]?=some (.map es d)->g≠b/\b<w.heap.size:=λb es d hb=>⟨(λe=>by have j:=hb;rw[<-e,hg]at j;cases j),(aG hb).1⟩;refine⟨λy hy=>?_,(hm _ _ _ m1.heap).1,(hm _ _ _ m2).1,(hm _ _ _ m3.heap).1,(hm _ _ _ m4.heap).1,(aG hg).1,(hm _ _ _ m1.heap).2,(hm _ _ _ m2).2,(hm _ _ _ m3.heap).2,(hm _ _ _ m4.heap).2⟩;have hc:∃k,w.heap[y]?=some (.cells k 31 (0,0)):=by
  rcases mem_append.1 hy with hy | hy
  ·rcases mem_append.1 hy with hy | hy
   ·obtain⟨q,hq,hy⟩:=mem_flatMap.1 hy;exact wI (h.ps q hq) hy
   ·obtain⟨q,hq,hy⟩:=mem_flatMap.1 hy;exact wI (h.tm.own q hq) hy
  ·obtain⟨q,hq,hy⟩:=mem_flatMap.1 hy;exact wI (h.cm.own q hq) hy
 obtain⟨k,hc⟩:=hc;have f:∀b es d,w.heap[b]?=some (.map es d)->y≠b:=λb es d hb e=>(by rw[<-e,hc]at hb;cases hb);refine⟨λe=>?_,f _ _ _ m1.heap,f _ _ _ m2,f _ _ _ m3.heap,f _ _ _ m4.heap,(aG hc).1⟩;rw[e,hg]at hc;injection hc with hc;injection hc with _ hc _
 exact absurd hc (by decide)
theorem gQ.kept{S:List Nat}(h:gQ w g D P ft fc bh bp bt bc N Tm Cm)(k:z9 S w w')(hF:∀x∈g :: bh :: bp :: bt :: bc :: (psF N++slF Tm++slF Cm),x∉S):gQ w' g D P ft fc bh bp bt bc N Tm Cm:=by
 obtain⟨es,d,hm⟩:=h.hs;simp only[mem_cons,mem_append]at hF;exact⟨(k.block g (aG h.heap).1 (hF g (.inl rfl))).trans h.heap,⟨es,d,hm.kept k (hF bh sI)⟩,h.perm,λp hp=>(h.ps p hp).kept k λy hy=>hF y (.inr (.inr (.inr (.inr (.inr (.inl (.inl (mem_flatMap.2 ⟨p,hp,hy⟩)))))))),
  h.par.kept k (hF bp sI),h.tm.kept k (hF bt sI) λy hy=>hF y (.inr (.inr (.inr (.inr (.inr (.inl (.inr hy))))))),h.cm.kept k (hF bc sI) λy hy=>hF y (.inr (.inr (.inr (.inr (.inr (.inr hy)))))),h.ne,h.dis⟩
theorem gQ.below(h:gQ w g D P ft fc bh bp bt bc N Tm Cm)(hb:Below w.heap.size w w'):gQ w' g D P ft fc bh bp bt bc N Tm Cm:=h.kept (z9.of_below hb) sI
theorem gQ.putH(h:gQ w g D P ft fc bh bp bt bc N Tm Cm)(hb:Below w.heap.size w w1){i:zB}{x:fZ}(hx:i∉N.map (·.1))(ho:Own w1 w.heap.size 31 32 x.A x.h.ps.length x.c (x.h.ps.map idC))(hD:((⟨i,x.h⟩:HdX) :: D).Perm D') :
  ∃w2,(Instr.mapUpdate 98 (.map (some bh)) (.agg (idC i)) (.agg (hdR x))).run prog w1=.ok () w2/\z9 [bh] w1 w2/\gQ w2 g D' P ft fc bh bp bt bc (N ++ [(i,x)]) Tm Cm/\∀y∈psF (N ++ [(i,x)]),y∈psF N\/w.heap.size<=y:=by
 obtain⟨f1,f2,f3,f4,f5,f6,f7,f8,f9,F⟩:=h.far;have h1:=h.below hb;obtain⟨es,H,hm⟩:=h1.hs;obtain⟨w2,G,E,hr,s,f⟩:=hm.update (k:=i) (v:=x) jA underlying98 trivial;have m:bS N i x=N ++ [(i,x)]:=by unfold bS;rw[if_neg hx]
 rw[m]at s;have r:=h.ne;simp only[nodup_cons,mem_cons,not_mem_nil,or_false,not_or]at r;obtain⟨⟨n1,n2,n3⟩,_⟩:=r;have d:∀y∈blk x.A,w.heap.size<=y:=λy hy=>(ho.at_base hy).1;have j:∀y,y∈psF (N ++ [(i,x)])↔y∈psF N\/y∈blk x.A:=λy=>(by unfold psF;simp);have t:∀y∈slF Tm,y≠bh/\y<w.heap.size:=λy hy=>(by obtain⟨_,q,_,_,_,z⟩:=f1 y (by simp[hy]);exact⟨q,z⟩);have B:∀y∈slF Cm,y≠bh/\y<w.heap.size:=λy hy=>(by obtain⟨_,q,_,_,_,z⟩:=f1 y (by simp[hy]);exact⟨q,z⟩);refine⟨w2,hr,f,⟨(f.block g (aG h1.heap).1 (by simpa using f2)).trans h1.heap,⟨_,_,s⟩,?_,?_,h1.par.kept f (by simpa using λe=>n1 e.symm),h1.tm.kept f (by simpa using λe=>n2 e.symm) (λy hy=>by simpa using(t y hy).1),h1.cm.kept f (by simpa using λe=>n3 e.symm) (λy hy=>by simpa using(B y hy).1),h.ne,⟨λy hy=>?_,h.dis.2⟩⟩,λy hy=>((j y).1 hy).imp id (d y)⟩
 ·rw[map_append];exact(perm_append_comm.trans (Perm.cons _ h.perm)).trans hD
 ·intro p hp;rcases mem_append.1 hp with hp | hp
  ·exact(h1.ps p hp).kept f λy hy=>by
    obtain⟨_,q,_⟩:=f1 y (by simp only[mem_append];exact .inl (.inl (mem_flatMap.2 ⟨p,hp,hy⟩)));simpa using q
  ·rw[mem_singleton.1 hp];exact(ho.kept f λy hy=>oS (d y hy)).mono zL
 ·rcases (j y).1 hy with hy | hy
  ·exact h.dis.1 y hy
  ·have:=d y hy;exact⟨λhz=>oH ((t y hz).2),λhz=>oH ((B y hz).2)⟩
theorem gQ.putP(h:gQ w g D P ft fc bh bp bt bc N Tm Cm)(i:zB) :
  ∃w2,(Instr.mapUpdate 66 (.map (some bp)) (.agg (idC i)) (.bool true)).run prog w=.ok () w2/\z9 [bp] w w2/\gQ w2 g D (i :: P) ft fc bh bp bt bc N Tm Cm:=by
 obtain⟨f1,f2,f3,f4,f5,f6,f7,f8,f9,f⟩:=h.far;obtain⟨w2,hr,hp,hk⟩:=vl (x:=i) h.par;obtain⟨es,j,hm⟩:=h.hs;have d:=h.ne;simp only[nodup_cons,mem_cons,not_mem_nil,or_false,not_or]at d;obtain⟨⟨n1,n2,n3⟩,⟨n4,n5⟩,_⟩:=d;refine⟨w2,hr,hk,⟨(hk.block g f6 (by simpa using f3)).trans h.heap,⟨_,_,hm.kept hk (by simpa using n1)⟩,h.perm,λp hq=>(h.ps p hq).kept hk λy hy=>?_,hp,h.tm.kept hk (by simpa using λe=>n4 e.symm) (λy hy=>?_),h.cm.kept hk (by simpa using λe=>n5 e.symm) (λy hy=>?_),h.ne,h.dis⟩⟩
 ·obtain⟨_,_,q,_⟩:=f1 y (by simp only[mem_append];exact .inl (.inl (mem_flatMap.2 ⟨p,hq,hy⟩)));simpa using q
 ·obtain⟨_,_,q,_⟩:=f1 y (by simp[hy]);simpa using q
 ·obtain⟨_,_,q,_⟩:=f1 y (by simp[hy]);simpa using q
theorem gQ.putT(h:gQ w g D P ft fc bh bp bt bc N Tm Cm){k:ByteArray}(hk:bU k){s s':Sl}{l:List zB}(hs:(k,s)∈Tm\/(k∉Tm.map (·.1)/\s=⟨none,0,0⟩))(H:z9 (blk s.A) w w1)(ho:Own w1 0 31 32 s'.A s'.n s'.c (l.map idC))(hb:∀y∈blk s'.A,y∈blk s.A\/w.heap.size<=y) :
  ∃w2 t,(Instr.mapUpdate 99 (.map (some bt)) (.string k) (slV s')).run prog w1=.ok () w2/\z9 [bt] w1 w2/\gQ w2 g D P (λj=>if j=k then l else ft j) fc bh bp bt bc N t Cm/\∀y∈slF t,y∈slF Tm\/w.heap.size<=y:=by
 obtain⟨f1,f2,f3,f4,f5,f6,f7,f8,f9,I⟩:=h.far;have B:∀y∈blk s.A,y∈slF Tm:=λy hy=>by
  rcases hs with hs | ⟨_,e⟩
  ·exact mem_flatMap.2 ⟨_,hs,hy⟩
  ·rw[e]at hy;simp[blk]at hy
 obtain⟨w2,t,hr,ht,G,d⟩:=h.tm.put dM underlying99 hk hs H ho hb;obtain⟨es,J,hm⟩:=h.hs;have F:=h.ne;simp only[nodup_cons,mem_cons,not_mem_nil,or_false,not_or]at F;obtain⟨⟨n1,n2,n3⟩,⟨n4,n5⟩,n6,_⟩:=F;have m:z9 (bt :: blk s.A) w w2:=z9.trans (H.mono (S':=bt :: blk s.A) (λy hy=>.inl (mem_cons_of_mem _ hy))) (G.mono (S':=bt :: blk s.A) sI) (λy hy=>.inl hy);have r:∀y∈blk s.A,y≠g/\y≠bh/\y≠bp/\y≠bt/\y≠bc:=λy hy=>by
  obtain⟨q1,q2,q3,q4,q5,_⟩:=f1 y (by simp[B y hy]);exact⟨q1,q2,q3,q4,q5⟩
 have f:∀b,b≠bt->(∀y∈blk s.A,y≠b)->b∉bt :: blk s.A:=λb h1 h2 hb=>by
  rcases mem_cons.1 hb with e | e
  ·exact h1 e
  ·exact h2 b e rfl
 refine⟨w2,t,hr,G,⟨(m.block g f6 (f g f4 λy hy=>(r y hy).1)).trans h.heap,⟨_,_,hm.kept m (f bh n2 λy hy=>(r y hy).2.1)⟩,h.perm,λp hq=>(h.ps p hq).kept m λy hy=>?_,h.par.kept m (f bp n4 λy hy=>(r y hy).2.2.1),ht,h.cm.kept m (f bc (λe=>n6 e.symm) λy hy=>(r y hy).2.2.2.2) (λy hy=>?_),h.ne,⟨λy hy=>⟨λhz=>?_,(h.dis.1 y hy).2⟩,λy hy hz=>?_⟩⟩,d⟩
 ·have E:y∈psF N:=mem_flatMap.2 ⟨p,hq,hy⟩;obtain⟨_,_,_,q,_⟩:=f1 y (by simp[E]);exact f y q λz hz e=>(h.dis.1 y E).1 (e ▸ B z hz)
 ·obtain⟨_,_,_,q,_⟩:=f1 y (by simp[hy]);exact f y q λz hz e=>h.dis.2 z (B z hz) (e ▸ hy)
 ·rcases d y hz with h1 | h1
  ·exact(h.dis.1 y hy).1 h1
  ·obtain⟨_,_,_,_,_,q⟩:=f1 y (by simp[hy]);omega
 ·rcases d y hy with h1 | h1
  ·exact h.dis.2 y h1 hz
  ·obtain⟨_,_,_,_,_,q⟩:=f1 y (by simp[hz]);omega
theorem gQ.putC(h:gQ w g D P ft fc bh bp bt bc N Tm Cm){k:zB}{s s':Sl}{l:List zB}(hs:(k,s)∈Cm\/(k∉Cm.map (·.1)/\s=⟨none,0,0⟩))(H:z9 (blk s.A) w w1)(ho:Own w1 0 31 32 s'.A s'.n s'.c (l.map idC))(hb:∀y∈blk s'.A,y∈blk s.A\/w.heap.size<=y) :
  ∃w2 t,(Instr.mapUpdate 100 (.map (some bc)) (.agg (idC k)) (slV s')).run prog w1=.ok () w2/\z9 [bc] w1 w2/\gQ w2 g D P ft (λj=>if j=k then l else fc j) bh bp bt bc N Tm t/\∀y∈slF t,y∈slF Cm\/w.heap.size<=y:=by
 obtain⟨f1,f2,f3,f4,f5,f6,f7,f8,f9,I⟩:=h.far;have B:∀y∈blk s.A,y∈slF Cm:=λy hy=>by
  rcases hs with hs | ⟨_,e⟩
  ·exact mem_flatMap.2 ⟨_,hs,hy⟩
  ·rw[e]at hy;simp[blk]at hy
 obtain⟨w2,t,hr,ht,G,d⟩:=h.cm.put jA underlying100 (k:=k) trivial hs H ho hb;obtain⟨es,J,hm⟩:=h.hs;have F:=h.ne;simp only[nodup_cons,mem_cons,not_mem_nil,or_false,not_or]at F;obtain⟨⟨n1,n2,n3⟩,⟨n4,n5⟩,n6,_⟩:=F;have m:z9 (bc :: blk s.A) w w2:=z9.trans (H.mono (S':=bc :: blk s.A) (λy hy=>.inl (mem_cons_of_mem _ hy))) (G.mono (S':=bc :: blk s.A) sI) (λy hy=>.inl hy);have r:∀y∈blk s.A,y≠g/\y≠bh/\y≠bp/\y≠bt/\y≠bc:=λy hy=>by
  obtain⟨q1,q2,q3,q4,q5,_⟩:=f1 y (by simp[B y hy]);exact⟨q1,q2,q3,q4,q5⟩
 have f:∀b,b≠bc->(∀y∈blk s.A,y≠b)->b∉bc :: blk s.A:=λb h1 h2 hb=>by
  rcases mem_cons.1 hb with e | e
  ·exact h1 e
  ·exact h2 b e rfl
 refine⟨w2,t,hr,G,⟨(m.block g f6 (f g f5 λy hy=>(r y hy).1)).trans h.heap,⟨_,_,hm.kept m (f bh n3 λy hy=>(r y hy).2.1)⟩,h.perm,λp hq=>(h.ps p hq).kept m λy hy=>?_,h.par.kept m (f bp n5 λy hy=>(r y hy).2.2.1),h.tm.kept m (f bt n6 λy hy=>(r y hy).2.2.2.1) (λy hy=>?_),ht,h.ne,⟨λy hy=>⟨(h.dis.1 y hy).1,λhz=>?_⟩,λy hy hz=>?_⟩⟩,d⟩
 ·have E:y∈psF N:=mem_flatMap.2 ⟨p,hq,hy⟩;obtain⟨_,_,_,_,q,_⟩:=f1 y (by simp[E]);exact f y q λz hz e=>(h.dis.1 y E).2 (e ▸ B z hz)
 ·obtain⟨_,_,_,_,q,_⟩:=f1 y (by simp[hy]);exact f y q λz hz e=>h.dis.2 y hy (e ▸ B z hz)
 ·rcases d y hz with h1 | h1
  ·exact(h.dis.1 y hy).2 h1
  ·obtain⟨_,_,_,_,_,q⟩:=f1 y (by simp[hy]);omega
 ·rcases d y hz with h1 | h1
  ·exact h.dis.2 y hy h1
  ·obtain⟨_,_,_,_,_,q⟩:=f1 y (by simp[hy]);omega
end
end
end Go.Proofs.YtdjiaickicgdlaaGreatDoor
