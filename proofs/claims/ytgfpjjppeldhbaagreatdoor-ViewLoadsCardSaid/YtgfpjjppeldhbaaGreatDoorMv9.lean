/- Part 9 of the texts that lead to this claim: the walks of the functions and the plain law, in order. -/
import Derived.Test.YtgfpjjppeldhbaaGreatDoorMv8
import Derived.Laws.StructEq
namespace Go.Proofs.YtgfpjjppeldhbaaGreatDoor
open Go.RowKit
set_option maxRecDepth 100000
set_option maxHeartbeats 8000000
section
open Go.RowKit Go.Sort Go.Shelf
def jF(x:xW):List UInt8:=x.id.l++(beL 1 x.key.size++(x.key.data.toList++(beL 1 x.val.size++x.val.data.toList)))
def tW(O:List zE):List UInt8:=beL 4 O.length++O.flatMap zE.l
def rF(X:List xW)(O:List zE):List UInt8:=beL 4 X.length++X.flatMap jF++tW O
theorem n5(x:xW):(jF x).length=34+x.key.size+x.val.size:=by
 have e:x.val.data.toList.length=x.val.size:=Array.length_toList;have e2:x.key.data.toList.length=x.key.size:=Array.length_toList;simp only[jF,List.length_append,y6,x.id.h,e,e2];omega
theorem mgone(wS:World)(g bl b:Nat)(X:List xW)(L:List zE)(h:qB wS g bl b X L)(hn:L.length<=1000000) :
  Calls Tryz.prog 344 #[.pointer (some ⟨g,0,none⟩)] wS λe w'=>∃A cap,e=.returned (.slice A L.length cap)/\Own w' wS.heap.size 39 32 A L.length cap (L.map idC)/\Below wS.heap.size wS w':=by
 have a7:=h.over.lt;have hc:=h.cell1;have hr:=h.risO;obtain⟨w0,f,hR,U,a5⟩:=yS.range (P:=Tryz.prog) (kv:=idV) (ok:=gP) h.over Tryz.underlying75;go_enter Tryz.func344,Tryz.ntmps344
 (go_wp2_with fail);clear f hc h;go_loopw [3] (λout wr=>∃S A cap,out=.slice A S.length cap/\jW wr b wS.heap.size idV gP L S/\Own wr w0.heap.size 39 32 A S.length cap (S.map idC)/\Below wS.heap.size wS wr/\w0.heap.size<=wr.heap.size) (λ_ wr=>wr.rangeLeft b wS.heap.size)
 case atStart=>exact⟨[],none,0,rfl,hR,Own.nil _ _ _ _,U,lR⟩
 case round =>
  obtain⟨S,A,cap,rfl,hR,d,hb,a4⟩:=hrel;rcases hR.next (P:=Tryz.prog) 0 with⟨hall,H,f⟩ | ⟨x,w1,hxL,hxS,f,hR1,hk1,hs1,hl1,hen⟩
  focus
   have hp:S.Perm L:=(List.perm_ext_iff_of_nodup H (hr.nodup q6)).2 hall;have T:=hp.length_eq;have a2:=dH hall;have a3:=dH T;clear hall T;have m:=nD wr A S.length cap S L d.slr hp hr (by rw[a3.out];omega) (λe=>(d.cap_le.2 e).2);(go_wp2_with fail);refine m.mono ?_;rintro e w2 ⟨A2,J,rfl,j,I⟩;clear m f;(go_wp2_with fail);go_ret;exact⟨A2,J,rfl,j.mono (oH hb.size),hb.trans (I.mono hb.size)⟩
  have a8:S.length+1<=1000000:=by
   obtain⟨M,Z,hZ,V,_,a0,H⟩:=hR1;have h1:=hZ.length;have h2:(Z.map (·.1)).length=(S ++ [x]).length:=by rw[a0]
   have h3:(M.map (·.1)).length<=L.length:=kY H (λy hy=>(V y).1 hy);simp at h2 h3;omega
  have s:Own w1 w0.heap.size 39 32 A S.length cap (S.map idC):=d.kept hk1 (λy hy=>oS ((d.at_base hy).1));have Y:Below wS.heap.size wS w1:=hb.trans (hk1.below (B:=wS.heap.size) oM sI);have D:Below w1.heap.size w1 ((w1.alloc (.cells (idC x) 39)).alloc (.cells (idC x) 39)):=(bA).alloc sI _;have j:=s.below D;have r:z7 ((w1.alloc (.cells (idC x) 39)).alloc (.cells (idC x) 39)) (w1.heap.size+1) 0 32=some (idC x):=by simp[go_sem]
  change (Instr.next _ _ _).run Tryz.prog wr=.ok (.tuple #[.bool true,.agg (idC x),.bool true]) w1 at f;change (Instr.entry _).run Tryz.prog w1=.ok (.tuple #[.agg (idC x),.bool true]) w1 at hen;have F:=dH hs1;clear hs1;go_wp2_with (at_builtin;refine yM xI rfl j rfl r (xG _) oM oM (by simp;have:=F.out;omega) ?_;intro A' cap' w2 t E N)
  have R:b∉blk A:=λhx=>(oH ((d.at_base hx).1));have O:wS.heap.size∉blk A:=λhx=>(oH ((d.at_base hx).1));have k:=hR1.kept (z6.of_below D) sI sI;have a1:=k.kept E R O;have a6:w2.rangeLeft b wS.heap.size=w1.rangeLeft b wS.heap.size :=
   (xB E R O k.lt.2 k.lt.1).trans (xB (z6.of_below D) sI sI hR1.lt.2 hR1.lt.1)
  have G:w0.heap.size<=w2.heap.size:=by
   have e1:=D.size;have e2:=E.size;have e3:=F.out;omega
  have I:Below wS.heap.size wS w2:=Y.trans ((D.mono (oH F.out)).trans (E.below (B:=wS.heap.size) (by simp;have:=F.out;omega) λy hy=>oH ((d.at_base hy).1)));clear f hen;(go_wp2_with fail);go_roundw
  case rel=>exact⟨S ++ [x],A',cap',sI,a1,by simpa using t,I,G⟩
  case measure=>omega
theorem mput_any(w:World)(g bl bo:Nat)(X:List xW)(O:List zE)(h:qB w g bl bo X O)(hX:X.length<=1000000)(hO:O.length<=1000000) :
  Calls Tryz.prog 343 #[.pointer (some ⟨g,0,none⟩)] w λe w'=>e=.returned (.string ⟨(rF X O).toArray⟩)/\Below w.heap.size w w':=by
 have hc:=h.cell0;have f1:=h.sm;go_enter Tryz.func343,Tryz.ntmps343
 (go_wp2_with fail);refine(pP w g bl hc).mono ?_;rintro e w' ⟨rfl,rfl⟩;(go_wp2_with fail);refine(zy w g bl bo X O h hX).mono ?_;rintro e w1 ⟨XA,xc,rfl,d6,d5⟩;have h1:=h.below d5;(go_wp2_with fail);refine(mgone w1 g bl bo X O h1 hO).mono ?_;rintro e w2 ⟨IA,ic,rfl,d7,c5⟩;have f6:SlR w2 XA X.length 34 (X.map zF):=(d6.below c5).slr;have b3:∀x∈blk XA,x<w2.heap.size:=λx hx=>(by have:=(d6.at_base hx).2;have:=c5.size;omega);have f7:SlR w2 IA O.length 32 (O.map idC):=d7.slr;have c6:∀x∈blk IA,x<w2.heap.size:=λx hx=>(d7.at_base hx).2;have Z:=yE d5 c5;clear hc h1 d6 d7 d5 c5 h;(go_wp2_with fail);refine(ZL w2).mono ?_;rintro e w3 ⟨rfl,c0,c4⟩;have b0:=f6.below c4;have b7:=f7.below c4;obtain⟨gw,f2⟩:=eX w2.heap.size
 have Y:=yE Z c4;rw[f2]at c0 b3 c6 |-;have g4:=c0.lt;have g1:w.heap.size<=gw:=oH Z.size;clear f6 f7 Z c4 f2;(go_wp2_with fail);refine(t9 _ _ _ _ _ _ c0 X.length 4 oM oM sI).mono ?_;rintro e w4 ⟨rfl,A2,e0,c1,c3,a6⟩;simp only[List.nil_append]at c1;have a9:=b0.kept c3 (λx hx=>by have:=b3 x hx;simp[blk];omega);have b6:=b7.kept c3 (λx hx=>by have:=c6 x hx;simp[blk];omega);have V:Below w.heap.size w w4:=Y.trans (c3.below (oH Y.size) (by simp[blk];omega));have d8:∀x∈blk A2,gw<x:=λx hx=>(oH ((c1.own.at_base hx).1));clear c0 b0 b7 Y c3 a6 g4;(go_wp2_with fail);have f4:∀x∈blk XA,x∉gw :: blk A2:=λx hx hm=>by
  have:=b3 x hx;rcases List.mem_cons.1 hm with e | hm
  ·omega
  ·have:=d8 x hm;omega
 have g6:=dH f4;have g0:=dH d8;have h0:=dH b3;have e7:=dH c6;have f9:=dH f1;clear f4 d8 b3 c6 f1;go_loopw [24] (λi wr=>∃k:Nat,k<=X.length/\i=.int .i64 (k:Nat)/\kM w4 (gw+1) gw A2 (beL 4 X.length++(X.take k).flatMap jF) wr) (λi _=>X.length-(intOf i).toNat)
 case atStart=>exact⟨0,zL,rfl,A2,e0,by simpa using c1,z6.refl _ _,λx hx=>.inl hx⟩
 case round =>
  obtain⟨k,hk,rfl,A4,a1,t,H,A⟩:=hrel;have R:=xU jF 66 (X.take k) (λx hx=>by rw[n5];have:=f9.out x (List.mem_of_mem_take hx);unfold vB at this;omega);have a4:(X.take k).length=k:=sO;rw[a4]at R;by_cases I:k<X.length
  ·have b4:=a9.kept H g6.out;obtain⟨q,o,rfl,hr⟩:=b4.at_ I;rw[List.getElem_map]at hr;have c8:=f9.out X[k] (List.getElem_mem I);have L:(X.take (k+1)).flatMap jF=(X.take k).flatMap jF++jF X[k]:=by rw[List.take_add_one,List.getElem?_eq_getElem I,List.flatMap_append];simp only[Option.toList_some,List.flatMap_cons,List.flatMap_nil,List.append_nil]
   obtain⟨x,hx⟩:=eX (X[k]'I)
   rw[hx]at hr c8 L;have e2:=dH L;unfold vB at c8;obtain⟨g9,g8⟩:=c8;clear hx L b4;have N:(beL 4 X.length++(X.take k).flatMap jF).length<=200000000:=by rw[List.length_append,y6];omega
   obtain⟨c7,B⟩:=eX (beL 4 X.length++(X.take k).flatMap jF)
   have a2:=dH B;rw[B]at t N;have e1:x.key.data.toList.length=x.key.size:=Array.length_toList;have e3:(⟨x.id.l.toArray⟩:ByteArray).size=32:=by show x.id.l.toArray.size=32;simp[x.id.h]
   have e4:(⟨x.id.l.toArray⟩:ByteArray).data.toList=x.id.l:=sI;have e5:x.id.l.length=32:=x.id.h;have E1:=dH e1;have E3:=dH e3;have E4:=dH e4;have E5:=dH e5;clear B e1 e3 e4 e5 R a4;go_upto_region 8 with fail
   have a3:=t.below (w':=wr.alloc (.cells (zF x) 184)) (bA);have D:z7 (wr.alloc (.cells (zF x) 184)) wr.heap.size 0 34=some (zF x):=by simp[go_sem]
   have c2:z6 [] wr (wr.alloc (.cells (zF x) 184)):=z6.alloc _ _;have d3:wr.heap.size∉gw :: blk A4:=by
    simp only[List.mem_cons,not_or];exact⟨oH t.lt,λhx=>oH ((t.own.at_base hx).2)⟩
   generalize wr.alloc (.cells (zF x) 184)=W at *;have f0:W.cell? ⟨wr.heap.size,32,none⟩=some (.string x.key):=by have:=z8 D (j:=32) oM;rwa [fA,Nat.zero_add]at this
   have e9:W.cell? ⟨wr.heap.size,33,none⟩=some (.string x.val):=by have:=z8 D (j:=33) oM;rwa [bZ,Nat.zero_add]at this
   have e8:z7 W wr.heap.size 0 32=some (idC x.id):=by have:=zX D (j:=0) (m:=32) oM;rwa [fJ]at this
   have G:∀(y:Subtype (Kp (gw :: blk A4) W)) c,(convert 37 9 (.slice (some ⟨wr.heap.size,0,none⟩) 32 c)).run Tryz.prog y.1=.ok (.string ⟨x.id.l.toArray⟩) y.1:=λy c=>vH (y9 e8 d3 y);have r:kM W (gw+1) gw A4 c7 W.drew:=⟨A4,a1,a3.kept (z6.drew W) sI sI,(z6.drew W).mono sI,λx hx=>.inl hx⟩
   refine kX (gw :: blk A4) W ?_;intro g3 hS;have b1:=zP f0 d3;have b2:=zP e9 d3;clear f0 e9 e8 D hr;refine lZ ?_;refine lH ?_;intro K hK;obtain⟨Ai,J,s,E,d⟩:=r;refine(dS _ _ _ _ _ _ s ⟨x.id.l.toArray⟩ (by rw[E3.out];omega)).mono ?_;rintro e w' ⟨rfl,f⟩;replace r:=zZ s E d f;have hS:=r.choose_spec.choose_spec.2.1;refine⟨_,rfl,hS,hK _ _ ?_⟩;clear hK K s E d f;refine lZ ?_;refine lH ?_;intro K hK;obtain⟨Ai,J,s,E,d⟩:=r;refine(t9 _ _ _ _ _ _ s x.key.size 1 oM oM (by rw[E4.out,List.length_append,E5.out];omega)).mono ?_;rintro e w' ⟨rfl,f⟩;replace r:=zZ s E d f;have hS:=r.choose_spec.choose_spec.2.1;refine⟨_,rfl,hS,hK _ _ ?_⟩;clear hK K s E d f;refine lZ ?_;refine lH ?_;intro K hK;obtain⟨Ai,J,s,E,d⟩:=r;refine(dS _ _ _ _ _ _ s x.key (by rw[E4.out,List.length_append,List.length_append,E5.out,y6];omega)).mono ?_;rintro e w' ⟨rfl,f⟩;replace r:=zZ s E d f;have hS:=r.choose_spec.choose_spec.2.1;refine⟨_,rfl,hS,hK _ _ ?_⟩;clear hK K s E d f;refine lZ ?_;refine lH ?_;intro K hK;obtain⟨Ai,J,s,E,d⟩:=r;refine(t9 _ _ _ _ _ _ s x.val.size 1 oM oM (by rw[E4.out,List.length_append,List.length_append,List.length_append,E5.out,y6,E1.out];omega)).mono ?_;rintro e w' ⟨rfl,f⟩;replace r:=zZ s E d f;have hS:=r.choose_spec.choose_spec.2.1;refine⟨_,rfl,hS,hK _ _ ?_⟩;clear hK K s E d f;refine lZ ?_;refine lH ?_;intro K hK;obtain⟨Ai,J,s,E,d⟩:=r;refine(dS _ _ _ _ _ _ s x.val (by rw[E4.out,List.length_append,List.length_append,List.length_append,List.length_append,E5.out,y6,y6,E1.out];omega)).mono ?_;rintro e w' ⟨rfl,f⟩;replace r:=zZ s E d f;have hS:=r.choose_spec.choose_spec.2.1;refine⟨_,rfl,hS,hK _ _ ?_⟩;clear hK K s E d f;refine lZ ?_;refine zC ?_;intro hS;have f3:c7++(⟨x.id.l.toArray⟩:ByteArray).data.toList++beL 1 x.key.size++x.key.data.toList++beL 1 x.val.size++x.val.data.toList=beL 4 X.length++(X.take (k+1)).flatMap jF:=by
    rw[e2.out,E4.out,<-List.append_assoc (beL 4 X.length),a2.out];simp[jF,List.append_assoc]
   rw[f3]at r;have F:=zZ t H A (zZ a3 (c2.mono (S':=gw :: blk A4) sI) iL r);have e6:=dH F;clear r F f3 G g3 b1 b2 hS;(go_wp2_with fail);go_roundw
   case rel=>exact⟨k+1,oM,by go_num,e6.out⟩
   case measure=>exact sZ
  ·have a7:X.take k=X:=List.take_of_length_le oM;rw[a7]at t R;clear a7 a4;have b5:=b6.kept H (λx hx hm=>by
    have:=e7.out x hx;rcases List.mem_cons.1 hm with e | hm
    ·omega
    ·have:=g0.out x hm;omega)
   have T:Below w.heap.size w wr:=V.trans (H.below (oH V.size) (λx hx=>by
    rcases List.mem_cons.1 hx with rfl | hx
    ·omega
    ·have:=g0.out x hx;omega))
   have g2:(beL 4 X.length++X.flatMap jF).length<=100000000:=by rw[List.length_append,y6];omega
   obtain⟨p0,d0⟩:=eX (beL 4 X.length++X.flatMap jF)
   have g5:=dH d0;rw[d0]at t g2;clear d0 R;have cw:=t9 _ _ _ _ _ _ t O.length 4 oM oM oM;(go_wp2_with fail);refine cw.mono ?_;rintro e W3 ⟨rfl,AW,d9,b9,d1,a5⟩;have a0:∀x∈blk A4,gw<x:=λx hx=>(oH ((t.own.at_base hx).1));have hid:SlR W3 IA O.length 32 (O.map idC):=b5.kept d1 (λx hx hm=>by
    have:=e7.out x hx;rcases List.mem_cons.1 hm with e | hm
    ·omega
    ·have:=a0 x hm;omega)
   have d4:Below w.heap.size w W3:=T.trans (d1.below (oH T.size) (λx hx=>by
    rcases List.mem_cons.1 hx with rfl | hx
    ·omega
    ·have:=a0 x hx;omega))
   have U:∀x∈blk AW,gw<x:=λx hx=>(oH ((b9.own.at_base hx).1));have d2:∀x∈blk IA,x∉gw :: blk AW:=λx hx hm=>by
    have:=e7.out x hx;rcases List.mem_cons.1 hm with e | hm
    ·omega
    ·have:=U x hm;omega
   have a8:∀w',z6 (gw :: blk AW) W3 w'->Below w.heap.size w w':=λw' hk=>d4.trans (hk.below (oH d4.size) (λx hx=>by
    rcases List.mem_cons.1 hx with rfl | hx
    ·omega
    ·have:=U x hx;omega))
   have g7:=dH a8;have c9:(p0++beL 4 O.length).length<=200000000:=by rw[List.length_append,y6];omega
   obtain⟨pre,M⟩:=eX (p0++beL 4 O.length)
   have b8:Hid (beL 4 X.length++X.flatMap jF++beL 4 O.length=pre):=(show _=_ by rw[g5.out,M])
   rw[M]at b9 c9;obtain⟨S,hS⟩:=eR O
   obtain⟨Bw,f8⟩:=eR (gw+1)
   rw[<-hS]at hid hO b8 |-;rw[<-f8]at b9;have HS:=dH hS;clear M d4 a8 hS f8 b5 T t d1 a5 a0 U H A cw c1 a9 b6 V;(go_wp2_with fail);go_loopw [54] (λi wr=>∃k:Nat,k<=S.length/\i=.int .i64 (k:Nat)/\kM W3 Bw gw AW (pre++(S.take k).flatMap zE.l) wr) (λi _=>S.length-(intOf i).toNat)
   case atStart=>exact⟨0,zL,rfl,AW,d9,by simpa using b9,z6.refl _ _,λx hx=>.inl hx⟩
   case round =>
    obtain⟨k,hk,rfl,A4,a1,t,H,A⟩:=hrel;by_cases I:k<S.length
    ·have b4:=(show SlR W3 IA S.length 32 (S.map idC)from hid).kept H d2;obtain⟨q,o,rfl,hr⟩:=zY.get b4 I I;have L:(S.take (k+1)).flatMap zE.l=(S.take k).flatMap zE.l++(S[k]).l:=by rw[List.take_add_one,List.getElem?_eq_getElem I,List.flatMap_append];simp only[Option.toList_some,List.flatMap_cons,List.flatMap_nil,List.append_nil]
     have R:=xU zE.l 32 (S.take k) (λx hx=>by rw[x.h];exact lR);have a4:(S.take k).length=k:=sO;rw[a4]at R;obtain⟨x,hx⟩:=eX (S[k]'I)
     rw[hx]at hr L;have e2:=dH L;clear hx L b4 a4;have N:(pre++(S.take k).flatMap zE.l).length<=300000000:=by rw[List.length_append];omega
     obtain⟨c7,B⟩:=eX (pre++(S.take k).flatMap zE.l)
     have a2:=dH B;rw[B]at t N;clear B R;have f5:Below wr.heap.size wr (wr.alloc (.cells (idC x) 39)):=bA;have a3:=t.below f5;have c2:z6 [] wr (wr.alloc (.cells (idC x) 39)):=z6.alloc _ _;have D:z7 (wr.alloc (.cells (idC x) 39)) wr.heap.size 0 32=some (idC x):=by simp[go_sem]
     have G:∀c,(convert 37 9 (.slice (some ⟨wr.heap.size,0,none⟩) 32 c)).run Tryz.prog (wr.alloc (.cells (idC x) 39))=.ok (.string ⟨x.l.toArray⟩) (wr.alloc (.cells (idC x) 39)):=λc=>vH D;have e3:(⟨x.l.toArray⟩:ByteArray).size=32:=by show x.l.toArray.size=32;simp[x.h]
     have e4:(⟨x.l.toArray⟩:ByteArray).data.toList=x.l:=sI;have cw:=dS _ Bw gw A4 a1 c7 a3 ⟨x.l.toArray⟩ (by rw[e3];omega);rw[e4]at cw;clear e3 e4 D;(go_wp2_with fail);refine cw.mono ?_;rintro e w6 ⟨rfl,r⟩;have F:=zZ t H A (zZ a3 (c2.mono (S':=gw :: blk A4) sI) iL r);rw[<-a2.out,List.append_assoc,<-e2.out]at F;have e6:=dH F;clear r F G cw f5 a3 c2 t H A;(go_wp2_with fail);go_roundw
     case rel=>exact⟨k+1,oM,by go_num,e6.out⟩
     case measure=>exact sZ
    ·have a7:S.take k=S:=List.take_of_length_le oM;rw[a7]at t;clear a7;(go_wp2_with fail);refine(nN _ _ _ _ _ _ t).mono ?_;rintro e w' ⟨rfl,rfl⟩;(go_wp2_with fail);go_ret;exact⟨gL (by rw[<-b8.out,HS.out];simp[rF,tW,List.append_assoc]),g7.out _ H⟩
end
def bB(N:List zO):List zO:=yB tY N
theorem tT{N:List zO}{n:zO}:n∈bB N↔n∈N:=qE eH
theorem sC{N:List zO}(h:s7 N):Ris zI ((bB N).map zO.id):=by
 have hr:Ris tY (bB N):=xJ eH N;have hN:∀n,n∈bB N->n∈N:=λn=>tT.1;unfold Ris at hr |-;rw[List.pairwise_map];refine List.Pairwise.imp_of_mem ?_ hr;intro a b ha hb d;have f:a.id≠b.id:=λe=>by
  have:=h a (hN a ha) b (hN b hb) e;subst this;exact eH.irr a d
 have h0:zI a.id b.id≠0:=λe=>f ((kT _ _).1 e);unfold tY orC at d;rw[if_neg h0]at d;exact d
theorem KT{N:List zO}(h:s7 N)(hn:(N.map zO.id).Nodup):((bB N).map zO.id).Perm (N.map zO.id) :=
 (List.perm_ext_iff_of_nodup ((sC h).nodup q6) hn).2 λx=>by
  simp only[List.mem_map,tT]
theorem lA(N:List zO):(bB N).length<=N.length:=xF N
def kK(n:zO):List UInt8:=n.id.l++(beL 4 n.h.toNat++(n.ref.l++(beL 1 n.val.size++n.val.data.toList)))
def nU(N:List zO)(G:List zE):List UInt8:=beL 4 (bB N).length++(bB N).flatMap kK++tW G
theorem nA(n:zO):(kK n).length=69+n.val.size:=by
 have e:n.val.data.toList.length=n.val.size:=Array.length_toList;simp only[kK,List.length_append,y6,n.id.h,n.ref.h,e];omega
theorem sqids(wS:World)(M:List Nat)(g bn bb bg:Nat)(N:List zO)(G:List zE)(h:q7 wS M g bn bb bg N G)(hn:N.length<=1000000) :
  Calls Tryz.prog 347 #[.pointer (some ⟨g,0,none⟩)] wS λe w'=>∃A cap,e=.returned (.slice A (bB N).length cap)/\Own w' wS.heap.size 39 32 A (bB N).length cap (((bB N).map zO.id).map idC)/\Below wS.heap.size wS w':=by
 have b1:=h.lt.1;have hc:=h.cell0;have Y:=sC h.one;obtain⟨es,b3,hm⟩:=h.nodes;have O:=hm.nodup;have Z:=KT h.one (by rw[List.map_map]at O;exact O);have X:(bB N).length<=1000000:=Nat.le_trans (lA N) hn;have a5:=dH Y;have a6:=dH Z;have a4:=dH X;have a9:(N.map λn=>(n.id,q4 n)).length=N.length:=List.length_map _;obtain⟨w0,f,hR,a2,a8⟩:=hm.range (P:=Tryz.prog) Tryz.underlying188;clear Y Z X O hm;go_enter Tryz.func347,Tryz.ntmps347
 (go_wp2_with fail);clear f hc h;go_loopw [3] (λout wr=>∃S A cap,out=.slice A S.length cap/\v7 wr bn wS.heap.size idV pN gP (N.map λn=>(n.id,q4 n)) S/\Own wr w0.heap.size 39 32 A S.length cap (S.map λp=>idC p.1)/\Below wS.heap.size wS wr/\w0.heap.size<=wr.heap.size) (λ_ wr=>wr.rangeLeft bn wS.heap.size)
 case atStart=>exact⟨[],none,0,rfl,hR,Own.nil _ _ _ _,a2,lR⟩
 case round =>
  obtain⟨S,A,cap,rfl,hR,d,hb,a7⟩:=hrel;rcases hR.next (P:=Tryz.prog) 0 with⟨hperm,f⟩ | ⟨p,w1,hxL,hxS,f,hR1,hk1,hs1,hl1,hen⟩
  focus
   have L:(S.map (·.1)).Perm ((bB N).map zO.id):=by
    have h1:(S.map (·.1)).Perm ((N.map λn=>(n.id,q4 n)).map (·.1)):=hperm.map _;rw[List.map_map]at h1;exact h1.trans (a6.out).symm
   have s:zY wr A S.length (S.map (·.1)):=by
    have:=d.slr;have e:(S.map λp=>idC p.1)=(S.map (·.1)).map idC:=by rw[List.map_map];rfl
    rwa [e]at this
   have H:=L.length_eq;rw[List.length_map,List.length_map]at H;have k:=nD wr A S.length cap (S.map (·.1)) ((bB N).map zO.id) s L a5.out (by rw[H];exact a4.out) (λe=>(d.cap_le.2 e).2);rw[List.length_map]at k;have b4:=dH H;clear H L s;(go_wp2_with fail);refine k.mono ?_;rintro e w2 ⟨A2,T,rfl,j,R⟩;clear k f;(go_wp2_with fail);go_ret;exact⟨A2,T,rfl,j.mono (oH hb.size),hb.trans (R.mono hb.size)⟩
  have b2:S.length+1<=1000000:=by
   have h1:=hR1.length;simp at h1;omega
  have t:Own w1 w0.heap.size 39 32 A S.length cap (S.map λp=>idC p.1):=d.kept hk1 (λy hy=>oS ((d.at_base hy).1));have a1:Below wS.heap.size wS w1:=hb.trans (hk1.below (B:=wS.heap.size) oM sI);have E:Below w1.heap.size w1 ((w1.alloc (.cells (idC p.1) 39)).alloc (.cells (idC p.1) 39)):=(bA).alloc sI _;have j:=t.below E;have r:z7 ((w1.alloc (.cells (idC p.1) 39)).alloc (.cells (idC p.1) 39)) (w1.heap.size+1) 0 32=some (idC p.1):=by simp[go_sem]
  change (Instr.next _ _ _).run Tryz.prog wr=.ok (.tuple #[.bool true,.agg (idC p.1),.agg (zW p.2)]) w1 at f;change (Instr.entry _).run Tryz.prog w1=.ok (.tuple #[.agg (idC p.1),.agg (zW p.2)]) w1 at hen;have I:=dH hs1;clear hs1;go_wp2_with (at_builtin;refine yM xI rfl j rfl r (xG _) oM oM (by simp;have:=I.out;omega) ?_;intro A' cap' w2 D F V)
  have a0:bn∉blk A:=λhx=>(oH ((d.at_base hx).1));have U:wS.heap.size∉blk A:=λhx=>(oH ((d.at_base hx).1));have m:=hR1.kept (z6.of_below E) sI sI;have a3:=m.kept F a0 U;have b0:w2.rangeLeft bn wS.heap.size=w1.rangeLeft bn wS.heap.size :=
   (xB F a0 U m.lt.2 m.lt.1).trans (xB (z6.of_below E) sI sI hR1.lt.2 hR1.lt.1)
  have J:w0.heap.size<=w2.heap.size:=by
   have e1:=E.size;have e2:=F.size;have e3:=I.out;omega
  have R:Below wS.heap.size wS w2:=a1.trans ((E.mono (oH I.out)).trans (F.below (B:=wS.heap.size) (by simp;have:=I.out;omega) λy hy=>oH ((d.at_base hy).1)));clear f hen;(go_wp2_with fail);go_roundw
  case rel=>exact⟨S ++ [p],A',cap',sI,a3,by simpa using D,R,J⟩
  case measure=>omega
theorem xj(wS:World)(M:List Nat)(g bn bb b:Nat)(N:List zO)(L:List zE)(h:q7 wS M g bn bb b N L)(hr:Ris zI L)(hn:L.length<=1000000) :
  Calls Tryz.prog 348 #[.pointer (some ⟨g,0,none⟩)] wS λe w'=>∃A cap,e=.returned (.slice A L.length cap)/\Own w' wS.heap.size 39 32 A L.length cap (L.map idC)/\Below wS.heap.size wS w':=by
 have a7:=h.gone.lt;have hc:=h.cell2;obtain⟨w0,f,hR,U,a5⟩:=yS.range (P:=Tryz.prog) (kv:=idV) (ok:=gP) h.gone Tryz.underlying75;go_enter Tryz.func348,Tryz.ntmps348
 (go_wp2_with fail);clear f hc h;go_loopw [3] (λout wr=>∃S A cap,out=.slice A S.length cap/\jW wr b wS.heap.size idV gP L S/\Own wr w0.heap.size 39 32 A S.length cap (S.map idC)/\Below wS.heap.size wS wr/\w0.heap.size<=wr.heap.size) (λ_ wr=>wr.rangeLeft b wS.heap.size)
 case atStart=>exact⟨[],none,0,rfl,hR,Own.nil _ _ _ _,U,lR⟩
 case round =>
  obtain⟨S,A,cap,rfl,hR,d,hb,a4⟩:=hrel;rcases hR.next (P:=Tryz.prog) 0 with⟨hall,H,f⟩ | ⟨x,w1,hxL,hxS,f,hR1,hk1,hs1,hl1,hen⟩
  focus
   have hp:S.Perm L:=(List.perm_ext_iff_of_nodup H (hr.nodup q6)).2 hall;have V:=hp.length_eq;have a2:=dH hall;have a3:=dH V;clear hall V;have m:=nD wr A S.length cap S L d.slr hp hr (by rw[a3.out];omega) (λe=>(d.cap_le.2 e).2);(go_wp2_with fail);refine m.mono ?_;rintro e w2 ⟨A2,J,rfl,j,I⟩;clear m f;(go_wp2_with fail);go_ret;exact⟨A2,J,rfl,j.mono (oH hb.size),hb.trans (I.mono hb.size)⟩
  have a8:S.length+1<=1000000:=by
   obtain⟨M,Z,hZ,X,_,a0,H⟩:=hR1;have h1:=hZ.length;have h2:(Z.map (·.1)).length=(S ++ [x]).length:=by rw[a0]
   have h3:(M.map (·.1)).length<=L.length:=kY H (λy hy=>(X y).1 hy);simp at h2 h3;omega
  have s:Own w1 w0.heap.size 39 32 A S.length cap (S.map idC):=d.kept hk1 (λy hy=>oS ((d.at_base hy).1));have Y:Below wS.heap.size wS w1:=hb.trans (hk1.below (B:=wS.heap.size) oM sI);have D:Below w1.heap.size w1 ((w1.alloc (.cells (idC x) 39)).alloc (.cells (idC x) 39)):=(bA).alloc sI _;have j:=s.below D;have r:z7 ((w1.alloc (.cells (idC x) 39)).alloc (.cells (idC x) 39)) (w1.heap.size+1) 0 32=some (idC x):=by simp[go_sem]
  change (Instr.next _ _ _).run Tryz.prog wr=.ok (.tuple #[.bool true,.agg (idC x),.bool true]) w1 at f;change (Instr.entry _).run Tryz.prog w1=.ok (.tuple #[.agg (idC x),.bool true]) w1 at hen;have F:=dH hs1;clear hs1;go_wp2_with (at_builtin;refine yM xI rfl j rfl r (xG _) oM oM (by simp;have:=F.out;omega) ?_;intro A' cap' w2 t E O)
  have T:b∉blk A:=λhx=>(oH ((d.at_base hx).1));have R:wS.heap.size∉blk A:=λhx=>(oH ((d.at_base hx).1));have k:=hR1.kept (z6.of_below D) sI sI;have a1:=k.kept E T R;have a6:w2.rangeLeft b wS.heap.size=w1.rangeLeft b wS.heap.size :=
   (xB E T R k.lt.2 k.lt.1).trans (xB (z6.of_below D) sI sI hR1.lt.2 hR1.lt.1)
  have G:w0.heap.size<=w2.heap.size:=by
   have e1:=D.size;have e2:=E.size;have e3:=F.out;omega
  have I:Below wS.heap.size wS w2:=Y.trans ((D.mono (oH F.out)).trans (E.below (B:=wS.heap.size) (by simp;have:=F.out;omega) λy hy=>oH ((d.at_base hy).1)));clear f hen;(go_wp2_with fail);go_roundw
  case rel=>exact⟨S ++ [x],A',cap',sI,a1,by simpa using t,I,G⟩
  case measure=>omega
def vu(w:World)(g j:Nat)(L:List zO)(G:List zE):Prop :=
 ∃A n cap A' n' cap',w.cell? ⟨g,j,none⟩=some (.slice A n cap)/\w.cell? ⟨g,j+1,none⟩=some (.slice A' n' cap')/\fN w A n L/\zY w A' n' G
theorem vu.below{w w':World}{g j:Nat}{L:List zO}{G:List zE}(h:vu w g j L G)(k:Below w.heap.size w w'):vu w' g j L G:=by
 obtain⟨A,n,cap,A',n',cap',h1,h2,h3,h4⟩:=h;exact⟨A,n,cap,A',n',cap',(k.cell (World.block_lt_of_cell? w _ h1)).trans h1,(k.cell (World.block_lt_of_cell? w _ h2)).trans h2,SlR.below h3 k,SlR.below h4 k⟩
theorem jn(L:List zO)(r:zE)(k:Nat)(hk:k<L.length):qF (L.take (k+1)) r=if L[k].ref=r then xS fO (qF (L.take k) r) L[k]else qF (L.take k) r:=by
 unfold qF;rw[List.take_add_one,List.getElem?_eq_getElem hk,Option.toList_some,List.filter_append];by_cases h:L[k].ref=r
 ·rw[if_pos h];simp only[List.filter_cons,h,decide_true,if_true,List.filter_nil];rw[bQ]
 ·rw[if_neg h];simp[h]
theorem YQ{L:List zO}(h:jZ L):Ris zI (L.map zO.id):=by
 have h1:=sC h.one;have e:bB L=L:=fT eH h.ris
 rwa [e]at h1
theorem kids_ne{L:List zO}(h:jZ L){r:zE}{k:Nat}(hk:k<L.length){y:zO}(hy:y∈qF (L.take k) r):L[k].id≠y.id:=by
 have hm:=(wI.1 hy).1;obtain⟨i,hi,e⟩:=List.mem_iff_getElem.1 hm;rw[List.length_take]at hi;rw[List.getElem_take]at e;have hr:=Q2 (YQ h) (i:=i) (j:=k) oM (by simpa using hk);rw[List.getElem_map,List.getElem_map,e]at hr;exact λe'=>q6.ne hr e'.symm
theorem rsbehind(w:World)(g:Nat)(L:List zO)(G:List zE)(r:zE)(h:vu w g 8 L G)(h9:jZ L)(hX:L.length<=100000) :
  Calls Tryz.prog 221 #[.pointer (some ⟨g,8,none⟩),.agg (idC r)] w λe w'=>∃A n cap,e=.returned (.slice A n cap)/\Own w' w.heap.size 213 66 A n cap ((qF L r).map yL)/\Below w.heap.size w w':=by
 obtain⟨XA,nx,xc,GA,ng,gc,h2,i9,h3,j0⟩:=h;have i0:L.length=nx:=h3.len;have i3:=dH i0;have j6:=dH h9;have i7:nx<=100000:=oM;have e1:Below w.heap.size w (w.alloc (.cells (idC r) 39)):=bA;have f6:z7 (w.alloc (.cells (idC r) 39)) w.heap.size 0 32=some (idC r):=by simp[go_sem]
 have c0:=(e1.cell (p:=⟨g,8,none⟩) (World.block_lt_of_cell? w _ h2)).trans h2;have e3:=SlR.below h3 e1;clear i0 h9 i9 j0 h2 h3;go_enter Tryz.func221,Tryz.ntmps221
 (go_wp2_with fail);obtain⟨gr,g9⟩:=eX w.heap.size
 obtain⟨W0,h4⟩:=eX (w.alloc (.cells (idC r) 39))
 rw[h4]at e1 f6 c0 e3;rw[h4];rw[g9]at f6 e1 |-;have i8:gr<W0.heap.size:=zD f6;have i4:=dH g9;clear h4 g9;go_loopw [5,6] (λout i wr=>∃(k:Nat) (A1:Option Addr) (n1 X:Nat),k<=nx/\i=.int .i64 k/\out=.slice A1 n1 X/\Own wr W0.heap.size 213 66 A1 n1 X ((qF (L.take k) r).map yL)/\Below W0.heap.size W0 wr) (λ_ i _=>nx-(intOf i).toNat)
 case atStart=>exact⟨0,none,0,0,zL,rfl,rfl,Own.nil _ _ _ _,Below.refl _ _⟩
 case round =>
  obtain⟨k,A1,n,X,hk,rfl,rfl,Y,hb⟩:=hrel;have h0:=(hb.cell (p:=⟨g,8,none⟩) (World.block_lt_of_cell? W0 _ c0)).trans c0;have g0:z7 wr gr 0 32=some (idC r):=(z9 (hb.block gr i8) _ _).trans f6;by_cases g1:k<nx
  ·have a3:k<L.length:=by rw[i3.out];exact g1
   obtain⟨q,o,rfl,d7⟩:=fN.get (SlR.below e3 hb) g1 a3;have f5:=jn L r k a3;have a2:=fun (y:zO) (hy:y∈qF (L.take k) r)=>kids_ne j6.out a3 hy;have h5:(qF (L.take k) r).length=n:=by simpa using Y.len
   have j8:n<=100000:=by have:=gU (L.take k) r;simp at this;omega
   have b8:Ris fO (qF (L.take k) r):=mB _ _;obtain⟨O,hO⟩:=eX (qF (L.take k) r)
   obtain⟨x,hx⟩:=eX (L[k]'a3)
   rw[hx]at d7 f5 a2;rw[hO]at f5 Y b8 h5 a2;have e8:=dH f5;have J:=dH h5;have j5:=dH b8;have j7:=dH a2;clear hx hO f5 h5 b8 a2;have d2:=hb.size;have f7:Below wr.heap.size wr (wr.alloc (.cells (yL x) 213)):=bA;have a0:=Y.below f7;have c9:Below W0.heap.size W0 (wr.alloc (.cells (yL x) 213)):=hb.trans (f7.mono d2);have D:z7 (wr.alloc (.cells (yL x) 213)) wr.heap.size 0 66=some (yL x):=by simp[go_sem]
   have f9:=(z9 (f7.block gr (zD g0)) 0 32).trans g0;have g8:wr.heap.size<(wr.alloc (.cells (yL x) 213)).heap.size:=zD D;go_upto_region 6 with fail
   obtain⟨gx,i2⟩:=eX wr.heap.size
   obtain⟨V,hV⟩:=eX (wr.alloc (.cells (yL x) 213))
   rw[hV]at a0 c9 D f9;rw[hV];rw[i2]at D |-;obtain⟨f1,f2,f3,f4⟩:=bT D;rw[Nat.zero_add]at f2 f3 f4;clear i2 hV Y hb f7 h0 d7 d2 g0 g8;by_cases R:x.ref=r
   ·have d0:Hid (qF (L.take (k+1)) r=xS fO O x):=(show _=_ by rw[e8.out,if_pos R])
    have i6:z7 V gx 33 32=some (idC r):=by rw[<-R];exact f3
    clear R f3;have b6:=a0.slw;(go_wp2_with fail);go_loopw [8] (λj wj=>∃m:Nat,m<=n/\j=.int .i64 m/\Hid (∀i (hi:i<O.length),i<m->fO O[i] x<0)/\Below V.heap.size V wj) (λj _=>n-(intOf j).toNat)
    case atStart=>exact⟨0,zL,rfl,(show ∀i (hi:i<O.length),i<0->_ from λi _ h=>absurd h oM),Below.refl _ _⟩
    case round =>
     obtain⟨m,a6,rfl,b9,c1⟩:=hrel;have c8:z7 wr gx 0 66=some (yL x):=(z9 (c1.block gx (zD D)) _ _).trans D;obtain⟨j1,j2,_,_⟩:=bT c8;rw[Nat.zero_add]at j2;have b5:=b6.below c1;by_cases T:m<n
     ·obtain⟨q2,o2,rfl,h8⟩:=fN.get b5.rd T (by rw[J.out];exact T);obtain⟨y1,y2,_,_⟩:=bT h8;have d8:O[m]'(by rw[J.out];exact T)∈O:=List.getElem_mem _;have f0:=j7.out _ d8;obtain⟨y,hy⟩:=eX (O[m]'(by rw[J.out];exact T))
      rw[hy]at y1 y2 f0;have Hy:=dH hy;have c2:=rahead x.h x.id y.h y.id wr.drew;rw[<-aZ f0]at c2;have j4:=dH f0;clear hy d8 h8 f0;by_cases d1:fO y x<0
      ·rw[decide_eq_true d1]at c2;have j3:=dH d1;clear d1;go_upto_region 8 with fail
       refine lX wr ?_;intro a2 hS;have b1:=zU j1;have b2:=zJ j2;have b3:=zU y1;have b4:=zJ y2;refine lZ ?_;refine lC (c2) ?_;clear hS;intro w' hS;refine lZ ?_;refine zC ?_;intro hS;have e4:Below wr.heap.size wr w':=hS;have a4:=yE c1 e4;clear b1 b2 b3 b4 a2 hS c2;(go_wp2_with fail);go_roundw
       case rel =>
        refine⟨m+1,oM,by go_num,(show ∀i (hi:i<O.length),i<m+1->fO O[i] x<0 from λi hi g1=>?_),a4⟩;by_cases e:i=m
        ·subst e;rw[Hy.out];exact j3.out
        ·exact b9.out i hi oM
       case measure=>exact sZ
      ·rw[decide_eq_false d1]at c2;have e2:=vE (c:=fO) O x m (by rw[J.out];exact a6) b9.out (λi1=>by
        rw[Hy.out];have h1:fO y x≠0:=λe'=>j4.out (by rw[(XT.zero _ _).1 e']);omega)
       have e9:=dH e2;clear d1 e2;go_upto_region 8 with fail
       refine lX wr ?_;intro a2 hS;have b1:=zU j1;have b2:=zJ j2;have b3:=zU y1;have b4:=zJ y2;refine lZ ?_;refine lC (c2) ?_;clear hS;intro w' hS;refine lZ ?_;refine zC ?_;intro hS;have e4:Below wr.heap.size wr w':=hS;have a4:=yE c1 e4;have a5:z7 w' gx 0 66=some (yL x):=(z9 (e4.block gx (zD c8)) _ _).trans c8;have M:=b6.below a4;have a7:=c9.trans (a4.mono c9.size);clear b1 b2 b3 b4 a2 hS c2 e4 c1 c8 b5 j1 j2 y1 y2 D a4;obtain⟨W,rfl⟩:∃W,W=w':=⟨w',rfl⟩
       obtain⟨A,e7⟩:=eX (some ⟨q2,o2,none⟩:Option Addr)
       rw[e7]at M |-;obtain⟨d,hd⟩:=eR x
       rw[<-hd]at a5 e9 d0 |-;obtain⟨cap,a1⟩:=eR X
       rw[<-a1]at M |-;clear hd a1 e7;have c4:Below W.heap.size W (W.alloc (.cells #[] 213)):=bA;have I:=Own.empty W W.heap.size 213 66 lR;have g2:∀w0:World,(slS 65 (.slice A n cap) none (some (.int .i64 m)) none).run Tryz.prog w0=.ok (.slice A m cap) w0:=λw0=>SlW.lo qR M a6 w0;obtain⟨Ah,ch,g6,d9,g7⟩:=M.hi (P:=Tryz.prog) qR (m:=m) a6;have Z:SlR (W.alloc (.cells #[] 213)) A m 66 ((O.map yL).take m):=(M.rd.below c4).take_ a6;have e0:=M.nil;have F:∀r∈(O.map yL).take m,∀u∈r.toList,u.oneCell'=true:=λr hr=>(by obtain⟨y',_,rfl⟩:=List.mem_map.1 (List.mem_of_mem_take hr);exact jD _);have t:∀r∈(O.map yL).drop m,∀u∈r.toList,u.oneCell'=true:=λr hr=>(by obtain⟨y',_,rfl⟩:=List.mem_map.1 (List.mem_of_mem_drop hr);exact jD _);go_upto_region 11 with(at_builtin;refine yD qR rfl I rfl Z e0 F oM oM sI ?_;intro A2 h7 w2 s g5 d5)
       simp only[Nat.zero_add,List.nil_append]at s;have a9:Below W.heap.size W w2:=c4.trans (g5.below sI (by simp[blk]));have b7:z7 w2 gx (0) 66=some (yL d):=(z9 (a9.block gx (zD a5)) _ _).trans a5;have c6:Below w2.heap.size w2 (w2.alloc (.cells (yL d) 213)):=bA;have H:=s.below c6;have E:z7 (w2.alloc (.cells (yL d) 213)) w2.heap.size 0 66=some (yL d):=by simp[go_sem]
       have b0:=a9.size;go_upto_region 12 with(at_builtin;refine yM qR rfl H rfl E (jD _) oM oM sO ?_;intro A4 h6 w4 B g4 d4)
       have N:Below W.heap.size W w4:=(a9.trans (c6.mono b0)).trans (g4.below sO (λx hx=>(s.at_base hx).1));have d6:=d9 w4 (M.rd.below N);have f8:=N.size;clear H E c6 I c4 Z b7 g2;go_upto_region 13 with(at_builtin;refine yD qR rfl B rfl d6 g7 t oM oM oM ?_;intro A5 c7 w5 f g3 d3)
       have a8:Below W.heap.size W w5:=N.trans (g3.below oM (λx hx=>(B.at_base hx).1));have e6:(O.map yL).take m ++ [yL d]++(O.map yL).drop m=(O.take m++d :: O.drop m).map yL:=by simp[List.map_take,List.map_drop]
       rw[e6]at f;clear B s e6 d6 g6 d9 F t e0;have c5:=a7.trans (a8.mono a7.size);have c3:(O.take m++d :: O.drop m).length=m+1+(n-m):=by simp[J.out];omega
       have e5:O.take m++d :: O.drop m=qF (L.take (k+1)) r:=by rw[d0.out,e9.out]
       rw[e5]at f c3;have U:=f.mono a7.size;have HL:=dH c3;clear f e5 c3;(go_wp2_with fail);go_roundw
       case rel=>exact⟨k+1,A5,m+1+(n-m),c7,oM,by go_num,rfl,U,c5⟩
       case measure=>exact sZ
     ·have hd:decide (m<n)=false:=by simpa using T
      have e2:=vE (c:=fO) O x m (by rw[J.out];exact a6) b9.out (λi1=>absurd (by rw[<-J.out];exact i1) T);have e9:=dH e2;clear e2;go_upto_region 8 with fail
      refine lX wr ?_;intro a2 hS;refine lZ ?_;refine lH ?_;intro K hK;refine hK _ _ ?_;clear hK K;refine lZ ?_;refine zC ?_;intro hS;have a4:Below V.heap.size V wr.drew:=c1.drew;have a5:z7 wr.drew gx 0 66=some (yL x):=c8;have M:=b6.below a4;have a7:=c9.trans (a4.mono c9.size);clear a2 hS a4 c8 c1 T hd b5 j1 j2 D;obtain⟨W,hW⟩:=eX wr.drew
      rw[hW]at a5 M a7 |-;clear hW;obtain⟨A,e7⟩:=eR A1
      rw[<-e7]at M |-;obtain⟨d,hd⟩:=eR x
      rw[<-hd]at a5 e9 d0 |-;obtain⟨cap,a1⟩:=eR X
      rw[<-a1]at M |-;clear hd a1 e7;have c4:Below W.heap.size W (W.alloc (.cells #[] 213)):=bA;have I:=Own.empty W W.heap.size 213 66 lR;have g2:∀w0:World,(slS 65 (.slice A n cap) none (some (.int .i64 m)) none).run Tryz.prog w0=.ok (.slice A m cap) w0:=λw0=>SlW.lo qR M a6 w0;obtain⟨Ah,ch,g6,d9,g7⟩:=M.hi (P:=Tryz.prog) qR (m:=m) a6;have Z:SlR (W.alloc (.cells #[] 213)) A m 66 ((O.map yL).take m):=(M.rd.below c4).take_ a6;have e0:=M.nil;have F:∀r∈(O.map yL).take m,∀u∈r.toList,u.oneCell'=true:=λr hr=>(by obtain⟨y',_,rfl⟩:=List.mem_map.1 (List.mem_of_mem_take hr);exact jD _);have t:∀r∈(O.map yL).drop m,∀u∈r.toList,u.oneCell'=true:=λr hr=>(by obtain⟨y',_,rfl⟩:=List.mem_map.1 (List.mem_of_mem_drop hr);exact jD _);go_upto_region 11 with(at_builtin;refine yD qR rfl I rfl Z e0 F oM oM sI ?_;intro A2 h7 w2 s g5 d5)
      simp only[Nat.zero_add,List.nil_append]at s;have a9:Below W.heap.size W w2:=c4.trans (g5.below sI (by simp[blk]));have b7:z7 w2 gx (0) 66=some (yL d):=(z9 (a9.block gx (zD a5)) _ _).trans a5;have c6:Below w2.heap.size w2 (w2.alloc (.cells (yL d) 213)):=bA;have H:=s.below c6;have E:z7 (w2.alloc (.cells (yL d) 213)) w2.heap.size 0 66=some (yL d):=by simp[go_sem]
      have b0:=a9.size;go_upto_region 12 with(at_builtin;refine yM qR rfl H rfl E (jD _) oM oM sO ?_;intro A4 h6 w4 B g4 d4)
      have N:Below W.heap.size W w4:=(a9.trans (c6.mono b0)).trans (g4.below sO (λx hx=>(s.at_base hx).1));have d6:=d9 w4 (M.rd.below N);have f8:=N.size;clear H E c6 I c4 Z b7 g2;go_upto_region 13 with(at_builtin;refine yD qR rfl B rfl d6 g7 t oM oM oM ?_;intro A5 c7 w5 f g3 d3)
      have a8:Below W.heap.size W w5:=N.trans (g3.below oM (λx hx=>(B.at_base hx).1));have e6:(O.map yL).take m ++ [yL d]++(O.map yL).drop m=(O.take m++d :: O.drop m).map yL:=by simp[List.map_take,List.map_drop]
      rw[e6]at f;clear B s e6 d6 g6 d9 F t e0;have c5:=a7.trans (a8.mono a7.size);have c3:(O.take m++d :: O.drop m).length=m+1+(n-m):=by simp[J.out];omega
      have e5:O.take m++d :: O.drop m=qF (L.take (k+1)) r:=by rw[d0.out,e9.out]
      rw[e5]at f c3;have U:=f.mono a7.size;have HL:=dH c3;clear f e5 c3;(go_wp2_with fail);go_roundw
      case rel=>exact⟨k+1,A5,m+1+(n-m),c7,oM,by go_num,rfl,U,c5⟩
      case measure=>exact sZ
   ·have d0:Hid (qF (L.take (k+1)) r=O):=(show _=_ by rw[e8.out,if_neg R])
    have i6:(x.ref != r)=true:=by simpa using R
    have i5:(x.ref==r)=false:=by simpa using R
    clear R;(go_wp2_with fail);go_roundw
    case rel=>exact⟨k+1,A1,n,X,oM,by go_num,rfl,(by rw[d0.out];exact a0),c9⟩
    case measure=>exact sZ
  ·have e:L.take k=L:=List.take_of_length_le (by rw[i3.out];omega);rw[e]at Y;clear e;(go_wp2_with fail);go_ret;exact⟨A1,n,X,rfl,Y.mono (by rw[i4.out];omega),by rw[i4.out];exact e1.trans (hb.mono oM)⟩
@[go_sem] theorem bsIdN_run(w:World):(bsS 50 0 #[]).run Tryz.prog w=.ok (.slice (some ⟨w.heap.size,0,none⟩) 0 0) (w.alloc (.cells #[] 39)):=dZ xI w
@[go_sem ↓] theorem slId_rw(x:Value)(lo hi mx:Option Value):Instr.sliceAt 50 x lo hi mx=slS 50 x lo hi mx:=rfl
abbrev ZC(w:World)(A:Option Addr)(n cap:Nat)(R:List zE):Prop:=SlW w A n cap 32 (R.map idC)
theorem zh(w:World)(A:Option Addr)(n cap:Nat)(O:List zE)(d:zE)(h:ZC w A n cap O)(hn:n<=1000000)(d4:Ris zI O) :
  Calls Tryz.prog 72 #[.slice A n cap,.agg (idC d)] w λe w'=>∃A' cap',e=.returned (.slice A' (xS zI O d).length cap')/\ZC w' A' (xS zI O d).length cap' (xS zI O d)/\(∀x∈blk A',x∈blk A\/w.heap.size<=x)/\Below w.heap.size w w':=by
 have b9:O.length=n:=by simpa using h.len
 have hB:Below w.heap.size w (w.alloc (.cells (idC d) 39)):=bA;have c4:z7 (w.alloc (.cells (idC d) 39)) w.heap.size 0 32=some (idC d):=by simp[go_sem]
 have h0:=h.below hB;have c1:=YI (w.alloc (.cells (idC d) 39)) A n cap O d h0.rd oM;have t:=dH b9;clear b9;by_cases b0:d∈O
 ·rw[decide_eq_true b0]at c1;have X:=tV q6 d4 b0;have Y:=dH X;clear X b0;go_enter Tryz.func72,Tryz.ntmps72
  (go_wp2_with fail);refine c1.mono ?_;rintro e w1 ⟨rfl,a5⟩;have h1:=h0.below a5;have d2:=yE hB a5;clear c1;(go_wp2_with fail);go_ret;refine⟨A,cap,by rw[Y.out,t.out];rfl,by rw[Y.out,t.out];exact h1,λx hx=>.inl hx,d2⟩
 ·rw[decide_eq_false b0]at c1;have f2:=dH b0;clear b0;go_enter Tryz.func72,Tryz.ntmps72
  go_upto_region 1 with fail
  obtain⟨gx,e3⟩:=eX w.heap.size
  have c9:=dH e3;rw[e3]at c4 hB |-;obtain⟨W0,e8⟩:=eR (w.alloc (.cells (idC d) 39))
  rw[<-e8]at h0 c4 hB c1 |-;clear e8 e3;(go_wp2_with fail);refine c1.mono ?_;rintro e w1 ⟨rfl,a5⟩;have h1:=h0.below a5;have d2:Below gx w w1:=hB.trans (a5.mono (by have:=hB.size;have:=c9.out;omega));have a9:z7 w1 gx 0 32=some (idC d):=(z9 (a5.block gx (zD c4)) _ _).trans c4;clear c1 c4 a5 hB h0;(go_wp2_with fail);go_loopw [5] (λj wj=>∃m:Nat,m<=n/\j=.int .i64 m/\Hid (∀i (hi:i<O.length),i<m->zI O[i] d<0)/\Below w1.heap.size w1 wj) (λj _=>n-(intOf j).toNat)
  case atStart=>exact⟨0,zL,rfl,(show ∀i (hi:i<O.length),i<0->_ from λi _ h=>absurd h oM),Below.refl _ _⟩
  case round =>
   obtain⟨m,V,rfl,a4,b3⟩:=hrel;have d1:z7 wr gx 0 32=some (idC d):=(z9 (b3.block gx (zD a9)) _ _).trans a9;have a1:=h1.below b3;by_cases I:m<n
   ·obtain⟨q,o,rfl,d5⟩:=zY.get a1.rd I (by rw[t.out];exact I);have a3:O[m]'(by rw[t.out];exact I)∈O:=List.getElem_mem _;obtain⟨y,hy⟩:=eX (O[m]'(by rw[t.out];exact I))
    rw[hy]at d5 a3;have Hy:=dH hy;have e6:=dH a3;clear hy a3;have c2:=wB y d wr.drew;obtain⟨c,hc⟩:=eX (zI y d)
    rw[hc]at c2;have Hc:=dH hc;clear hc;go_upto_region 4 with fail
    refine lX wr ?_;intro d6 hS;have b1:=zU d1;have b2:=zU d5;refine lZ ?_;refine lC (c2) ?_;clear hS;intro w' hS;refine lZ ?_;refine zC ?_;intro hS;have e9:Below wr.heap.size wr w':=hS;have R:=yE b3 e9;clear b1 b2 d6 hS c2;by_cases f1:c<0
    ·(go_wp2_with fail);go_roundw
     case rel =>
      refine⟨m+1,oM,by go_num,(show ∀i (hi:i<O.length),i<m+1->zI O[i] d<0 from λi hi f3=>?_),R⟩;by_cases e:i=m
      ·subst e;rw[Hy.out,Hc.out];exact f1
      ·exact a4.out i hi oM
     case measure=>exact sZ
    ·have X:=vE (c:=zI) O d m (by rw[t.out];exact V) a4.out (λe7=>by
      rw[Hy.out,Hc.out];have h1:c≠0:=λe=>f2.out (by rw[<-(q6.zero _ _).1 (Hc.out.trans e)];exact e6.out);omega)
     have Y:=dH X;have J:=h1.below R;have T:z7 w' gx 0 32=some (idC d):=(z9 (R.block gx (zD a9)) _ _).trans a9;have b4:Below gx w w':=d2.trans (R.mono (oH (zD a9)));clear X d5 d1 b3 R e9 a1;obtain⟨W,rfl⟩:∃W,W=w':=⟨w',rfl⟩
     obtain⟨A,f0⟩:=eX (some ⟨q,o,none⟩:Option Addr)
     rw[f0]at J |-;clear f0;have a6:Below W.heap.size W (W.alloc (.cells #[] 39)):=bA;have F:=Own.empty W W.heap.size 39 32 lR;have d7:∀w0:World,(slS 50 (.slice A n cap) none (some (.int .i64 m)) none).run Tryz.prog w0=.ok (.slice A m cap) w0:=λw0=>SlW.lo xI J V w0;obtain⟨Ah,ch,e1,c0,e2⟩:=J.hi (P:=Tryz.prog) xI (m:=m) V;have L:SlR (W.alloc (.cells #[] 39)) A m 32 ((O.map idC).take m):=(J.rd.below a6).take_ V;have c3:=J.nil;have D:∀r∈(O.map idC).take m,∀u∈r.toList,u.oneCell'=true:=λr hr=>(by obtain⟨y',_,rfl⟩:=List.mem_map.1 (List.mem_of_mem_take hr);exact xG _);have k:∀r∈(O.map idC).drop m,∀u∈r.toList,u.oneCell'=true:=λr hr=>(by obtain⟨y',_,rfl⟩:=List.mem_map.1 (List.mem_of_mem_drop hr);exact xG _);go_upto_region 7 with(at_builtin;refine yD xI rfl F rfl L c3 D oM oM sI ?_;intro A2 e5 w2 g e0 b7)
     simp only[Nat.zero_add,List.nil_append]at g;have U:Below W.heap.size W w2:=a6.trans (e0.below sI (by simp[blk]));have a2:z7 w2 gx (0) 32=some (idC d):=(z9 (U.block gx (zD T)) _ _).trans T;have a7:Below w2.heap.size w2 (w2.alloc (.cells (idC d) 39)):=bA;have E:=g.below a7;have B:z7 (w2.alloc (.cells (idC d) 39)) w2.heap.size 0 32=some (idC d):=by simp[go_sem]
     have a0:=U.size;go_upto_region 8 with(at_builtin;refine yM xI rfl E rfl B (xG _) oM oM sO ?_;intro A4 e4 w4 s d9 b6)
     have H:Below W.heap.size W w4:=(U.trans (a7.mono a0)).trans (d9.below sO (λx hx=>(g.at_base hx).1));have b8:=c0 w4 (J.rd.below H);have d3:=H.size;clear E B a7 F a6 L a2 d7;go_upto_region 9 with(at_builtin;refine yD xI rfl s rfl b8 e2 k oM oM oM ?_;intro A5 a8 w5 f d8 b5)
     have Z:Below W.heap.size W w5:=H.trans (d8.below oM (λx hx=>(s.at_base hx).1));have c5:(O.map idC).take m ++ [idC d]++(O.map idC).drop m=(O.take m++d :: O.drop m).map idC:=by simp[List.map_take,List.map_drop]
     rw[c5]at f;clear s g c5 b8 e1 c0 D k c3;have c7:(O.take m++d :: O.drop m).length=m+1+(n-m):=by simp[t.out];omega
     have c6:(xS zI O d).length=m+1+(n-m):=by rw[Y.out,c7]
     rw[<-Y.out]at f;have d0:=dH c6;have c8:=b4.trans (Z.mono (oH (zD T)));have G:∀x∈blk A5,w.heap.size<=x:=λx hx=>(by have h1:=(f.at_base hx).1;have h2:=b4.size;have h3:=c9.out;omega);have HB:=dH c8;have N:=dH G;have M:=dH f;clear c7 c6 c8 G f;(go_wp2_with fail);go_ret;exact⟨A5,a8,by rw[d0.out];rfl,by rw[d0.out];exact M.out.slw,λx hx=>.inr (N.out x hx),by rw[c9.out];exact HB.out⟩
   ·have hd:decide (m<n)=false:=by simpa using I
    have X:=vE (c:=zI) O d m (by rw[t.out];exact V) a4.out (λe7=>absurd (by rw[<-t.out];exact e7) I);have Y:=dH X;clear X;go_upto_region 4 with fail
    refine lX wr ?_;intro d6 hS;refine lZ ?_;refine lH ?_;intro K hK;refine hK _ _ ?_;clear hK K;refine lZ ?_;refine zC ?_;intro hS;have R:=b3.drew;have J:=h1.below R;have T:z7 wr.drew gx 0 32=some (idC d):=d1;have b4:Below gx w wr.drew:=d2.trans (R.mono (oH (zD a9)));clear d6 hS R d1 b3 I hd a1;obtain⟨W,hW⟩:=eX wr.drew
    rw[hW]at J b4 T |-;clear hW;have a6:Below W.heap.size W (W.alloc (.cells #[] 39)):=bA;have F:=Own.empty W W.heap.size 39 32 lR;have d7:∀w0:World,(slS 50 (.slice A n cap) none (some (.int .i64 m)) none).run Tryz.prog w0=.ok (.slice A m cap) w0:=λw0=>SlW.lo xI J V w0;obtain⟨Ah,ch,e1,c0,e2⟩:=J.hi (P:=Tryz.prog) xI (m:=m) V;have L:SlR (W.alloc (.cells #[] 39)) A m 32 ((O.map idC).take m):=(J.rd.below a6).take_ V;have c3:=J.nil;have D:∀r∈(O.map idC).take m,∀u∈r.toList,u.oneCell'=true:=λr hr=>(by obtain⟨y',_,rfl⟩:=List.mem_map.1 (List.mem_of_mem_take hr);exact xG _);have k:∀r∈(O.map idC).drop m,∀u∈r.toList,u.oneCell'=true:=λr hr=>(by obtain⟨y',_,rfl⟩:=List.mem_map.1 (List.mem_of_mem_drop hr);exact xG _);go_upto_region 7 with(at_builtin;refine yD xI rfl F rfl L c3 D oM oM sI ?_;intro A2 e5 w2 g e0 b7)
    simp only[Nat.zero_add,List.nil_append]at g;have U:Below W.heap.size W w2:=a6.trans (e0.below sI (by simp[blk]));have a2:z7 w2 gx (0) 32=some (idC d):=(z9 (U.block gx (zD T)) _ _).trans T;have a7:Below w2.heap.size w2 (w2.alloc (.cells (idC d) 39)):=bA;have E:=g.below a7;have B:z7 (w2.alloc (.cells (idC d) 39)) w2.heap.size 0 32=some (idC d):=by simp[go_sem]
    have a0:=U.size;go_upto_region 8 with(at_builtin;refine yM xI rfl E rfl B (xG _) oM oM sO ?_;intro A4 e4 w4 s d9 b6)
    have H:Below W.heap.size W w4:=(U.trans (a7.mono a0)).trans (d9.below sO (λx hx=>(g.at_base hx).1));have b8:=c0 w4 (J.rd.below H);have d3:=H.size;clear E B a7 F a6 L a2 d7;go_upto_region 9 with(at_builtin;refine yD xI rfl s rfl b8 e2 k oM oM oM ?_;intro A5 a8 w5 f d8 b5)
    have Z:Below W.heap.size W w5:=H.trans (d8.below oM (λx hx=>(s.at_base hx).1));have c5:(O.map idC).take m ++ [idC d]++(O.map idC).drop m=(O.take m++d :: O.drop m).map idC:=by simp[List.map_take,List.map_drop]
    rw[c5]at f;clear s g c5 b8 e1 c0 D k c3;have c7:(O.take m++d :: O.drop m).length=m+1+(n-m):=by simp[t.out];omega
    have c6:(xS zI O d).length=m+1+(n-m):=by rw[Y.out,c7]
    rw[<-Y.out]at f;have d0:=dH c6;have c8:=b4.trans (Z.mono (oH (zD T)));have G:∀x∈blk A5,w.heap.size<=x:=λx hx=>(by have h1:=(f.at_base hx).1;have h2:=b4.size;have h3:=c9.out;omega);have HB:=dH c8;have N:=dH G;have M:=dH f;clear c7 c6 c8 G f;(go_wp2_with fail);go_ret;exact⟨A5,a8,by rw[d0.out];rfl,by rw[d0.out];exact M.out.slw,λx hx=>.inr (N.out x hx),by rw[c9.out];exact HB.out⟩
theorem rset(w:World)(A:Option Addr)(n cap:Nat)(R:List zE)(h:zY w A n R)(hn:n<=1000000) :
  Calls Tryz.prog 165 #[.slice A n cap] w λe w'=>∃A' cap',e=.returned (.slice A' (yB zI R).length cap')/\ZC w' A' (yB zI R).length cap' (yB zI R)/\(∀x∈blk A',w.heap.size<=x)/\Below w.heap.size w w':=by
 have s:=h.len;have f:=dH s;clear s;go_enter Tryz.func165,Tryz.ntmps165
 (go_wp2_with fail);go_loopw [3,4] (λout i wr=>∃(k:Nat) (A1:Option Addr) (n1 g:Nat) (O:List zE),k<=n/\i=.int .i64 k/\out=.slice A1 n1 g/\Hid (O=yB zI (R.take k))/\ZC wr A1 n1 g O/\(∀x∈blk A1,w.heap.size<=x)/\Below w.heap.size w wr) (λ_ i _=>n-(intOf i).toNat)
 case atStart=>exact⟨0,none,0,0,[],zL,rfl,rfl,rfl,SlW.none_,by simp[blk],Below.refl _ _⟩
 case round =>
  obtain⟨k,A1,n1,g,O,hk,rfl,rfl,hO,B,H,hb⟩:=hrel;have G:O.length=n1:=by simpa using B.len
  by_cases r:k<n
  ·obtain⟨q,o,rfl,hr⟩:=zY.get (SlR.below h hb) r (by rw[f.out];exact r);have t:yB zI (R.take (k+1))=xS zI O (R[k]'(by rw[f.out];exact r)):=by
    rw[List.take_add_one,List.getElem?_eq_getElem (by rw[f.out];exact r),Option.toList_some,bQ,hO.out]
   have F:n1<=1000000:=by have:=xF (c:=zI) (R.take k);rw[<-hO.out]at this;simp at this;have:=f.out;omega
   have m:Ris zI O:=by rw[hO.out];exact xJ q6 _
   obtain⟨d,hd⟩:=eX (R[k]'(by rw[f.out];exact r))
   rw[hd]at hr t;have M:=dH t;have N:=dH F;have E:=dH m;clear hd t G F m;have c1:=zh wr A1 n1 g O d B N.out E.out;(go_wp2_with fail);refine c1.mono ?_;rintro e w1 ⟨A2,D,rfl,y,j,L⟩;have J:=hb.trans (L.mono hb.size);have T:=hb.size;clear c1;(go_wp2_with fail);go_roundw
   case rel=>exact⟨k+1,A2,_,D,_,oM,by go_num,rfl,(show _=_ from M.out.symm),y,λx hx=>(j x hx).elim (H x) (λh=>oM),J⟩
   case measure=>exact sZ
  ·have e:R.take k=R:=List.take_of_length_le (by rw[f.out];omega);have I:=hO.out;rw[e]at I;subst I;subst G;clear hO e;(go_wp2_with fail);go_ret;exact⟨A1,g,rfl,B,H,hb⟩
theorem rboth(w:World)(A B:Option Addr)(n m cap cap':Nat)(X Y:List zE)(hx:zY w A n X)(hy:zY w B m Y)(hn:n<=500000)(hm:m<=500000) :
  Calls Tryz.prog 216 #[.slice A n cap,.slice B m cap'] w λe w'=>∃A' cap',e=.returned (.slice A' (yB zI (X++Y)).length cap')/\ZC w' A' (yB zI (X++Y)).length cap' (yB zI (X++Y))/\(∀x∈blk A',w.heap.size<=x)/\Below w.heap.size w w':=by
 have F:=hx.len;have t:=hy.len;have a0:=xF (c:=zI) X;rw[F]at a0;have f:=dH t;have a3:=dH F;clear t F;have c0:=rset w A n cap X hx oM;go_enter Tryz.func216,Tryz.ntmps216
 (go_wp2_with fail);refine c0.mono ?_;rintro e w1 ⟨A1,I,rfl,T,G,U⟩;clear c0;(go_wp2_with fail);go_loopw [5,6] (λout i wr=>∃(k:Nat) (A2:Option Addr) (n2 g:Nat) (O:List zE),k<=m/\i=.int .i64 k/\out=.slice A2 n2 g/\Hid (O=yB zI (X++Y.take k))/\ZC wr A2 n2 g O/\(∀x∈blk A2,w.heap.size<=x)/\Below w.heap.size w wr) (λ_ i _=>m-(intOf i).toNat)
 case atStart=>exact⟨0,A1,_,I,_,zL,rfl,rfl,(sI:_=_),T,G,U⟩
 case round =>
  obtain⟨k,A2,n2,g,O,hk,rfl,rfl,hO,E,N,hb⟩:=hrel;have M:O.length=n2:=by simpa using E.len
  by_cases s:k<m
  ·obtain⟨q,o,rfl,hr⟩:=zY.get (SlR.below hy hb) s (by rw[f.out];exact s);have y:yB zI (X++Y.take (k+1))=xS zI O (Y[k]'(by rw[f.out];exact s)):=by
    rw[List.take_add_one,List.getElem?_eq_getElem (by rw[f.out];exact s),Option.toList_some,<-List.append_assoc,bQ,hO.out]
   have L:n2<=1000000:=by have:=xF (c:=zI) (X++Y.take k);rw[<-hO.out]at this;simp at this;have:=f.out;have:=a3.out;omega
   have r:Ris zI O:=by rw[hO.out];exact xJ q6 _
   obtain⟨d,hd⟩:=eX (Y[k]'(by rw[f.out];exact s))
   rw[hd]at hr y;have a1:=dH y;have a2:=dH L;have J:=dH r;clear hd y M L r;have c1:=zh wr A2 n2 g O d E a2.out J.out;(go_wp2_with fail);refine c1.mono ?_;rintro e w2 ⟨A3,H,rfl,D,j,Z⟩;have V:=hb.trans (Z.mono hb.size);have a4:=hb.size;clear c1;(go_wp2_with fail);go_roundw
   case rel=>exact⟨k+1,A3,_,H,_,oM,by go_num,rfl,(show _=_ from a1.out.symm),D,λx hx=>(j x hx).elim (N x) (λh=>oM),V⟩
   case measure=>exact sZ
  ·have e:Y.take k=Y:=List.take_of_length_le (by rw[f.out];omega);have R:=hO.out;rw[e]at R;subst R;subst M;clear hO e;(go_wp2_with fail);go_ret;exact⟨A2,g,rfl,E,N,hb⟩
theorem J4{cs:Array Value}{j:Nat}{v:Value}(h:cs[j]?=some v):cs.setIfInBounds j v=cs:=by
 obtain⟨hj,e⟩:=aG h;apply Array.ext
 ·simp
 ·intro i h1 h2;rw[Array.getElem_setIfInBounds];split
  ·rename_i e';subst e';exact e.symm
  ·rfl
theorem rsins8(x:zO)(w:World)(g:Nat)(cs:Array Value)(A:Option Addr)(n cap:Nat)(L:List zO)(hg:w.heap[g]?=some (.cells cs 69 (0,0)))(e3:cs[8]?=some (.slice A n cap))(a6:SlW w A n cap 66 (L.map yL))(g2:g∉blk A)(h8:jZ L)(hv:x.val.size<=9223372036854775807)(hn:n<=100000) :
  Calls Tryz.prog 148 #[.pointer (some ⟨g,8,none⟩),.agg (yL x)] w λe w'=>∃A' n' cap',e=.returned (.int .i64 (qX x))/\w'.heap[g]?=some (.cells (cs.setIfInBounds 8 (.slice A' n' cap')) 69 (0,0))/\SlW w' A' n' cap' 66 ((mJ L x).map yL)/\g∉blk A'/\z6 [g] w w':=by
 have i5:g<w.heap.size:=(aG hg).1;have g6:Below w.heap.size w (w.alloc (.cells (y8 (fQ x)) 213)):=bA;have d7:z7 (w.alloc (.cells (y8 (fQ x)) 213)) w.heap.size 0 66=some (yL x):=by simp[go_sem]
 have i1:L.length=n:=by simpa using a6.len
 have Y:=dH i1;have i9:=dH h8;have a9:w.heap.size<(w.alloc (.cells (y8 (fQ x)) 213)).heap.size:=zD d7;clear i1 h8;go_enter Tryz.func148,Tryz.ntmps148
 go_upto_region 1 with fail
 obtain⟨gx,g0⟩:=eX w.heap.size
 obtain⟨W0,g7⟩:=eX (w.alloc (.cells (y8 (fQ x)) 213))
 rw[g7]at g6 d7 a9;rw[g7];rw[g0]at d7 a9 |-;have j2:=dH g0;have c0:=zi x W0 hv;obtain⟨E,hE⟩:=eX (qX x)
 rw[hE]at c0;have HE:=dH hE;clear g7 g0 hE;(go_wp2_with fail);refine c0.mono ?_;rintro e w1 ⟨rfl,g5⟩;have D:=yE g6 g5;have a5:w1.heap[g]?=some (.cells cs 69 (0,0)):=(D.block g i5).trans hg;have a7:z7 w1 gx 0 66=some (yL x):=(z9 (g5.block gx a9) _ _).trans d7;have F:=a6.below D;have c9:w1.cell? ⟨g,8,none⟩=some (.slice A n cap):=by rw[cell_of_row w1 g 8 _ _ _ a5];exact e3
 clear c0 g6 d7 g5 a9 hg;by_cases e9:E=0
 ·subst e9;obtain⟨f1,_,_,_⟩:=bT a7;(go_wp2_with fail);go_loopw [6] (λj wj=>∃m:Nat,m<=n/\j=.int .i64 m/\Hid (∀i (hi:i<L.length),i<m->zI (L[i]).id x.id<0)/\Below w1.heap.size w1 wj) (λj _=>n-(intOf j).toNat)
  case atStart=>exact⟨0,zL,rfl,(show ∀i (hi:i<L.length),i<0->_ from λi _ h=>absurd h oM),Below.refl _ _⟩
  case round =>
   obtain⟨m,b6,rfl,a1,b9⟩:=hrel;have f2:z7 wr gx 0 66=some (yL x):=(z9 (b9.block gx (zD a7)) _ _).trans a7;have j1:z7 wr gx 0 32=some (idC x.id):=(z9 (b9.block gx (zD a7)) _ _).trans f1;have b8:=(b9.cell (p:=⟨g,8,none⟩) (World.block_lt_of_cell? w1 _ c9)).trans c9;have c4:=F.below b9;by_cases X:m<n
   ·obtain⟨q2,o2,rfl,h7⟩:=fN.get c4.rd X (by rw[Y.out];exact X);obtain⟨y1,_,_,_⟩:=bT h7;obtain⟨y,hy⟩:=eX (L[m]'(by rw[Y.out];exact X))
    rw[hy]at y1;have Hy:=dH hy;have c2:=wB y.id x.id wr.drew;obtain⟨c,hc⟩:=eX (zI y.id x.id)
    rw[hc]at c2;have Hc:=dH hc;clear hy hc h7;go_upto_region 5 with fail
    refine lX wr ?_;intro a8 hS;have b1:=zU j1;have b2:=zU y1;have b3:=zJ b8;refine lZ ?_;refine lC (c2) ?_;clear hS;intro w' hS;refine lZ ?_;refine zC ?_;intro hS;have e6:Below wr.heap.size wr w':=hS;have O:=yE b9 e6;have b7:=(e6.cell (World.block_lt_of_cell? wr _ b8)).trans b8;have d2:z7 w' gx 0 32=some (idC x.id):=(z9 (e6.block gx (zD j1)) _ _).trans j1;have d1:z7 w' q2 (o2+m*66) 32=some (idC y.id):=(z9 (e6.block q2 (zD y1)) _ _).trans y1;clear b1 b2 b3 a8 hS c2 e6 b9 j1 y1 b8 c4 f2;by_cases h5:c<0
    ·clear b7 d2 d1;(go_wp2_with fail);go_roundw
     case rel =>
      refine⟨m+1,oM,by go_num,(show ∀i (hi:i<L.length),i<m+1->zI (L[i]).id x.id<0 from λi hi e8=>?_),O⟩;by_cases e:i=m
      ·subst e;rw[Hy.out,Hc.out];exact h5
      ·exact a1.out i hi oM
     case measure=>exact sZ
    ·have i2:=dH h5;obtain⟨V,rfl⟩:∃V,V=w':=⟨w',rfl⟩
     by_cases hid:y.id=x.id
     ·have i0:x.id∈L.map zO.id:=List.mem_map.2 ⟨y,by rw[<-Hy.out];exact List.getElem_mem _,hid⟩;have b5:Hid (mJ L x=L):=(show _=_ by unfold mJ;rw[if_pos HE.out,if_pos i0])
      have he:(y.id==x.id)=true:=by simpa using hid
      clear i0 hid;go_upto_region 7 with fail
      refine lX V ?_;intro a8 hS;have b1:=zU d2;have b2:=zU d1;have b3:=zJ b7;refine lZ ?_;refine zC ?_;intro hS;have h6:=F.below (O.drew);have i4:=(O.drew.block g (aG a5).1).trans a5;have f4:z6 [g] w V.drew:=(z6.of_below (yE D O.drew)).mono (S':=[g]) sI;have h3:=dH h6;clear b1 b2 b3 a8 hS d2 d1 b7 O h6 he;(go_wp2_with fail);go_ret;exact⟨yA HE.out.symm,_,n,cap,by rw[J4 e3];exact i4,by rw[b5.out];exact h3.out,g2,f4⟩
     ·have a0:x.id∉L.map zO.id:=λhx=>by
       obtain⟨z,hz,e⟩:=List.mem_map.1 hx;obtain⟨i,hi,e2⟩:=List.mem_iff_getElem.1 hz;have i3:=YQ i9.out;rcases Nat.lt_trichotomy i m with h1 | h1 | h1
       ·have:=a1.out i hi h1;rw[e2,e]at this;exact q6.irr _ this
       ·subst h1;rw[Hy.out]at e2;rw[<-e2]at e;exact hid e
       ·have h2:=Q2 i3 (i:=m) (j:=i) h1 (by simpa using hi);rw[List.getElem_map,List.getElem_map,Hy.out,e2,e]at h2;rw[Hc.out]at h2;exact i2.out h2
      have e5:=vE (c:=tY) L x m (by rw[Y.out];exact b6) (λi hi e8=>by
        have h1:=a1.out i hi e8;unfold tY orC;rw[if_neg oM];exact h1) (λh9=>by
        rw[Hy.out];have h1:zI y.id x.id≠0:=λe'=>hid ((kT _ _).1 e');have h2:=i2.out;rw[<-Hc.out]at h2;unfold tY orC;rw[if_neg h1];omega)
      have h4:=dH e5;have b5:Hid (mJ L x=xS tY L x):=(show _=_ by unfold mJ;rw[if_pos HE.out,if_neg a0])
      have he:(y.id==x.id)=false:=by simpa using hid
      clear a0 e5 hid;go_upto_region 7 with fail
      refine lX V ?_;intro a8 hS;have b1:=zU d2;have b2:=zU d1;have b3:=zJ b7;refine lZ ?_;refine zC ?_;intro hS;have T:=F.below (O.drew);have c5:z7 V.drew gx 0 66=some (yL x):=(z9 (O.drew.block gx (zD a7)) _ _).trans a7;have c8:=(O.drew.block g (aG a5).1).trans a5;have N:=(O.drew.cell (p:=⟨g,8,none⟩) (World.block_lt_of_cell? w1 _ c9)).trans c9;have b4:=yE D O.drew;clear b1 b2 b3 a8 hS d2 d1 b7 O he F a7 a5 c9 f1 D;obtain⟨W,hW⟩:=eX V.drew
      rw[hW]at T c5 c8 N b4;rw[hW];clear hW;have g1:g<W.heap.size:=(aG c8).1;obtain⟨A,g8⟩:=eX (some ⟨q2,o2,none⟩:Option Addr)
      rw[g8]at T N;rw[g8]at g2;clear g8 e3 a6;have b0:Below W.heap.size W (W.alloc (.cells #[] 213)):=bA;have g3:=(b0.cell (p:=⟨g,8,none⟩) (World.block_lt_of_cell? W _ N)).trans N;have M:=Own.empty W W.heap.size 213 66 lR;have f3:∀w0:World,(slS 65 (.slice A n cap) none (some (.int .i64 m)) none).run Tryz.prog w0=.ok (.slice A m cap) w0:=λw0=>SlW.lo qR T b6 w0;obtain⟨Ah,ch,f8,d9,f9⟩:=T.hi (P:=Tryz.prog) qR (m:=m) b6;have Z:SlR (W.alloc (.cells #[] 213)) A m 66 ((L.map yL).take m):=(T.rd.below b0).take_ b6;have e1:=T.nil;have H:∀r∈(L.map yL).take m,∀u∈r.toList,u.oneCell'=true:=λr hr=>(by obtain⟨y',_,rfl⟩:=List.mem_map.1 (List.mem_of_mem_take hr);exact jD _);have k:∀r∈(L.map yL).drop m,∀u∈r.toList,u.oneCell'=true:=λr hr=>(by obtain⟨y',_,rfl⟩:=List.mem_map.1 (List.mem_of_mem_drop hr);exact jD _);go_upto_region 10 with(at_builtin;refine yD qR rfl M rfl Z e1 H oM oM sI ?_;intro A2 h0 w2 f f7 d5)
      simp only[Nat.zero_add,List.nil_append]at f;have c1:Below W.heap.size W w2:=b0.trans (f7.below sI (by simp[blk]));have c6:z7 w2 gx 0 66=some (yL x):=(z9 (c1.block gx (zD c5)) _ _).trans c5;have d0:Below w2.heap.size w2 (w2.alloc (.cells (y8 (fQ x)) 213)):=bA;have J:=f.below d0;have G:z7 (w2.alloc (.cells (y8 (fQ x)) 213)) w2.heap.size 0 66=some (yL x):=by simp[go_sem]
      have c3:=c1.size;go_upto_region 11 with(at_builtin;refine yM qR rfl J rfl G (jD _) oM oM sO ?_;intro A4 g9 w4 s f6 d4)
      have B:Below W.heap.size W w4:=(c1.trans (d0.mono c3)).trans (f6.below sO (λx hx=>(f.at_base hx).1));have d6:=d9 w4 (T.rd.below B);have f0:=B.size;have g4:=(B.cell (p:=⟨g,8,none⟩) (World.block_lt_of_cell? W _ N)).trans N;clear J G d0 M b0 Z c6 f3 g3;go_upto_region 12 with(at_builtin;refine yD qR rfl s rfl d6 f9 k oM oM oM ?_;intro A5 t w5 d f5 d3)
      have R:Below W.heap.size W w5:=B.trans (f5.below oM (λx hx=>(s.at_base hx).1));have e7:(L.map yL).take m ++ [yL x]++(L.map yL).drop m=(L.take m++x :: L.drop m).map yL:=by simp[List.map_take,List.map_drop]
      rw[e7,<-h4.out]at d;clear s f e7 d6 f8 d9 H k e1 g4;have e0:w5.heap[g]?=some (.cells cs 69 (0,0)):=(R.block g g1).trans c8;have i7:w5.cell? ⟨g,8,none⟩=some (.slice A n cap):=(R.cell (p:=⟨g,8,none⟩) (World.block_lt_of_cell? W _ N)).trans N;have i6:w5.frozen? ⟨g,8,none⟩=false:=by simp[World.frozen?,e0]
      have a3:=zA e0 8 (.slice A5 (m+1+(n-m)) t);have c7:=z6.setCell w5 ⟨g,8,none⟩ (.slice A5 (m+1+(n-m)) t);have e4:Below w.heap.size w w5:=b4.trans (R.mono b4.size);have i8:=b4.size;have I:=d.kept c7 (λy hy hm=>by have:=(d.at_base hy).1;simp at hm;omega);have U:=I.slw;have a2:g∉blk A5:=λhx=>(oH ((d.at_base hx).1));have d8:z6 [g] w (w5.setCell ⟨g,8,none⟩ (.slice A5 (m+1+(n-m)) t)):=z6.trans ((z6.of_below e4).mono (S':=[g]) sI) c7 iL;have a4:=dH U;clear d I U e4 c7;(go_wp2_with fail);go_ret;first | exact⟨yA HE.out.symm,A5,m+1+(n-m),t,a3,by rw[b5.out];exact a4.out,a2,d8⟩ | exact⟨A5,m+1+(n-m),t,yA HE.out.symm,a3,by rw[b5.out];exact a4.out,a2,d8⟩
   ·have hd:decide (m<n)=false:=by simpa using X
    have a0:x.id∉L.map zO.id:=λhx=>by
     obtain⟨z,hz,e⟩:=List.mem_map.1 hx;obtain⟨i,hi,e2⟩:=List.mem_iff_getElem.1 hz;have:=a1.out i hi (oH Y.out);rw[e2,e]at this;exact q6.irr _ this
    have e5:=vE (c:=tY) L x m (by rw[Y.out];exact b6) (λi hi e8=>by
      have h1:=a1.out i hi e8;unfold tY orC;rw[if_neg oM];exact h1) (λh9=>absurd (by rw[<-Y.out];exact h9) X)
    have h4:=dH e5;have b5:Hid (mJ L x=xS tY L x):=(show _=_ by unfold mJ;rw[if_pos HE.out,if_neg a0])
    clear a0 e5 j1;go_upto_region 5 with fail
    refine lX wr ?_;intro a8 hS;have b3:=zJ b8;refine lZ ?_;refine lH ?_;intro K hK;refine hK _ _ ?_;clear hK K;refine lZ ?_;refine zC ?_;intro hS;clear b3 a8 hS;have b7:wr.drew.cell? ⟨g,8,none⟩=some (.slice A n cap):=b8;go_upto_region 7 with fail
    refine lX wr.drew ?_;intro a8 hS;have b3:=zJ b7;refine lZ ?_;refine zC ?_;intro hS;have O:Below w1.heap.size w1 wr.drew.drew:=b9.drew.drew;have T:=F.below O;have c5:z7 wr.drew.drew gx 0 66=some (yL x):=f2;have c8:=(O.block g (aG a5).1).trans a5;have N:wr.drew.drew.cell? ⟨g,8,none⟩=some (.slice A n cap):=b8;have b4:=yE D O;clear b3 a8 hS b7 O F a7 a5 c9 f1 D b8 f2 b9 c4 hd X;obtain⟨W,hW⟩:=eX wr.drew.drew
    rw[hW]at T c5 c8 N b4;rw[hW];clear hW;have g1:g<W.heap.size:=(aG c8).1;clear e3 a6;have b0:Below W.heap.size W (W.alloc (.cells #[] 213)):=bA;have g3:=(b0.cell (p:=⟨g,8,none⟩) (World.block_lt_of_cell? W _ N)).trans N;have M:=Own.empty W W.heap.size 213 66 lR;have f3:∀w0:World,(slS 65 (.slice A n cap) none (some (.int .i64 m)) none).run Tryz.prog w0=.ok (.slice A m cap) w0:=λw0=>SlW.lo qR T b6 w0;obtain⟨Ah,ch,f8,d9,f9⟩:=T.hi (P:=Tryz.prog) qR (m:=m) b6;have Z:SlR (W.alloc (.cells #[] 213)) A m 66 ((L.map yL).take m):=(T.rd.below b0).take_ b6;have e1:=T.nil;have H:∀r∈(L.map yL).take m,∀u∈r.toList,u.oneCell'=true:=λr hr=>(by obtain⟨y',_,rfl⟩:=List.mem_map.1 (List.mem_of_mem_take hr);exact jD _);have k:∀r∈(L.map yL).drop m,∀u∈r.toList,u.oneCell'=true:=λr hr=>(by obtain⟨y',_,rfl⟩:=List.mem_map.1 (List.mem_of_mem_drop hr);exact jD _);go_upto_region 10 with(at_builtin;refine yD qR rfl M rfl Z e1 H oM oM sI ?_;intro A2 h0 w2 f f7 d5)
    simp only[Nat.zero_add,List.nil_append]at f;have c1:Below W.heap.size W w2:=b0.trans (f7.below sI (by simp[blk]));have c6:z7 w2 gx 0 66=some (yL x):=(z9 (c1.block gx (zD c5)) _ _).trans c5;have d0:Below w2.heap.size w2 (w2.alloc (.cells (y8 (fQ x)) 213)):=bA;have J:=f.below d0;have G:z7 (w2.alloc (.cells (y8 (fQ x)) 213)) w2.heap.size 0 66=some (yL x):=by simp[go_sem]
    have c3:=c1.size;go_upto_region 11 with(at_builtin;refine yM qR rfl J rfl G (jD _) oM oM sO ?_;intro A4 g9 w4 s f6 d4)
    have B:Below W.heap.size W w4:=(c1.trans (d0.mono c3)).trans (f6.below sO (λx hx=>(f.at_base hx).1));have d6:=d9 w4 (T.rd.below B);have f0:=B.size;have g4:=(B.cell (p:=⟨g,8,none⟩) (World.block_lt_of_cell? W _ N)).trans N;clear J G d0 M b0 Z c6 f3 g3;go_upto_region 12 with(at_builtin;refine yD qR rfl s rfl d6 f9 k oM oM oM ?_;intro A5 t w5 d f5 d3)
    have R:Below W.heap.size W w5:=B.trans (f5.below oM (λx hx=>(s.at_base hx).1));have e7:(L.map yL).take m ++ [yL x]++(L.map yL).drop m=(L.take m++x :: L.drop m).map yL:=by simp[List.map_take,List.map_drop]
    rw[e7,<-h4.out]at d;clear s f e7 d6 f8 d9 H k e1 g4;have e0:w5.heap[g]?=some (.cells cs 69 (0,0)):=(R.block g g1).trans c8;have i7:w5.cell? ⟨g,8,none⟩=some (.slice A n cap):=(R.cell (p:=⟨g,8,none⟩) (World.block_lt_of_cell? W _ N)).trans N;have i6:w5.frozen? ⟨g,8,none⟩=false:=by simp[World.frozen?,e0]
    have a3:=zA e0 8 (.slice A5 (m+1+(n-m)) t);have c7:=z6.setCell w5 ⟨g,8,none⟩ (.slice A5 (m+1+(n-m)) t);have e4:Below w.heap.size w w5:=b4.trans (R.mono b4.size);have i8:=b4.size;have I:=d.kept c7 (λy hy hm=>by have:=(d.at_base hy).1;simp at hm;omega);have U:=I.slw;have a2:g∉blk A5:=λhx=>(oH ((d.at_base hx).1));have d8:z6 [g] w (w5.setCell ⟨g,8,none⟩ (.slice A5 (m+1+(n-m)) t)):=z6.trans ((z6.of_below e4).mono (S':=[g]) sI) c7 iL;have a4:=dH U;clear d I U e4 c7;(go_wp2_with fail);go_ret;first | exact⟨yA HE.out.symm,A5,m+1+(n-m),t,a3,by rw[b5.out];exact a4.out,a2,d8⟩ | exact⟨A5,m+1+(n-m),t,yA HE.out.symm,a3,by rw[b5.out];exact a4.out,a2,d8⟩
 ·have j0:(E != 0)=true:=by simpa using e9
  have b5:Hid (mJ L x=L):=(show _=_ by unfold mJ;rw[if_neg (by rw[HE.out];exact e9)])
  have f4:z6 [g] w w1:=(z6.of_below D).mono (S':=[g]) sI;have h3:=dH F;clear e9 F a7 c9 D;(go_wp2_with fail);go_ret;exact⟨A,n,cap,yA HE.out.symm,by rw[J4 e3];exact a5,by rw[b5.out];exact h3.out,g2,f4⟩
theorem rsdel8(d:zE)(w:World)(g:Nat)(cs:Array Value)(A:Option Addr)(n cap:Nat)(G:List zE)(hg:w.heap[g]?=some (.cells cs 69 (0,0)))(F:cs[9]?=some (.slice A n cap))(hI:ZC w A n cap G)(M:g∉blk A)(hr:Ris zI G)(hn:n<=100000) :
  Calls Tryz.prog 149 #[.pointer (some ⟨g,8,none⟩),.agg (idC d)] w λe w'=>∃A' cap',e=.returned (.tuple #[])/\w'.heap[g]?=some (.cells (cs.setIfInBounds 9 (.slice A' (xS zI G d).length cap')) 69 (0,0))/\ZC w' A' (xS zI G d).length cap' (xS zI G d)/\g∉blk A'/\z6 [g] w w':=by
 have E:g<w.heap.size:=(aG hg).1;have r:Below w.heap.size w (w.alloc (.cells (idC d) 39)):=bA;have t:z7 (w.alloc (.cells (idC d) 39)) w.heap.size 0 32=some (idC d):=by simp[go_sem]
 go_enter Tryz.func149,Tryz.ntmps149
 go_upto_region 1 with fail
 obtain⟨gx,B⟩:=eX w.heap.size
 obtain⟨W,hW⟩:=eX (w.alloc (.cells (idC d) 39))
 rw[hW]at r t;rw[hW];rw[B]at t |-;have Y:=dH B;have L:=(r.block g E).trans hg;have O:W.cell? ⟨g,9,none⟩=some (.slice A n cap):=by rw[cell_of_row W g 9 _ _ _ L];exact F
 have V:=hI.below r;have c1:=zh W.drew A n cap G d (V.below (yZ W)) oM hr;clear hW B;refine kF [] W ?_;intro I hS;have b1:=y9 t (S:=[]) sI;have b2:=zP O (S:=[]) sI;refine lZ ?_;refine lH ?_;intro K hK;refine c1.mono ?_;rintro e w3 ⟨A',cap',rfl,H,f,T⟩;have m:Below W.heap.size W w3:=vC (yZ W) T;have k:=yE r m;refine⟨_,rfl,(z6.of_below m),hK _ _ ?_⟩;clear hK K;have s:w3.heap[g]?=some (.cells cs 69 (0,0)):=(k.block g E).trans hg;have R:w3.cell? ⟨g,9,none⟩=some (.slice A n cap):=by rw[cell_of_row w3 g 9 _ _ _ s];exact F
 have N:w3.frozen? ⟨g,9,none⟩=false:=by simp[World.frozen?,s]
 refine lZ ?_;refine vI ?_ ?_;(focus(simp only[yO];done));intro K hK;go_simp;refine hK _ _ ?_;clear hK K;have D:=zA s 9 (.slice A' (xS zI G d).length cap');have y:=z6.setCell w3 ⟨g,9,none⟩ (.slice A' (xS zI G d).length cap');have j:g∉blk A':=λhx=>by
  rcases f g hx with h1 | h1
  ·exact M h1
  ·have h2:=r.size;have h3:W.drew.heap.size=W.heap.size:=rfl;omega
 have X:=H.kept y (λx hx hm=>j (by simp at hm;rw[<-hm];exact hx));have J:z6 [g] w (w3.setCell ⟨g,9,none⟩ (.slice A' (xS zI G d).length cap')):=z6.trans ((z6.of_below k).mono (S':=[g]) sI) y iL;clear H y s R N b1 b2 I hS c1;(go_wp2_with fail);go_end0;exact⟨A',cap',rfl,D,X,j,J⟩
theorem X3:(Tryz.prog.info? 210).map (·.size)=some 34:=kR
@[go_sem ↓] theorem nM(w:World):(zeroValue 210).run Tryz.prog w=.ok (.agg (zF fB)) w:=by
 have h:(Tryz.prog.info? 210).bind (·.zero)=some (.agg (zF fB)):=kR;cases hi:Tryz.prog.info? 210 with
 | none=>rw[hi]at h;cases h
 | some i =>
  rw[hi]at h;have hz:i.zero=some (.agg (zF fB)):=h;simp[zeroValue,typeInfo,hi,hz]
@[go_sem ↓] theorem loadRMRow_rw(a:Addr):loadVar 210 a=ldS 210 a:=rfl
@[go_sem ↓] theorem storeRMRow_rw(a:Addr)(v:Value):storeVar 210 a v=stS 210 a v:=rfl
@[go_sem] theorem loadRMRow_run(w:World)(g o:Nat):(ldS 210 ⟨g,o,none⟩).run Tryz.prog w=match z7 w g o 34 with | some cs=>.ok (.agg cs) w | none=>(loadVar 210 ⟨g,o,none⟩).run Tryz.prog w :=
 vZ Tryz.underlying210 rfl X3 w g o
@[go_sem] theorem storeRMRow_run(w:World)(g:Nat)(hg:g=w.heap.size)(z:Array Value)(hz:z.size=34)(x:xW)(e:TypeId):(stS 210 ⟨g,0,none⟩ (.agg (zF x))).run Tryz.prog (w.alloc (.cells z e))=.ok () (w.alloc (.cells (zF x) e)) :=
 hg ▸ qY X3 w z (zF x) hz (k7 x) (j3 x)
theorem mK:Tryz.prog.underlying 210=some (.struct (Tryz.prog.fieldsOf 210)):=kR
theorem cO(w:World):((Tryz.prog.fieldsOf 210).mapM fun (f:Field)=>do pure (f.offset,<-sizeOf f.type)).run Tryz.prog w=.ok #[(0,32),(32,1),(33,1)] w:=kR
@[go_sem ↓] theorem buildRMRow_rw(parts:Array (Nat×Value)):Instr.build 210 parts=bdS 210 parts:=rfl
@[go_sem] theorem buildRMRow(a0:zE)(a1:ByteArray)(a2:ByteArray)(w:World):(bdS 210 #[(0,.agg (idC a0)),(1,.string a1),(2,.string a2)]).run Tryz.prog w=.ok (.agg (zF ⟨a0,a1,a2⟩)) w:=by
 refine qP w mK _ (nM w) _ (cO w) [(0,.agg (idC a0)),(1,.string a1),(2,.string a2)] _ ?_;rw[show zF fB=(#[]:Array Value)++idC id0++(#[.string ⟨#[]⟩]++(#[.string ⟨#[]⟩]))from by first | (simp[zF,fB,Array.append_assoc];done) | (apply Array.ext';simp[zF,fB])];rw[yJ (off:=0) (size:=32) rfl sI sI (by simp[Value.cells])];rw[show(#[]:Array Value)++(Value.agg (idC a0)).cells++(#[.string ⟨#[]⟩]++(#[.string ⟨#[]⟩]))=(idC a0) ++ #[.string ⟨#[]⟩]++(#[.string ⟨#[]⟩])from by first | (simp[Value.cells,Array.append_assoc];done) | (apply Array.ext';simp[Value.cells];done) | (apply Array.ext';simp only[Array.toList_append];simp[Value.cells])];rw[yJ (off:=32) (size:=1) rfl sI sI (by simp[Value.cells])];rw[show(idC a0)++(Value.string a1).cells++(#[.string ⟨#[]⟩])=(idC a0++(#[.string a1])) ++ #[.string ⟨#[]⟩]++(#[]:Array Value)from by first | (simp[Value.cells,Array.append_assoc];done) | (apply Array.ext';simp[Value.cells];done) | (apply Array.ext';simp only[Array.toList_append];simp[Value.cells])];rw[yJ (off:=33) (size:=1) rfl sI sI (by simp[Value.cells])];first | (simp[Instr.fill,zF,Array.append_assoc,Value.cells];done) | (simp only[Instr.fill,zF];congr 1;apply Array.ext';simp[Value.cells];done) | (simp only[Instr.fill,zF];congr 1;done) | (simp only[Instr.fill,zF];done)
theorem v6:xH Tryz.prog 62 210 34 64 :=
 .of (z:=.agg (zF fB)) Tryz.underlying62 kR kR kR (k7 _) oM
@[go_sem ↓] theorem bsRM_rw(n:Nat)(parts:Array (Nat×Value)):Instr.buildSlice 62 n parts=bsS 62 n parts:=rfl
@[go_sem] theorem bsRM_run(w:World)(x:xW):(bsS 62 1 #[(0,.agg (zF x))]).run Tryz.prog w=.ok (.slice (some ⟨w.heap.size,0,none⟩) 1 1) (w.alloc (.cells (zF x) 210)) :=
 bF v6 oM w (zF x) (k7 x)
@[go_sem] theorem bsRM0_run(w:World):(bsS 62 0 #[]).run Tryz.prog w=.ok (.slice (some ⟨w.heap.size,0,none⟩) 0 0) (w.alloc (.cells #[] 210)):=dZ v6 w
@[go_sem ↓] theorem slRM_rw(x:Value)(lo hi mx:Option Value):Instr.sliceAt 62 x lo hi mx=slS 62 x lo hi mx:=rfl
def je(x y:xW):Bool:=(x.id==y.id)&&((x.key.toList==y.key.toList)&&(x.val.toList==y.val.toList))
theorem mEqB_eq(x y:xW):je x y=decide (x=y):=by
 unfold je;rw[Bool.eq_iff_iff];simp only[Bool.and_eq_true,beq_iff_eq,toList_inj,decide_eq_true_eq];refine⟨λh=>?_,λh=>by subst h;exact⟨rfl,rfl,rfl⟩⟩;cases x;cases y
 obtain⟨h1,h2,h3⟩:=h;dsimp only at h1 h2 h3;subst h1;subst h2;subst h3;rfl
theorem eqRM_in(x y:xW)(w:World):(Op.equalIn 10000 210 (.agg (zF x)) (.agg (zF y))).run Tryz.prog w=.ok (je x y) w:=by
 rw[show(10000:Nat)=9999+1 from rfl,run_equalIn_agg w 9999 210 _ _ mK kR];unfold je;have e1:=QN 9997 x.id y.id w;have e2:=run_equalIn_string (P:=Tryz.prog) w 9998 9 x.key y.key Tryz.underlying9;have e3:=run_equalIn_string (P:=Tryz.prog) w 9998 9 x.val y.val Tryz.underlying9;simp only[Program.fieldsOf,Tryz.underlying210];simp[Op.eqFields,part,asAgg,isAgg,go_sem,Tryz.underlying9,Tryz.underlying39,e1,e2,e3];cases h1:(x.id==y.id) <;> cases h2:(x.key.toList==y.key.toList) <;> cases h3:(x.val.toList==y.val.toList) <;> simp_all
@[go_sem ↓] theorem eqRM_run(x y:xW)(w:World):(Op.equalIn 10000 210 (.agg (zF x)) (.agg (zF y))).run Tryz.prog w=.ok (je x y) w:=eqRM_in x y w
abbrev gH(w:World)(A:Option Addr)(n:Nat)(R:List xW):Prop:=SlR w A n 34 (R.map zF)
theorem gH.len{w:World}{A:Option Addr}{n:Nat}{R:List xW}(h:gH w A n R):R.length=n:=by simpa using h.1
theorem gH.get{w:World}{A:Option Addr}{n:Nat}{R:List xW}(h:gH w A n R){i:Nat}(hi:i<n)(hR:i<R.length) :
  ∃g o,A=some ⟨g,o,none⟩/\z7 w g (o+i*34) 34=some (zF R[i])/\z7 w g (o+i*34) 32=some (idC (R[i]).id)/\w.cell? ⟨g,o+i*34+32,none⟩=some (.string (R[i]).key)/\w.cell? ⟨g,o+i*34+33,none⟩=some (.string (R[i]).val):=by
 obtain⟨g,o,e,hr⟩:=h.at_ hi;rw[List.getElem_map]at hr;refine⟨g,o,e,hr,?_,?_,?_⟩
 ·have:=zX hr (j:=0) (m:=32) oM
  rwa [fJ]at this
 ·have:=z8 hr (j:=32) oM
  rwa [fA]at this
 ·have:=z8 hr (j:=33) oM
  rwa [bZ]at this
theorem QB(a b:Int):orC a b<0↔a<0\/(a=0/\b<0):=by
 unfold orC;split <;> omega
theorem cmpMR_lt(x y:xW):xN x y<0↔zI x.id y.id<0\/(zI x.id y.id=0/\(xY x.key y.key<0\/(x.key=y.key/\xY x.val y.val<0))):=by
 unfold xN;rw[orL3,QB,QB,dQ]
theorem rmless(x y:xW)(w:World):Calls Tryz.prog 220 #[.agg (zF x),.agg (zF y)] w λe w'=>e=.returned (.bool (decide (xN x y<0)))/\Below w.heap.size w w':=by
 have hB:Below w.heap.size w ((w.alloc (.cells (zF x) 210)).alloc (.cells (zF y) 210)):=(bA).alloc sI _;have h0:decide (xN x y<0)=decide (zI x.id y.id<0\/(zI x.id y.id=0/\(xY x.key y.key<0\/(x.key=y.key/\xY x.val y.val<0)))):=decide_eq_decide.2 (cmpMR_lt x y);have hs:=kD x.key y.key;have g:=kD x.val y.val;have ra:z7 ((w.alloc (.cells (zF x) 210)).alloc (.cells (zF y) 210)) w.heap.size 0 34=some (zF x):=by simp[go_sem]
 have rb:z7 ((w.alloc (.cells (zF x) 210)).alloc (.cells (zF y) 210)) (w.heap.size+1) 0 34=some (zF y):=by simp[go_sem]
 have H0:=dH h0;clear h0;go_enter Tryz.func220,Tryz.ntmps220
 go_upto_region 1 with fail
 generalize (w.alloc (.cells (zF x) 210)).alloc (.cells (zF y) 210)=W at *;have a1:z7 W w.heap.size 0 32=some (idC x.id):=by have:=zX ra (j:=0) (m:=32) oM;rwa [fJ]at this
 have a2:W.cell? ⟨w.heap.size,32,none⟩=some (.string x.key):=by have:=z8 ra (j:=32) oM;rwa [fA,Nat.zero_add]at this
 have a5:W.cell? ⟨w.heap.size,33,none⟩=some (.string x.val):=by have:=z8 ra (j:=33) oM;rwa [bZ,Nat.zero_add]at this
 have a3:z7 W (w.heap.size+1) 0 32=some (idC y.id):=by have:=zX rb (j:=0) (m:=32) oM;rwa [fJ]at this
 have a4:W.cell? ⟨w.heap.size+1,32,none⟩=some (.string y.key):=by have:=z8 rb (j:=32) oM;rwa [fA,Nat.zero_add]at this
 have a6:W.cell? ⟨w.heap.size+1,33,none⟩=some (.string y.val):=by have:=z8 rb (j:=33) oM;rwa [bZ,Nat.zero_add]at this
 clear ra rb;have c1:=wB x.id y.id W;obtain⟨c,hc⟩:=eX (zI x.id y.id)
 rw[hc]at c1;obtain⟨sk,t⟩:=eX (Op.bytesLess x.key.toList y.key.toList)
 obtain⟨sv,s⟩:=eX (Op.bytesLess x.val.toList y.val.toList)
 obtain⟨se,A⟩:=eX (x.key.toList==y.key.toList)
 have k:sk=decide (xY x.key y.key<0):=t.symm.trans hs;have f:sv=decide (xY x.val y.val<0):=s.symm.trans g;have r:se=decide (x.key=y.key):=by rw[<-A,Bool.eq_iff_iff,beq_iff_eq,toList_inj,decide_eq_true_eq]
 rw[hc]at H0;have H1:Hid (decide (xN x y<0)=decide (c<0\/(c=0/\(sk=true\/(se=true/\sv=true))))):=by
  show _=_;rw[H0.out,k,f,r];simp only[decide_eq_true_eq]
 clear hc hs g k f r H0;(go_wp2_with fail);refine c1.mono ?_;rintro e W2 ⟨rfl,hb⟩;have d2:=(hb.cell (p:=⟨w.heap.size,32,none⟩) (World.block_lt_of_cell? W _ a2)).trans a2;have d3:=(hb.cell (p:=⟨w.heap.size,33,none⟩) (World.block_lt_of_cell? W _ a5)).trans a5;have e2:=(hb.cell (p:=⟨w.heap.size+1,32,none⟩) (World.block_lt_of_cell? W _ a4)).trans a4;have e3:=(hb.cell (p:=⟨w.heap.size+1,33,none⟩) (World.block_lt_of_cell? W _ a6)).trans a6;have d:=hB.trans (hb.mono hB.size);clear a1 a2 a3 a4 a5 a6 hb hB c1;by_cases h1:c<0
 ·have Hf:Hid (decide (xN x y<0)=true):=(show _=_ by rw[H1.out];simp[h1])
  clear H1;(go_wp2_with fail);go_ret;exact⟨yF (by rw[Hf.out]),d⟩
 ·by_cases h2:c=0
  ·subst h2;cases sk with
   | true =>
    have Hf:Hid (decide (xN x y<0)=true):=(show _=_ by rw[H1.out];simp)
    clear H1;(go_wp2_with fail);go_ret;exact⟨yF (by rw[Hf.out]),d⟩
   | false =>
    cases se with
    | true =>
     have Hf:Hid (decide (xN x y<0)=sv):=(show _=_ by rw[H1.out];simp)
     clear H1;cases sv with
     | true =>
      (go_wp2_with fail);go_ret;exact⟨yF (by rw[Hf.out]),d⟩
     | false =>
      (go_wp2_with fail);go_ret;exact⟨yF (by rw[Hf.out]),d⟩
    | false =>
     have Hf:Hid (decide (xN x y<0)=false):=(show _=_ by rw[H1.out];simp)
     clear H1;(go_wp2_with fail);go_ret;exact⟨yF (by rw[Hf.out]),d⟩
  ·have h3:(c==0)=false:=by rw[beq_eq_false_iff_ne];exact h2
   have Hf:Hid (decide (xN x y<0)=false):=(show _=_ by rw[H1.out,decide_eq_false_iff_not];rintro(h | ⟨h,_⟩);exact h1 h;exact h2 h)
   clear H1 h2;(go_wp2_with fail);go_ret;exact⟨yF (by rw[Hf.out,decide_eq_false_iff_not];omega),d⟩
def RefM(w:World)(g j:Nat)(X:List xW)(G:List zE):Prop :=
 ∃A n cap A' n' cap',w.cell? ⟨g,j,none⟩=some (.slice A n cap)/\w.cell? ⟨g,j+1,none⟩=some (.slice A' n' cap')/\gH w A n X/\zY w A' n' G
def lvM(X:List xW)(G:List zE):List xW:=yB xN (X.filter λx=>decide (x.id∉G))
theorem lvM_take(X:List xW)(G:List zE)(k:Nat)(hk:k<X.length):lvM (X.take (k+1)) G=if X[k].id∈G then lvM (X.take k) G else xS xN (lvM (X.take k) G) X[k]:=by
 unfold lvM;rw[List.take_add_one,List.getElem?_eq_getElem hk,Option.toList_some,List.filter_append];by_cases h:X[k].id∈G
 ·rw[if_pos h];simp[h]
 ·rw[if_neg h];simp only[List.filter_cons,h,not_false_eq_true,decide_true,if_true,List.filter_nil];rw[bQ]
theorem zz(X:List xW)(G:List zE):(lvM X G).length<=X.length:=Nat.le_trans (xF _) (List.length_filter_le _ _)
theorem BH(X:List xW):∀r∈X.map zF,∀u∈r.toList,u.oneCell'=true:=by
 intro r hr;obtain⟨x,_,rfl⟩:=List.mem_map.1 hr;exact j3 x
theorem rmlive(w:World)(g:Nat)(X:List xW)(G:List zE)(h:RefM w g 6 X G)(hX:X.length<=100000)(hG:G.length<=100000) :
  Calls Tryz.prog 152 #[.pointer (some ⟨g,6,none⟩)] w λe w'=>∃A n cap,e=.returned (.slice A n cap)/\Own w' w.heap.size 210 34 A n cap ((lvM X G).map zF)/\Below w.heap.size w w':=by
 obtain⟨XA,nx,xc,GA,ng,gc,i2,i1,i3,i5⟩:=h;have h7:X.length=nx:=i3.len;have i9:G.length=ng:=by simpa using i5.len
 have i6:=dH h7;have i7:nx<=100000:=oM;have i8:ng<=100000:=oM;clear h7 i9;go_enter Tryz.func152,Tryz.ntmps152
 (go_wp2_with fail);go_loopw [3,4] (λout i wr=>∃(k:Nat) (A1:Option Addr) (n1 N:Nat),k<=nx/\i=.int .i64 k/\out=.slice A1 n1 N/\Own wr w.heap.size 210 34 A1 n1 N ((lvM (X.take k) G).map zF)/\Below w.heap.size w wr) (λ_ i _=>nx-(intOf i).toNat)
 case atStart=>exact⟨0,none,0,0,zL,rfl,rfl,Own.nil _ _ _ _,Below.refl _ _⟩
 case round =>
  obtain⟨k,A1,n,N,hk,rfl,rfl,a0,hb⟩:=hrel;have g7:=(hb.cell (p:=⟨g,6,none⟩) (World.block_lt_of_cell? w _ i2)).trans i2;have c8:=(hb.cell (p:=⟨g,7,none⟩) (World.block_lt_of_cell? w _ i1)).trans i1;by_cases g0:k<nx
  ·have c4:k<X.length:=by rw[i6.out];exact g0
   obtain⟨q,o,rfl,e7,_⟩:=gH.get (SlR.below i3 hb) g0 c4;have f5:=lvM_take X G k c4;have g8:(lvM (X.take k) G).length=n:=by simpa using a0.len
   have j0:n<=100000:=by have:=zz (X.take k) G;simp at this;omega
   have c0:Ris xN (lvM (X.take k) G):=xJ dD _;obtain⟨O,hO⟩:=eX (lvM (X.take k) G)
   obtain⟨x,hx⟩:=eX (X[k]'c4)
   rw[hx]at e7 f5;rw[hO]at f5 a0 c0 g8;have f3:=dH f5;have R:=dH g8;have h4:=dH c0;clear hx hO f5 g8 c0;have e2:=hb.size;have f6:Below wr.heap.size wr (wr.alloc (.cells (zF x) 210)):=bA;have E:=a0.below f6;have e1:Below w.heap.size w (wr.alloc (.cells (zF x) 210)):=hb.trans (f6.mono e2);have U:z7 (wr.alloc (.cells (zF x) 210)) wr.heap.size 0 34=some (zF x):=by simp[go_sem]
   have a8:=(f6.cell (p:=⟨g,7,none⟩) (World.block_lt_of_cell? wr _ c8)).trans c8;have g9:zY (wr.alloc (.cells (zF x) 210)) GA ng G:=SlR.below i5 e1;go_upto_region 6 with fail
   obtain⟨gx,h9⟩:=eX wr.heap.size
   obtain⟨WR,i4⟩:=eX (wr.alloc (.cells (zF x) 210))
   rw[i4]at E e1 U a8 g9 |-;rw[h9]at U |-;have c6:z7 WR gx 0 32=some (idC x.id):=by have:=zX U (j:=0) (m:=32) oM;rwa [fJ]at this
   have c1:=YI WR.drew GA ng gc G x.id g9 oM;clear h9 i4 a0 hb f6 g7 c8 e7 e2;by_cases d9:x.id∈G
   ·rw[decide_eq_true d9]at c1;have d5:Hid (lvM (X.take (k+1)) G=O):=(show _=_ by rw[f3.out,if_pos d9])
    clear d9;refine lX WR ?_;intro a1 hS;have b1:=zU c6;have b2:=zJ a8;refine lZ ?_;refine lC (c1) ?_;clear hS;intro w' hS;refine lZ ?_;refine zC ?_;intro hS;have T:Below WR.heap.size WR w':=hS;have e0:=yE e1 T;have f:=E.below T;clear b1 b2 a1 hS c1 T E e1;(go_wp2_with fail);go_roundw
    case rel=>exact⟨k+1,A1,n,N,oM,by go_num,rfl,(by rw[d5.out];exact f),e0⟩
    case measure=>exact sZ
   ·rw[decide_eq_false d9]at c1;have d5:Hid (lvM (X.take (k+1)) G=xS xN O x):=(show _=_ by rw[f3.out,if_neg d9])
    clear d9;refine lX WR ?_;intro a1 hS;have b1:=zU c6;have b2:=zJ a8;refine lZ ?_;refine lC (c1) ?_;clear hS;intro w' hS;refine lZ ?_;refine zC ?_;intro hS;have T:Below WR.heap.size WR w':=hS;have f7:=yE e1 T;have b7:=(E.below T).slw;have f:=E.below T;have a6:z7 w' gx 0 34=some (zF x):=(z9 (T.block gx (zD U)) _ _).trans U;clear b1 b2 a1 hS c1 T E e1 c6 a8 g9 U;obtain⟨V,rfl⟩:∃V,V=w':=⟨w',rfl⟩
    (go_wp2_with fail);go_loopw [6] (λj wj=>∃m:Nat,m<=n/\j=.int .i64 m/\Hid (∀i (hi:i<O.length),i<m->xN O[i] x<0)/\Below V.heap.size V wj) (λj _=>n-(intOf j).toNat)
    case atStart=>exact⟨0,zL,rfl,(show ∀i (hi:i<O.length),i<0->_ from λi _ h=>absurd h oM),Below.refl _ _⟩
    case round =>
     obtain⟨m,a9,rfl,c5,c9⟩:=hrel;have b9:z7 wr gx 0 34=some (zF x):=(z9 (c9.block gx (zD a6)) _ _).trans a6;have b6:=b7.below c9;by_cases Z:m<n
     ·obtain⟨q2,o2,rfl,d8,_⟩:=gH.get b6.rd Z (by rw[R.out];exact Z);have c3:O[m]'(by rw[R.out];exact Z)∈O:=List.getElem_mem _;obtain⟨y,hy⟩:=eX (O[m]'(by rw[R.out];exact Z))
      rw[hy]at d8 c3;have Hy:=dH hy;have h5:=dH c3;clear hy c3;have c2:=rmless y x wr.drew;by_cases d7:xN y x<0
      ·rw[decide_eq_true d7]at c2;have h3:=dH d7;clear d7;go_upto_region 8 with fail
       refine lX wr ?_;intro a1 hS;have b1:=zU b9;have b2:=zU d8;refine lZ ?_;refine lC (c2) ?_;clear hS;intro w' hS;refine lZ ?_;refine zC ?_;intro hS;have T:Below wr.heap.size wr w':=hS;have e0:=yE c9 T;clear b1 b2 a1 hS c2;(go_wp2_with fail);go_roundw
       case rel =>
        refine⟨m+1,oM,by go_num,(show ∀i (hi:i<O.length),i<m+1->xN O[i] x<0 from λi hi g0=>?_),e0⟩;by_cases e:i=m
        ·subst e;rw[Hy.out];exact h3.out
        ·exact c5.out i hi oM
       case measure=>exact sZ
      ·rw[decide_eq_false d7]at c2;have c7:=mEqB_eq y x;obtain⟨eb,i0⟩:=eX (je y x)
       rw[i0]at c7;have f4:=dH c7;have h3:=dH d7;clear c7 d7;go_upto_region 8 with fail
       refine lX wr ?_;intro a1 hS;have b1:=zU b9;have b2:=zU d8;refine lZ ?_;refine lC (c2) ?_;clear hS;intro w' hS;refine lZ ?_;refine zC ?_;intro hS;have T:Below wr.heap.size wr w':=hS;have e0:=yE c9 T;have f9:z7 w' gx 0 34=some (zF x):=(z9 (T.block gx (zD b9)) _ _).trans b9;have h6:z7 w' q2 (o2+m*34) 34=some (zF y):=(z9 (T.block q2 (zD d8)) _ _).trans d8;clear b1 b2 a1 hS c2 T c9 b9 d8 b6;obtain⟨WK,rfl⟩:∃WK,WK=w':=⟨w',rfl⟩
       go_upto_region 10 with fail
       refine lX WK ?_;intro a1 hS;have b1:=zU f9;have b2:=zU h6;refine lZ ?_;refine zC ?_;intro hS;have F:Below V.heap.size V WK.drew:=e0.drew;have a7:z7 WK.drew gx 0 34=some (zF x):=f9;have H:=b7.below F;have t:=f.below F;have a5:=f7.trans (F.mono f7.size);clear b1 b2 a1 hS f9 h6 e0 F a6 i0;obtain⟨W,hW⟩:=eX WK.drew
       rw[hW]at a7 H t a5 |-;clear hW;cases eb with
       | true =>
        have e:y=x:=by simpa using f4.out.symm
        have b0:=tV dD h4.out (x:=x) (by rw[<-e];exact h5.out);have d6:Hid (lvM (X.take (k+1)) G=O):=(show _=_ by rw[d5.out,b0])
        clear e b0;(go_wp2_with fail);go_roundw
        case rel=>exact⟨k+1,_,n,N,oM,by go_num,rfl,(by rw[d6.out];exact t),a5⟩
        case measure=>exact sZ
       | false =>
        have e:¬y=x:=by simpa using f4.out.symm
        have b0:=vE (c:=xN) O x m (by rw[R.out];exact a9) c5.out (λh8=>by
         rw[Hy.out];have h1:xN y x≠0:=λe'=>e ((dD.zero _ _).1 e');have:=h3.out;omega)
        have d6:=dH b0;clear e b0;obtain⟨A,f2⟩:=eX (some ⟨q2,o2,none⟩:Option Addr)
        rw[f2]at H t |-;clear f2;obtain⟨d,hd⟩:=eR x
        rw[<-hd]at a7 d6 d5 |-;obtain⟨cap,a4⟩:=eR N
        rw[<-a4]at H t |-;clear hd a4;have d1:Below W.heap.size W (W.alloc (.cells #[] 210)):=bA;have M:=Own.empty W W.heap.size 210 34 lR;have g1:∀w0:World,(slS 62 (.slice A n cap) none (some (.int .i64 m)) none).run Tryz.prog w0=.ok (.slice A m cap) w0:=λw0=>SlW.lo v6 H a9 w0;obtain⟨Ah,ch,g5,e8,g6⟩:=H.hi (P:=Tryz.prog) v6 (m:=m) a9;have a2:SlR (W.alloc (.cells #[] 210)) A m 34 ((O.map zF).take m):=(H.rd.below d1).take_ a9;have e9:=H.nil;have J:∀r∈(O.map zF).take m,∀u∈r.toList,u.oneCell'=true:=λr hr=>(by obtain⟨y',_,rfl⟩:=List.mem_map.1 (List.mem_of_mem_take hr);exact j3 _);have B:∀r∈(O.map zF).drop m,∀u∈r.toList,u.oneCell'=true:=λr hr=>(by obtain⟨y',_,rfl⟩:=List.mem_map.1 (List.mem_of_mem_drop hr);exact j3 _);go_upto_region 12 with(at_builtin;refine yD v6 rfl M rfl a2 e9 J oM oM sI ?_;intro A2 h2 w2 f g4 e5)
        simp only[Nat.zero_add,List.nil_append]at f;have b4:Below W.heap.size W w2:=d1.trans (g4.below sI (by simp[blk]));have b8:z7 w2 gx (0) 34=some (zF d):=(z9 (b4.block gx (zD a7)) _ _).trans a7;have d3:Below w2.heap.size w2 (w2.alloc (.cells (zF d) 210)):=bA;have L:=f.below d3;have I:z7 (w2.alloc (.cells (zF d) 210)) w2.heap.size 0 34=some (zF d):=by simp[go_sem]
        have b5:=b4.size;go_upto_region 13 with(at_builtin;refine yM v6 rfl L rfl I (j3 _) oM oM sO ?_;intro A4 h0 w4 D g3 e4)
        have Y:Below W.heap.size W w4:=(b4.trans (d3.mono b5)).trans (g3.below sO (λx hx=>(f.at_base hx).1));have e6:=e8 w4 (H.rd.below Y);have f8:=Y.size;clear L I d3 M d1 a2 b8 g1;go_upto_region 14 with(at_builtin;refine yD v6 rfl D rfl e6 g6 B oM oM oM ?_;intro A5 d4 w5 s g2 e3)
        have b3:Below W.heap.size W w5:=Y.trans (g2.below oM (λx hx=>(D.at_base hx).1));have f1:(O.map zF).take m ++ [zF d]++(O.map zF).drop m=(O.take m++d :: O.drop m).map zF:=by simp[List.map_take,List.map_drop]
        rw[f1]at s;clear D f f1 e6 g5 e8 J B e9;obtain⟨x,rfl⟩:∃x,x=d:=⟨d,rfl⟩
        have d2:=a5.trans (b3.mono a5.size);have d0:(O.take m++x :: O.drop m).length=m+1+(n-m):=by simp[R.out];omega
        have f0:O.take m++x :: O.drop m=lvM (X.take (k+1)) G:=by rw[d5.out,d6.out]
        rw[f0]at s d0;have a3:=s.mono a5.size;have HL:=dH d0;clear s f0 d0;(go_wp2_with fail);go_roundw
        case rel=>exact⟨k+1,A5,m+1+(n-m),d4,oM,by go_num,rfl,a3,d2⟩
        case measure=>exact sZ
     ·have hd:decide (m<n)=false:=by simpa using Z
      have b0:=vE (c:=xN) O x m (by rw[R.out];exact a9) c5.out (λh8=>absurd (by rw[<-R.out];exact h8) Z);have d6:=dH b0;clear b0;go_upto_region 8 with fail
      refine lX wr ?_;intro a1 hS;refine lZ ?_;refine lH ?_;intro K hK;refine hK _ _ ?_;clear hK K;refine lZ ?_;refine zC ?_;intro hS;clear a1 hS;go_upto_region 10 with fail
      refine lX wr.drew ?_;intro a1 hS;refine lZ ?_;refine zC ?_;intro hS;have F:Below V.heap.size V wr.drew.drew:=c9.drew.drew;have a7:z7 wr.drew.drew gx 0 34=some (zF x):=b9;have H:=b7.below F;have t:=f.below F;have a5:=f7.trans (F.mono f7.size);clear a1 hS F b9 c9 Z hd b6 a6;obtain⟨W,hW⟩:=eX wr.drew.drew
      rw[hW]at a7 H t a5 |-;clear hW;obtain⟨A,f2⟩:=eR A1
      rw[<-f2]at H t |-;clear f2;obtain⟨d,hd⟩:=eR x
      rw[<-hd]at a7 d6 d5 |-;obtain⟨cap,a4⟩:=eR N
      rw[<-a4]at H t |-;clear hd a4;have d1:Below W.heap.size W (W.alloc (.cells #[] 210)):=bA;have M:=Own.empty W W.heap.size 210 34 lR;have g1:∀w0:World,(slS 62 (.slice A n cap) none (some (.int .i64 m)) none).run Tryz.prog w0=.ok (.slice A m cap) w0:=λw0=>SlW.lo v6 H a9 w0;obtain⟨Ah,ch,g5,e8,g6⟩:=H.hi (P:=Tryz.prog) v6 (m:=m) a9;have a2:SlR (W.alloc (.cells #[] 210)) A m 34 ((O.map zF).take m):=(H.rd.below d1).take_ a9;have e9:=H.nil;have J:∀r∈(O.map zF).take m,∀u∈r.toList,u.oneCell'=true:=λr hr=>(by obtain⟨y',_,rfl⟩:=List.mem_map.1 (List.mem_of_mem_take hr);exact j3 _);have B:∀r∈(O.map zF).drop m,∀u∈r.toList,u.oneCell'=true:=λr hr=>(by obtain⟨y',_,rfl⟩:=List.mem_map.1 (List.mem_of_mem_drop hr);exact j3 _);go_upto_region 12 with(at_builtin;refine yD v6 rfl M rfl a2 e9 J oM oM sI ?_;intro A2 h2 w2 f g4 e5)
      simp only[Nat.zero_add,List.nil_append]at f;have b4:Below W.heap.size W w2:=d1.trans (g4.below sI (by simp[blk]));have b8:z7 w2 gx (0) 34=some (zF d):=(z9 (b4.block gx (zD a7)) _ _).trans a7;have d3:Below w2.heap.size w2 (w2.alloc (.cells (zF d) 210)):=bA;have L:=f.below d3;have I:z7 (w2.alloc (.cells (zF d) 210)) w2.heap.size 0 34=some (zF d):=by simp[go_sem]
      have b5:=b4.size;go_upto_region 13 with(at_builtin;refine yM v6 rfl L rfl I (j3 _) oM oM sO ?_;intro A4 h0 w4 D g3 e4)
      have Y:Below W.heap.size W w4:=(b4.trans (d3.mono b5)).trans (g3.below sO (λx hx=>(f.at_base hx).1));have e6:=e8 w4 (H.rd.below Y);have f8:=Y.size;clear L I d3 M d1 a2 b8 g1;go_upto_region 14 with(at_builtin;refine yD v6 rfl D rfl e6 g6 B oM oM oM ?_;intro A5 d4 w5 s g2 e3)
      have b3:Below W.heap.size W w5:=Y.trans (g2.below oM (λx hx=>(D.at_base hx).1));have f1:(O.map zF).take m ++ [zF d]++(O.map zF).drop m=(O.take m++d :: O.drop m).map zF:=by simp[List.map_take,List.map_drop]
      rw[f1]at s;clear D f f1 e6 g5 e8 J B e9;obtain⟨x,rfl⟩:∃x,x=d:=⟨d,rfl⟩
      have d2:=a5.trans (b3.mono a5.size);have d0:(O.take m++x :: O.drop m).length=m+1+(n-m):=by simp[R.out];omega
      have f0:O.take m++x :: O.drop m=lvM (X.take (k+1)) G:=by rw[d5.out,d6.out]
      rw[f0]at s d0;have a3:=s.mono a5.size;have HL:=dH d0;clear s f0 d0;(go_wp2_with fail);go_roundw
      case rel=>exact⟨k+1,A5,m+1+(n-m),d4,oM,by go_num,rfl,a3,d2⟩
      case measure=>exact sZ
  ·have e:X.take k=X:=List.take_of_length_le (by rw[i6.out];omega);rw[e]at a0;clear e;(go_wp2_with fail);go_ret;exact⟨A1,n,N,rfl,a0,hb⟩
end Go.Proofs.YtgfpjjppeldhbaaGreatDoor
