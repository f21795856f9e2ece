/- Part 14 of the texts that lead to this claim: the walks of the functions and the plain law, in order. -/
import Derived.Test.YtddopbhcpblpjaaGreatDoorMj13
namespace Go.Proofs.YtddopbhcpblpjaaGreatDoor
open Go.RowKit
open List hiding and get max min or set
open Go.Proofs.Tryz
open World
set_option maxRecDepth 100000
set_option maxHeartbeats 8000000
variable {g k:Nat}{A:Option Addr}{L:List (Array Value)}{w:World}{D:List HdX}{Tm:List (ByteArray×Sl)}{Cm:List (zA×Sl)}
theorem hd_put(w:World)(h:HdV)(A:Option Addr)(c:Nat)(hT:zW w A h.ps.length h.ps)(hn:h.ps.length<=1000000)(ht:h.tp.size<=9223372036854775807) :
  Calls prog 75 #[.agg (hdC (hdO h A c))] w λe w'=>∃s:ByteArray,e=.returned (.tuple #[.string s,.int .i64 (hdE h)])/\(hdE h=0->s.data.toList=hdB h)/\Below w.heap.size w w':=by
 have hB:Below w.heap.size w (w.alloc (.cells (hdC (hdO h A c)) 44)):=bA;have hr:z9 (w.alloc (.cells (hdC (hdO h A c)) 44)) w.heap.size 0 38=some (hdC (hdO h A c)):=by simp[go_sem]
 have b8:=SlR.below hT hB;have cc:=QG _ h A c b8 hn ht;obtain⟨E,hE⟩:=eX (hdE h)
 rw[hE]at cc |-;have HE:=dH hE;obtain⟨W,hW⟩:=eR (w.alloc (.cells (hdC (hdO h A c)) 44))
 rw[<-hW]at hB hr b8 cc;have HW:=dH hW;obtain⟨g,hg⟩:=eX w.heap.size
 have Hg:=dH hg;have h4:g<W.heap.size:=by rw[hW,<-hg];simp
 rw[hg]at hB hr;clear hE hW hT;go_enter func75,ntmps75
 go_upto_region 1 with fail
 rw[<-HW.out];clear hg;(go_wp2_with fail);refine cc.mono ?_;rintro e w2 ⟨rfl,d7⟩;have d9:Below g w w2:=hB.trans (d7.mono oM);clear cc;by_cases h0:E=0
 ·subst h0;have L:=a9 HE.out;have d2:=(zG (d7.block g h4) 0 38).trans hr;have b7:=SlR.below b8 d7;have f5:g<w2.heap.size:=zD d2;obtain⟨H,hH⟩:∃H:Nat,h.ht=H:=⟨h.ht.toNat,oH L.ht⟩
  obtain⟨au,d8⟩:∃au:Nat,h.au=au:=⟨h.au.toNat,oH L.au⟩
  obtain⟨sq,d1⟩:∃sq:Nat,h.sq=sq:=⟨h.sq.toNat,oH L.sq⟩
  obtain⟨sz,d0⟩:∃sz:Nat,h.sz=sz:=⟨h.sz.toNat,oH L.sz⟩
  have i6:=ZO L.tp;have h2:=L.ps;have b1:H<256 ^ 4:=oH L.ht;have b3:au<256 ^ 1:=oH L.au;have b4:sq<256 ^ 4:=oH L.sq;have b5:sz<256 ^ 2:=oH L.sz;have f7:hdB h=beL 1 h.ps.length++h.ps.flatMap zA.l++beL 4 H++beL 1 h.tp.size++h.tp.data.toList++beL 1 au++beL 4 sq++beL 2 sz++h.cm.l:=by
   unfold hdB;rw[hH,d8,d1,d0];rfl
  have g7:=dH f7;have cl:∀(w':World),w'.heap[g]?=w2.heap[g]?->w'.cell? ⟨g,0,none⟩=some (.slice A h.ps.length c)/\w'.cell? ⟨g,1,none⟩=some (.int .i64 H)/\w'.cell? ⟨g,2,none⟩=some (.string h.tp)/\w'.cell? ⟨g,3,none⟩=some (.int .i64 au)/\w'.cell? ⟨g,4,none⟩=some (.int .i64 sq)/\w'.cell? ⟨g,5,none⟩=some (.int .i64 sz)/\z9 w' g 6 32=some (idC h.cm):=λw' hw=>by
   have X:=(zG hw 0 38).trans d2;have x0:=zB X (j:=0) oM;have x1:=zB X (j:=1) oM;have x2:=zB X (j:=2) oM;have x3:=zB X (j:=3) oM;have x4:=zB X (j:=4) oM;have x5:=zB X (j:=5) oM;have x6:=yD X (j:=6) (m:=32) oM;simp only[wQ,mJ,mI,pC,pB,pA,Nat.zero_add]at x0 x1 x2 x3 x4 x5 x6;rw[QH]at x6;simp only[hdO,hH,d8,d1,d0]at x0 x1 x2 x3 x4 x5 x6;exact⟨x0,x1,x2,x3,x4,x5,x6⟩
  have c7:=dH cl;obtain⟨x0,_⟩:=cl w2 rfl;obtain⟨S,g1⟩:=eX h.ps
  rw[g1]at b7 x0 h2 g7 c7;clear cl f7 d2 hH d8 d1 d0 L g1 hr b8;go_upto_region 4 with fail
  refine lX w2 ?_;intro a3 hS;have c0:=zJ x0;refine lQ ?_;intro K hK;refine(wnew _).mono ?_;rintro e w3 ⟨rfl,e9,f9⟩;have h7:=hS.size;replace hS:=xZ hS f9;refine⟨_,rfl,hS,hK _ _ ?_⟩;clear hK K;refine lQ ?_;intro K hK;refine(wnum _ _ _ _ _ _ e9 S.length 1 oM oM sI).mono ?_;rintro e W3 ⟨rfl,AW,a8,c8,f1,a0⟩;simp only[nil_append]at c8;have I:m0 W3 (w2.heap.size+1) w2.heap.size AW a8 (beL 1 S.length):=c8;have a4:z8 [] w2 w3:=z8.of_below hS;have F:Below w2.heap.size w2 W3:=(hS:Below w2.heap.size w2 w3).trans (f1.below a4.size (by show ∀x∈w2.heap.size :: blk none,_;simp[blk]));refine⟨_,rfl,F,hK _ _ ?_⟩;clear hK K;refine lZ ?_;refine zC ?_;intro hS;clear a3 hS c0 e9 f9 f1 a4 h7 c8;obtain⟨gw,d3⟩:=eX w2.heap.size
  have e0:∀x∈blk AW,gw<x:=λx hx=>(oH ((I.own.at_base hx).1));have g6:Below g w W3:=d9.trans (F.mono oM);have d5:=F.block g f5;have h5:=SlR.below b7 F;have g0:∀x∈blk A,x<gw\/S.length=0:=λx hx=>by
   by_cases h0:S.length=0
   ·exact .inr h0
   ·left
    obtain⟨q,o,rfl,hq⟩:=zW.get b7 (i:=0) oM oM;simp[blk]at hx;subst hx;have:=zD hq;omega
  have i2:=dH g0;have i7:g<gw:=oM;rw[d3]at I F;simp only[d3];have h3:gw<W3.heap.size:=I.lt;clear d3 g0 b7 d9 f5 F a0;obtain⟨_,_,_⟩:=c7.out W3 d5;go_upto_region 6 with fail
  go_loopw [7,21] (λ_ i wr=>∃k:Nat,k<=S.length/\i=.int .i64 (k:Nat)/\s4 W3 (gw+1) gw AW (beL 1 S.length++(S.take k).flatMap zA.l) wr) (λ_ i _=>S.length-(intOf i).toNat)
  case atStart=>exact⟨0,zL,rfl,AW,a8,by simpa using I,z8.refl _ _,λx hx=>.inl hx⟩
  case round =>
   clear I;obtain⟨k,hk,rfl,A4,b0,O,U,J⟩:=hrel;by_cases b2:k<S.length
   ·have a6:∀x∈blk A,x∉gw :: blk AW:=λx hx=>by
     have h1:=i2.out x hx;simp only[mem_cons,not_or];exact⟨oM,λhy=>oH (e0 x hy)⟩
    have g2:=h5.kept U a6;obtain⟨q,o,rfl,hr⟩:=zW.get g2 b2 b2;have c9:(S.take (k+1)).flatMap zA.l=(S.take k).flatMap zA.l++(S[k]).l:=by rw[take_add_one,getElem?_eq_getElem b2,flatMap_append];simp only[Option.toList_some,flatMap_cons,flatMap_nil,append_nil]
    have b6:=tF zA.l 32 (S.take k) (λx hx=>by rw[x.h];exact lR);have f0:(S.take k).length=k:=sO;rw[f0]at b6;obtain⟨x,hx⟩:=eX (S[k]'b2)
    rw[hx]at hr c9;have i0:=dH c9;clear hx c9 g2 f0 a6;have d6:(beL 1 S.length++(S.take k).flatMap zA.l).length<=300000000:=by rw[length_append,xA];omega
    obtain⟨h9,Y⟩:=eX (beL 1 S.length++(S.take k).flatMap zA.l)
    have e7:=dH Y;rw[Y]at O d6;clear Y b6;have f8:Below wr.heap.size wr (wr.alloc (.cells (idC x) 23)):=bA;have R:=O.below f8;have Z:z8 [] wr (wr.alloc (.cells (idC x) 23)):=z8.alloc _ _;have a7:z9 (wr.alloc (.cells (idC x) 23)) wr.heap.size 0 32=some (idC x):=by simp[go_sem]
    have N:∀c,(convert 127 9 (.slice (some ⟨wr.heap.size,0,none⟩) 32 c)).run prog (wr.alloc (.cells (idC x) 23))=.ok (.string ⟨x.l.toArray⟩) (wr.alloc (.cells (idC x) 23)):=λc=>K7 a7;have e3:(⟨x.l.toArray⟩:ByteArray).size=32:=by show x.l.toArray.size=32;simp[x.h]
    have e4:(⟨x.l.toArray⟩:ByteArray).data.toList=x.l:=sI;have cw:=wraw _ (gw+1) gw A4 b0 h9 R ⟨x.l.toArray⟩ (by rw[e3];omega);rw[e4]at cw;clear e3 e4 a7;(go_wp2_with fail);refine cw.mono ?_;rintro e w6 ⟨rfl,t⟩;have V:=qP O U J (qP R (Z.mono (S':=gw :: blk A4) sI) iL t);rw[<-e7.out,append_assoc,<-i0.out]at V;have i1:=dH V;clear t V N cw f8 R Z O U J;(go_wp2_with fail);go_roundw
    case rel=>exact⟨k+1,oM,by go_num,i1.out⟩
    case measure=>exact sZ
   ·have f2:S.take k=S:=take_of_length_le oM;rw[f2]at O;obtain⟨P0,c6⟩:=eX (beL 1 S.length++S.flatMap zA.l)
    have b6:=tF zA.l 32 S (λx hx=>by rw[x.h];exact lR);have i8:P0.length<=200:=by rw[<-c6,length_append,xA];omega
    rw[c6]at O;have i4:=dH c6;have e5:∀x∈blk A4,gw<x:=λx hx=>(oH ((O.own.at_base hx).1));have f4:g∉gw :: blk AW:=by
     simp only[mem_cons,not_or];exact⟨oM,λhy=>oH (e0 g hy)⟩
    have T:g∉gw :: blk A4:=by
     simp only[mem_cons,not_or];exact⟨oM,λhy=>oH (e5 g hy)⟩
    have d4:=(U.block g oM f4).trans d5;have g5:Below g w wr:=g6.trans (U.below (B:=g) oM (λx hx=>by
     rcases mem_cons.1 hx with rfl | hx
     ·omega
     ·have:=e0 x hx;omega))
    have g8:gw<wr.heap.size:=O.lt;obtain⟨_,x1,x2,_⟩:=c7.out wr d4;have e1:h.tp.data.toList.length=h.tp.size:=Array.length_toList;have E1:=dH e1;clear f2 c6 b6 e1 U J d5 g6 f4;go_upto_region 10 with fail
    have t:s4 wr (gw+1) gw A4 P0 wr.drew:=⟨A4,b0,O.kept (z8.drew wr) sI sI,(z8.drew wr).mono sI,λx hx=>.inl hx⟩
    refine kX (gw :: blk A4) wr ?_;intro a3 hS;have c1:=zF x1 T;have c2:=zF x2 T;refine lQ ?_;intro K hK;obtain⟨Ai,G,r,D,d⟩:=t;refine(wnum _ _ _ _ _ _ r H 4 oM b1 oM).mono ?_;rintro e w' ⟨rfl,f⟩;replace t:=qP r D d f;have hS:=t.choose_spec.choose_spec.2.1;refine⟨_,rfl,hS,hK _ _ ?_⟩;clear hK K r D d f;refine lQ ?_;intro K hK;obtain⟨Ai,G,r,D,d⟩:=t;refine(wnum _ _ _ _ _ _ r h.tp.size 1 oM oM (by rw[length_append,xA];omega)).mono ?_;rintro e w' ⟨rfl,f⟩;replace t:=qP r D d f;have hS:=t.choose_spec.choose_spec.2.1;refine⟨_,rfl,hS,hK _ _ ?_⟩;clear hK K r D d f;refine lQ ?_;intro K hK;obtain⟨Ai,G,r,D,d⟩:=t;refine(wraw _ _ _ _ _ _ r h.tp (by simp only[length_append,xA];omega)).mono ?_;rintro e w' ⟨rfl,f⟩;replace t:=qP r D d f;have hS:=t.choose_spec.choose_spec.2.1;refine⟨_,rfl,hS,hK _ _ ?_⟩;clear hK K r D d f;refine lZ ?_;refine zC ?_;intro hS;obtain⟨A5,e6,R,Z,a2⟩:=t;obtain⟨w5,rfl⟩:∃w5,w5=w':=⟨w',rfl⟩
    have a5:=(Z.block g oM T).trans d4;have g4:Below g w w5:=g5.trans (Z.below (B:=g) oM (λx hx=>by
     rcases mem_cons.1 hx with rfl | hx
     ·omega
     ·have:=e5 x hx;omega))
    obtain⟨_,_,_,x3,x4,x5,x6⟩:=c7.out w5 a5;obtain⟨P1,b9⟩:=eX (P0++beL 4 H++beL 1 h.tp.size++h.tp.data.toList)
    have h6:P1.length<=300:=by rw[<-b9];simp only[length_append,xA];have:=E1.out;omega
    rw[b9]at R;have i3:=dH b9;have e2:∀x∈blk A5,gw<x:=λx hx=>(oH ((R.own.at_base hx).1));have M:g∉gw :: blk A5:=by
     simp only[mem_cons,not_or];exact⟨oM,λhy=>oH (e2 g hy)⟩
    have g9:gw<w5.heap.size:=R.lt;clear b9 a3 hS c1 c2 Z a2 d4 g5 O e5 T x1 x2;go_upto_region 11 with fail
    have N:∀(y:Subtype (Kp (gw :: blk A5) w5)) c,(convert 127 9 (.slice (some ⟨g,6,none⟩) 32 c)).run prog y.1=.ok (.string ⟨h.cm.l.toArray⟩) y.1:=λy c=>K7 (zY x6 M y);have e3:(⟨h.cm.l.toArray⟩:ByteArray).size=32:=by show h.cm.l.toArray.size=32;simp[h.cm.h]
    have e4:(⟨h.cm.l.toArray⟩:ByteArray).data.toList=h.cm.l:=sI;have E3:=dH e3;have E4:=dH e4;clear e3 e4;have t:s4 w5 (gw+1) gw A5 P1 w5.drew:=⟨A5,e6,R.kept (z8.drew w5) sI sI,(z8.drew w5).mono sI,λx hx=>.inl hx⟩
    refine kX (gw :: blk A5) w5 ?_;intro a3 hS;have c3:=zF x3 M;have c4:=zF x4 M;have c5:=zF x5 M;refine lQ ?_;intro K hK;obtain⟨Ai,G,r,D,d⟩:=t;refine(wnum _ _ _ _ _ _ r au 1 oM b3 oM).mono ?_;rintro e w' ⟨rfl,f⟩;replace t:=qP r D d f;have hS:=t.choose_spec.choose_spec.2.1;refine⟨_,rfl,hS,hK _ _ ?_⟩;clear hK K r D d f;refine lQ ?_;intro K hK;obtain⟨Ai,G,r,D,d⟩:=t;refine(wnum _ _ _ _ _ _ r sq 4 oM b4 (by rw[length_append,xA];omega)).mono ?_;rintro e w' ⟨rfl,f⟩;replace t:=qP r D d f;have hS:=t.choose_spec.choose_spec.2.1;refine⟨_,rfl,hS,hK _ _ ?_⟩;clear hK K r D d f;refine lQ ?_;intro K hK;obtain⟨Ai,G,r,D,d⟩:=t;refine(wnum _ _ _ _ _ _ r sz 2 oM b5 (by simp only[length_append,xA];omega)).mono ?_;rintro e w' ⟨rfl,f⟩;replace t:=qP r D d f;have hS:=t.choose_spec.choose_spec.2.1;refine⟨_,rfl,hS,hK _ _ ?_⟩;clear hK K r D d f;refine lQ ?_;intro K hK;obtain⟨Ai,G,r,D,d⟩:=t;refine(wraw _ _ _ _ _ _ r ⟨h.cm.l.toArray⟩ (by rw[E3.out];simp only[length_append,xA];omega)).mono ?_;rintro e w' ⟨rfl,f⟩;replace t:=qP r D d f;have hS:=t.choose_spec.choose_spec.2.1;refine⟨_,rfl,hS,hK _ _ ?_⟩;clear hK K r D d f;refine lZ ?_;refine zC ?_;intro hS;obtain⟨A6,h8,e8,f3,a1⟩:=t;obtain⟨w6,rfl⟩:∃w6,w6=w':=⟨w',rfl⟩
    have g3:Below g w w6:=g4.trans (f3.below (B:=g) oM (λx hx=>by
     rcases mem_cons.1 hx with rfl | hx
     ·omega
     ·have:=e2 x hx;omega))
    have f6:P1++beL 1 au++beL 4 sq++beL 2 sz++(⟨h.cm.l.toArray⟩:ByteArray).data.toList=hdB h:=by
     rw[g7.out,E4.out,<-i3.out,<-i4.out]
    rw[f6]at e8;have i5:=dH g3;clear a3 hS c3 c4 c5 f3 a1 a5 g4 R e2 M x3 x4 x5 x6 N f6 g3;(go_wp2_with fail);refine(wdone _ _ _ _ _ _ e8).mono ?_;rintro e w7 ⟨rfl,rfl⟩;(go_wp2_with fail);go_ret2;refine⟨_,rfl,?_,by rw[Hg.out];exact i5.out⟩;first | trivial | rfl | simp
 ·have hb:(E != 0)=true:=by rw[bne_iff_ne];exact h0
  have H0:=dH h0;clear h0;(go_wp2_with fail);go_ret2;exact⟨⟨#[]⟩,rfl,λh=>absurd h H0.out,by rw[Hg.out];exact d9⟩
theorem hd_ident(w:World)(h:HdV)(A:Option Addr)(c:Nat)(hv:xV w)(hT:zW w A h.ps.length h.ps)(hn:h.ps.length<=1000000)(ht:h.tp.size<=9223372036854775807) :
  Calls prog 146 #[.agg (hdC (hdO h A c))] w λe w'=>e=.returned (.tuple #[.agg (idC (hdI h)),.int .i64 (hdE h)])/\Below w.heap.size w w':=by
 have hB:Below w.heap.size w ((w.alloc (.cells (hdC (hdO h A c)) 44)).alloc (.cells (idC id0) 23)):=(bA).alloc sI _;have hr:z9 ((w.alloc (.cells (hdC (hdO h A c)) 44)).alloc (.cells (idC id0) 23)) w.heap.size 0 38=some (hdC (hdO h A c)):=by
  rw[zG (Below.heap_alloc _ _ _ sI)];simp[go_sem]
 have hid:=heap_alloc_new (w.alloc (.cells (hdC (hdO h A c)) 44)) (.cells (idC id0) 23);rw[(sI:(w.alloc (.cells (hdC (hdO h A c)) 44)).heap.size=w.heap.size+1)]at hid;have cp:=hd_put _ h A c (SlR.below hT hB) hn ht;have y:=hv.below hB;obtain⟨W,hW⟩:=eR ((w.alloc (.cells (hdC (hdO h A c)) 44)).alloc (.cells (idC id0) 23))
 rw[<-hW]at hB hr hid cp y;have HW:=dH hW;obtain⟨g,hg⟩:=eX w.heap.size
 have Hg:=dH hg;have O:g+1<W.heap.size:=by rw[hW,<-hg];simp
 rw[hg]at hB hr hid;obtain⟨E,hE⟩:=eX (hdE h)
 have hI:hdI h=if E=0 then qI (hdB h)else id0:=by rw[<-hE];rfl
 have D:E=0->(hdB h).length<=1000000:=λe0=>by
  have J:=a9 (hE.trans e0);have h1:=ZO J.tp;have h2:=J.ps;have h3:=tF zA.l 32 h.ps (λx hx=>by rw[x.h];exact lR);have h4:h.tp.data.toList.length=h.tp.size:=Array.length_toList;have h5:(h.ps.flatMap (·.l)).length<=h.ps.length*32:=h3;unfold hdB;simp only[length_append,xA,h4,h.cm.h];omega
 rw[hE]at cp;obtain⟨I,F⟩:=eX (hdI h)
 rw[F]at hI;rw[F,hE];have HI:=dH hI;clear hW hT hE hI F hv;go_enter func146,ntmps146
 go_upto_region 1 with fail
 rw[<-HW.out];clear hg;(go_wp2_with fail);refine cp.mono ?_;rintro e w2 ⟨s,rfl,hs,m⟩;have d:=(m.block (g+1) O).trans hid;have t:Below g w w2:=hB.trans (m.mono oM);have R:g+1<w2.heap.size:=oH m.size;have L:=y.below m;clear cp hr hid m y;by_cases h0:E=0
 ·have T:(E != 0)=false:=by rw[bne_eq_false_iff_eq];exact h0
  have B:=hs h0;have N:s.size<=1000000:=by have h1:=D h0;rw[<-B]at h1;exact h1
  have cs:=sha_sum w2 s L N;rw[B]at cs;have G:Hid (I=qI (hdB h)):=(show _=_ by rw[HI.out,if_pos h0])
  have H0:=dH h0;clear hs B h0 D;(go_wp2_with fail);refine cs.mono ?_;rintro e w3 ⟨rfl,r⟩;have f:=(r.block (g+1) R).trans d;have M:=zX (P:=prog) xP w3 (g+1) (idC id0) (idC (qI (hdB h))) _ f sI sI (yN _);have j:=dH (setRow_heap w3 (g+1) _ (idC (qI (hdB h))) _ _ f);have hk:z8 [g+1] w3 (w3.setRow (g+1) (idC (qI (hdB h)))):=⟨rfl,rfl,rfl,by simp[setRow],λx _ hx=>setRow_other w3 (g+1) x _ (by simpa using hx)⟩
  have k:Below g w (w3.setRow (g+1) (idC (qI (hdB h)))):=(t.trans (r.mono oM)).trans (hk.below (oH r.size) sI);have H:=dH k;clear hk k f d r t cs;(go_wp2_with fail);refine bodyPost_ret (yU results146 _ _ (g+1) 23 (idC (qI (hdB h))) (0,0) _ rfl j.out underlying23 rfl (by rw[xM];exact xP)) rfl ?_;exact⟨by rw[G.out,H0.out];rfl,by rw[Hg.out];exact H.out⟩
 ·have T:(E != 0)=true:=by rw[bne_iff_ne];exact h0
  have G:Hid (I=id0):=(show _=_ by rw[HI.out,if_neg h0])
  have M:=zX (P:=prog) xP w2 (g+1) (idC id0) (idC id0) _ d sI sI (yN _);have j:=dH (setRow_heap w2 (g+1) _ (idC id0) _ _ d);have hk:z8 [g+1] w2 (w2.setRow (g+1) (idC id0)):=⟨rfl,rfl,rfl,by simp[setRow],λx _ hx=>setRow_other w2 (g+1) x _ (by simpa using hx)⟩
  have k:Below g w (w2.setRow (g+1) (idC id0)):=t.trans (hk.below oM sI);have H:=dH k;clear hk k d t hs h0 D;(go_wp2_with fail);refine bodyPost_ret (yU results146 _ _ (g+1) 23 (idC id0) (0,0) _ rfl j.out underlying23 rfl (by rw[xM];exact xP)) rfl ?_;exact⟨by rw[G.out];rfl,by rw[Hg.out];exact H.out⟩
structure fU where
 h:HdV
 A:Option Addr
 c:Nat
abbrev hdR(x:fU):Array Value:=hdC (hdO x.h x.A x.c)
abbrev hdVA(x:fU):Value:=.agg (hdR x)
section
abbrev fD(k:ByteArray):Prop:=k.size<=maxLen
def psF(N:List (zA×fU)):List Nat:=N.flatMap λp=>blk p.2.A
abbrev dagC(bh bp bt bc:Nat):Array Value:=#[.map (some bh),.map (some bp),.map (some bt),.map (some bc)]
structure fH(w:World)(g:Nat)(D:List HdX)(bh bp bt bc:Nat)(N:List (zA×fU))(Tm:List (ByteArray×Sl))(Cm:List (zA×Sl)):Prop where
 heap:w.heap[g]?=some (.cells (dagC bh bp bt bc) 95 (0,0))
 hs:∃es clk,yK w bh idV hdVA vL N es clk
 perm:(N.map λp=>(⟨p.1,p.2.h⟩:HdX)).Perm D
 ps:∀p∈N,Own w 0 23 32 p.2.A p.2.h.ps.length p.2.c (p.2.h.ps.map idC)
 par:jM w bp (JJ D)
 tm:k6 w bt Value.string fD Tm (j8 D)
 cm:k6 w bc idV vL Cm (vA D)
 ne:[bh,bp,bt,bc].Nodup
 dis:(∀y∈psF N,y∉slF Tm/\y∉slF Cm)/\∀y∈slF Tm,y∉slF Cm
structure aS(w:World)(g:Nat)(D:List HdX)(bh bp bt bc:Nat)(N:List (zA×fU)):Prop where
 heap:w.heap[g]?=some (.cells (dagC bh bp bt bc) 95 (0,0))
 hs:∃es clk,yK w bh idV hdVA vL N es clk
 perm:(N.map λp=>(⟨p.1,p.2.h⟩:HdX)).Perm D
def ZT(w:World)(g:Nat)(D:List HdX):Prop:=∃bh bp bt bc N,aS w g D bh bp bt bc N
def k7(w:World)(g:Nat)(F:List Nat)(D:List HdX):Prop :=
 ∃bh bp bt bc N Tm Cm,fH w g D bh bp bt bc N Tm Cm/\F=g :: bh :: bp :: bt :: bc :: (psF N++slF Tm++slF Cm)
section
variable {w w':World} {g:Nat} {F:List Nat} {D:List HdX} {bh bp bt bc:Nat} {N:List (zA×fU)} {Tm:List (ByteArray×Sl)} {Cm:List (zA×Sl)}
theorem dU{B n cap y:Nat}{E:TypeId}(h:Own w B E k A n cap L)(hy:y∈blk A):∃cur,w.heap[y]?=some (.cells cur E (0,0)):=by
 obtain⟨⟨_,h2⟩,_,_⟩:=h;rcases h2 with⟨e,_⟩ | ⟨g,c,cur,e,_,hg,_⟩
 ·injection e with e;rw[e]at hy;simp[blk]at hy
 ·injection e with e;rw[e]at hy
  have e2:y=g:=by simpa[blk]using hy
  exact⟨cur,by rw[e2];exact hg⟩
theorem QD{b:Nat}{L:List zA}(h:jM w b L):∃es d,w.heap[b]?=some (.map es d):=by
 obtain⟨M,es,d,hm,_⟩:=h;exact⟨es,d,hm.heap⟩
theorem fH.kinds(h:fH w g D bh bp bt bc N Tm Cm):(∀y,y=bh\/y=bp\/y=bt\/y=bc->∃es clk,w.heap[y]?=some (.map es clk))/\∀y∈psF N++slF Tm++slF Cm,∃cur,w.heap[y]?=some (.cells cur 23 (0,0)):=by
 obtain⟨e1,c1,m1⟩:=h.hs;obtain⟨e3,c3,m3⟩:=h.tm.map;obtain⟨e4,c4,m4⟩:=h.cm.map;refine⟨?_,λy hy=>?_⟩
 ·rintro y (rfl | rfl | rfl | rfl)
  ·exact⟨_,_,m1.heap⟩
  ·exact QD h.par
  ·exact⟨_,_,m3.heap⟩
  ·exact⟨_,_,m4.heap⟩
 ·rcases mem_append.1 hy with hy | hy
  ·rcases mem_append.1 hy with hy | hy
   ·obtain⟨q,hq,hy⟩:=mem_flatMap.1 hy;exact dU (h.ps q hq) hy
   ·obtain⟨q,hq,hy⟩:=mem_flatMap.1 hy;exact dU (h.tm.own q hq) hy
  ·obtain⟨q,hq,hy⟩:=mem_flatMap.1 hy;exact dU (h.cm.own q hq) hy
theorem fH.kept{S:List Nat}(h:fH w g D bh bp bt bc N Tm Cm)(k:z8 S w w')(hF:∀x∈g :: bh :: bp :: bt :: bc :: (psF N++slF Tm++slF Cm),x∉S):fH w' g D bh bp bt bc N Tm Cm:=by
 obtain⟨es,d,hm⟩:=h.hs;simp only[mem_cons,mem_append]at hF;exact⟨(k.block g (aG h.heap).1 (hF g (.inl rfl))).trans h.heap,⟨es,d,hm.kept k (hF bh sI)⟩,h.perm,λp hp=>(h.ps p hp).kept k λy hy=>hF y (.inr (.inr (.inr (.inr (.inr (.inl (.inl (mem_flatMap.2 ⟨p,hp,hy⟩)))))))),
  h.par.kept k (hF bp sI),h.tm.kept k (hF bt sI) λy hy=>hF y (.inr (.inr (.inr (.inr (.inr (.inl (.inr hy))))))),h.cm.kept k (hF bc sI) λy hy=>hF y (.inr (.inr (.inr (.inr (.inr (.inr hy)))))),h.ne,h.dis⟩
theorem fH.lt(h:fH w g D bh bp bt bc N Tm Cm):∀x∈g :: bh :: bp :: bt :: bc :: (psF N++slF Tm++slF Cm),x<w.heap.size:=by
 obtain⟨h1,h2⟩:=h.kinds;intro x hx;rcases mem_cons.1 hx with e | hx
 ·rw[e];exact(aG h.heap).1
 have d:∀y,y=bh\/y=bp\/y=bt\/y=bc->y<w.heap.size:=λy hy=>(by obtain⟨_,_,hh⟩:=h1 y hy;exact(aG hh).1);simp only[mem_cons]at hx;rcases hx with e | e | e | e | hx
 ·exact d x (.inl e)
 ·exact d x (.inr (.inl e))
 ·exact d x (.inr (.inr (.inl e)))
 ·exact d x (.inr (.inr (.inr e)))
 ·obtain⟨_,hh⟩:=h2 x hx;exact(aG hh).1
theorem k7.kept{S:List Nat}(h:k7 w g F D)(k:z8 S w w')(hF:∀x∈F,x∉S):k7 w' g F D:=by
 obtain⟨bh,bp,bt,bc,N,Tm,Cm,h,rfl⟩:=h;exact⟨bh,bp,bt,bc,N,Tm,Cm,h.kept k hF,rfl⟩
theorem k7.below(h:k7 w g F D)(k:Below w.heap.size w w'):k7 w' g F D:=h.kept (z8.of_below k) sI
theorem k7.lt(h:k7 w g F D):∀x∈F,x<w.heap.size:=by
 obtain⟨bh,bp,bt,bc,N,Tm,Cm,h,rfl⟩:=h;exact h.lt
theorem zeroHdV(w:World):(zeroValue 44).run prog w=.ok (.agg (hdC hd0)) w:=ky w
theorem fH.toH(h:fH w g D bh bp bt bc N Tm Cm):aS w g D bh bp bt bc N:=⟨h.heap,h.hs,h.perm⟩
theorem aS.kept{S:List Nat}(h:aS w g D bh bp bt bc N)(k:z8 S w w')(h1:g∉S)(h2:bh∉S):aS w' g D bh bp bt bc N:=by
 obtain⟨es,d,hm⟩:=h.hs;exact⟨(k.block g (aG h.heap).1 h1).trans h.heap,⟨es,d,hm.kept k h2⟩,h.perm⟩
theorem aS.below(h:aS w g D bh bp bt bc N)(hb:Below w.heap.size w w'):aS w' g D bh bp bt bc N:=h.kept (z8.of_below hb) sI sI
theorem ZT.below(h:ZT w g D)(hb:Below w.heap.size w w'):ZT w' g D:=by
 obtain⟨bh,bp,bt,bc,N,h⟩:=h;exact⟨bh,bp,bt,bc,N,h.below hb⟩
theorem aS.look(h:aS w g D bh bp bt bc N)(hn:(qR D).Nodup)(a:zA) :
  (∃x:fU,(a,x)∈N/\kV D a=some x.h/\∀w2,Below w.heap.size w w2->∀cm,(Instr.lookup 91 (.map (some bh)) (.agg (idC a)) cm).run prog w2=.ok (if cm then .tuple #[.agg (hdR x),.bool true]else .agg (hdR x)) w2) \/
  (kV D a=none/\∀w2,Below w.heap.size w w2->∀cm,(Instr.lookup 91 (.map (some bh)) (.agg (idC a)) cm).run prog w2=.ok (if cm then .tuple #[.agg (hdC hd0),.bool false]else .agg (hdC hd0)) w2):=by
 obtain⟨es,f,hm⟩:=h.hs;by_cases hx:a∈N.map (·.1)
 ·obtain⟨q,hq,rfl⟩:=mem_map.1 hx;refine .inl ⟨q.2,hq,wP (x:=⟨q.1,q.2.h⟩) hn (h.perm.mem_iff.1 (mem_map.2 ⟨q,hq,rfl⟩)),λw2 hb cm=>(hm.kept (z8.of_below hb) sI).hit j7 underlying91 trivial hq cm⟩
 ·refine .inr ⟨iZ.2 λd=>hx ?_,λw2 hb cm=>(hm.kept (z8.of_below hb) sI).miss j7 underlying91 (zeroHdV w2) trivial hx cm⟩;have:=(h.perm.map (·.id)).mem_iff.2 d;rw[map_map]at this;exact this
theorem fH.look(h:fH w g D bh bp bt bc N Tm Cm)(hn:(qR D).Nodup)(a:zA) :
  (∃x:fU,(a,x)∈N/\kV D a=some x.h/\∀w2,Below w.heap.size w w2->∀cm,(Instr.lookup 91 (.map (some bh)) (.agg (idC a)) cm).run prog w2=.ok (if cm then .tuple #[.agg (hdR x),.bool true]else .agg (hdR x)) w2) \/
  (kV D a=none/\∀w2,Below w.heap.size w w2->∀cm,(Instr.lookup 91 (.map (some bh)) (.agg (idC a)) cm).run prog w2=.ok (if cm then .tuple #[.agg (hdC hd0),.bool false]else .agg (hdC hd0)) w2):=h.toH.look hn a
theorem ord_ahead(f:zA->Int)(a b:zA):dF f a b=if bC (f a) a (f b) b then -1 else if bC (f b) b (f a) a then 1 else 0:=by
 rw[J0,J0];have h1:=(YS f).anti a b;have h2:dF f a b = -1\/dF f a b=0\/dF f a b=1:=by
  unfold dF orC;split
  ·exact vl a b
  ·exact cmpI_range _ _
 rcases h2 with h2 | h2 | h2
 ·rw[if_pos (by simp[h2]),h2]
 ·rw[if_neg (by simp[h2]),if_neg (by simp[h1,h2]),h2]
 ·rw[if_neg (by simp[h2]),if_pos (by simp[h1,h2]),h2]
end
theorem lU(w:World)(g b:Nat)(h:w.cell? ⟨g,0,none⟩=some (.map (some b))):Calls prog 60 #[.pointer (some ⟨g,0,none⟩)] w λe w'=>e=.returned (.bool false)/\w=w':=by
 have hn:=λr=>run_eql_map_nil (P:=prog) w 91 23 44 r underlying91;go_enter func60,ntmps60
 (go_wp2_with fail);go_ret;exact⟨rfl,rfl⟩
end
theorem aS.lookHt{bh bp bt bc:Nat}{N:List (zA×fU)}(h:aS w g D bh bp bt bc N)(hn:(qR D).Nodup)(a:zA) :
  ∃v,(∀w2,Below w.heap.size w w2->(Instr.lookup 91 (.map (some bh)) (.agg (idC a)) false).run prog w2=.ok v w2)/\∀w2,(Instr.field 44 v 1).run prog w2=.ok (.int .i64 (htX D a)) w2:=by
 rcases h.look hn a with⟨x,_,he,hl⟩ | ⟨he,hl⟩
 ·exact⟨_,λw2 hb=>hl w2 hb false,λw2=>by
   have e:htX D a=x.h.ht:=by unfold htX;rw[he]
   rw[e];exact KG _ w2⟩
 ·exact⟨_,λw2 hb=>hl w2 hb false,λw2=>by
   have e:htX D a=0:=by unfold htX;rw[he]
   rw[e];exact KG _ w2⟩
theorem dag_order(w:World)(g:Nat)(D:List HdX)(h:ZT w g D)(hn:(qR D).Nodup)(a b:zA) :
  Calls prog 103 #[.pointer (some ⟨g,0,none⟩),.agg (idC a),.agg (idC b)] w λe w'=>e=.returned (.int .i64 (dF (htX D) a b))/\Below w.heap.size w w':=by
 obtain⟨bh,bp,bt,bc,N,h⟩:=h;obtain⟨va,I,V⟩:=h.lookHt hn a;obtain⟨vb,H,T⟩:=h.lookHt hn b;have hB:Below w.heap.size w ((w.alloc (.cells (idC a) 23)).alloc (.cells (idC b) 23)):=(bA).alloc sI _;have r:z9 ((w.alloc (.cells (idC a) 23)).alloc (.cells (idC b) 23)) w.heap.size 0 32=some (idC a):=by
  rw[zG (Below.heap_alloc _ _ _ sI)];simp[go_sem]
 have m:z9 ((w.alloc (.cells (idC a) 23)).alloc (.cells (idC b) 23)) (w.heap.size+1) 0 32=some (idC b):=by simp[go_sem]
 obtain⟨W,hW⟩:=eR ((w.alloc (.cells (idC a) 23)).alloc (.cells (idC b) 23))
 obtain⟨ga,A⟩:=eX w.heap.size
 rw[<-hW,A]at r m;rw[<-hW]at hB;have c0:W.cell? ⟨g,0,none⟩=some (.map (some bh)):=by rw[cell_of_row W g 0 _ _ _ ((hB.block g (aG h.heap).1).trans h.heap)];rfl
 have R:∀x:Subtype (Bel W),(Instr.lookup 91 (.map (some bh)) (.agg (idC a)) false).run prog x.1=.ok va x.1:=λx=>I x.1 (hB.trans (x.2.mono hB.size));have M:∀x:Subtype (Bel W),(Instr.lookup 91 (.map (some bh)) (.agg (idC b)) false).run prog x.1=.ok vb x.1:=λx=>H x.1 (hB.trans (x.2.mono hB.size));obtain⟨X,hX⟩:=eX (htX D a)
 obtain⟨Y,hY⟩:=eX (htX D b)
 have ho:=ord_ahead (htX D) a b;rw[hX,hY]at ho;rw[hX]at V;rw[hY]at T;obtain⟨O,hO⟩:=eX (dF (htX D) a b)
 rw[hO]at ho |-;have HO:=dH ho;have HW:=dH hW;have HB:=dH hB;have Z:=dH A;clear ho hO hX hY hW hB A h I H;go_enter func103,ntmps103
 go_upto_region 1 with fail
 rw[<-HW.out,Z.out];refine lX W ?_;intro L hS;have b1:=zJ c0;have b2:=zV r;have b3:=zV m;refine lZ ?_;refine zC ?_;intro hS;have f:z9 W.drew ga 0 32=some (idC a):=r;have d:z9 W.drew (ga+1) 0 32=some (idC b):=m;obtain⟨t1,y⟩:=eX (bC X a Y b)
 obtain⟨t2,F⟩:=eX (bC Y b X a)
 have c1:=BU X a Y b W.drew;rw[y]at c1;have E:=dH y;have B:=dH F;clear L hS b1 b2 b3 R M c0 y F r m;(go_wp2_with fail);refine c1.mono ?_;rintro e w1 ⟨rfl,s⟩;have t:Below w.heap.size w w1:=HB.out.drew.trans (s.mono HB.out.drew.size);have k:=((z8.of_below s).row (zD f) sI _ _).trans f;have j:=((z8.of_below s).row (zD d) sI _ _).trans d;clear c1 f d s;cases t1 with
 | true =>
  clear k j;(go_wp2_with fail);go_ret;exact⟨y9 (by rw[HO.out,if_pos E.out]),t⟩
 | false =>
  have c2:=BU Y b X a w1;rw[B.out]at c2;(go_wp2_with fail);refine c2.mono ?_;rintro e w2 ⟨rfl,G⟩;have J:Below w.heap.size w w2:=t.trans (G.mono t.size);clear c2 k j G t;cases t2 with
  | true =>
   (go_wp2_with fail);go_ret;exact⟨y9 (by rw[HO.out,if_neg (by rw[E.out];decide),if_pos B.out]),J⟩
  | false =>
   (go_wp2_with fail);go_ret;exact⟨y9 (by rw[HO.out,if_neg (by rw[E.out];decide),if_neg (by rw[B.out];decide)]),J⟩
theorem isFn_order:zt 103:=λargs w=>by kernel_rfl
theorem KW(h:ZT w g D)(hn:(qR D).Nodup)(t:zA):Weighs 103 #[.pointer (some ⟨g,0,none⟩)] #[] w t (λx=>dF (htX D) x t) :=
 λx w' hb=>dag_order w' g D (h.below hb) hn x t
theorem dag_put(w:World)(g:Nat)(D:List HdX)(h:ZT w g D)(hn:(qR D).Nodup)(s:Sl)(L:List zA)(ho:Own w 0 23 32 s.A s.n s.c (L.map idC))(T:s.n<=100000)(x:zA)(hr:Ris (dF (htX D)) L)(hx:x∉L) :
  Calls prog 147 #[.pointer (some ⟨g,0,none⟩),slV s,.agg (idC x)] w λe w'=>∃s':Sl,e=.returned (slV s')/\s'.n=s.n+1/\Own w' 0 23 32 s'.A s'.n s'.c ((jI (dF (htX D)) L x).map idC)/\z8 (blk s.A) w w'/\∀y∈blk s'.A,y∈blk s.A\/w.heap.size<=y:=by
 obtain⟨A,n,cap⟩:=s;have k:L.length=n:=by simpa using ho.len
 have hB:Below w.heap.size w (w.alloc (.cells (idC x) 23)):=bA;have d:z9 (w.alloc (.cells (idC x) 23)) w.heap.size 0 32=some (idC x):=by simp[go_sem]
 obtain⟨W,hW⟩:=eR (w.alloc (.cells (idC x) 23))
 rw[<-hW]at hB d;have E:=ho.below hB;have c1:=ZP 103 #[.pointer (some ⟨g,0,none⟩)] #[] isFn_order (λy=>dF (htX D) y x) x W (KW (h.below hB) hn x) A n cap L E.slr (by show n<=1000000;have:n<=100000:=T;omega) (λa b hb a1 U=>(YS (htX D)).trans _ _ _ (YB hr a1 hb) U);obtain⟨ga,G⟩:=eX w.heap.size
 rw[G]at d;have HW:=dH hW;have a3:=dH G;have J:=dH k;have Hx:=dH hx;have HB:=dH hB;have F:ga<W.heap.size:=zD d;have a2:∀y∈blk A,y<ga:=λy hy=>(oH ((ho.at_base (x:=y) hy).2));unfold slV;clear hW G k hx hB h hr ho;go_enter func147,ntmps147
 (go_wp2_with fail);rw[<-HW.out,a3.out];refine c1.mono ?_;rintro e w1 ⟨i,b,rfl,hi,V,Y,_,f⟩;have R:=E.below f;have Z:z9 w1 ga 0 32=some (idC x):=((z8.of_below f).row (zD d) sI _ _).trans d;have B:Below w1.heap.size w1 (w1.alloc (.cells (idC x) 23)):=bA;have hq:=heap_alloc_new w1 (.cells (idC x) 23);obtain⟨W2,H⟩:=eR (w1.alloc (.cells (idC x) 23))
 rw[<-H]at B hq;have m:jI (dF (htX D)) L x=L.take i++x :: L.drop i:=YD L x i (by have:=J.out;have:i<=n:=hi;omega) (λj hj a0=>V j hj a0) (λhk=>by
  have h1:=Y i hk lR;have h2:dF (htX D) L[i] x≠0:=λe=>Hx.out (by rw[<-((YS (htX D)).zero _ _).1 e];exact getElem_mem hk);have h3:0<=dF (htX D) L[i] x:=h1;omega)
 have a5:=f.size;have c2:=insert_id W2 0 A n cap L (R.below B) i hi x w1.heap.size hq (λhm=>oH (a2 _ hm)) (by have:n<=100000:=T;omega) zL;have r:Below w.heap.size w W2:=HB.out.trans ((f.mono HB.out.size).trans (B.mono (Nat.le_trans HB.out.size f.size)));have a4:=dH H;have M:=dH m;have t:=dH r;clear c1 V Y f B hq H m r R E d F;(go_wp2_with fail);rw[<-a4.out];refine c2.mono ?_;rintro e w3 ⟨A3,I,rfl,O,X,N⟩;have HF:=dH (And.intro O (And.intro (z8.trans ((z8.of_below t.out).mono (S':=blk A) sI) X (λy hy=>.inl hy)) (λy (hy:y∈blk A3)=>(N y hy).elim (λh=>(Or.inl h:y∈blk A\/w.heap.size<=y)) (λh=>Or.inr (Nat.le_trans t.out.size h)))));clear c2 O X N;(go_wp2_with fail);go_ret;exact⟨⟨A3,n+1,I⟩,rfl,rfl,by rw[M.out];exact HF.out.1,HF.out.2.1,HF.out.2.2⟩
theorem fH.c0{bh bp bt bc:Nat}{N:List (zA×fU)}(h:fH w g D bh bp bt bc N Tm Cm)(w2:World)(hb:Below w.heap.size w w2) :
  w2.cell? ⟨g,0,none⟩=some (.map (some bh))/\w2.cell? ⟨g,1,none⟩=some (.map (some bp))/\w2.cell? ⟨g,2,none⟩=some (.map (some bt))/\w2.cell? ⟨g,3,none⟩=some (.map (some bc)):=by
 have hh:=(hb.block g (aG h.heap).1).trans h.heap;refine⟨?_,?_,?_,?_⟩ <;> (rw[cell_of_row w2 g _ _ _ _ hh];rfl)
theorem m8(w:World)(g:Nat)(hg:g=w.heap.size)(z:Array Value)(hz:z.size=38)(x:Hd)(h:x.ps.oneCell'=true)(e:TypeId):(stS 44 ⟨g,0,none⟩ (.agg (hdC x))).run prog (w.alloc (.cells z e)).drew=.ok () (w.alloc (.cells (hdC x) e)).drew :=
 wW w.drew g hg z hz x h e
theorem mN:hd0.ps.oneCell'=true:=rfl
theorem sR(x:fU):(hdO x.h x.A x.c).ps.oneCell'=true:=rfl
theorem jk{i:zA}:(kV D i).isSome=decide (i∈qR D):=by
 by_cases h:i∈qR D
 ·rw[decide_eq_true h];cases e:kV D i with
  | none=>exact absurd h (iZ.1 e)
  | some x=>rfl
 ·rw[iZ.2 h,decide_eq_false h];rfl
theorem dag_has(w:World)(g:Nat)(F:List Nat)(D:List HdX)(h:k7 w g F D)(hn:(qR D).Nodup)(a:zA) :
  Calls prog 109 #[.pointer (some ⟨g,0,none⟩),.agg (idC a)] w λe w'=>e=.returned (.bool (decide (a∈qR D)))/\Below w.heap.size w w':=by
 rw[<-jk];obtain⟨bh,bp,bt,bc,N,Tm,Cm,h,rfl⟩:=h;have hB:Below w.heap.size w (w.alloc (.cells (idC a) 23)):=bA;have d:z9 (w.alloc (.cells (idC a) 23)) w.heap.size 0 32=some (idC a):=by simp[go_sem]
 obtain⟨W,hW⟩:=eR (w.alloc (.cells (idC a) 23))
 obtain⟨ga,f⟩:=eX w.heap.size
 rw[<-hW]at d hB;rw[f]at d;have c0:=(h.c0 W hB).1;have r:∃(v:Hd) (b:Bool),v.ps.oneCell'=true/\b=(kV D a).isSome/\∀x:Subtype (Bel W),(Instr.lookup 91 (.map (some bh)) (.agg (idC a)) true).run prog x.1=.ok (.tuple #[.agg (hdC v),.bool b]) x.1:=by
  rcases h.look hn a with⟨x,_,he,hl⟩ | ⟨he,hl⟩
  ·exact⟨_,true,sR x,by rw[he];rfl,λy=>hl y.1 (hB.trans (y.2.mono hB.size)) true⟩
  ·exact⟨_,false,mN,by rw[he];rfl,λy=>hl y.1 (hB.trans (y.2.mono hB.size)) true⟩
 obtain⟨v,b,hv,hb,hl⟩:=r;rw[<-hb];have c1:=lU W g bh c0;have HW:=dH hW;have HB:=dH hB;have t:=dH f;clear hW hB f h hb;go_enter func109,ntmps109
 (go_wp2_with fail);rw[<-HW.out,t.out];refine c1.mono ?_;rintro e w' ⟨rfl,rfl⟩;clear c1;go_upto_region 3 with fail
 refine lX W ?_;intro m hS;have b1:=zJ c0;have b2:=zV d;refine lZ ?_;have j:=hS;refine lH ?_;intro K hK;refine zH (fF hS _) (λhS=>?_);refine hK _ _ ?_;clear hK K;have k:=m8 W W.heap.size rfl (hdC hd0) rfl v hv 44;refine lH ?_;intro K hK;refine zH (fF j (.cells (hdC v) 44)) (λhS=>?_);refine hK _ _ ?_;clear hK K;refine lZ ?_;refine zC ?_;intro hS;have s:=yM HB.out hS;clear m hS j b1 b2 hl k;(go_wp2_with fail);go_ret;exact⟨rfl,s⟩
theorem lP(w:World)(g:Nat)(c:Array Value):z8 [g] w (w.setRow g c):=⟨rfl,rfl,rfl,by simp[setRow],λx _ hx=>setRow_other w g x _ (by simpa using hx)⟩
theorem QP(w:World)(x:fU)(hT:zW w x.A x.h.ps.length x.h.ps)(hn:x.h.ps.length<=1000000)(hA:x.A=none->x.c=0) :
  Calls prog 73 #[.agg (hdR x)] w λe w'=>∃A' c',e=.returned (.agg (hdR ⟨x.h,A',c'⟩))/\Own w' w.heap.size 23 32 A' x.h.ps.length c' (x.h.ps.map idC)/\Below w.heap.size w w':=by
 have hB:Below w.heap.size w ((w.alloc (.cells (hdR x) 44)).alloc (.cells (hdC hd0) 44)):=(bA).alloc sI _;have x1:((w.alloc (.cells (hdR x) 44)).alloc (.cells (hdC hd0) 44)).heap[w.heap.size+1]?=some (.cells (hdC hd0) 44 (0,0)):=by
  have:=heap_alloc_new (w.alloc (.cells (hdR x) 44)) (.cells (hdC hd0) 44)
  rwa [(sI:(w.alloc (.cells (hdR x) 44)).heap.size=w.heap.size+1)]at this
 have x0:((w.alloc (.cells (hdR x) 44)).alloc (.cells (hdC hd0) 44)).heap[w.heap.size]?=some (.cells (hdR x) 44 (0,0)):=by
  rw[Below.heap_alloc _ _ _ sI];exact heap_alloc_new _ _
 obtain⟨W,hW⟩:=eR ((w.alloc (.cells (hdR x) 44)).alloc (.cells (hdC hd0) 44))
 obtain⟨ga,d⟩:=eX w.heap.size
 rw[<-hW]at hB x0 x1;rw[d]at x0 x1;have y0:W.cell? ⟨ga,0,none⟩=some (.slice x.A x.h.ps.length x.c):=by rw[cell_of_row W ga 0 _ _ _ x0];simp[hdR,hdO,hdC]
 have c1:=r9 W x.A x.h.ps.length x.c x.h.ps (SlR.below hT hB) hn hA;have HW:=dH hW;have HB:=dH hB;have g:=dH d;clear hW hB d;go_enter func73,ntmps73
 (go_wp2_with fail);rw[<-HW.out,g.out];refine c1.mono ?_;rintro e w1 ⟨A',c',rfl,ho,hb⟩;have z0:=(hb.block ga (aG x0).1).trans x0;have z1:=(hb.block (ga+1) (aG x1).1).trans x1;have fz:w1.frozen? ⟨ga,0,none⟩=false:=by simp[frozen?,z0]
 have cz:w1.cell? ⟨ga,0,none⟩=some (.slice x.A x.h.ps.length x.c):=((hb.cell (p:=⟨ga,0,none⟩) (aG x0).1)).trans y0;have q0:=zE z0 0 (.slice A' x.h.ps.length c');have e0:(hdR x).setIfInBounds 0 (.slice A' x.h.ps.length c')=hdR ⟨x.h,A',c'⟩:=by
  simp[hdR,hdO,hdC]
 rw[e0]at q0;have q1:(w1.setCell ⟨ga,0,none⟩ (.slice A' x.h.ps.length c')).heap[ga+1]?=some (.cells (hdC hd0) 44 (0,0)):=(Below.heap_setCell w1 ⟨ga,0,none⟩ _ (ga+1) sI).trans z1;have hr:z9 (w1.setCell ⟨ga,0,none⟩ (.slice A' x.h.ps.length c')) ga 0 38=some (hdR ⟨x.h,A',c'⟩):=by unfold z9;rw[q0];simp[hdR]
 have r:=zX (P:=prog) v4 (w1.setCell ⟨ga,0,none⟩ (.slice A' x.h.ps.length c')) (ga+1) (hdC hd0) (hdR ⟨x.h,A',c'⟩) _ q1 sI (by simp[hdR]) (bY _ (sR ⟨x.h,A',c'⟩));have f:=dH (setRow_heap (w1.setCell ⟨ga,0,none⟩ (.slice A' x.h.ps.length c')) (ga+1) _ (hdR ⟨x.h,A',c'⟩) _ _ q1);have hk:z8 [ga,ga+1] w1 ((w1.setCell ⟨ga,0,none⟩ (.slice A' x.h.ps.length c')).setRow (ga+1) (hdR ⟨x.h,A',c'⟩)):=z8.trans (S:=[ga,ga+1]) (S':=[ga+1]) ((z8.setCell w1 ⟨ga,0,none⟩ _).mono sI) (lP _ _ _) sI;have j:Below w.heap.size w ((w1.setCell ⟨ga,0,none⟩ (.slice A' x.h.ps.length c')).setRow (ga+1) (hdR ⟨x.h,A',c'⟩)):=(HB.out.trans (hb.mono HB.out.size)).trans (hk.below (Nat.le_trans HB.out.size hb.size) (oS g.out));have s:ga+1<W.heap.size:=(aG x1).1;have k:=dH ((ho.kept hk (λy hy=>oS (ho.at_base hy))).mono (by have:=g.out;omega:w.heap.size<=W.heap.size));have m:=dH j;clear hk j c1 ho hb z0 z1 q0 q1 e0 x0 x1 y0;(go_wp2_with fail);refine bodyPost_ret (results_cell_row results73 _ _ (ga+1) 44 (hdR ⟨x.h,A',c'⟩) (0,0) _ rfl f.out underlying44 rfl (by rw[vH];exact v4)) rfl ?_;exact⟨A',c',rfl,k.out,m.out⟩
theorem Own.cap0{B E:Nat}{n cap:Nat}(h:Own w B E k A n cap L)(hA:A=none):cap=0:=by
 obtain⟨⟨_,h2⟩,_,_⟩:=h;rcases h2 with⟨e,_⟩ | ⟨g,c,cur,e,_⟩
 ·injection e
 ·injection e with e;rw[hA]at e;cases e
theorem aE(w:World)(g:Nat)(F:List Nat)(D:List HdX)(h:k7 w g F D)(t:ByteArray)(ht:fD t)(hD:D.length<=1000000) :
  Calls prog 25 #[.pointer (some ⟨g,0,none⟩),.string t] w λe w'=>∃s:Sl,e=.returned (slV s)/\s.n=(j8 D t).length/\Own w' w.heap.size 23 32 s.A s.n s.c ((j8 D t).map idC)/\Below w.heap.size w w':=by
 obtain⟨bh,bp,bt,bc,N,Tm,Cm,h,rfl⟩:=h;obtain⟨c0,_,c2,_⟩:=h.c0 w (Below.refl _ _);obtain⟨⟨A,n,cap⟩,hl,ho,_⟩:=h.tm.get dB underlying92 ht;have d:(j8 D t).length=n:=by simpa using ho.len
 have j:=hl w (Below.refl _ _);have hn:n<=1000000:=by rw[<-d];exact Nat.le_trans (by unfold j8;simpa using length_filter_le _ D) hD
 have cN:=lU w g bh c0;have cc:=r9 w A n cap (j8 D t) ho.slr hn ho.cap0;have f:=dH d;unfold slV at j |-;clear h hl ho d;go_enter func25,ntmps25
 (go_wp2_with fail);refine cN.mono ?_;rintro e w' ⟨rfl,rfl⟩;clear cN;(go_wp2_with fail);refine cc.mono ?_;rintro e w1 ⟨A',c',rfl,ho,hb⟩;have HF:=dH (And.intro ho hb);clear cc ho hb j;(go_wp2_with fail);go_ret;exact⟨⟨A',n,c'⟩,rfl,f.out.symm,HF.out.1,HF.out.2⟩
theorem tR(w:World)(g:Nat)(F:List Nat)(D:List HdX)(h:k7 w g F D)(c:zA)(hD:D.length<=1000000) :
  Calls prog 50 #[.pointer (some ⟨g,0,none⟩),.agg (idC c)] w λe w'=>∃s:Sl,e=.returned (slV s)/\s.n=(vA D c).length/\Own w' w.heap.size 23 32 s.A s.n s.c ((vA D c).map idC)/\Below w.heap.size w w':=by
 obtain⟨bh,bp,bt,bc,N,Tm,Cm,h,rfl⟩:=h;have hB:Below w.heap.size w (w.alloc (.cells (idC c) 23)):=bA;have f:z9 (w.alloc (.cells (idC c) 23)) w.heap.size 0 32=some (idC c):=by simp[go_sem]
 obtain⟨W,hW⟩:=eR (w.alloc (.cells (idC c) 23))
 obtain⟨ga,j⟩:=eX w.heap.size
 rw[<-hW]at f hB;rw[j]at f;obtain⟨c0,_,_,c3⟩:=h.c0 W hB;obtain⟨⟨A,n,cap⟩,hl,ho,_⟩:=h.cm.get j7 underlying93 (k:=c) trivial;have d:(vA D c).length=n:=by simpa using ho.len
 have t:∀x:Subtype (Bel W),(Instr.lookup 93 (.map (some bc)) (.agg (idC c)) false).run prog x.1=.ok (.slice A n cap) x.1:=λx=>hl x.1 (hB.trans (x.2.mono hB.size));have hn:n<=1000000:=by rw[<-d];exact Nat.le_trans (by unfold vA;simpa using length_filter_le _ D) hD
 have cN:=lU W g bh c0;have cc:=fun (V:World) (hV:Below W.heap.size W V)=>r9 V A n cap (vA D c) (SlR.below ho.slr (hB.trans (hV.mono hB.size))) hn ho.cap0;have m:=dH d;have HW:=dH hW;have HB:=dH hB;have B:=dH j;unfold slV;clear h hl ho d hW hB j;go_enter func50,ntmps50
 (go_wp2_with fail);rw[<-HW.out,B.out];refine cN.mono ?_;rintro e w' ⟨rfl,rfl⟩;clear cN;go_upto_region 3 with fail
 refine lX W ?_;intro r hS;have b1:=zJ c3;have b2:=zV f;refine lQ ?_;intro K hK;refine(cc _ hS).mono ?_;rintro e w1 ⟨A',c',rfl,ho,hb⟩;have HF:=dH (ho.mono (Nat.le_trans HB.out.size (show W.heap.size<=_ from hS.size)));replace hS:=xZ hS hb;refine⟨_,rfl,hS,hK _ _ ?_⟩;clear hK K hb ho;refine lZ ?_;refine zC ?_;intro hS;have y:=dH (yM HB.out hS);clear r hS b1 b2 t cc;(go_wp2_with fail);go_ret;exact⟨⟨A',n,c'⟩,rfl,m.out.symm,HF.out,y.out⟩
theorem idset_new(w:World):jM (w.alloc (.map #[] 0)) w.heap.size []:=⟨[],_,_,yK.new w w.heap.size rfl,sI⟩
theorem dag_new(w:World):Calls prog 121 #[] w λe w'=>∃g F,e=.returned (.pointer (some ⟨g,0,none⟩))/\k7 w' g F []/\(∀x∈F,w.heap.size<=x)/\Below w.heap.size w w':=by
 have y:=@run_makeMap prog;go_enter func121,ntmps121
 (go_wp2_with fail);go_ret;have k1:=z8.alloc w (.map #[] 0);have m1:=yK.new (kv:=idV) (vv:=hdVA) (ok:=vL) w w.heap.size rfl;obtain⟨w1,s⟩:=eR (w.alloc (.map #[] 0))
 have z1:w1.heap.size=w.heap.size+1:=by rw[s];simp
 rw[<-s]at m1 k1 |-;have k2:=z8.alloc w1 (.map #[] 0);have m2:=idset_new w1;obtain⟨w2,r⟩:=eR (w1.alloc (.map #[] 0))
 have z2:w2.heap.size=w.heap.size+1+1:=by rw[r];simp[z1]
 rw[<-r]at m2 k2 |-;have k3:=z8.alloc w2 (.map #[] 0);have m3:=k6.new (kv:=Value.string) (ok:=fD) w2 w2.heap.size rfl;obtain⟨w3,m⟩:=eR (w2.alloc (.map #[] 0))
 have z3:w3.heap.size=w.heap.size+1+1+1:=by rw[m];simp[z2]
 rw[<-m]at m3 k3 |-;have k4:=z8.alloc w3 (.map #[] 0);have m4:=k6.new (kv:=idV) (ok:=vL) w3 w3.heap.size rfl;obtain⟨w4,k⟩:=eR (w3.alloc (.map #[] 0))
 have z4:w4.heap.size=w.heap.size+1+1+1+1:=by rw[k];simp[z3]
 rw[<-k]at m4 k4 |-;rw[z1]at m2;rw[z2]at m3;rw[z3]at m4;have k5:=z8.alloc w4 (.cells (dagC w.heap.size (w.heap.size+1) (w.heap.size+1+1) (w.heap.size+1+1+1)) 95);have hg:=heap_alloc_new w4 (.cells (dagC w.heap.size (w.heap.size+1) (w.heap.size+1+1) (w.heap.size+1+1+1)) 95 (0,0));rw[z4]at hg;have d:=z8.trans k4 k5 sI;have f:=z8.trans k3 d sI;have j:=z8.trans k2 f sI;have t:=z8.trans k1 j sI;refine⟨w.heap.size+1+1+1+1,_,rfl,⟨w.heap.size,w.heap.size+1,w.heap.size+1+1,w.heap.size+1+1+1,[],[],[],⟨hg,⟨_,_,m1.kept j sI⟩,Perm.refl _,sI,m2.kept f sI,m3.kept d sI sI,m4.kept k5 sI sI,sO,by simp[psF,slF]⟩,rfl⟩,λx hx=>?_,t.below lR sI⟩;simp[psF,slF]at hx;omega
@[go_sem] theorem bdHd0(w:World):(bdS 44 #[]).run prog w=.ok (.agg (hdC hd0)) w:=kR
theorem dag_get(w:World)(g:Nat)(F:List Nat)(D:List HdX)(h:k7 w g F D)(hn:(qR D).Nodup)(a:zA)(E:∀x,kV D a=some x->x.ps.length<=1000000) :
  Calls prog 29 #[.pointer (some ⟨g,0,none⟩),.agg (idC a)] w λe w'=>((∃x A' c',kV D a=some x/\e=.returned (.tuple #[.agg (hdR ⟨x,A',c'⟩),.int .i64 0])/\Own w' w.heap.size 23 32 A' x.ps.length c' (x.ps.map idC))\/(kV D a=none/\e=.returned (.tuple #[.agg (hdC hd0),.int .i64 7])))/\Below w.heap.size w w':=by
 obtain⟨bh,bp,bt,bc,N,Tm,Cm,h,rfl⟩:=h;have hB:Below w.heap.size w ((w.alloc (.cells (idC a) 23)).alloc (.cells (hdC hd0) 44)):=(bA).alloc sI _;have m:z9 ((w.alloc (.cells (idC a) 23)).alloc (.cells (hdC hd0) 44)) w.heap.size 0 32=some (idC a):=by
  rw[zG (Below.heap_alloc _ _ _ sI)];simp[go_sem]
 have x1:((w.alloc (.cells (idC a) 23)).alloc (.cells (hdC hd0) 44)).heap[w.heap.size+1]?=some (.cells (hdC hd0) 44 (0,0)):=by
  have:=heap_alloc_new (w.alloc (.cells (idC a) 23)) (.cells (hdC hd0) 44)
  rwa [(sI:(w.alloc (.cells (idC a) 23)).heap.size=w.heap.size+1)]at this
 obtain⟨W,hW⟩:=eR ((w.alloc (.cells (idC a) 23)).alloc (.cells (hdC hd0) 44))
 obtain⟨ga,H⟩:=eX w.heap.size
 rw[<-hW]at m hB x1;rw[H]at m x1;have c0:=(h.c0 W hB).1;obtain⟨gb,M⟩:=eX W.heap.size
 have c1:=lU W g bh c0;have HW:=dH hW;have HB:=dH hB;have B:=dH H;have I:=dH M;have Y:=h.look hn a;have d:=h.ps;clear hW hB H M h;have s:ga+1<W.heap.size:=(aG x1).1;rcases Y with⟨x,hx,he,hl⟩ | ⟨he,hl⟩
 ·have ho:=d _ hx;have L:=E _ he;rw[he];have hl:∀y:Subtype (Bel W),(Instr.lookup 91 (.map (some bh)) (.agg (idC a)) true).run prog y.1=.ok (.tuple #[.agg (hdR x),.bool true]) y.1:=λy=>hl y.1 (HB.out.trans (y.2.mono HB.out.size)) true;have cc:=fun (V:World) (hV:Below w.heap.size w V)=>QP V ⟨x.h,x.A,x.c⟩ (SlR.below ho.slr hV) L ho.cap0;have r:=m8 W W.heap.size rfl (hdC hd0) sI (hdO x.h x.A x.c) (sR x) 44;clear d E hx he ho L;go_enter func29,ntmps29
  (go_wp2_with fail);rw[<-HW.out,B.out];refine c1.mono ?_;rintro e w' ⟨rfl,rfl⟩;clear c1;go_upto_region 3 with fail
  refine lX W ?_;intro G hS;have b1:=zJ c0;have b2:=zV m;refine lZ ?_;have t:=hS;refine lH ?_;intro K hK;refine zH (fF hS _) (λhS=>?_);refine hK _ _ ?_;clear hK K;refine lH ?_;intro K hK;refine zH (fF t (.cells (hdR x) 44)) (λhS=>?_);refine hK _ _ ?_;clear hK K;refine lZ ?_;refine zC ?_;intro hS;have T:z9 (W.alloc (.cells (hdR x) 44)).drew gb 0 38=some (hdR x):=by rw[<-I.out];simp[go_sem,hdR]
  have f:Below W.heap.size W (W.alloc (.cells (hdR x) 44)).drew:=hS;rw[show(W.alloc (.cells (hdC (hdO x.h x.A x.c)) 44)).drew=(W.alloc (.cells (hdR x) 44)).drew from rfl,I.out];obtain⟨Z,hZ⟩:=eX ((W.alloc (.cells (hdR x) 44)).drew)
  rw[hZ]at f T |-;have z1:=(f.block (ga+1) s).trans x1;have c2:=cc Z (HB.out.trans (f.mono HB.out.size));have j:=dH (HB.out.trans (f.mono HB.out.size));have Hz:ga+1<Z.heap.size:=(aG z1).1;clear G hS t b1 b2 hl r cc hZ f x1 c0 m s;(go_wp2_with fail);refine c2.mono ?_;rintro e w1 ⟨A',c',rfl,ho,hb⟩;have z2:=(hb.block (ga+1) Hz).trans z1;have r:=zX (P:=prog) v4 w1 (ga+1) (hdC hd0) (hdR ⟨x.h,A',c'⟩) _ z2 sI (by simp[hdR]) (bY _ (sR ⟨x.h,A',c'⟩));have k:=dH (setRow_heap w1 (ga+1) _ (hdR ⟨x.h,A',c'⟩) _ _ z2);have hk:=lP w1 (ga+1) (hdR ⟨x.h,A',c'⟩);have O:Below w.heap.size w (w1.setRow (ga+1) (hdR ⟨x.h,A',c'⟩)):=(j.out.trans (hb.mono j.out.size)).trans (hk.below (Nat.le_trans j.out.size hb.size) (oS B.out));have X:=dH ((ho.kept hk (λy hy=>oS (ho.at_base hy))).mono j.out.size);have J:=dH O;clear hk O c2 ho hb z1 z2 Hz;(go_wp2_with fail);refine bodyPost_ret (yU results29 _ _ (ga+1) 44 (hdR ⟨x.h,A',c'⟩) (0,0) _ rfl k.out underlying44 rfl (by rw[vH];exact v4)) rfl ?_;exact⟨.inl ⟨x.h,A',c',rfl,rfl,X.out⟩,J.out⟩
 ·rw[he];have hl:∀y:Subtype (Bel W),(Instr.lookup 91 (.map (some bh)) (.agg (idC a)) true).run prog y.1=.ok (.tuple #[.agg (hdC hd0),.bool false]) y.1:=λy=>hl y.1 (HB.out.trans (y.2.mono HB.out.size)) true;have r:=m8 W W.heap.size rfl (hdC hd0) sI hd0 mN 44;clear d E he;go_enter func29,ntmps29
  (go_wp2_with fail);rw[<-HW.out,B.out];refine c1.mono ?_;rintro e w' ⟨rfl,rfl⟩;clear c1;go_upto_region 3 with fail
  refine lX W ?_;intro G hS;have b1:=zJ c0;have b2:=zV m;refine lZ ?_;have t:=hS;refine lH ?_;intro K hK;refine zH (fF hS _) (λhS=>?_);refine hK _ _ ?_;clear hK K;refine lH ?_;intro K hK;refine hK _ _ ?_;clear hK K;refine lZ ?_;refine zC ?_;intro hS;have f:Below W.heap.size W (W.alloc (.cells (hdC hd0) 44)).drew:=hS;rw[I.out];obtain⟨Z,hZ⟩:=eX ((W.alloc (.cells (hdC hd0) 44)).drew)
  rw[hZ]at f |-;have z1:=(f.block (ga+1) s).trans x1;have R:=zX (P:=prog) v4 Z (ga+1) (hdC hd0) (hdC hd0) _ z1 sI sI (bY _ mN);have k:=dH (setRow_heap Z (ga+1) _ (hdC hd0) _ _ z1);have hk:=lP Z (ga+1) (hdC hd0);have j:=HB.out.trans (f.mono HB.out.size);have J:=dH (j.trans (hk.below j.size (oS B.out)));clear G hS t b1 b2 hl r hZ f x1 c0 m s hk j z1;(go_wp2_with fail);refine bodyPost_ret (yU results29 _ _ (ga+1) 44 (hdC hd0) (0,0) _ rfl k.out underlying44 rfl (by rw[vH];exact v4)) rfl ?_;exact⟨.inr (by first | exact⟨rfl,rfl⟩ | exact⟨trivial,rfl⟩),J.out⟩
abbrev iC(x:Int):Array Value:=#[.int .i64 x]
def ZU(L:List Int):Int:=L.foldl max 0
theorem YU:∀(L:List Int) (m:Int),0<=m->m<=1073741824->(∀x∈L,x<=1073741824)->0<=L.foldl max m/\L.foldl max m<=1073741824
 | [],m,h0,h1,_=>⟨h0,h1⟩
 | x :: L,m,h0,h1,h=>YU L (max m x) oM (oH (h x sI)) (λy hy=>h y (by simp[hy]))
theorem topL_step(L:List Int)(hk:k<L.length):ZU (L.take (k+1))=max (ZU (L.take k)) L[k]:=by
 unfold ZU;rw[take_succ_eq_append_getElem hk,foldl_append];rfl
theorem rule_above(w:World)(A:Option Addr)(n cap:Nat)(L:List Int)(h:SlR w A n 1 (L.map iC))(hL:∀x∈L,x<=1073741824)(hn:n<=1000000) :
  Calls prog 257 #[.slice A n cap] w λe w'=>e=.returned (.int .i64 (ZU L+1))/\w=w':=by
 have d:L.length=n:=by simpa using h.1
 obtain⟨t1,t2⟩:=YU L 0 oM oM hL;have HT:=dH (show 0<=ZU L/\ZU L<=1073741824 from⟨t1,t2⟩);clear t1 t2;go_enter func257,ntmps257
 go_upto_region 3 with fail
 go_loopw [3,5,8] (λm _ i wr=>∃(k:Nat) (v:Int),k<=n/\i=.int .i64 k/\m=.int .i64 v/\Hid (ZU (L.take k)=v)/\w=wr) (λ_ _ i _=>n-(intOf i).toNat)
 case atStart=>exact⟨0,0,zL,rfl,rfl,(show _=_ from rfl),rfl⟩
 case round =>
  obtain⟨k,v,hk,rfl,rfl,hg,rfl⟩:=hrel;by_cases r:k<n
  ·have g:k<L.length:=oM;obtain⟨q,o,rfl,hr⟩:=h.at_ r;rw[getElem_map]at hr;have hgs:=topL_step L g;rw[hg.out]at hgs;obtain⟨x,hx⟩:=eX (L[k]'g)
   rw[hx]at hr hgs;have hc:w.cell? ⟨q,o+k,none⟩=some (.int .i64 x):=by
    have:=zB hr (j:=0) oM;simpa using this
   have s:=dH hgs;clear hgs hx hg hr d;(go_wp2_with fail);exact⟨⟨k+1,_,oM,rfl,rfl,s,trivial⟩,by simp only[intOf];omega⟩
  ·have f:L.take k=L:=take_of_length_le oM;have Hg:Hid (ZU L=v):=(show _=_ by rw[<-f];exact hg.out)
   have y:0<=v:=by rw[<-Hg.out];exact HT.out.1
   have t:v<=1073741824:=by rw[<-Hg.out];exact HT.out.2
   clear f hg;(go_wp2_with fail);go_ret;exact⟨y9 (by rw[Hg.out]),rfl⟩
theorem einfoIn8:yT prog 269 3 1 8 :=
 .of (z:=.int .i64 0) underlying269 kR kR kR rfl oM
theorem infoIn8:∃i,prog.info? 3=some i/\i.zero=some (.int .i64 0)/\i.size=1/\i.bytes=8:=by
 have h:(prog.info? 3).map (λi=>(i.zero,i.size,i.bytes))=some (some (.int .i64 0),1,8):=kR;cases e:prog.info? 3 with
 | none=>rw[e]at h;cases h
 | some i =>
  rw[e]at h;injection h with h;injection h with h1 h;injection h with h2 h3
  exact⟨i,rfl,h1,h2,h3⟩
theorem iC_one(x:Int):∀u∈(iC x).toList,u.oneCell'=true:=by intro u hu;simp at hu;subst hu;rfl
theorem mkInts(w:World)(n:Nat)(hn:n<=1000000):∃w',(Instr.makeSlice 269 (.int .i64 0) (.int .i64 n)).run prog w=.ok (.slice (some ⟨w.heap.size,0,none⟩) 0 n) w'/\Own w' w.heap.size 3 1 (some ⟨w.heap.size,0,none⟩) 0 n []/\Below w.heap.size w w':=by
 obtain⟨i,h1,h2,h3,h4⟩:=infoIn8;obtain⟨w',e1,e2,e3⟩:=run_makeSlice_owned (P:=prog) (w:=w) w.heap.size 269 3 i (.int .i64 0) 1 underlying269 h1 h2 h3 .i64 .i64 n oM (by rw[h4];omega) (by unfold maxLen;omega) lR;refine⟨w',e1,⟨e2,rfl,sI⟩,(z8.grown e3).below lR sI⟩
theorem xc(w:World)(A:Option Addr)(n cap:Nat)(L:List Hd)(h:SlR w A n 38 (L.map hdC))(ho:∀x∈L,x.ps.oneCell'=true)(hn:n<=100000) :
  Calls prog 195 #[.slice A n cap] w λe w'=>e=.returned (.int .i64 (ZU (L.map λx=>min x.ht 1073741824)+1))/\Below w.heap.size w w':=by
 have f:L.length=n:=by simpa using h.1
 obtain⟨W,B,d,hB⟩:=mkInts w n oM;have N:=dH f;have HW:Hid (w.heap.size<=W.heap.size):=dH hB.size;go_enter func195,ntmps195
 go_upto_region 3 with fail
 go_loopw [3,5,11] (λl _ i wr=>∃(k:Nat) (A':Option Addr) (c':Nat),k<=n/\i=.int .i64 k/\l=.slice A' k c'/\Own wr w.heap.size 3 1 A' k c' ((L.take k).map λx=>iC (min x.ht 1073741824))/\Below w.heap.size w wr) (λ_ _ i _=>n-(intOf i).toNat)
 case atStart=>exact⟨0,_,_,zL,rfl,rfl,by simpa using d,hB⟩
 case round =>
  obtain⟨k,A',c',hk,rfl,rfl,g,hb⟩:=hrel;by_cases G:k<n
  ·have r:k<L.length:=oM;obtain⟨q,o,rfl,hr⟩:=(SlR.below h hb).at_ G;rw[getElem_map]at hr;obtain⟨x,hx⟩:=eX (L[k]'r)
   have T:x.ps.oneCell'=true:=by rw[<-hx];exact ho _ (getElem_mem r)
   have hgs:(L.take (k+1)).map (λx=>iC (min x.ht 1073741824))=(L.take k).map (λx=>iC (min x.ht 1073741824)) ++ [iC (min x.ht 1073741824)]:=by
    rw[take_succ_eq_append_getElem r,map_append,hx];rfl
   rw[hx]at hr;have O:=dH hgs;have m:Below wr.heap.size wr ((wr.alloc (.cells (hdC x) 44)).alloc (.cells (iC (min x.ht 1073741824)) 3)):=(bA).alloc sI _;have t:=g.below m;have j:z9 ((wr.alloc (.cells (hdC x) 44)).alloc (.cells (iC (min x.ht 1073741824)) 3)) (wr.heap.size+1) 0 1=some (iC (min x.ht 1073741824)):=by simp[go_sem]
   have M:∀y∈blk A',w.heap.size<=y:=λy hy=>(g.at_base hy).1;have J:w.heap.size<=((wr.alloc (.cells (hdC x) 44)).alloc (.cells (iC (min x.ht 1073741824)) 3)).heap.size:=Nat.le_trans hb.size m.size;have E:=dH (hb.trans (m.mono hb.size));clear hgs hx f B d hB m g hb;go_wp2_with (at_builtin;refine xS einfoIn8 rfl t rfl j (iC_one _) oM oM J ?_;clear t j;intro A2 s w2 F I R)
   exact⟨⟨k+1,A2,s,oM,rfl,rfl,by rw[O.out];exact F,E.out.trans (I.below E.out.size M)⟩,by simp only[intOf];omega⟩
  ·have H:k=n:=oM;subst H;have D:L.take k=L:=take_of_length_le oM;rw[D]at g;have ca:=rule_above wr A' k c' (L.map λx=>min x.ht 1073741824) (by rw[map_map];exact g.slr) (by intro x hx;obtain⟨y,_,rfl⟩:=mem_map.1 hx;omega) oM;have HF:=dH hb;clear D B d hB f hb g;(go_wp2_with fail);refine ca.mono ?_;rintro e w' ⟨rfl,rfl⟩;clear ca;(go_wp2_with fail);go_ret;exact⟨rfl,HF.out⟩
theorem unkX_step(ps:List zA)(hk:k<ps.length):s8 D (ps.take (k+1))=if decide (ps[k]∈qR D)=true then s8 D (ps.take k)else s8 D (ps.take k) ++ [ps[k]]:=by
 unfold s8;rw[take_succ_eq_append_getElem hk,filter_append];by_cases h:ps[k]∈qR D
 ·rw[if_pos (decide_eq_true h)];simp[h]
 ·rw[if_neg (by simpa using h)];simp[h]
theorem unkX_len(D:List HdX)(ps:List zA):(s8 D ps).length<=ps.length:=length_filter_le _ _
theorem vf(w:World)(g:Nat)(F:List Nat)(D:List HdX)(h:k7 w g F D)(a2:(qR D).Nodup)(x:fU)(hT:zW w x.A x.h.ps.length x.h.ps)(hn:x.h.ps.length<=100000) :
  Calls prog 52 #[.pointer (some ⟨g,0,none⟩),.agg (hdR x)] w λe w'=>∃s:Sl,e=.returned (slV s)/\s.n=(s8 D x.h.ps).length/\Own w' w.heap.size 23 32 s.A s.n s.c ((s8 D x.h.ps).map idC)/\Below w.heap.size w w':=by
 obtain⟨hv,A0,c0⟩:=x;have hB:Below w.heap.size w (w.alloc (.cells (hdR ⟨hv,A0,c0⟩) 44)):=bA;have x0:(w.alloc (.cells (hdR ⟨hv,A0,c0⟩) 44)).cell? ⟨w.heap.size,0,none⟩=some (.slice A0 hv.ps.length c0):=by simp[go_sem,hdR,hdO]
 obtain⟨R,hR⟩:=eX hv.ps
 simp only[hR]at x0 hT hn |-;have hd:=h;obtain⟨bh,bp,bt,bc,N,Tm,Cm,hi,_⟩:=h;have cN:=lU _ g bh (hi.c0 _ hB).1;clear hi;go_enter func52,ntmps52
 (go_wp2_with fail);refine cN.mono ?_;rintro e w' ⟨rfl,rfl⟩;clear cN;go_upto_region 5 with fail
 go_loopw [5,7,13] (λl _ i wr=>∃(k:Nat) (A:Option Addr) (n cap:Nat),k<=R.length/\i=.int .i64 k/\l=.slice A n cap/\Hid (n=(s8 D (R.take k)).length)/\Own wr w.heap.size 23 32 A n cap ((s8 D (R.take k)).map idC)/\Below w.heap.size w wr) (λ_ _ i _=>R.length-(intOf i).toNat)
 case atStart=>exact⟨0,none,0,0,zL,rfl,rfl,(show _=_ from rfl),Own.nil _ _ _ _,hB⟩
 case round =>
  obtain⟨k,A,n,cap,hk,rfl,rfl,j,ho,hb⟩:=hrel;have a8:n<=R.length:=by rw[j.out];exact Nat.le_trans (unkX_len _ _) sO
  by_cases E:k<R.length
  ·obtain⟨q,o,rfl,hr⟩:=zW.get (SlR.below hT hb) E E;have m:=unkX_step (D:=D) R E;obtain⟨p,hp⟩:=eX (R[k]'E)
   rw[hp]at hr m;have V:Below wr.heap.size wr (wr.alloc (.cells (idC p) 23)):=bA;have I:=hb.trans (V.mono hb.size);have r:z9 (wr.alloc (.cells (idC p) 23)) wr.heap.size 0 32=some (idC p):=by simp[go_sem]
   have cH:=dag_has _ g F D (hd.below I) a2 p;have O:=ho.below V;obtain⟨t,ht⟩:=eX (decide (p∈qR D))
   rw[ht]at m cH;have G:wr.heap.size<(wr.alloc (.cells (idC p) 23)).heap.size:=sI;obtain⟨W,hW⟩:=eR (wr.alloc (.cells (idC p) 23))
   obtain⟨gp,T⟩:=eX wr.heap.size
   rw[<-hW]at I r cH O G;rw[T]at r G;have HW:=dH hW;have a6:=dH T;have d:=dH m;have a0:=dH I;clear hp ht V ho hb hd hB hW T m I;(go_wp2_with fail);rw[<-HW.out,a6.out];refine cH.mono ?_;rintro e w1 ⟨rfl,H⟩;have M:=((z8.of_below H).row G sI _ _).trans r;have B:=O.below H;have L:=dH (a0.out.trans (H.mono a0.out.size));clear cH r O H G;cases t with
   | true =>
    have d:=dH (d.out.trans (if_pos rfl));clear M;(go_wp2_with fail);go_roundw
    case rel=>exact⟨k+1,A,n,cap,oM,by go_num,rfl,(show _=_ by rw[d.out];exact j.out),by rw[d.out];exact B,L.out⟩
    case measure=>exact sZ
   | false =>
    have d:=dH (d.out.trans (if_neg (by decide)));have J:Below w1.heap.size w1 (w1.alloc (.cells (idC p) 23)):=bA;have Y:=B.below J;have f:z9 (w1.alloc (.cells (idC p) 23)) w1.heap.size 0 32=some (idC p):=by simp[go_sem]
    have a4:w.heap.size<=(w1.alloc (.cells (idC p) 23)).heap.size:=Nat.le_trans L.out.size J.size;have a5:∀y∈blk A,w.heap.size<=y:=λy hy=>(B.at_base hy).1;have U:=dH (L.out.trans (J.mono L.out.size));clear J B;go_wp2_with (at_builtin;refine xS yO rfl Y rfl f (yN _) oM oM a4 ?_;clear Y f;intro A2 X w2 a1 a3 a7)
    go_roundw
    case rel=>exact⟨k+1,A2,n+1,X,oM,by go_num,rfl,(show _=_ by rw[d.out,length_append,<-j.out];rfl),by rw[d.out,map_append];exact a1,U.out.trans (a3.below U.out.size a5)⟩
    case measure=>exact sZ
  ·have Z:R.take k=R:=take_of_length_le oM;have HF:=dH (And.intro j.out (And.intro ho hb));rw[Z]at HF;clear Z j ho hb;(go_wp2_with fail);go_ret;exact⟨⟨A,n,cap⟩,rfl,HF.out⟩
theorem einfoHd:yT prog 276 44 38 104 :=
 .of (z:=.agg (hdC hd0)) underlying276 kR kR kR (vH _) oM
@[go_sem ↓] theorem bsHd_rw(n:Nat)(parts:Array (Nat×Value)):Instr.buildSlice 276 n parts=bsS 276 n parts:=rfl
@[go_sem] theorem bsHd_run(w:World)(x:Hd):(bsS 276 1 #[(0,.agg (hdC x))]).run prog w=.ok (.slice (some ⟨w.heap.size,0,none⟩) 1 1) (w.alloc (.cells (hdC x) 44)) :=
 gS einfoHd oM w (hdC x) (vH x)
theorem topX_topL(D:List HdX)(ps:List zA):topX D ps=ZU (ps.map λp=>min (htX D p) 1073741824)+1:=by
 unfold topX ZU;rw[foldl_map]
theorem fH.lookHd{bh bp bt bc:Nat}{N:List (zA×fU)}(h:fH w g D bh bp bt bc N Tm Cm)(hn:(qR D).Nodup)(a:zA) :
  ∃v:Hd,v.ps.oneCell'=true/\v.ht=htX D a/\∀w2,Below w.heap.size w w2->(Instr.lookup 91 (.map (some bh)) (.agg (idC a)) false).run prog w2=.ok (.agg (hdC v)) w2:=by
 rcases h.look hn a with⟨x,_,he,hl⟩ | ⟨he,hl⟩
 ·exact⟨hdO x.h x.A x.c,sR x,by unfold htX;rw[he];rfl,λw2 hb=>hl w2 hb false⟩
 ·exact⟨hd0,mN,by unfold htX;rw[he];rfl,λw2 hb=>hl w2 hb false⟩
theorem ve(w:World)(g:Nat)(F:List Nat)(D:List HdX)(h:k7 w g F D)(c8:(qR D).Nodup)(x:fU)(hT:zW w x.A x.h.ps.length x.h.ps)(hn:x.h.ps.length<=100000)(d8:x.h.tp.size<=9223372036854775807) :
  Calls prog 145 #[.pointer (some ⟨g,0,none⟩),.agg (hdR x)] w λe w'=>e=.returned (.int .i64 (fZ D x.h))/\Below w.heap.size w w':=by
 obtain⟨hv,A0,c0⟩:=x;have hB:Below w.heap.size w (w.alloc (.cells (hdR ⟨hv,A0,c0⟩) 44)):=bA;have I:z9 (w.alloc (.cells (hdR ⟨hv,A0,c0⟩) 44)) w.heap.size 0 38=some (hdR ⟨hv,A0,c0⟩):=by simp[go_sem,hdR]
 obtain⟨W,hW⟩:=eR (w.alloc (.cells (hdR ⟨hv,A0,c0⟩) 44))
 obtain⟨ga,b5⟩:=eX w.heap.size
 rw[<-hW]at hB I;rw[b5]at I;have HW:=dH hW;have HB:=dH hB;have f0:=dH b5;have ck:=QG W hv A0 c0 (SlR.below hT hB) (by show hv.ps.length<=_;have:hv.ps.length<=100000:=hn;omega) d8;obtain⟨E,hE⟩:=eX (hdE hv)
 have m:fZ D hv=if E≠0 then E else if s8 D hv.ps≠[]then 11 else if topX D hv.ps≠hv.ht then 12 else 0:=by rw[<-hE];rfl
 rw[hE]at ck;obtain⟨V,hV⟩:=eX (fZ D hv)
 show Calls prog 145 #[.pointer (some ⟨g,0,none⟩),.agg (hdR ⟨hv,A0,c0⟩)] w λe w'=>e=.returned (.int .i64 (fZ D hv))/\Below w.heap.size w w';rw[hV]at m |-;have HV:=dH m;have T:=h;clear hW hB b5 hE m hV h;go_enter func145,ntmps145
 (go_wp2_with fail);rw[<-HW.out,f0.out];refine ck.mono ?_;rintro e w1 ⟨rfl,b7⟩;have U:=dH (HB.out.trans (b7.mono HB.out.size));have r:=((z8.of_below b7).row (zD I) sI _ _).trans I;clear ck I b7;by_cases B:E=0
 ·have e6:(E != 0)=false:=by rw[bne_eq_false_iff_eq];exact B
  have a0:=dH B;have cu:=vf w1 g F D (T.below U.out) c8 ⟨hv,A0,c0⟩ (SlR.below hT U.out) hn;clear B;(go_wp2_with fail);refine cu.mono ?_;rintro e w2 ⟨⟨A2,n2,c2⟩,rfl,s,_,b6⟩;have d:=((z8.of_below b6).row (zD r) sI _ _).trans r;have f:=dH (U.out.trans (b6.mono U.out.size));replace s:n2=(s8 D hv.ps).length:=s;clear cu r b6;unfold slV;by_cases hu:s8 D hv.ps = []
  ·have c9:n2=0:=by rw[s,hu];rfl
   subst c9;have HU:=dH hu;clear hu s;have q0:w2.cell? ⟨ga,0,none⟩=some (.slice A0 hv.ps.length c0):=by have:=zB d (j:=0) oM;rw[Nat.zero_add]at this;rw[this];simp[hdR,hdO,hdC]
   have q1:w2.cell? ⟨ga,1,none⟩=some (.int .i64 hv.ht):=by have:=zB d (j:=1) oM;rw[Nat.zero_add]at this;rw[this];simp[hdR,hdO,hdC]
   obtain⟨R,hR⟩:=eX hv.ps
   have c1:=HV;simp only[hR]at q0 hT hn HU c1;have e1:ga<w2.heap.size:=zD d;have d4:Hid (w.heap.size<=w2.heap.size):=dH f.out.size;clear d;go_upto_region 8 with fail
   go_loopw [6,8,22] (λl _ i wr=>∃(k:Nat) (A:Option Addr) (cap:Nat) (xs:List Hd),k<=R.length/\i=.int .i64 k/\l=.slice A k cap/\Hid (xs.map Hd.ht=(R.take k).map (htX D))/\Hid (∀x∈xs,x.ps.oneCell'=true)/\Own wr w2.heap.size 44 38 A k cap (xs.map hdC)/\Below w2.heap.size w2 wr) (λ_ _ i _=>R.length-(intOf i).toNat)
   case atStart=>exact⟨0,none,0,[],zL,rfl,rfl,(show _=_ from rfl),(sI:∀x∈[],_),Own.nil _ _ _ _,Below.refl _ _⟩
   case round =>
    obtain⟨k,A,cap,xs,hk,rfl,rfl,a5,O,ho,hb⟩:=hrel;by_cases a2:k<R.length
    ·obtain⟨q,o,rfl,hr⟩:=zW.get (SlR.below hT (f.out.trans (hb.mono f.out.size))) a2 a2;have a6:(R.take (k+1)).map (htX D)=(R.take k).map (htX D) ++ [htX D R[k]]:=by rw[take_succ_eq_append_getElem a2,map_append];rfl
     obtain⟨p,hp⟩:=eX (R[k]'a2)
     rw[hp]at hr a6;have b8:Below wr.heap.size wr (wr.alloc (.cells (idC p) 23)):=bA;have a8:z9 (wr.alloc (.cells (idC p) 23)) wr.heap.size 0 32=some (idC p):=by simp[go_sem]
     have a4:=hb.trans (b8.mono hb.size);have G:=f.out.trans (a4.mono f.out.size);obtain⟨bh,bp,bt,bc,N,Tm,Cm,a3,_⟩:=T;obtain⟨v,c6,c5,c4⟩:=a3.lookHd c8 p;have a1:=ho.below b8;have d2:=(a3.c0 _ G).1;have f1:g<w.heap.size:=(aG a3.heap).1;obtain⟨Z,hZ⟩:=eR (wr.alloc (.cells (idC p) 23))
     obtain⟨gp,b4⟩:=eX wr.heap.size
     have b3:gp∉blk A:=λhx=>(oH ((ho.at_base hx).2));rw[<-hZ]at a8 a4 G a1 d2;rw[b4]at a8;have e2:g∉blk A:=λhx=>(by have:=(ho.at_base hx).1;have:=d4.out;omega);have e0:∀y:Subtype (Kp (blk A) Z),(Instr.lookup 91 (.map (some bh)) (.agg (idC p)) false).run prog y.1=.ok (.agg (hdC v)) y.1:=λy=>c4 y.1 (G.trans (y.2.below G.size (λz hz=>Nat.le_trans d4.out (a1.at_base hz).1)));have e8:=dH a6;have e7:=dH c5;have HZ:=dH hZ;have e9:=dH b4;have d6:=dH a4;clear b8 hp a6 c5 c4 hZ b4 ho hb a4 G a3;go_upto_region 10 with fail
     rw[<-HZ.out,e9.out];refine kX (blk A) Z ?_;intro a9 hS;have b1:=zF d2 e2;have b2:=zY a8 (S:=blk A) b3;refine lQ ?_;intro K hK;refine zH (z8.trans (z8.trans (z8.refl (blk A) Z) (z8.drew _) sI) (z8.alloc _ _) sI) (λe5=>?_);refine hK _ _ ?_;clear hK K;have b0:z8 [] Z (Z.drew.alloc (.cells (hdC v) 44)):=z8.trans (z8.drew Z) (z8.alloc _ _) sI;have L:=a1.kept b0 sI;have J:z9 (Z.drew.alloc (.cells (hdC v) 44)) Z.heap.size 0 38=some (hdC v):=by simp[go_sem]
     have a7:=d6.out.size;refine m5 einfoHd rfl L rfl J (bY v c6) oM oM sO ?_;intro A3 b9 w3 M d1 c7;refine zH (z8.trans (b0.mono (S':=blk A) sI) d1 iL) (λe4=>?_);refine lZ ?_;refine zC ?_;intro hS;have e3:Below w2.heap.size w2 w3:=d6.out.trans ((z8.trans (b0.mono (S':=blk A) sI) d1 iL).below a7 (λx hx=>(a1.at_base hx).1));clear a9 hS e5 e4 b1 b2 e0;(go_wp2_with fail);go_roundw
     case rel=>exact⟨k+1,A3,b9,xs ++ [v],oM,by go_num,rfl,(show _=_ by rw[e8.out,map_append,a5.out,<-e7.out];rfl),(show ∀x∈xs ++ [v],_ by
      intro x hx;rcases mem_append.1 hx with hx | hx
      ·exact O.out x hx
      ·rw[mem_singleton.1 hx];exact c6),by rw[map_append];exact M,e3⟩
     case measure=>exact sZ
    ·have d0:R.take k=R:=take_of_length_le oM;have c3:=(hb.cell (p:=⟨ga,1,none⟩) e1).trans q1;have d7:=congrArg List.length a5.out;have d9:k=R.length:=oM;subst d9;have ch:=fun (V:World) (hV:Below wr.heap.size wr V)=>xc V A R.length cap xs (SlR.below ho.slr hV) O.out oM;have H:ZU (xs.map λx=>min x.ht 1073741824)+1=topX D R:=by
      rw[topX_topL];have e:xs.map (λx=>min x.ht 1073741824)=(xs.map Hd.ht).map (λz=>min z 1073741824):=by rw[map_map];rfl
      rw[e,a5.out,d0,map_map];rfl
     simp only[H]at ch;obtain⟨X,hX⟩:=eX (topX D R)
     simp only[hX]at ch;have HX:=dH hX;have d5:=dH (f.out.trans (hb.mono f.out.size));clear d0 d7 H hX ho hb;obtain⟨Y,hY⟩:=eX hv.ht
     have HY:=dH hY;rw[hY]at c3;clear hY q1 q0;obtain⟨t,ht⟩:=eX (X != Y)
     go_upto_region 12 with fail
     refine lX wr ?_;intro a9 hS;have b1:=zJ c3;refine lZ ?_;refine lC (ch _ hS) ?_;clear hS;intro w' hS;refine lZ ?_;refine zC ?_;intro hS;have d3:=dH (d5.out.trans (show Below w.heap.size wr _ from Below.mono hS d5.out.size));have HT:=dH ht;clear a9 hS b1 ch ht;cases t with
     | true =>
      (go_wp2_with fail);go_ret;exact⟨y9 (by rw[c1.out,if_neg (by rw[a0.out];simp),if_neg (by rw[HU.out];simp),if_pos (by rw[HX.out,HY.out];exact bne_iff_ne.1 HT.out)]),d3.out⟩
     | false =>
      (go_wp2_with fail);go_ret;exact⟨y9 (by rw[c1.out,if_neg (by rw[a0.out];simp),if_neg (by rw[HU.out];simp),if_neg (by rw[HX.out,HY.out];exact λh=>h (bne_eq_false_iff_eq.1 HT.out))]),d3.out⟩
  ·have c9:0<n2:=by rw[s];exact length_pos_iff.2 hu
   have HU:=dH hu;clear hu s;(go_wp2_with fail);go_ret;exact⟨y9 (by rw[HV.out,if_neg (by rw[a0.out];simp),if_pos HU.out]),f.out⟩
 ·have e6:(E != 0)=true:=by rw[bne_iff_ne];exact B
  have a0:=dH B;clear B;(go_wp2_with fail);go_ret;exact⟨y9 (by rw[HV.out,if_pos a0.out]),U.out⟩
section
theorem k6.getK{κ:Type}{b:Nat}{kv:κ->Value}{ok:κ->Prop}{M:List (κ×Sl)}{f:κ->List zA}{K T:TypeId}(h:k6 w b kv ok M f)(E:bD prog K kv ok)(ht:prog.underlying T=some (.map K 33)){k:κ}(hk:ok k) :
  ∃s:Sl,(∀w2 S,z8 S w w2->b∉S->(Instr.lookup T (.map (some b)) (kv k) false).run prog w2=.ok (slV s) w2)/\Own w 0 23 32 s.A s.n s.c ((f k).map idC)/\((k,s)∈M\/(k∉M.map (·.1)/\s=⟨none,0,0⟩))/\∀y∈blk s.A,y∈slF M:=by
 obtain⟨es,d,hm⟩:=h.map;by_cases hx:k∈M.map (·.1)
 ·obtain⟨q,hq,rfl⟩:=mem_map.1 hx;exact⟨q.2,λw2 S hb hn=>(hm.kept hb hn).hit E ht hk hq false,h.own q hq,.inl hq,λy hy=>mem_flatMap.2 ⟨q,hq,hy⟩⟩
 ·refine⟨⟨none,0,0⟩,λw2 S hb hn=>(hm.kept hb hn).miss E ht (pT w2) hk hx false,?_,.inr ⟨hx,rfl⟩,by simp[blk]⟩;rw[h.non k hx];exact Own.nil _ _ _ _
structure gF(w:World)(g:Nat)(D:List HdX)(P:List zA)(ft:ByteArray->List zA)(fc:zA->List zA)(bh bp bt bc:Nat)(N:List (zA×fU))(Tm:List (ByteArray×Sl))(Cm:List (zA×Sl)):Prop where
 heap:w.heap[g]?=some (.cells (dagC bh bp bt bc) 95 (0,0))
 hs:∃es clk,yK w bh idV hdVA vL N es clk
 perm:(N.map λp=>(⟨p.1,p.2.h⟩:HdX)).Perm D
 ps:∀p∈N,Own w 0 23 32 p.2.A p.2.h.ps.length p.2.c (p.2.h.ps.map idC)
 par:jM w bp P
 tm:k6 w bt Value.string fD Tm ft
 cm:k6 w bc idV vL Cm fc
 ne:[bh,bp,bt,bc].Nodup
 dis:(∀y∈psF N,y∉slF Tm/\y∉slF Cm)/\∀y∈slF Tm,y∉slF Cm
section
variable {w w1 w':World} {g:Nat} {D D':List HdX} {P:List zA} {ft:ByteArray->List zA} {fc:zA->List zA} {bh bp bt bc:Nat} {N:List (zA×fU)} {Tm:List (ByteArray×Sl)} {Cm:List (zA×Sl)}
theorem fH.g'(h:fH w g D bh bp bt bc N Tm Cm):gF w g D (JJ D) (j8 D) (vA D) bh bp bt bc N Tm Cm:=⟨h.heap,h.hs,h.perm,h.ps,h.par,h.tm,h.cm,h.ne,h.dis⟩
theorem gF.toIn(h:gF w g D P ft fc bh bp bt bc N Tm Cm)(h1:∀z,z∈P↔z∈JJ D)(h2:∀t,j8 D t=ft t)(h3:∀c,vA D c=fc c):fH w g D bh bp bt bc N Tm Cm :=
 ⟨h.heap,h.hs,h.perm,h.ps,yJ.congr h.par h1,h.tm.congr h2,h.cm.congr h3,h.ne,h.dis⟩
theorem gF.toH(h:gF w g D P ft fc bh bp bt bc N Tm Cm):aS w g D bh bp bt bc N:=⟨h.heap,h.hs,h.perm⟩
theorem gF.far(h:gF w g D P ft fc bh bp bt bc N Tm Cm):(∀y∈psF N++slF Tm++slF Cm,y≠g/\y≠bh/\y≠bp/\y≠bt/\y≠bc/\y<w.heap.size)/\g≠bh/\g≠bp/\g≠bt/\g≠bc/\g<w.heap.size/\bh<w.heap.size/\bp<w.heap.size/\bt<w.heap.size/\bc<w.heap.size:=by
 obtain⟨e1,c1,m1⟩:=h.hs;obtain⟨e2,c2,m2⟩:=QD h.par;obtain⟨e3,c3,m3⟩:=h.tm.map;obtain⟨e4,c4,m4⟩:=h.cm.map;have hg:=h.heap;have hm:∀b es d,w.heap[b]?=some (.map es d)->g≠b/\b<w.heap.size:=λb es d hb=>⟨(λe=>by have j:=hb;rw[<-e,hg]at j;cases j),(aG hb).1⟩;refine⟨λy hy=>?_,(hm _ _ _ m1.heap).1,(hm _ _ _ m2).1,(hm _ _ _ m3.heap).1,(hm _ _ _ m4.heap).1,(aG hg).1,(hm _ _ _ m1.heap).2,(hm _ _ _ m2).2,(hm _ _ _ m3.heap).2,(hm _ _ _ m4.heap).2⟩;have hc:∃k,w.heap[y]?=some (.cells k 23 (0,0)):=by
  rcases mem_append.1 hy with hy | hy
  ·rcases mem_append.1 hy with hy | hy
   ·obtain⟨q,hq,hy⟩:=mem_flatMap.1 hy;exact dU (h.ps q hq) hy
   ·obtain⟨q,hq,hy⟩:=mem_flatMap.1 hy;exact dU (h.tm.own q hq) hy
  ·obtain⟨q,hq,hy⟩:=mem_flatMap.1 hy;exact dU (h.cm.own q hq) hy
 obtain⟨k,hc⟩:=hc;have f:∀b es d,w.heap[b]?=some (.map es d)->y≠b:=λb es d hb e=>(by rw[<-e,hc]at hb;cases hb);refine⟨λe=>?_,f _ _ _ m1.heap,f _ _ _ m2,f _ _ _ m3.heap,f _ _ _ m4.heap,(aG hc).1⟩;rw[e,hg]at hc;injection hc with hc;injection hc with _ hc _
 exact absurd hc (by decide)
theorem gF.kept{S:List Nat}(h:gF w g D P ft fc bh bp bt bc N Tm Cm)(k:z8 S w w')(hF:∀x∈g :: bh :: bp :: bt :: bc :: (psF N++slF Tm++slF Cm),x∉S):gF w' g D P ft fc bh bp bt bc N Tm Cm:=by
 obtain⟨es,d,hm⟩:=h.hs;simp only[mem_cons,mem_append]at hF;exact⟨(k.block g (aG h.heap).1 (hF g (.inl rfl))).trans h.heap,⟨es,d,hm.kept k (hF bh sI)⟩,h.perm,λp hp=>(h.ps p hp).kept k λy hy=>hF y (.inr (.inr (.inr (.inr (.inr (.inl (.inl (mem_flatMap.2 ⟨p,hp,hy⟩)))))))),
  h.par.kept k (hF bp sI),h.tm.kept k (hF bt sI) λy hy=>hF y (.inr (.inr (.inr (.inr (.inr (.inl (.inr hy))))))),h.cm.kept k (hF bc sI) λy hy=>hF y (.inr (.inr (.inr (.inr (.inr (.inr hy)))))),h.ne,h.dis⟩
theorem gF.below(h:gF w g D P ft fc bh bp bt bc N Tm Cm)(hb:Below w.heap.size w w'):gF w' g D P ft fc bh bp bt bc N Tm Cm:=h.kept (z8.of_below hb) sI
theorem gF.putH(h:gF w g D P ft fc bh bp bt bc N Tm Cm)(hb:Below w.heap.size w w1){i:zA}{x:fU}(hx:i∉N.map (·.1))(ho:Own w1 w.heap.size 23 32 x.A x.h.ps.length x.c (x.h.ps.map idC))(hD:((⟨i,x.h⟩:HdX) :: D).Perm D') :
  ∃w2,(Instr.mapUpdate 91 (.map (some bh)) (.agg (idC i)) (.agg (hdR x))).run prog w1=.ok () w2/\z8 [bh] w1 w2/\gF w2 g D' P ft fc bh bp bt bc (N ++ [(i,x)]) Tm Cm/\∀y∈psF (N ++ [(i,x)]),y∈psF N\/w.heap.size<=y:=by
 obtain⟨f1,f2,f3,f4,f5,f6,f7,f8,f9,F⟩:=h.far;have h1:=h.below hb;obtain⟨es,H,hm⟩:=h1.hs;obtain⟨w2,G,E,hr,s,f⟩:=hm.update (k:=i) (v:=x) j7 underlying91 trivial;have m:bJ N i x=N ++ [(i,x)]:=by unfold bJ;rw[if_neg hx]
 rw[m]at s;have r:=h.ne;simp only[nodup_cons,mem_cons,not_mem_nil,or_false,not_or]at r;obtain⟨⟨n1,n2,n3⟩,_⟩:=r;have d:∀y∈blk x.A,w.heap.size<=y:=λy hy=>(ho.at_base hy).1;have j:∀y,y∈psF (N ++ [(i,x)])↔y∈psF N\/y∈blk x.A:=λy=>(by unfold psF;simp);have t:∀y∈slF Tm,y≠bh/\y<w.heap.size:=λy hy=>(by obtain⟨_,q,_,_,_,z⟩:=f1 y (by simp[hy]);exact⟨q,z⟩);have B:∀y∈slF Cm,y≠bh/\y<w.heap.size:=λy hy=>(by obtain⟨_,q,_,_,_,z⟩:=f1 y (by simp[hy]);exact⟨q,z⟩);refine⟨w2,hr,f,⟨(f.block g (aG h1.heap).1 (by simpa using f2)).trans h1.heap,⟨_,_,s⟩,?_,?_,h1.par.kept f (by simpa using λe=>n1 e.symm),h1.tm.kept f (by simpa using λe=>n2 e.symm) (λy hy=>by simpa using(t y hy).1),h1.cm.kept f (by simpa using λe=>n3 e.symm) (λy hy=>by simpa using(B y hy).1),h.ne,⟨λy hy=>?_,h.dis.2⟩⟩,λy hy=>((j y).1 hy).imp id (d y)⟩
 ·rw[map_append];exact(perm_append_comm.trans (Perm.cons _ h.perm)).trans hD
 ·intro p hp;rcases mem_append.1 hp with hp | hp
  ·exact(h1.ps p hp).kept f λy hy=>by
    obtain⟨_,q,_⟩:=f1 y (by simp only[mem_append];exact .inl (.inl (mem_flatMap.2 ⟨p,hp,hy⟩)));simpa using q
  ·rw[mem_singleton.1 hp];exact(ho.kept f λy hy=>oS (d y hy)).mono zL
 ·rcases (j y).1 hy with hy | hy
  ·exact h.dis.1 y hy
  ·have:=d y hy;exact⟨λhz=>oH ((t y hz).2),λhz=>oH ((B y hz).2)⟩
theorem gF.putP(h:gF w g D P ft fc bh bp bt bc N Tm Cm)(i:zA) :
  ∃w2,(Instr.mapUpdate 29 (.map (some bp)) (.agg (idC i)) (.bool true)).run prog w=.ok () w2/\z8 [bp] w w2/\gF w2 g D (i :: P) ft fc bh bp bt bc N Tm Cm:=by
 obtain⟨f1,f2,f3,f4,f5,f6,f7,f8,f9,f⟩:=h.far;obtain⟨w2,hr,hp,hk⟩:=jb (x:=i) h.par;obtain⟨es,j,hm⟩:=h.hs;have d:=h.ne;simp only[nodup_cons,mem_cons,not_mem_nil,or_false,not_or]at d;obtain⟨⟨n1,n2,n3⟩,⟨n4,n5⟩,_⟩:=d;refine⟨w2,hr,hk,⟨(hk.block g f6 (by simpa using f3)).trans h.heap,⟨_,_,hm.kept hk (by simpa using n1)⟩,h.perm,λp hq=>(h.ps p hq).kept hk λy hy=>?_,hp,h.tm.kept hk (by simpa using λe=>n4 e.symm) (λy hy=>?_),h.cm.kept hk (by simpa using λe=>n5 e.symm) (λy hy=>?_),h.ne,h.dis⟩⟩
 ·obtain⟨_,_,q,_⟩:=f1 y (by simp only[mem_append];exact .inl (.inl (mem_flatMap.2 ⟨p,hq,hy⟩)));simpa using q
 ·obtain⟨_,_,q,_⟩:=f1 y (by simp[hy]);simpa using q
 ·obtain⟨_,_,q,_⟩:=f1 y (by simp[hy]);simpa using q
theorem gF.putT(h:gF w g D P ft fc bh bp bt bc N Tm Cm){k:ByteArray}(hk:fD k){s s':Sl}{l:List zA}(hs:(k,s)∈Tm\/(k∉Tm.map (·.1)/\s=⟨none,0,0⟩))(H:z8 (blk s.A) w w1)(ho:Own w1 0 23 32 s'.A s'.n s'.c (l.map idC))(hb:∀y∈blk s'.A,y∈blk s.A\/w.heap.size<=y) :
  ∃w2 t,(Instr.mapUpdate 92 (.map (some bt)) (.string k) (slV s')).run prog w1=.ok () w2/\z8 [bt] w1 w2/\gF w2 g D P (λj=>if j=k then l else ft j) fc bh bp bt bc N t Cm/\∀y∈slF t,y∈slF Tm\/w.heap.size<=y:=by
 obtain⟨f1,f2,f3,f4,f5,f6,f7,f8,f9,I⟩:=h.far;have B:∀y∈blk s.A,y∈slF Tm:=λy hy=>by
  rcases hs with hs | ⟨_,e⟩
  ·exact mem_flatMap.2 ⟨_,hs,hy⟩
  ·rw[e]at hy;simp[blk]at hy
 obtain⟨w2,t,hr,ht,G,d⟩:=h.tm.put dB underlying92 hk hs H ho hb;obtain⟨es,J,hm⟩:=h.hs;have F:=h.ne;simp only[nodup_cons,mem_cons,not_mem_nil,or_false,not_or]at F;obtain⟨⟨n1,n2,n3⟩,⟨n4,n5⟩,n6,_⟩:=F;have m:z8 (bt :: blk s.A) w w2:=z8.trans (H.mono (S':=bt :: blk s.A) (λy hy=>.inl (mem_cons_of_mem _ hy))) (G.mono (S':=bt :: blk s.A) sI) (λy hy=>.inl hy);have r:∀y∈blk s.A,y≠g/\y≠bh/\y≠bp/\y≠bt/\y≠bc:=λy hy=>by
  obtain⟨q1,q2,q3,q4,q5,_⟩:=f1 y (by simp[B y hy]);exact⟨q1,q2,q3,q4,q5⟩
 have f:∀b,b≠bt->(∀y∈blk s.A,y≠b)->b∉bt :: blk s.A:=λb h1 h2 hb=>by
  rcases mem_cons.1 hb with e | e
  ·exact h1 e
  ·exact h2 b e rfl
 refine⟨w2,t,hr,G,⟨(m.block g f6 (f g f4 λy hy=>(r y hy).1)).trans h.heap,⟨_,_,hm.kept m (f bh n2 λy hy=>(r y hy).2.1)⟩,h.perm,λp hq=>(h.ps p hq).kept m λy hy=>?_,h.par.kept m (f bp n4 λy hy=>(r y hy).2.2.1),ht,h.cm.kept m (f bc (λe=>n6 e.symm) λy hy=>(r y hy).2.2.2.2) (λy hy=>?_),h.ne,⟨λy hy=>⟨λhz=>?_,(h.dis.1 y hy).2⟩,λy hy hz=>?_⟩⟩,d⟩
 ·have E:y∈psF N:=mem_flatMap.2 ⟨p,hq,hy⟩;obtain⟨_,_,_,q,_⟩:=f1 y (by simp[E]);exact f y q λz hz e=>(h.dis.1 y E).1 (e ▸ B z hz)
 ·obtain⟨_,_,_,q,_⟩:=f1 y (by simp[hy]);exact f y q λz hz e=>h.dis.2 z (B z hz) (e ▸ hy)
 ·rcases d y hz with h1 | h1
  ·exact(h.dis.1 y hy).1 h1
  ·obtain⟨_,_,_,_,_,q⟩:=f1 y (by simp[hy]);omega
 ·rcases d y hy with h1 | h1
  ·exact h.dis.2 y h1 hz
  ·obtain⟨_,_,_,_,_,q⟩:=f1 y (by simp[hz]);omega
theorem gF.putC(h:gF w g D P ft fc bh bp bt bc N Tm Cm){k:zA}{s s':Sl}{l:List zA}(hs:(k,s)∈Cm\/(k∉Cm.map (·.1)/\s=⟨none,0,0⟩))(H:z8 (blk s.A) w w1)(ho:Own w1 0 23 32 s'.A s'.n s'.c (l.map idC))(hb:∀y∈blk s'.A,y∈blk s.A\/w.heap.size<=y) :
  ∃w2 t,(Instr.mapUpdate 93 (.map (some bc)) (.agg (idC k)) (slV s')).run prog w1=.ok () w2/\z8 [bc] w1 w2/\gF w2 g D P ft (λj=>if j=k then l else fc j) bh bp bt bc N Tm t/\∀y∈slF t,y∈slF Cm\/w.heap.size<=y:=by
 obtain⟨f1,f2,f3,f4,f5,f6,f7,f8,f9,I⟩:=h.far;have B:∀y∈blk s.A,y∈slF Cm:=λy hy=>by
  rcases hs with hs | ⟨_,e⟩
  ·exact mem_flatMap.2 ⟨_,hs,hy⟩
  ·rw[e]at hy;simp[blk]at hy
 obtain⟨w2,t,hr,ht,G,d⟩:=h.cm.put j7 underlying93 (k:=k) trivial hs H ho hb;obtain⟨es,J,hm⟩:=h.hs;have F:=h.ne;simp only[nodup_cons,mem_cons,not_mem_nil,or_false,not_or]at F;obtain⟨⟨n1,n2,n3⟩,⟨n4,n5⟩,n6,_⟩:=F;have m:z8 (bc :: blk s.A) w w2:=z8.trans (H.mono (S':=bc :: blk s.A) (λy hy=>.inl (mem_cons_of_mem _ hy))) (G.mono (S':=bc :: blk s.A) sI) (λy hy=>.inl hy);have r:∀y∈blk s.A,y≠g/\y≠bh/\y≠bp/\y≠bt/\y≠bc:=λy hy=>by
  obtain⟨q1,q2,q3,q4,q5,_⟩:=f1 y (by simp[B y hy]);exact⟨q1,q2,q3,q4,q5⟩
 have f:∀b,b≠bc->(∀y∈blk s.A,y≠b)->b∉bc :: blk s.A:=λb h1 h2 hb=>by
  rcases mem_cons.1 hb with e | e
  ·exact h1 e
  ·exact h2 b e rfl
 refine⟨w2,t,hr,G,⟨(m.block g f6 (f g f5 λy hy=>(r y hy).1)).trans h.heap,⟨_,_,hm.kept m (f bh n3 λy hy=>(r y hy).2.1)⟩,h.perm,λp hq=>(h.ps p hq).kept m λy hy=>?_,h.par.kept m (f bp n5 λy hy=>(r y hy).2.2.1),h.tm.kept m (f bt n6 λy hy=>(r y hy).2.2.2.1) (λy hy=>?_),ht,h.ne,⟨λy hy=>⟨(h.dis.1 y hy).1,λhz=>?_⟩,λy hy hz=>?_⟩⟩,d⟩
 ·have E:y∈psF N:=mem_flatMap.2 ⟨p,hq,hy⟩;obtain⟨_,_,_,_,q,_⟩:=f1 y (by simp[E]);exact f y q λz hz e=>(h.dis.1 y E).2 (e ▸ B z hz)
 ·obtain⟨_,_,_,_,q,_⟩:=f1 y (by simp[hy]);exact f y q λz hz e=>h.dis.2 y hy (e ▸ B z hz)
 ·rcases d y hz with h1 | h1
  ·exact(h.dis.1 y hy).2 h1
  ·obtain⟨_,_,_,_,_,q⟩:=f1 y (by simp[hy]);omega
 ·rcases d y hz with h1 | h1
  ·exact h.dis.2 y hy h1
  ·obtain⟨_,_,_,_,_,q⟩:=f1 y (by simp[hy]);omega
end
end
end Go.Proofs.YtddopbhcpblpjaaGreatDoor
