/- Part 4 of the texts that lead to this claim: the walks of the functions and the plain law, in order. -/
import Derived.Test.YtddopbhcpblpjaaGreatDoorMj3
namespace Go.Proofs.YtddopbhcpblpjaaGreatDoor
open Go.RowKit
open List hiding and get max min or set
open Go.Proofs.Tryz
open World
set_option maxRecDepth 100000
set_option maxHeartbeats 8000000
variable {a k:ByteArray}{w:World}{b g:Nat}{n:Int}{X:List xB}{cs:Array Value}
def chkN(o:OpV):Int:=if 16<o.key.size\/16<o.val.size then 3 else if qk o=false then 5 else if 8<o.refs.length then 6 else if kD o.refs=false then 4 else 0
theorem plain_k{o:OpV}(h:sF o):1<=o.k/\o.k<=7:=by unfold sF at h;omega
theorem part_ne{k:Nat}(h1:1<=k)(h7:k<=7):((vU k:Int)==0)=false:=by
 have hk:k=1\/k=2\/k=3\/k=4\/k=5\/k=6\/k=7:=oM;rcases hk with rfl | rfl | rfl | rfl | rfl | rfl | rfl <;> decide
theorem op_check(o:OpV)(A:Option Addr)(c:Nat)(w:World)(hp:qD w)(h:sF o)(hT:zW w A o.refs.length o.refs)(hl:o.refs.length<=4294967296) :
  Calls prog 262 #[.agg (opC o A c)] w λe w'=>e=.returned (.int .i64 (chkN o))/\Below w.heap.size w w':=by
 have hB:Below w.heap.size w (w.alloc (.cells (opC o A c) 84)):=bA;have hr:z9 (w.alloc (.cells (opC o A c) 84)) w.heap.size 0 37=some (opC o A c):=by unfold opC;simp[go_sem]
 have hk:=plain_k h;have y:=rR o.k _ (hp.below hB) oM;have V:=part_ne hk.1 hk.2;have N:=λw' (hp':qD w')=>op_spare o A c w' hp' h;have D:=λw'=>op_number o A c w';have E:=hp.below hB;have G:zW (w.alloc (.cells (opC o A c) 84)) A o.refs.length o.refs:=SlR.below hT hB;have F:chkN o=if 16<o.key.size\/16<o.val.size then 3 else if qk o=false then 5 else if 8<o.refs.length then 6 else if kD o.refs=false then 4 else 0:=rfl;have x0:=zB hr (j:=0) oM;have x2:=zB hr (j:=2) oM;have x3:=zB hr (j:=3) oM;have x5:=zB hr (j:=36) oM;unfold opC at x0 x2 x3 x5 hB hr y N D E G |-;simp only[kI,gJ,gI,bL,Nat.zero_add]at x0 x2 x3 x5;clear hp h hT;obtain⟨nu,T⟩:=eX (qk o)
 obtain⟨ck,B⟩:=eX (chkN o)
 rw[T]at D F;rw[B]at F |-;clear T B;obtain⟨k,n,key,val,ref,refs⟩:=o;dsimp only at *;have I:=dH F;clear F hk;obtain⟨pk,R⟩:=eX (vU k)
 rw[R]at y V;clear R;go_enter func262,ntmps262
 go_upto_region 1 with fail
 obtain⟨gb,X⟩:=eX w.heap.size
 obtain⟨W,hW⟩:=eR (w.alloc (.cells (zP ⟨(k:Int),n,key,val,ref,.slice A refs.length c⟩) 84))
 rw[<-hW]at x0 x2 x3 x5 hB hr y E G |-;rw[X]at x0 x2 x3 x5 hr |-;clear hW X;(go_wp2_with fail);refine y.mono ?_;rintro e w1 ⟨rfl,rfl⟩;clear y;(go_wp2_with fail);refine(N _ E).mono ?_;rintro e w1 ⟨rfl,r⟩;have y2:=(r.cell (p:=⟨gb,2,none⟩) (zD hr)).trans x2;have y3:=(r.cell (p:=⟨gb,3,none⟩) (zD hr)).trans x3;have y5:=(r.cell (p:=⟨gb,36,none⟩) (zD hr)).trans x5;have O:z9 w1 gb 0 37=_:=(zG (r.block gb (zD hr)) _ _).trans hr;have Z:zW w1 A refs.length refs:=SlR.below G r;have d:=yM hB r;clear N x0 x2 x3 x5 hr G E hB r V;by_cases M:16<key.size\/16<val.size
 ·have hc:=I.out;rw[if_pos M]at hc;have Hc:=dH hc;clear hc I;by_cases U:16<key.size
  ·have f:(16:Int)<key.size:=oM;(go_wp2_with fail);go_ret;exact⟨y9 (by rw[Hc.out]),d⟩
  ·have f:¬(16:Int)<key.size:=oM;have t:(16:Int)<val.size:=oM;(go_wp2_with fail);go_ret;exact⟨y9 (by rw[Hc.out]),d⟩
 ·have hc:=I.out;rw[if_neg M]at hc;have Hc:=dH hc;have f:¬(16:Int)<key.size:=oM;have t:¬(16:Int)<val.size:=oM;clear hc I M;cases nu with
  | false =>
   have m:=Hc.out;rw[if_pos rfl]at m;have J:=dH m;clear m;(go_wp2_with fail);refine(D _).mono ?_;rintro e w2 ⟨rfl,g⟩;(go_wp2_with fail);go_ret;exact⟨y9 (by rw[J.out]),yM d g⟩
  | true =>
   have m:=Hc.out;rw[if_neg sI]at m;have J:=dH m;clear m Hc;have z5:=λw2 (g:Below w1.heap.size w1 w2)=>(g.cell (p:=⟨gb,36,none⟩) (zD O)).trans y5;(go_wp2_with fail);refine(D _).mono ?_;rintro e w2 ⟨rfl,g⟩;have v5:=z5 w2 g;have Y:zW w2 A refs.length refs:=SlR.below Z g;have s:=yM d g;have H:=iU w2 A refs.length c refs Y oM;clear z5 D y2 y3 y5 O Z d g Y;by_cases h8:8<refs.length
   ·have hc:=J.out;rw[if_pos h8]at hc;have Hc:=dH hc;have a0:(8:Int)<refs.length:=oM;clear hc;(go_wp2_with fail);go_ret;exact⟨y9 (by rw[Hc.out]),s⟩
   ·have hc:=J.out;rw[if_neg h8]at hc;have a0:¬(8:Int)<refs.length:=oM;cases hri:kD refs with
    | false =>
     rw[hri,if_pos rfl]at hc;rw[hri]at H;have Hc:=dH hc;clear hc hri;(go_wp2_with fail);refine H.mono ?_;rintro e w3 ⟨rfl,L⟩;(go_wp2_with fail);go_ret;exact⟨y9 (by rw[Hc.out]),yM s L⟩
    | true =>
     rw[hri,if_neg sI]at hc;rw[hri]at H;have Hc:=dH hc;clear hc hri;(go_wp2_with fail);refine H.mono ?_;rintro e w3 ⟨rfl,L⟩;(go_wp2_with fail);go_ret;exact⟨y9 (by rw[Hc.out]),yM s L⟩
theorem op_belongs(k:Nat)(w:World)(hk:k<=9223372036854775807):Calls prog 198 #[.int .i64 k] w λe w'=>e=.returned (.int .i64 (mU k))/\w=w':=by
 have hb:mU k=if k=1 then 1 else if k=2\/k=3 then 2 else if k=4 then 3 else if k=5 then 4 else if k=6\/k=7 then 5 else 0:=rfl;have Hb:=dH hb;clear hb;go_enter func198,ntmps198
 go_wp2_with fail
 all_goals
  go_ret;exact⟨y9 (by rw[Hb.out];simp at *;omega),rfl⟩
theorem XF(k:Nat)(l:List UInt8)(e:Int)(h1:1<=k)(h7:k<=7):sF (qH k l e).o/\(qH k l e).o.k=k/\(qH k l e).o.refs.length<=255:=by
 have hk:k=1\/k=2\/k=3\/k=4\/k=5\/k=6\/k=7:=oM;rcases hk with rfl | rfl | rfl | rfl | rfl | rfl | rfl
 ·exact⟨.inl ⟨rfl,rfl,rfl,rfl,rfl⟩,rfl,by simp[qH]⟩
 ·exact⟨.inr (.inl ⟨rfl,rfl,rfl,rfl,rfl⟩),rfl,by simp[qH]⟩
 ·exact⟨.inr (.inr (.inl ⟨rfl,rfl,rfl,rfl⟩)),rfl,VG _ _⟩
 ·exact⟨.inr (.inr (.inr (.inl ⟨rfl,rfl,rfl⟩))),rfl,by simp[qH]⟩
 ·exact⟨.inr (.inr (.inr (.inr (.inl ⟨rfl,rfl,rfl⟩)))),rfl,VG _ _⟩
 ·exact⟨.inr (.inr (.inr (.inr (.inr (.inl ⟨rfl,rfl,rfl,rfl⟩))))),rfl,by simp[qH]⟩
 ·exact⟨.inr (.inr (.inr (.inr (.inr (.inr ⟨rfl,rfl,rfl,rfl,rfl⟩))))),rfl,by simp[qH]⟩
theorem qj(k:Nat)(l:List UInt8)(e:Int)(h1:1<=k)(h7:k<=7):qk (qH k l e).o=decide ((qH k l e).o.n<2147483648):=by
 have hk:k=1\/k=2\/k=3\/k=4\/k=5\/k=6\/k=7:=oM;have b4:=xL 4 l e;have b5:=xL 4 (txL (txL l e) (txE l e)) (txE (txL l e) (txE l e));rw[Bool.eq_iff_iff];rcases hk with rfl | rfl | rfl | rfl | rfl | rfl | rfl <;> simp[qk,qH] <;> omega
theorem chk_take(k:Nat)(l:List UInt8)(e:Int)(h1:1<=k)(h7:k<=7):chkN (qH k l e).o=chkO (qH k l e).o:=by
 have h:=qj k l e h1 h7;unfold chkN chkO;rw[h];by_cases hn:(qH k l e).o.n<2147483648
 ·rw[if_neg (show ¬(decide ((qH k l e).o.n<2147483648)=false) by simp[hn]),if_neg (oM:¬(2147483648<=(qH k l e).o.n))]
 ·rw[if_pos (sO:decide ((qH k l e).o.n<2147483648)=false),if_pos (oM:2147483648<=(qH k l e).o.n)]
theorem part_eq{k:Nat}(h:k=0\/7<k):vU k=0:=by
 rcases h with rfl | h
 ·rfl
 ·unfold vU;simp[getD,getElem?_eq_none (sO:[0,1,4,20,7,22,12,8].length<=k)]
@[simp] theorem nV(o:OpV)(A:Option Addr)(c:Nat):(opC o A c).size=37:=by unfold opC;simp
theorem opC_one(o:OpV)(A:Option Addr)(c:Nat):∀u∈(opC o A c).toList,u.oneCell'=true:=gU _ rfl
def OfRes(w:World)(l:List UInt8)(en:Ending)(w':World):Prop :=
 ∃V,en=.returned (.tuple #[.agg V,.int .i64 (opE l)])/\(opE l=0->∃A c,V=opC (opO l) A c/\Own w' w.heap.size 23 32 A (opO l).refs.length c ((opO l).refs.map idC))/\(opE l≠0->V=zP jA)/\Below w.heap.size w w'
theorem op_Of(s:ByteArray)(w:World)(hp:qD w)(hs:s.size<=9223372036854775807) :
  Calls prog 197 #[.string s] w (OfRes w s.data.toList):=by
 obtain⟨l,hl⟩:=eX s.data.toList
 have f4:s=mkB l:=by rw[<-hl];rfl
 have g2:l.length<=9223372036854775807:=by rw[<-hl];exact hs
 have b8:Below w.heap.size w (w.alloc (.cells (zP jA) 84)):=bA;have b3:(w.alloc (.cells (zP jA) 84)).heap[w.heap.size]?=some (.cells (zP jA) 84 (0,0)):=heap_alloc_new w _;have c6:=dP s (w.alloc (.cells (zP jA) 84)) hs;have d5:=hp.below b8;rw[hl]at c6 |-;subst f4;clear hl hs;have hE:opE l=if zN 1 l 0≠0 then zN 1 l 0
  else if yZ 1 l 0=0\/7<yZ 1 l 0 then 10
  else if jE (qH (yZ 1 l 0) (zM 1 l 0) 0).l (qH (yZ 1 l 0) (zM 1 l 0) 0).e≠0 then jE (qH (yZ 1 l 0) (zM 1 l 0) 0).l (qH (yZ 1 l 0) (zM 1 l 0) 0).e
  else chkO (qH (yZ 1 l 0) (zM 1 l 0) 0).o:=rfl
 have hO:opO l=(qH (yZ 1 l 0) (zM 1 l 0) 0).o:=rfl;have e6:=xL 1 l 0;have f7:yZ 1 l 0<256:=by simpa using e6
 have HE:=dH hE;have HO:=dH hO;have f6:=hp.lt;clear hE hO e6 hp;show Calls prog 197 #[.string (mkB l)] w _;go_enter func197,ntmps197
 go_upto_region 1 with fail
 obtain⟨ga,c4⟩:=eX w.heap.size
 have a0:=dH c4;obtain⟨W,hW⟩:=eR (w.alloc (.cells (zP jA) 84))
 rw[<-hW]at b8 b3 c6 d5 |-;rw[c4]at b3 |-;rw[c4]at f6;have f8:ga<W.heap.size:=(aG b3).1;clear hW c4;(go_wp2_with fail);refine c6.mono ?_;rintro en w1 ⟨rfl,a4,c5⟩;obtain⟨g,hg⟩:=eX W.heap.size
 rw[hg]at a4 f8 |-;have b2:=(c5.block ga oM).trans b3;have d3:=d5.below c5;have d4:=d3.lt;have b7:Below ga w w1:=by have:=b8.trans (c5.mono b8.size);rwa [a0.out]at this
 have hgs:=a0.out;clear c6 b8 c5 b3 d5 hg;(go_wp2_with fail);refine(fL w1 g l 0 a4).mono ?_;rintro en w2 ⟨rfl,r,c2⟩;have j:=(c2.block ga (oH a4.lt) sO).trans b2;have c0:=d3.kept c2 (by simp;have:=d4;omega);have I:Below ga w w2:=b7.trans (c2.below (oH a4.lt) sO);obtain⟨k,hk⟩:=eX (yZ 1 l 0)
 rw[hk]at HE HO f7 |-;clear a4 c2 b2 d3 b7 hk;by_cases he:zN 1 l 0=0
 ·have U:=HE.out;rw[if_neg (by rw[he];simp)]at U;rw[he]at r;have a1:=dH U;clear U he HE;have a6:=rR k w2 c0 oM;by_cases a8:k=0\/7<k
  ·have h2:=a1.out;rw[if_pos a8]at h2;rw[part_eq a8]at a6;have m:=dH h2;clear h2 a1 HO a8;(go_wp2_with fail);refine(xI w2 g _ 0 r).mono ?_;rintro en w3 ⟨rfl,rfl⟩;(go_wp2_with fail);refine a6.mono ?_;rintro en w3 ⟨rfl,rfl⟩;have T:=zX (P:=prog) qX w2 ga (zP jA) (zP jA) _ j sI sI (gU _ rfl);have f:=dH (setRow_heap w2 ga _ (zP jA) _ _ j);have t:z8 [ga] w2 (w2.setRow ga (zP jA)):=⟨rfl,rfl,rfl,by simp[setRow],λx _ hx=>setRow_other w2 ga x _ (by simpa using hx)⟩
   have F:Below ga w (w2.setRow ga (zP jA)):=I.trans (t.below (oH r.lt) sI);have Y:=dH F;clear F t j r I;(go_wp2_with fail);refine bodyPost_ret (vF results197 _ _ ga 84 (zP jA) (0,0) _ rfl f.out underlying84 rfl (by first | (rw[kS];exact qX) | (rw[nV];exact qX))) rfl ?_;exact⟨_,by rw[m.out];rfl,λh0=>absurd (m.out.symm.trans h0) oM,λ_=>rfl,by rw[a0.out];exact Y.out⟩
  ·have h2:=a1.out;rw[if_neg a8]at h2;have m:=dH h2;have c3:1<=k:=oM;have c1:k<=7:=oM;have c9:=part_ne c3 c1;have d0:=XF k (zM 1 l 0) 0 c3 c1;have d7:=chk_take k (zM 1 l 0) 0 c3 c1;have d8:=op_take k w2 g (zM 1 l 0) 0 r c0 c3 c1;obtain⟨pk,e4⟩:=eX (vU k)
   rw[e4]at a6 c9;obtain⟨R,hR⟩:=eX (qH k (zM 1 l 0) 0)
   rw[hR]at m HO d0 d7 d8;obtain⟨o,l2,e2⟩:=R;dsimp only at *;have f3:=dH d0;have g1:=dH d7;clear h2 a1 a8 e4 hR d0 d7;(go_wp2_with fail);refine(xI w2 g _ 0 r).mono ?_;rintro en w3 ⟨rfl,rfl⟩;(go_wp2_with fail);refine a6.mono ?_;rintro en w3 ⟨rfl,rfl⟩;clear a6;(go_wp2_with fail);refine d8.mono ?_;rintro en w3 ⟨A,c,rfl,a5,c8,a7⟩;have b1:=(a7.block ga (oH r.lt) sO).trans j;have e5:=c0.kept a7 sO;have b6:Below ga w w3:=I.trans (a7.below (oH r.lt) sO);have d6:g<w3.heap.size:=c8.lt;have f5:=a7.size;have f9:g<w2.heap.size:=r.lt;have a2:Below w3.heap.size w3 (w3.alloc (.cells (opC o A c) 84)):=bA;have V:(w3.alloc (.cells (opC o A c) 84)).heap[ga]?=_:=(a2.block ga oM).trans b1;have c7:=c8.below a2;have d2:=e5.below a2;have J:z9 (w3.alloc (.cells (opC o A c) 84)) w3.heap.size 0 37=some (opC o A c):=by unfold opC;simp[go_sem]
   have L:=a5.below a2;have X:Below ga w (w3.alloc (.cells (opC o A c) 84)):=b6.trans (a2.mono oM);have ce:=dD _ g l2 e2 c7;have d:opC o A c=zP ⟨o.k,o.n,o.key,o.val,o.ref,.slice A o.refs.length c⟩:=rfl;rw[d];go_upto_region 8 with fail
   rw[<-d];have e0:=dH d;obtain⟨gb,e7⟩:=eX w3.heap.size
   obtain⟨W4,f0⟩:=eR (w3.alloc (.cells (opC o A c) 84))
   rw[<-f0]at V c7 d2 J L X ce |-;rw[e7]at J d6 |-;clear f0 d a2 c8 e5 b6 b1 a5 d8 a7 r c0 I j e7;(go_wp2_with fail);refine ce.mono ?_;rintro en w5 ⟨rfl,a3⟩;have H:=(a3.block ga (aG V).1).trans V;have d1:=d2.below a3;have B:z9 w5 gb 0 37=some (opC o A c):=(zG (a3.block gb (zD J)) _ _).trans J;have E:=L.below a3;have N:Below ga w w5:=X.trans (a3.mono (oH X.size));have b0:ga<=w5.heap.size:=oH N.size;clear ce V c7 d2 J L X a3;by_cases O:jE l2 e2=0
   ·have h2:=m.out;rw[if_neg (by rw[O];simp),<-g1.out]at h2;rw[O];have f1:zW w5 A o.refs.length o.refs:=E.slr;have cc:=op_check o A c w5 d1 f3.out.1 f1 (oH f3.out.2.2);obtain⟨ck,b4⟩:=eX (chkN o)
    rw[b4]at h2 cc;have y:=dH h2;clear h2 m O b4 f1 d1;(go_wp2_with fail);refine cc.mono ?_;rintro en w6 ⟨rfl,b5⟩;have G:=(b5.block ga (aG H).1).trans H;have e3:z9 w6 gb 0 37=some (opC o A c):=(zG (b5.block gb (zD B)) _ _).trans B;have D:=E.below b5;have M:Below ga w w6:=N.trans (b5.mono b0);have a9:ga<=w6.heap.size:=oH M.size;clear cc H B E N b5;cases hc0:(ck==0)with
    | true =>
     obtain rfl:ck=0:=by simpa using hc0
     have T:=zX (P:=prog) qX w6 ga (zP jA) (opC o A c) _ G sI sI (opC_one o A c);have f:=dH (setRow_heap w6 ga _ (opC o A c) _ _ G);have t:z8 [ga] w6 (w6.setRow ga (opC o A c)):=⟨rfl,rfl,rfl,by simp[setRow],λx _ hx=>setRow_other w6 ga x _ (by simpa using hx)⟩
     have F:Below ga w (w6.setRow ga (opC o A c)):=M.trans (t.below a9 sI);have Z:Own (w6.setRow ga (opC o A c)) w.heap.size 23 32 A o.refs.length c (o.refs.map idC):=(D.mono (oH a0.out)).kept t (λx hx=>oS ((D.at_base hx).1));have Y:=dH F;have b9:=dH Z;clear F t G M Z D;(go_wp2_with fail);refine bodyPost_ret (vF results197 _ _ ga 84 (opC o A c) (0,0) _ rfl f.out underlying84 rfl (by first | (rw[kS];exact qX) | (rw[nV];exact qX))) rfl ?_;exact⟨_,by rw[y.out];rfl,λ_=>⟨A,c,by rw[HO.out],by rw[HO.out];exact b9.out⟩,λh0=>absurd y.out h0,by rw[a0.out];exact Y.out⟩
    | false =>
     have e9:ck≠0:=by simpa using hc0
     have g0:(ck != 0)=true:=by simpa using hc0
     have d9:=dH e9;clear e9;have T:=zX (P:=prog) qX w6 ga (zP jA) (zP jA) _ G sI sI (gU _ rfl);have f:=dH (setRow_heap w6 ga _ (zP jA) _ _ G);have t:z8 [ga] w6 (w6.setRow ga (zP jA)):=⟨rfl,rfl,rfl,by simp[setRow],λx _ hx=>setRow_other w6 ga x _ (by simpa using hx)⟩
     have F:Below ga w (w6.setRow ga (zP jA)):=M.trans (t.below a9 sI);have Y:=dH F;clear F t G M D;(go_wp2_with fail);refine bodyPost_ret (vF results197 _ _ ga 84 (zP jA) (0,0) _ rfl f.out underlying84 rfl (by first | (rw[kS];exact qX) | (rw[nV];exact qX))) rfl ?_;exact⟨_,by rw[y.out];rfl,λh0=>absurd (y.out.symm.trans h0) d9.out,λ_=>rfl,by rw[a0.out];exact Y.out⟩
   ·have h2:=m.out;rw[if_pos O]at h2;obtain⟨ee,f2⟩:=eX (jE l2 e2)
    rw[f2]at h2 O |-;have y:=dH h2;have d9:=dH O;have g0:(ee != 0)=true:=by simpa using O
    have g4:(ee==0)=false:=by simpa using O
    clear h2 m O f2 d1 B E;have T:=zX (P:=prog) qX w5 ga (zP jA) (zP jA) _ H sI sI (gU _ rfl);have f:=dH (setRow_heap w5 ga _ (zP jA) _ _ H);have t:z8 [ga] w5 (w5.setRow ga (zP jA)):=⟨rfl,rfl,rfl,by simp[setRow],λx _ hx=>setRow_other w5 ga x _ (by simpa using hx)⟩
    have F:Below ga w (w5.setRow ga (zP jA)):=N.trans (t.below b0 sI);have Y:=dH F;clear F t H N;(go_wp2_with fail);refine bodyPost_ret (vF results197 _ _ ga 84 (zP jA) (0,0) _ rfl f.out underlying84 rfl (by first | (rw[kS];exact qX) | (rw[nV];exact qX))) rfl ?_;exact⟨_,by rw[y.out];rfl,λh0=>absurd (y.out.symm.trans h0) d9.out,λ_=>rfl,by rw[a0.out];exact Y.out⟩
 ·have U:=HE.out;rw[if_pos he]at U;obtain⟨e1,e8⟩:=eX (zN 1 l 0)
  rw[e8]at U he r;have a1:=dH U;have He:=dH he;have g3:(e1 != 0)=true:=by simpa using he
  have O:(e1==0)=false:=by simpa using he
  clear U he HE HO e8;(go_wp2_with fail);refine(xI w2 g _ e1 r).mono ?_;rintro en w3 ⟨rfl,rfl⟩;(go_wp2_with fail);refine(xI w2 g _ e1 r).mono ?_;rintro en w3 ⟨rfl,rfl⟩;have T:=zX (P:=prog) qX w2 ga (zP jA) (zP jA) _ j sI sI (gU _ rfl);have f:=dH (setRow_heap w2 ga _ (zP jA) _ _ j);have t:z8 [ga] w2 (w2.setRow ga (zP jA)):=⟨rfl,rfl,rfl,by simp[setRow],λx _ hx=>setRow_other w2 ga x _ (by simpa using hx)⟩
  have F:Below ga w (w2.setRow ga (zP jA)):=I.trans (t.below (oH r.lt) sI);have Y:=dH F;clear F t j r I;(go_wp2_with fail);refine bodyPost_ret (vF results197 _ _ ga 84 (zP jA) (0,0) _ rfl f.out underlying84 rfl (by first | (rw[kS];exact qX) | (rw[nV];exact qX))) rfl ?_;exact⟨_,by rw[a1.out];rfl,λh0=>absurd (a1.out.symm.trans h0) He.out,λ_=>rfl,by rw[a0.out];exact Y.out⟩
def aC(t:ByteArray)(m:j6):Prop:=opE m.body.data.toList=0/\mU (opO m.body.data.toList).k=yF t
instance (t:ByteArray) (m:j6):Decidable (aC t m):=by unfold aC;infer_instance
@[go_sem] theorem storeOp0_run(w:World)(g:Nat)(hg:g=w.heap.size)(z:Array Value)(hz:z.size=37)(e:TypeId):(stS 84 ⟨g,0,none⟩ (.agg (zP jA))).run prog (w.alloc (.cells z e))=.ok () (w.alloc (.cells (zP jA) e)):=cW w g hg z hz jA rfl e
theorem opO_ok(l:List UInt8)(h:opE l=0):sF (opO l)/\1<=(opO l).k/\(opO l).k<=7/\(opO l).key.size<=16/\(opO l).val.size<=16/\(opO l).refs.length<=8/\kD (opO l).refs=true/\(opO l).n<2147483648:=by
 unfold opE at h;split at h
 ·contradiction
 split at h
 ·cases h
 split at h
 ·contradiction
 rename_i h1 h2 h3
 have hp:=XF (yZ 1 l 0) (zM 1 l 0) 0 oM oM;unfold chkO at h;have e:(qH (yZ 1 l 0) (zM 1 l 0) 0).o=opO l:=rfl;rw[e]at h hp;split at h
 ·cases h
 split at h
 ·cases h
 split at h
 ·cases h
 split at h
 ·cases h
 rename_i k1 k2 k3 k4
 refine⟨hp.1,oM,oM,oM,oM,oM,?_,oM⟩;cases hr:kD (opO l).refs with
 | true=>rfl
 | false=>exact absurd hr k4
theorem vfold_old(m:j6)(w:World)(g:Nat)(t:ByteArray)(b:Nat)(I:List zA)(sv:Value)(h:yR w g t b I sv)(hm:m.id∈I) :
  Calls prog 148 #[.pointer (some ⟨g,0,none⟩),.agg (y8 m)] w λe w'=>e=.returned (.bool false)/\Below w.heap.size w w':=by
 have hB:Below w.heap.size w (w.alloc (.cells (y8 m) 220)):=bA;have h1:=h.below hB;have hr:z9 (w.alloc (.cells (y8 m) 220)) w.heap.size 0 32=some (idC m.id):=by simp[go_sem]
 go_enter func148,ntmps148
 go_upto_region 1 with fail
 generalize w.alloc (.cells (y8 m) 220)=W at *;have hc:=h1.cell1;have hk:∀x:Subtype (Bel W),(Instr.lookup 29 (.map (some b)) (.agg (idC m.id)) false).run prog x.1=.ok (.bool true) x.1:=λx=>ihit (h1.ids.below x.2) hm;clear h h1 hm;refine lX W ?_;intro d hS;have b1:=zJ hc;have b2:=zV hr;refine lQ ?_;intro K hK;refine(jW W.drew g b hc).mono ?_;rintro e w' ⟨rfl,rfl⟩;refine⟨_,rfl,hS,hK _ _ ?_⟩;clear hK K;refine lZ ?_;refine zC ?_;intro hS;(go_wp2_with fail);go_ret;exact⟨rfl,yM hB hS⟩
theorem vfold_new(m:j6)(w:World)(g:Nat)(t:ByteArray)(b:Nat)(I:List zA)(sv:Value)(h:yR w g t b I sv)(hm:m.id∉I)(hp:qD w)(d8:b≠1)(hs:m.body.size<=9223372036854775807)(ht:t.size<=9223372036854775807)
  (Q:World->Prop)
  (a0:¬aC t m->∀w',yR w' g t b (m.id :: I) sv->z8 [b] w w'->Q w')
  (d:aC t m->∀w1 A c,yR w1 g t b (m.id :: I) sv->z8 [b] w w1->qD w1->Own w1 w.heap.size 23 32 A (opO m.body.data.toList).refs.length c ((opO m.body.data.toList).refs.map idC) ->
   Calls prog 199 #[.pointer (some ⟨g,0,none⟩),.agg (y8 m),.agg (opC (opO m.body.data.toList) A c)] w1 λe w'=>e=.returned (.tuple #[])/\Q w') :
  Calls prog 148 #[.pointer (some ⟨g,0,none⟩),.agg (y8 m)] w λe w'=>e=.returned (.bool true)/\Q w':=by
 have hB:Below w.heap.size w (w.alloc (.cells (y8 m) 220)):=bA;have h1:=h.below hB;have b4:=hp.below hB;have T:z9 (w.alloc (.cells (y8 m) 220)) w.heap.size 0 34=some (y8 m):=by simp[go_sem]
 have d7:=h.ids.lt;have d6:=h.lt;go_enter func148,ntmps148
 go_upto_region 1 with fail
 obtain⟨ga,b5⟩:=eX w.heap.size
 have a8:=dH b5;rw[b5]at T hB d7 d6 |-;obtain⟨W,hW⟩:=eR (w.alloc (.cells (y8 m) 220))
 rw[<-hW]at h1 b4 T hB |-;clear hW b5;have hr:z9 W ga 0 32=some (idC m.id):=by have:=yD T (j:=0) (m:=32) oM;rwa [gB]at this
 have L:W.cell? ⟨ga,33,none⟩=some (.string m.body):=by have:=zB T (j:=33) oM;rwa [markVC_g33,Nat.zero_add]at this
 have hc:=h1.cell1;have hk:∀x:Subtype (Bel W),(Instr.lookup 29 (.map (some b)) (.agg (idC m.id)) false).run prog x.1=.ok (.bool false) x.1:=λx=>imiss (h1.ids.below x.2) hm;refine lX W ?_;intro X hS;have b1:=zJ hc;have b2:=zV hr;refine lQ ?_;intro K hK;refine(jW W.drew g b hc).mono ?_;rintro e w' ⟨rfl,rfl⟩;refine⟨_,rfl,hS,hK _ _ ?_⟩;clear hK K;refine lZ ?_;refine zC ?_;intro hS;clear b1 b2 X hk hS;have c6:g∉[b]:=by simpa using h1.ne
 have Y:yR W.drew g t b I sv:=h1.kept (z8.drew W) sI sI;have O:qD W.drew:=b4.kept (z8.drew W) sI;have c1:Below ga w W.drew:=hB.trans ((qC W).mono (by have:=hB.size;have:=a8.out;omega));have b0:z9 W.drew ga 0 32=some (idC m.id):=hr;have D:z9 W.drew ga 0 34=some (y8 m):=T;have b8:W.drew.cell? ⟨ga,33,none⟩=some (.string m.body):=L;clear hr T L hc b4 hB;go_upto_region 3 with fail
 obtain⟨W1,c8⟩:=eR W.drew
 rw[<-c8]at Y O c1 b0 D b8 |-;clear c8 h1;have hc:=Y.cell1;obtain⟨w2,a9,d1,c5⟩:=jb (x:=m.id) (Y.ids.kept (z8.drew W1) sI);refine kX [b] W1 ?_;intro X hS;have b1:=zF hc c6;have b2:=zY b0 (S:=[b]) sO;refine lQ ?_;intro K hK;refine zH (yA hS c5 sI) (λhS=>?_);refine hK _ _ ?_;clear hK K;refine zC ?_;intro hS;have y:z8 [b] W1 w2:=hS;have h2:yR w2 g t b (m.id :: I) sv:=⟨(y.block g Y.lt c6).trans Y.blk,d1⟩
 have a1:ga∉[b]:=sO;have b3:qD w2:=O.kept y (by simpa using λe=>d8 e.symm);have N:z9 w2 ga 0 34=some (y8 m):=(y.row (zD D) a1 _ _).trans D;have b7:w2.cell? ⟨ga,33,none⟩=some (.string m.body):=(y.cell (p:=⟨ga,33,none⟩) (zD D) a1).trans b8;have d0:z8 [b] w w2:=z8.trans ((z8.of_below (c1.mono (by rw[a8.out];exact lR))).mono (S':=[b]) sI) y iL;clear b1 b2 X hS c5 d1 a9 b0 D b8 O Y c1 hc y;have c3:=op_Of m.body w2 b3 hs;obtain⟨l,hl⟩:=eX m.body.data.toList
 have Hl:=dH hl;rw[hl]at c3 d;have H:aC t m↔opE l=0/\mU (opO l).k=yF t:=by unfold aC;rw[hl]
 obtain⟨E,hE⟩:=eX (opE l)
 have d9:=dH hE;clear hl;(go_wp2_with fail);refine c3.mono ?_;rintro en w3 ⟨V,rfl,a7,J,a2⟩;rw[hE]at a7 J |-;have h3:=h2.below a2;have c4:=b3.below a2;have M:z9 w3 ga 0 34=some (y8 m):=(zG (a2.block ga (zD N)) _ _).trans N;have b9:z8 [b] w w3:=z8.trans d0 (z8.of_below a2) sI;clear c3 a2 h2 b3 N b7;by_cases h0:E=0
 ·subst h0;obtain⟨A,c,rfl,U⟩:=a7 rfl;have a6:=opO_ok l hE;have r:=U.mono (B':=ga) (by have:=d0.size;have:=a8.out;omega);have s:aC t m↔mU (opO l).k=yF t:=by rw[H];exact⟨λh=>h.2,λh=>⟨hE,h⟩⟩
  rw[<-a8.out]at r;obtain⟨o,ho⟩:=eX (opO l)
  rw[ho]at a6 r s d |-;have d5:o.k<=9223372036854775807:=oH a6.2.2.1;have e1:=dH a6;clear a7 J U H hE ho a6;have G:Below w3.heap.size w3 (w3.alloc (.cells (opC o A c) 84)):=bA;have h4:=h3.below G;have a5:=c4.below G;have F:z9 (w3.alloc (.cells (opC o A c) 84)) ga 0 34=some (y8 m):=(zG (G.block ga (zD M)) _ _).trans M;have f:=r.below G;have B:z9 (w3.alloc (.cells (opC o A c) 84)) w3.heap.size 0 37=some (opC o A c):=by simp[go_sem]
  have R:z8 [b] w (w3.alloc (.cells (opC o A c) 84)):=z8.trans b9 (z8.of_below G) sI;clear G h3 c4 M r b9;unfold opC at h4 a5 F f B R |-;go_upto_region 5 with fail
  obtain⟨W4,a3⟩:=eR (w3.alloc (.cells (zP ⟨o.k,o.n,o.key,o.val,o.ref,.slice A o.refs.length c⟩) 84))
  rw[<-a3]at h4 a5 F f B R |-;clear a3;have b6:=zB B (j:=0) oM;rw[kI,Nat.zero_add]at b6;have c7:=h4.cell0;have cb:=op_belongs o.k W4.drew d5;have ck:=bQ t W4.drew ht;obtain⟨B1,c2⟩:=eX (mU o.k)
  obtain⟨K1,c0⟩:=eX (yF t)
  rw[c2,c0]at s;rw[c2]at cb;rw[c0]at ck;have a4:=dH s;clear c2 c0 s;refine lX W4 ?_;intro X hS;have b1:=zJ b6;have b2:=zJ c7;refine lQ ?_;intro K hK;refine(cb).mono ?_;rintro e w' ⟨rfl,rfl⟩;refine⟨_,rfl,hS,hK _ _ ?_⟩;clear hK K;refine lZ ?_;refine lC (ck) ?_;clear hS;intro w' hS;refine lZ ?_;refine zC ?_;intro hS;have y:Below W4.heap.size W4 w':=hS;have h5:=h4.below y;have d4:=a5.below y;have d3:z9 w' ga 0 34=some (y8 m):=(zG (y.block ga (zD F)) _ _).trans F;have d2:z9 w' w3.heap.size 0 37=some (zP ⟨o.k,o.n,o.key,o.val,o.ref,.slice A o.refs.length c⟩):=(zG (y.block w3.heap.size (zD B)) _ _).trans B;have Z:=f.below y;have c9:z8 [b] w w':=z8.trans R (z8.of_below y) sI;clear b1 b2 X hS cb ck b6 c7 h4 a5 F B f R y;obtain⟨W5,rfl⟩:∃W5,W5=w':=⟨w',rfl⟩
  cases hbb:(B1==K1)with
  | true =>
   have hf:aC t m:=a4.out.2 (by simpa using hbb);have hd:=d hf W5 A c h5 c9 d4 Z;unfold opC at hd;clear hf hbb;go_upto_region 6 with fail
   (go_wp2_with fail);refine hd.mono ?_;rintro e w6 ⟨rfl,hq⟩;have Hq:=dH hq;clear hq a0 d hd;(go_wp2_with fail);go_ret;exact⟨rfl,Hq.out⟩
  | false =>
   have hf:¬aC t m:=λh=>(by have:=a4.out.1 h;rw[beq_eq_false_iff_ne]at hbb;exact hbb this);have hq:=a0 hf W5 h5 c9;have Hq:=dH hq;clear hf hq a0 d;(go_wp2_with fail);go_ret;exact⟨rfl,Hq.out⟩
 ·have hf:¬aC t m:=λh=>h0 (by rw[<-hE];exact(H.1 h).1);have hV:=J h0;subst hV;have G:Below w3.heap.size w3 (w3.alloc (.cells (zP jA) 84)):=bA;have h4:=h3.below G;have R:z8 [b] w (w3.alloc (.cells (zP jA) 84)):=z8.trans b9 (z8.of_below G) sI;have e0:(E==0)=false:=by simpa using h0
  clear d a7 J H hE h0 G;go_upto_region 5 with fail
  obtain⟨W4,a3⟩:=eR (w3.alloc (.cells (zP jA) 84))
  rw[<-a3]at h4 R |-;clear a3;have hq:=a0 hf _ (h4.below (qC W4)) (z8.trans R (z8.of_below (qC W4)) sI);have Hq:=dH hq;clear hf hq a0;refine lX W4 ?_;intro X hS;refine lQ ?_;intro K hK;refine hK _ _ ?_;clear hK K;refine lQ ?_;intro K hK;refine hK _ _ ?_;clear hK K;refine lZ ?_;refine zC ?_;intro hS;(go_wp2_with fail);go_ret;exact⟨rfl,Hq.out⟩
def xF(w:World)(g:Nat)(n:Int):Prop:=w.heap[g]?=some (.cells #[.int .i64 n,.bool true] 170 (0,0))
theorem xF.lt(h:xF w g n):g<w.heap.size:=(aG h).1
theorem xF.kept{w':World}{S:List Nat}(h:xF w g n)(k:z8 S w w')(hg:g∉S):xF w' g n:=(k.block g h.lt hg).trans h
theorem xF.cell0(h:xF w g n):w.cell? ⟨g,0,none⟩=some (.int .i64 n):=by rw[cell_of_row w g 0 _ _ _ h];rfl
theorem xF.cell1(h:xF w g n):w.cell? ⟨g,1,none⟩=some (.bool true):=by rw[cell_of_row w g 1 _ _ _ h];rfl
theorem at_load(w:World)(g:Nat)(n:Int)(h:xF w g n):(callFunc 185 #[.pointer (some ⟨g,0,none⟩)]).run prog w=.ok (.value (.int .i64 n)) w:=by
 have h0:=h.cell0;rw[run_callFunc_extern func185 kR kR kR (e:=Extern.Atomic.loadT (.int .i64)) kR];have e:Extern.Atomic.loadT (.int .i64) #[.pointer (some ⟨g,0,none⟩)]=(do Extern.Atomic.read (.int .i64) (<-asAddr (.pointer (some ⟨g,0,none⟩)))):=rfl;rw[e];simp[Extern.Atomic.read,asAddr,go_sem,h0]
theorem at_add(w:World)(g:Nat)(n m:Int)(h:xF w g n):(callFunc 321 #[.pointer (some ⟨g,0,none⟩),.int .i64 m]).run prog w=.ok (.value (.int .i64 (wrap64 (n+m)))) (w.setCell ⟨g,0,none⟩ (.int .i64 (wrap64 (n+m)))):=by
 have h0:=h.cell0;have hf:w.frozen? ⟨g,0,none⟩=false:=by simp[frozen?,show w.heap[g]?=_ from h]
 rw[run_callFunc_extern func321 kR kR kR (e:=Extern.Atomic.update (Op.intArith .add) .i64 true) kR];have e:Extern.Atomic.update (Op.intArith .add) .i64 true #[.pointer (some ⟨g,0,none⟩),.int .i64 m]=(do
  let a <-asAddr (.pointer (some ⟨g,0,none⟩))
  let old <-Extern.Atomic.read (.int .i64) a
  let new <-Op.intArith .add .i64 (<-asInt old) (<-asInt (.int .i64 m))
  store a new .atomic
  pure (if true then new else old)):=rfl
 rw[e];have ew:wrap64 (n+m)=IntKind.i64.wrap (n+m):=(IntWalk.i64_left _).symm;simp[Extern.Atomic.read,asAddr,asInt,Op.intArith,go_sem,h0,hf,ew]
theorem tnew(w:World):Calls prog 164 #[] w λe w'=>e=.returned (.pointer (some ⟨w.heap.size,0,none⟩))/\xF w' w.heap.size 0/\Below w.heap.size w w':=by
 have d:∀w:World,(Instr.build 170 #[(1,.bool true)]).run prog w=.ok (.agg #[.int .i64 0,.bool true]) w:=λw=>kR;go_enter func164,ntmps164
 (go_wp2_with fail);go_ret;exact⟨rfl,heap_alloc_new w _,bA⟩
theorem tnone(w:World)(g:Nat)(n:Int)(h:xF w g n):Calls prog 124 #[.pointer (some ⟨g,0,none⟩)] w λe w'=>e=.returned (.bool false)/\w=w':=by
 have h1:=h.cell1;clear h;go_enter func124,ntmps124
 (go_wp2_with fail);go_ret;exact⟨rfl,rfl⟩
theorem at_Load(w:World)(g:Nat)(n:Int)(h:xF w g n):Calls prog 125 #[.pointer (some ⟨g,0,none⟩)] w λe w'=>e=.returned (.int .i64 n)/\w=w':=by
 have hr:=at_load w g n h;clear h;go_enter func125,ntmps125
 (go_wp2_with fail);go_ret;exact⟨rfl,rfl⟩
theorem at_Add(w:World)(g:Nat)(n m:Int)(h:xF w g n):Calls prog 305 #[.pointer (some ⟨g,0,none⟩),.int .i64 m] w λe w'=>e=.returned (.int .i64 (wrap64 (n+m)))/\w'=w.setCell ⟨g,0,none⟩ (.int .i64 (wrap64 (n+m))):=by
 have hr:=at_add w g n m h;clear h;go_enter func305,ntmps305
 (go_wp2_with fail);go_ret;exact⟨rfl,rfl⟩
theorem tn(w:World)(g:Nat)(n:Int)(h:xF w g n):Calls prog 64 #[.pointer (some ⟨g,0,none⟩)] w λe w'=>e=.returned (.int .i64 n)/\w=w':=by
 go_enter func64,ntmps64
 (go_wp2_with fail);refine(tnone _ g n h).mono ?_;rintro e w1 ⟨rfl,rfl⟩;(go_wp2_with fail);refine(at_Load _ g n h).mono ?_;rintro e w1 ⟨rfl,rfl⟩;(go_wp2_with fail);go_ret;exact⟨rfl,rfl⟩
theorem tinc(w:World)(g:Nat)(n m:Int)(h:xF w g n)(h1:-2147483648<=m)(h2:m<2147483648) :
  Calls prog 263 #[.pointer (some ⟨g,0,none⟩),.int .i64 m] w λe w'=>e=.returned (.int .i64 0)/\xF w' g (wrap64 (n+m))/\z8 [g] w w':=by
 have d:xF (w.setCell ⟨g,0,none⟩ (.int .i64 (wrap64 (n+m)))) g (wrap64 (n+m)):=by
  have h0:w.heap[g]?=_:=h;unfold xF;rw[zE h0];rfl
 have j:=z8.setCell w ⟨g,0,none⟩ (.int .i64 (wrap64 (n+m)));have f:=dH d;have r:¬(2147483648<=m):=oM;have k:¬(m < -2147483648):=oM;clear d;go_enter func263,ntmps263
 (go_wp2_with fail);refine(tnone _ g n h).mono ?_;rintro e w1 ⟨rfl,rfl⟩;(go_wp2_with fail);refine(at_Add _ g n m h).mono ?_;rintro e w1 ⟨rfl,rfl⟩;(go_wp2_with fail);go_ret;exact⟨rfl,f.out,j⟩
theorem zx(w:World):Calls prog 100 #[.int .i64 1] w λe w'=>e=.returned (.iface 101 (.pointer (some ⟨w.heap.size,0,none⟩)))/\xF w' w.heap.size 0/\Below w.heap.size w w':=by
 go_enter func100,ntmps100
 (go_wp2_with fail);refine(tnew w).mono ?_;rintro e w1 ⟨rfl,h1,hb⟩;(go_wp2_with fail);go_ret;exact⟨rfl,h1,hb⟩
theorem JA(t:ByteArray)(w:World)(ht:t.size<=9223372036854775807)(k:Int)(hk:yF t=k)(D:k≠0)(ty:TypeId)(Z:World->World->Nat->Prop)
  (hf:∀w,Calls prog 100 #[.int .i64 k] w λe w'=>∃gs,e=.returned (.iface ty (.pointer (some ⟨gs,0,none⟩)))/\Z w w' gs/\Below w.heap.size w w') :
  Calls prog 42 #[.string t] w λe w'=>∃g b gs w2 w3,e=.returned (.tuple #[.pointer (some ⟨g,0,none⟩),.int .i64 0])/\yR w' g t b [] (.iface ty (.pointer (some ⟨gs,0,none⟩)))/\Z w2 w3 gs/\Below w2.heap.size w2 w3/\Below w3.heap.size w3 w'/\g=w3.heap.size/\w.heap.size<=b/\b<w2.heap.size/\Below w.heap.size w w':=by
 have G:=@run_makeMap prog;have c1:=λw=>rA t w ht;have e1:j5 t=0:=by unfold j5;rw[hk,if_neg D]
 rw[e1]at c1;have c2:=λw=>bQ t w ht;rw[hk]at c2;clear e1 hk D;go_enter func42,ntmps42
 (go_wp2_with fail);refine(c1 _).mono ?_;rintro e w1 ⟨rfl,s⟩;(go_wp2_with fail);refine(c2 _).mono ?_;rintro e w2 ⟨rfl,m⟩;(go_wp2_with fail);refine(hf _).mono ?_;rintro e w3 ⟨gs,rfl,hZ,j⟩;have hn:=yJ.new (kv:=idV) (ok:=vL) w1 w1.heap.size rfl;have A:w.heap.size<=w1.heap.size:=s.size;have F:w1.heap.size+1<=w2.heap.size:=by have:=m.size;simpa using this
 have E:=j.size;have f:Below w.heap.size w (w1.alloc (.map #[] 0)):=s.alloc A _;have d:Below w.heap.size w w2:=yM f m;have y:Below w.heap.size w w3:=yM d j;have B:=(hn.below m).below j;have Hn:=dH B;have HZ:=dH hZ;clear hn B hZ s m f d c1 c2 hf;have r:Below w3.heap.size w3 (w3.alloc (.cells #[.string t,.map (some w1.heap.size),.iface ty (.pointer (some ⟨gs,0,none⟩))] 99)):=bA;have hv:yR (w3.alloc (.cells #[.string t,.map (some w1.heap.size),.iface ty (.pointer (some ⟨gs,0,none⟩))] 99)) w3.heap.size t w1.heap.size [] (.iface ty (.pointer (some ⟨gs,0,none⟩))) :=
  ⟨heap_alloc_new w3 _,Hn.out.below r⟩
 have Hv:=dH hv;clear hv;(go_wp2_with fail);go_ret2;exact⟨w3.heap.size,w1.heap.size,gs,w2,w3,rfl,Hv.out,HZ.out,j,r,rfl,A,oM,yM y r⟩
theorem vdoes_t(m:j6)(o:OpV)(A:Option Addr)(c:Nat)(w:World)(g gt:Nat)(t:ByteArray)(b:Nat)(I:List zA)(n:Int)(h:yR w g t b I (.iface 101 (.pointer (some ⟨gt,0,none⟩))))(hT:xF w gt n)(h1:-2147483648<=o.n)(h2:o.n<2147483648) :
  Calls prog 199 #[.pointer (some ⟨g,0,none⟩),.agg (y8 m),.agg (opC o A c)] w λe w'=>e=.returned (.tuple #[])/\xF w' gt (wrap64 (n+o.n))/\z8 [gt] w w':=by
 have hB:Below w.heap.size w ((w.alloc (.cells (y8 m) 220)).alloc (.cells (opC o A c) 84)):=(bA).alloc sI _;have hc:=(h.below hB).cell2;have f:=hT.kept (z8.of_below hB) sI;unfold opC at hB hc f |-;have ci:=tinc _ gt n o.n f h1 h2;go_enter func199,ntmps199
 (go_wp2_with fail);refine ci.mono ?_;rintro e w1 ⟨rfl,h1,j⟩;have d:z8 [gt] w w1:=z8.trans ((z8.of_below hB).mono (S':=[gt]) sI) j iL;clear hB hc f ci h hT j;(go_wp2_with fail);go_end0;exact⟨rfl,h1,d⟩
@[go_sem] theorem storeValA_run(w:World)(g:Nat)(hg:g=w.heap.size)(z:Array Value)(hz:z.size=3)(k n:Int)(A:Option Addr)(m c:Nat)(e:TypeId):(stS 39 ⟨g,0,none⟩ (.agg (zI ⟨k,n,.slice A m c⟩))).run prog (w.alloc (.cells z e))=.ok () (w.alloc (.cells (zI ⟨k,n,.slice A m c⟩) e)):=tM w g hg z hz _ rfl e
theorem vvalue_t(w:World)(g gt:Nat)(t:ByteArray)(b:Nat)(I:List zA)(n:Int)(h:yR w g t b I (.iface 101 (.pointer (some ⟨gt,0,none⟩))))(hT:xF w gt n)(ht:t.size<=9223372036854775807)(hk:yF t=1) :
  Calls prog 27 #[.pointer (some ⟨g,0,none⟩)] w λe w'=>e=.returned (.agg (zI ⟨1,n,.slice none 0 0⟩))/\Below w.heap.size w w':=by
 have hB:Below w.heap.size w (w.alloc (.cells (zI x8) 39)):=bA;have h1:=h.below hB;have H:=hT.kept (z8.of_below hB) sI;have k:(w.alloc (.cells (zI x8) 39)).heap[w.heap.size]?=some (.cells (zI x8) 39 (0,0)):=heap_alloc_new w _;have c2:=λw=>bQ t w ht;rw[hk]at c2;go_enter func27,ntmps27
 go_upto_region 1 with fail
 obtain⟨ga,E⟩:=eX w.heap.size
 have L:=dH E;rw[E]at k hB |-;obtain⟨W,hW⟩:=eR (w.alloc (.cells (zI x8) 39))
 rw[<-hW]at h1 H k hB |-;clear hW E;have R:=h1.cell1;(go_wp2_with fail);refine(jW W g b R).mono ?_;rintro e w1 ⟨rfl,rfl⟩;have a3:=h1.cell0;(go_wp2_with fail);refine(c2 _).mono ?_;rintro e w2 ⟨rfl,r⟩;have h2:=h1.below r;have X:=H.kept (z8.of_below r) sI;have F:=(r.block ga (aG k).1).trans k;have Z:Below ga w w2:=hB.trans (r.mono (by have:=hB.size;have:=L.out;omega));have N:ga<w2.heap.size:=(aG F).1;clear a3 R h1 H k hB r h hT c2;have m:Below w2.heap.size w2 (w2.alloc (.cells (zI ⟨1,0,.slice none 0 0⟩) 39)):=bA;have h3:=h2.below m;have G:=X.kept (z8.of_below m) sI;have j:=(m.block ga N).trans F;have J:Below ga w (w2.alloc (.cells (zI ⟨1,0,.slice none 0 0⟩) 39)):=Z.trans (m.mono oM);have d:(w2.alloc (.cells (zI ⟨1,0,.slice none 0 0⟩) 39)).heap[w2.heap.size]?=some (.cells (zI ⟨1,0,.slice none 0 0⟩) 39 (0,0)):=heap_alloc_new w2 _;obtain⟨gv,D⟩:=eX w2.heap.size
 have a5:=dH D;clear h2 X F Z m;go_upto_region 4 with fail
 rw[D]at d N;obtain⟨W3,V⟩:=eR (w2.alloc (.cells (zI ⟨1,0,.slice none 0 0⟩) 39))
 rw[<-V]at h3 G j J d |-;clear V D;have a2:=h3.cell2;have hf:W3.frozen? ⟨gv,1,none⟩=false:=by simp[frozen?,d]
 have a1:W3.cell? ⟨gv,1,none⟩=some (.int .i64 0):=by rw[cell_of_row W3 gv 1 _ _ _ d];simp[go_sem]
 (go_wp2_with fail);refine(tn W3 gt n G).mono ?_;rintro e w4 ⟨rfl,rfl⟩;have f:(zI ⟨1,0,.slice none 0 0⟩).setIfInBounds 1 (.int .i64 n)=zI ⟨1,n,.slice none 0 0⟩:=by apply Array.ext';simp[zI]
 have A:(W3.setCell ⟨gv,1,none⟩ (.int .i64 n)).heap[gv]?=some (.cells (zI ⟨1,n,.slice none 0 0⟩) 39 (0,0)):=by rw[zE d,f]
 have B:=z8.setCell W3 ⟨gv,1,none⟩ (.int .i64 n);have s:(W3.setCell ⟨gv,1,none⟩ (.int .i64 n)).heap[ga]?=some (.cells (zI x8) 39 (0,0)):=(B.block ga (aG j).1 sO).trans j;have y:Below ga w (W3.setCell ⟨gv,1,none⟩ (.int .i64 n)):=J.trans (B.below (oH ((aG j).1)) sO);clear f B j J h3 G a2;go_upto_region 20 with fail
 obtain⟨W4,T⟩:=eR (W3.setCell ⟨gv,1,none⟩ (.int .i64 n))
 rw[<-T]at A s y |-;clear T hf d a1;have a0:z9 W4 gv 0 3=some (zI ⟨1,n,.slice none 0 0⟩):=by unfold z9;rw[A];simp[go_sem]
 have U:=zX (P:=prog) qL W4 ga (zI x8) (zI ⟨1,n,.slice none 0 0⟩) _ s sI sI (k8 _ rfl);have O:z8 [ga] W4 (W4.setRow ga (zI ⟨1,n,.slice none 0 0⟩)):=⟨rfl,rfl,rfl,by simp[setRow],λx _ hx=>setRow_other W4 ga x _ (by simpa using hx)⟩
 have M:=dH (setRow_heap W4 ga _ (zI ⟨1,n,.slice none 0 0⟩) _ _ s);have Y:Below ga w (W4.setRow ga (zI ⟨1,n,.slice none 0 0⟩)):=y.trans (O.below (by have:=y.size;have:=L.out;omega) sI);have a4:=dH Y;clear Y O s y A;(go_wp2_with fail);refine bodyPost_ret (results_cell_row results27 _ _ ga 39 (zI ⟨1,n,.slice none 0 0⟩) (0,0) _ rfl M.out underlying39 rfl (by rw[jX];exact qL)) rfl ?_;exact⟨rfl,by rw[L.out];exact a4.out⟩
section
abbrev okR(x:xB):Prop:=x.val.size<=maxLen
abbrev dJ(w:World)(b:Nat)(L:List xB):Prop:=yJ w b Y0 okR L
theorem zeroBool(w:World):(zeroValue 4).run prog w=.ok (.bool false) w:=kR
def small(x:xB):Prop:=x.val.size<=16
theorem cZ{x:xB}(h:small x):okR x:=by unfold small at h;unfold okR;simp only[maxLen];omega
section
variable {w:World} {b:Nat} {X:List xB} {x:xB}
theorem rhit(h:dJ w b X)(hk:small x)(hx:x∈X):(Instr.lookup 172 (.map (some b)) (.agg (zZ x)) false).run prog w=.ok (.bool true) w:=yJ.hit (kv:=Y0) (ok:=okR) h BE underlying172 (cZ hk) hx
theorem rmiss(h:dJ w b X)(hk:small x)(hx:x∉X):(Instr.lookup 172 (.map (some b)) (.agg (zZ x)) false).run prog w=.ok (.bool false) w:=yJ.miss (kv:=Y0) (ok:=okR) h BE underlying172 zeroBool (cZ hk) hx
theorem rput(h:dJ w b X)(hk:small x):∃w',(Instr.mapUpdate 172 (.map (some b)) (.agg (zZ x)) (.bool true)).run prog w=.ok () w'/\dJ w' b (x :: X)/\z8 [b] w w':=yJ.put h BE underlying172 (cZ hk)
theorem rdel(h:dJ w b X)(hk:small x)(ty:TypeId):∃w',(Builtin.delete_ #[172,176] ty #[.map (some b),.agg (zZ x)]).run prog w=.ok (.tuple #[]) w'/\dJ w' b (X.filter λy=>decide (y≠x))/\z8 [b] w w':=yJ.del h BE underlying172 (cZ hk) ty
end
structure qQ(w:World)(g bl bg:Nat)(L G:List xB):Prop where
 blk:w.heap[g]?=some (.cells #[.map (some bl),.map (some bg)] 174 (0,0))
 live:dJ w bl L
 gone:dJ w bg G
 ne:bl≠bg
 risL:Ris vJ L
 risG:Ris vJ G
 smL:∀x∈L,small x
 smG:∀x∈G,small x
 apart:∀x∈L,x∉G
section
variable {w w':World} {g bl bg:Nat} {L G:List xB}
theorem qQ.cell0(h:qQ w g bl bg L G):w.cell? ⟨g,0,none⟩=some (.map (some bl)):=by rw[cell_of_row w g 0 _ _ _ h.blk];rfl
theorem qQ.cell1(h:qQ w g bl bg L G):w.cell? ⟨g,1,none⟩=some (.map (some bg)):=by rw[cell_of_row w g 1 _ _ _ h.blk];rfl
theorem BB{t:TypeId}{f:Nat×Nat}(h:dJ w b X)(hg:w.heap[g]?=some (.cells cs t f)):g≠b:=by
 rintro rfl;obtain⟨M,es,d,hm,_⟩:=h;rw[hm.heap]at hg;cases hg
theorem qQ.nel(h:qQ w g bl bg L G):g≠bl:=BB h.live h.blk
theorem qQ.neg(h:qQ w g bl bg L G):g≠bg:=BB h.gone h.blk
theorem qQ.lt(h:qQ w g bl bg L G):g<w.heap.size/\bl<w.heap.size/\bg<w.heap.size:=⟨block_lt_of_cell? w _ h.cell0,h.live.lt,h.gone.lt⟩
theorem qQ.kept{S:List Nat}(h:qQ w g bl bg L G)(k:z8 S w w')(hg:g∉S)(hl:bl∉S)(hb:bg∉S):qQ w' g bl bg L G :=
 ⟨(k.block g h.lt.1 hg).trans h.blk,h.live.kept k hl,h.gone.kept k hb,h.ne,h.risL,h.risG,h.smL,h.smG,h.apart⟩
theorem qQ.below(h:qQ w g bl bg L G)(k:Below w.heap.size w w'):qQ w' g bl bg L G:=h.kept (z8.of_below k) sI sI sI
end
theorem QV(w:World)(g b:Nat)(h:w.cell? ⟨g,0,none⟩=some (.map (some b))):Calls prog 126 #[.pointer (some ⟨g,0,none⟩)] w λe w'=>e=.returned (.bool false)/\w=w':=by
 have hn:=λr=>run_eql_map_nil (P:=prog) w 172 176 4 r underlying172;go_enter func126,ntmps126
 (go_wp2_with fail);go_ret;exact⟨rfl,rfl⟩
theorem bnew(w:World):Calls prog 165 #[] w λe w'=>∃g bl bg,e=.returned (.pointer (some ⟨g,0,none⟩))/\qQ w' g bl bg [] []/\w.heap.size<=g/\w.heap.size<=bl/\w.heap.size<=bg/\Below w.heap.size w w':=by
 have d:=@run_makeMap prog;go_enter func165,ntmps165
 (go_wp2_with fail);go_ret;have k1:=yJ.new (kv:=Y0) (ok:=okR) w w.heap.size rfl;have k2:=yJ.new (kv:=Y0) (ok:=okR) (w.alloc (.map #[] 0)) (w.heap.size+1) sI;refine⟨w.heap.size+2,w.heap.size,w.heap.size+1,rfl,⟨?_,(k1.kept (z8.alloc _ _) sI).kept (z8.alloc _ _) sI,k2.kept (z8.alloc _ _) sI,oM,Ris.nil,Ris.nil,sI,sI,sI⟩,oM,oM,oM,((bA).alloc sI _).alloc sO _⟩;have:=heap_alloc_new ((w.alloc (.map #[] 0)).alloc (.map #[] 0)) (.cells #[.map (some w.heap.size),.map (some (w.heap.size+1))] 174 (0,0));simpa using this
def VU(s:ByteArray):Int:=if 16<s.size then 3 else 0
theorem bask(v:ByteArray)(w:World)(g b:Nat)(h:w.cell? ⟨g,0,none⟩=some (.map (some b)))(hv:v.size<=9223372036854775807):Calls prog 306 #[.pointer (some ⟨g,0,none⟩),.string v] w λe w'=>e=.returned (.int .i64 (VU v))/\w=w':=by
 go_enter func306,ntmps306
 (go_wp2_with fail);refine(QV _ _ _ h).mono ?_;rintro e w' ⟨rfl,rfl⟩;go_wp2_with fail
 all_goals
  go_ret;refine⟨y9 ?_,rfl⟩;unfold VU
  first
   | rw[if_pos oM]
   | rw[if_neg oM]
def J1(L G:List xB)(x:xB):List xB:=if 16<x.val.size then L else if x∈G then L else jI vJ L x
theorem badd(d:zA)(v:ByteArray)(w:World)(g bl bg:Nat)(L G:List xB)(h:qQ w g bl bg L G)(hv:v.size<=9223372036854775807) :
  Calls prog 264 #[.pointer (some ⟨g,0,none⟩),.agg (idC d),.string v] w λe w'=>e=.returned (.int .i64 (VU v))/\qQ w' g bl bg (J1 L G ⟨d,v⟩) G/\z8 [bl] w w':=by
 have h0:qQ (w.alloc (.cells (idC d) 23)) g bl bg L G:=h.below (bA);have hc:=h0.cell0;by_cases f:16<v.size
 ·have e1:VU v=3:=if_pos f;have e2:J1 L G ⟨d,v⟩=L:=if_pos f;rw[e1,e2];have j:=bask v _ g bl hc hv;rw[e1]at j;clear e1 e2 hc;go_enter func264,ntmps264
  (go_wp2_with fail);refine j.mono ?_;rintro e w' ⟨rfl,rfl⟩;(go_wp2_with fail);go_ret;exact⟨rfl,h0,(z8.alloc _ _).mono sI⟩
 ·have e1:VU v=0:=if_neg f;have s:small ⟨d,v⟩:=by unfold small;simp only;omega
  have j:=bask v _ g bl hc hv;rw[e1]at j;rw[e1];have r:Below w.heap.size w ((w.alloc (.cells (idC d) 23)).alloc (.cells (zZ ⟨d,v⟩) 176)):=(bA).alloc sI _;have h1:=h.below r;have k:z9 ((w.alloc (.cells (idC d) 23)).alloc (.cells (zZ ⟨d,v⟩) 176)) (w.heap.size+1) 0 33=some (zZ ⟨d,v⟩):=by simp[go_sem]
  have R:=h.lt.2.1;clear hc e1 hv;by_cases hG:(⟨d,v⟩:xB)∈G
  ·have e2:J1 L G ⟨d,v⟩=L:=by unfold J1;rw[if_neg f,if_pos hG]
   rw[e2];clear e2 f;go_enter func264,ntmps264
   (go_wp2_with fail);refine j.mono ?_;rintro e w' ⟨rfl,rfl⟩;go_upto_region 5 with fail
   obtain⟨W,hW⟩:=eR ((w.alloc (.cells (idC d) 23)).alloc (.cells (zZ ⟨d,v⟩) 176))
   rw[<-hW]at h1 k r |-;have t:=h1.cell1;have hk:∀x:Subtype (Bel W),(Instr.lookup 172 (.map (some bg)) (.agg (zZ ⟨d,v⟩)) false).run prog x.1=.ok (.bool true) x.1:=λx=>rhit (h1.gone.below x.2) s hG;have J:=dH h0;have B:=dH hG;clear hW h0 hG j;refine lX W ?_;intro y hS;have b1:=zJ t;have b2:=zV k;refine lZ ?_;refine zC ?_;intro hS;(go_wp2_with fail);go_ret;exact⟨rfl,h1.below hS,(z8.of_below (yM r hS)).mono sI⟩
  ·have e2:J1 L G ⟨d,v⟩=jI vJ L ⟨d,v⟩:=by unfold J1;rw[if_neg f,if_neg hG]
   rw[e2];clear e2 f;go_enter func264,ntmps264
   (go_wp2_with fail);refine j.mono ?_;rintro e w' ⟨rfl,rfl⟩;go_upto_region 5 with fail
   obtain⟨W,hW⟩:=eR ((w.alloc (.cells (idC d) 23)).alloc (.cells (zZ ⟨d,v⟩) 176))
   rw[<-hW]at h1 k r |-;have t:=h1.cell1;have hk:∀x:Subtype (Bel W),(Instr.lookup 172 (.map (some bg)) (.agg (zZ ⟨d,v⟩)) false).run prog x.1=.ok (.bool false) x.1:=λx=>rmiss (h1.gone.below x.2) s hG;have J:=dH h0;have B:=dH hG;clear hW h0 hG j;refine lX W ?_;intro y hS;have b1:=zJ t;have b2:=zV k;refine lZ ?_;refine zC ?_;intro hS;have h2:=h1.below hS;have m:z9 W.drew (w.heap.size+1) 0 33=some (zZ ⟨d,v⟩):=k;have E:Below w.heap.size w W.drew:=yM r hS;clear b1 b2 hk t k h1 y r;go_upto_region 6 with fail
   obtain⟨W1,F⟩:=eR W.drew
   rw[<-F]at h2 m E |-;obtain⟨w2,H,O,I⟩:=rput (x:=⟨d,v⟩) (h2.live.kept (z8.drew W1) sI) s;have D:g∉[bl]:=by simp;exact h2.nel
   have M:=h2.cell0;clear F hS;refine kX [bl] W1 ?_;intro y hS;have b1:=zF M D;have b2:=zY m (S:=[bl]) sO;refine lQ ?_;intro K hK;refine zH (yA hS I sI) (λhS=>?_);refine hK _ _ ?_;clear hK K;refine zC ?_;intro hS;(go_wp2_with fail);go_ret;have N:bg∉[bl]:=by simp;exact λe=>h2.ne e.symm
   have A:z8 [bl] W1 _:=hS;refine⟨rfl,⟨(A.block g h2.lt.1 D).trans h2.blk,O.congr λx=>?_,h2.gone.kept A N,h2.ne,gT tL h2.risL,h2.risG,λx hx=>?_,h2.smG,λx hx=>?_⟩,z8.trans ((z8.of_below E).mono (S':=[bl]) sI) A iL⟩
   ·rw[jB tL,mem_cons]
   ·rcases (jB tL).1 hx with e | hx
    ·rw[e];exact s
    ·exact h2.smL x hx
   ·rcases (jB tL).1 hx with e | hx
    ·rw[e];exact B.out
    ·exact h2.apart x hx
end
theorem row_ne{o k:Nat}(h:z9 w g o k=some cs)(hs:dJ w b X):g≠b:=by
 rintro rfl;obtain⟨M,es,d,hm,_⟩:=hs;unfold z9 at h;rw[hm.heap]at h;cases h
def XC(G:List xB)(v:ByteArray)(tags:List zA):List xB:=tags.foldl (λG t=>jI vJ G ⟨t,v⟩) G
def iN(L:List xB)(v:ByteArray)(tags:List zA):List xB:=tags.foldl (λL t=>L.filter λy=>decide (y≠(⟨t,v⟩:xB))) L
theorem remG_snoc(G:List xB)(v:ByteArray)(d:List zA)(t:zA):XC G v (d ++ [t])=jI vJ (XC G v d) ⟨t,v⟩:=by simp[XC]
theorem remL_snoc(L:List xB)(v:ByteArray)(d:List zA)(t:zA):iN L v (d ++ [t])=(iN L v d).filter λy=>decide (y≠(⟨t,v⟩:xB)):=by simp[iN]
theorem brem_ok(v:ByteArray)(A:Option Addr)(n cap:Nat)(T:List zA)(w:World)(g bl bg:Nat)(L G:List xB)(h:qQ w g bl bg L G)(hT:zW w A n T)(hv:v.size<=16)(hn:n<=1000000) :
  Calls prog 265 #[.pointer (some ⟨g,0,none⟩),.string v,.slice A n cap] w λe w'=>e=.returned (.int .i64 0)/\qQ w' g bl bg (iN L v T) (XC G v T)/\z8 [bl,bg] w w':=by
 have D:=hT.len;have j:=dH D;clear D;have F:=bask v w g bl h.cell0 oM;have e1:VU v=0:=if_neg oM;rw[e1]at F;clear e1;go_enter func265,ntmps265
 (go_wp2_with fail);refine F.mono ?_;rintro e w' ⟨rfl,rfl⟩;(go_wp2_with fail);go_loopw [19] (λi wr=>∃k:Nat,k<=n/\i=.int .i64 k/\qQ wr g bl bg (iN L v (T.take k)) (XC G v (T.take k))/\z8 [bl,bg] w wr) (λi _=>n-(intOf i).toNat)
 case atStart=>exact⟨0,zL,rfl,by simpa[iN,XC]using h,z8.refl _ _⟩
 case round =>
  obtain⟨k,hk,rfl,hB,N⟩:=hrel;by_cases B:k<n
  ·obtain⟨q,o,rfl,m⟩:=hT.get B (by rw[j.out];exact B);have a6:q≠bl:=row_ne m h.live;have a7:q≠bg:=row_ne m h.gone;have a5:z9 wr q (o+k*32) 32=some (idC (T[k]'(by rw[j.out];exact B))):=(N.row (zD m) (by simp[a6,a7]) _ _).trans m;have I:T.take (k+1)=T.take k ++ [T[k]'(by rw[j.out];exact B)]:=by rw[take_add_one,getElem?_eq_getElem (by rw[j.out];exact B)];rfl
   obtain⟨d,hd⟩:=eX (T[k]'(by rw[j.out];exact B))
   rw[hd]at a5 I;have b7:=dH I;clear hd I m;have J:small ⟨d,v⟩:=hv;obtain⟨L1,X⟩:=eX (iN L v (T.take k))
   obtain⟨G1,Y⟩:=eX (XC G v (T.take k))
   have b8:=dH X;have b9:=dH Y;rw[X,Y]at hB;clear X Y;have H:Below wr.heap.size wr ((wr.alloc (.cells (idC d) 23)).alloc (.cells (zZ ⟨d,v⟩) 176)):=(bA).alloc sI _;have h1:=hB.below H;have f:z9 ((wr.alloc (.cells (idC d) 23)).alloc (.cells (zZ ⟨d,v⟩) 176)) (wr.heap.size+1) 0 33=some (zZ ⟨d,v⟩):=by simp[go_sem]
   have a8:=hB.lt;go_upto_region 8 with fail
   obtain⟨W1,a3⟩:=eR ((wr.alloc (.cells (idC d) 23)).alloc (.cells (zZ ⟨d,v⟩) 176))
   rw[<-a3]at h1 f H |-;obtain⟨w2,y,b5,U⟩:=rput (x:=⟨d,v⟩) (h1.gone.kept (z8.drew W1) sI) J;have a1:g∉[bg]:=by simp;exact h1.neg
   have a2:=h1.cell1;clear a3;refine kX [bg] W1 ?_;intro M hS;have b1:=zF a2 a1;have b2:=zY f (S:=[bg]) sO;refine lQ ?_;intro K hK;refine zH (yA hS U sI) (λhS=>?_);refine hK _ _ ?_;clear hK K;refine zC ?_;intro hS;have r:z8 [bg] W1 w2:=hS;have a9:bl∉[bg]:=by simp;exact h1.ne
   have b0:=h1.live.kept r a9;have t:=(r.block g h1.lt.1 a1).trans h1.blk;have V:w2.cell? ⟨g,0,none⟩=some (.map (some bl)):=by rw[cell_of_row w2 g 0 _ _ _ t];rfl
   have s:z9 w2 (wr.heap.size+1) 0 33=some (zZ ⟨d,v⟩):=(r.row (zD f) sO _ _).trans f;have E:z8 [bg] wr w2:=z8.trans ((z8.of_below H).mono (S':=[bg]) sI) r iL;have R:=hB.nel;have a4:=E.size;clear b1 b2 U y M hS r a2 f H;go_upto_region 9 with fail
   obtain⟨w3,y,b4,Z⟩:=rdel (x:=⟨d,v⟩) (b0.kept (z8.drew w2) sI) J 0;have a0:g∉[bl]:=by simp;exact R
   refine kX [bl] w2 ?_;intro M hS;have b1:=zF V a0;have b2:=zY s (S:=[bl]) sO;refine lQ ?_;intro K hK;refine zH (yA hS Z sI) (λhS=>?_);refine hK _ _ ?_;clear hK K;refine zC ?_;intro hS;have r:z8 [bl] w2 w3:=hS;have O:bg∉[bl]:=by simp;exact λe=>h1.ne e.symm
   have b3:z8 [bl,bg] w w3:=z8.trans (z8.trans N E sI) r sI;have b6:qQ w3 g bl bg (iN L v (T.take (k+1))) (XC G v (T.take (k+1))):=by
    rw[b7.out,remL_snoc,remG_snoc,b8.out,b9.out];refine⟨(r.block g (block_lt_of_cell? w2 _ V) a0).trans t,b4,(b5.congr λx=>?_).kept r O,h1.ne,hB.risL.filter _,gT tL hB.risG,λx hx=>hB.smL x (mem_filter.1 hx).1,λx hx=>?_,λx hx=>?_⟩
    ·rw[jB tL,mem_cons]
    ·rcases (jB tL).1 hx with e | hx
     ·rw[e];exact J
     ·exact hB.smG x hx
    ·intro hm;have h2:=mem_filter.1 hx;rcases (jB tL).1 hm with e | hm
     ·exact(decide_eq_true_eq.mp h2.2) e
     ·exact hB.apart x h2.1 hm
   clear b1 b2 Z y M hS r V s;(go_wp2_with fail);go_roundw
   case rel=>exact⟨k+1,oM,by go_num,b6,b3⟩
   case measure=>exact sZ
  ·(go_wp2_with fail);go_ret;have e:k=n:=oM;have e2:T.take k=T:=take_of_length_le (by rw[j.out];omega);rw[e2]at hB;exact⟨rfl,hB,N⟩
structure yV where
 val:ByteArray
 n:Int
 id:zA
def zK(x:yV):Array Value:=#[.string x.val] ++ #[.int .i64 x.n]++idC x.id
@[simp] theorem rM(x:yV):(zK x).size=34:=by simp[zK]
@[go_sem] theorem yz(x:yV):(zK x)[0]?=some (.string x.val):=by first | (simp[zK,Array.getElem?_append];done) | (rw[show zK x=((#[]:Array Value)) ++ #[.string x.val]++(#[.int .i64 x.n]++idC x.id)from by apply Array.ext';simp[zK]];exact xJ _ _ _ _ sI)
@[go_sem] theorem settingC_gg0(x:yV)(h:0<(zK x).size):(zK x)[0]'h=.string x.val:=Option.some.inj ((Array.getElem?_eq_getElem h).symm.trans (yz x))
@[go_sem] theorem yy(x:yV):(zK x)[1]?=some (.int .i64 x.n):=by first | (simp[zK,Array.getElem?_append];done) | (rw[show zK x=(#[.string x.val]) ++ #[.int .i64 x.n]++(idC x.id)from by apply Array.ext';simp[zK]];exact xJ _ _ _ _ sI)
@[go_sem] theorem settingC_gg1(x:yV)(h:1<(zK x).size):(zK x)[1]'h=.int .i64 x.n:=Option.some.inj ((Array.getElem?_eq_getElem h).symm.trans (yy x))
@[go_sem] theorem settingC_e2(x:yV):(zK x).extract 2 34=idC x.id:=by
 have h:zK x=(#[.string x.val] ++ #[.int .i64 x.n])++idC x.id++((#[]:Array Value)):=by first | (simp[zK,Array.append_assoc];done) | (apply Array.ext';simp[zK];done)
 rw[h];exact bZ _ _ _ _ _ sI sI
@[go_sem] theorem settingC_all(x:yV):(zK x).extract 0 34=zK x:=by have:=Array.extract_size (xs:=zK x);rwa [rM]at this
theorem eD(x:yV):∀u∈(zK x).toList,u.oneCell'=true:=by
 intro u hu;simp only[zK,Array.toList_append,mem_append]at hu;rcases hu with(hu | hu) | hu
 ·simp at hu;subst hu;rfl
 ·simp at hu;subst hu;rfl
 ·exact yN _ u hu
def vS:yV:=⟨⟨#[]⟩,0,id0⟩
theorem kj{x y:yV}(h:x.val=y.val/\x.n=y.n/\x.id=y.id):x=y:=by cases x;cases y;simp_all
instance:DecidableEq yV:=λx y=>if h:x.val=y.val/\x.n=y.n/\x.id=y.id then isTrue (kj h)else isFalse (λe=>h (by subst e;simp))
theorem ZH:(prog.info? 185).map (·.size)=some 34:=kR
@[go_sem ↓] theorem mZ(w:World):(zeroValue 185).run prog w=.ok (.agg (zK vS)) w:=by
 have h:(prog.info? 185).bind (·.zero)=some (.agg (zK vS)):=kR;cases hi:prog.info? 185 with
 | none=>rw[hi]at h;cases h
 | some i =>
  rw[hi]at h;have hz:i.zero=some (.agg (zK vS)):=h;simp[zeroValue,typeInfo,hi,hz]
@[go_sem ↓] theorem loadSetting_rw(a:Addr):loadVar 185 a=ldS 185 a:=rfl
@[go_sem ↓] theorem storeSetting_rw(a:Addr)(v:Value):storeVar 185 a v=stS 185 a v:=rfl
@[go_sem] theorem loadSetting_run(w:World)(g o:Nat):(ldS 185 ⟨g,o,none⟩).run prog w=match z9 w g o 34 with | some cs=>.ok (.agg cs) w | none=>(loadVar 185 ⟨g,o,none⟩).run prog w :=
 jD underlying185 rfl ZH w g o
@[go_sem] theorem storeSetting_run(w:World)(g:Nat)(hg:g=w.heap.size)(z:Array Value)(hz:z.size=34)(x:yV)(e:TypeId):(stS 185 ⟨g,0,none⟩ (.agg (zK x))).run prog (w.alloc (.cells z e))=.ok () (w.alloc (.cells (zK x) e)) :=
 hg ▸ xW ZH w z (zK x) hz (rM x) (eD x)
theorem JP:prog.underlying 185=some (.struct (prog.fieldsOf 185)):=kR
theorem JI(w:World):((prog.fieldsOf 185).mapM fun (f:Field)=>do pure (f.offset,<-sizeOf f.type)).run prog w=.ok #[(0,1),(1,1),(2,32)] w:=kR
@[go_sem ↓] theorem buildSetting_rw(parts:Array (Nat×Value)):Instr.build 185 parts=bdS 185 parts:=rfl
@[go_sem ↓] theorem fieldSetting_0(x:yV)(w:World):(Instr.field 185 (.agg (zK x)) 0).run prog w=.ok (.string x.val) w:=by
 unfold Instr.field;simp only[Sem.run_bind,run_underlying underlying185,Result.andThen_ok,part,asAgg,isAgg];simp[go_sem]
@[go_sem] theorem buildSetting(a0:ByteArray)(a1:Int)(a2:zA)(w:World):(bdS 185 #[(0,.string a0),(1,.int .i64 a1),(2,.agg (idC a2))]).run prog w=.ok (.agg (zK ⟨a0,a1,a2⟩)) w:=by
 refine qO w JP _ (mZ w) _ (JI w) [(0,.string a0),(1,.int .i64 a1),(2,.agg (idC a2))] _ ?_;rw[show zK vS=(#[]:Array Value) ++ #[.string ⟨#[]⟩]++(#[.int .i64 0]++(idC id0))from by first | (simp[zK,vS,Array.append_assoc];done) | (apply Array.ext';simp[zK,vS])];rw[yW (off:=0) (size:=1) rfl sI sI (by simp[Value.cells])];rw[show(#[]:Array Value)++(Value.string a0).cells++(#[.int .i64 0]++(idC id0))=(#[.string a0]) ++ #[.int .i64 0]++(idC id0)from by first | (simp[Value.cells,Array.append_assoc];done) | (apply Array.ext';simp[Value.cells];done) | (apply Array.ext';simp only[Array.toList_append];simp[Value.cells])];rw[yW (off:=1) (size:=1) rfl sI sI (by simp[Value.cells])];rw[show(#[.string a0])++(Value.int .i64 a1).cells++(idC id0)=(#[.string a0]++(#[.int .i64 a1]))++idC id0++(#[]:Array Value)from by first | (simp[Value.cells,Array.append_assoc];done) | (apply Array.ext';simp[Value.cells];done) | (apply Array.ext';simp only[Array.toList_append];simp[Value.cells])];rw[yW (off:=2) (size:=32) rfl sI sI (by simp[Value.cells])];first | (simp[Instr.fill,zK,Array.append_assoc,Value.cells];done) | (simp only[Instr.fill,zK];congr 1;apply Array.ext';simp[Value.cells];done) | (simp only[Instr.fill,zK];congr 1;done) | (simp only[Instr.fill,zK];done)
def sS(x y:yV):Int:=orL [fS x.n y.n,yC x.id y.id,qS x.val y.val]
theorem lor3_cells(w:World)(a b c:Int):∀j,j < [a,b,c].length->(w.alloc (.cells #[.int .i64 a,.int .i64 b,.int .i64 c] 3)).cell? ⟨w.heap.size,j,none⟩=some (.int .i64 ([a,b,c].getD j 0)):=by
 intro j hj;have:j=0\/j=1\/j=2:=by simp at hj;omega
 rcases this with rfl | rfl | rfl <;> simp
theorem VN(x y:yV)(w:World):Calls prog 307 #[.agg (zK x),.agg (zK y)] w λe w'=>e=.returned (.int .i64 (sS x y))/\Below w.heap.size w w':=by
 go_enter func307,ntmps307
 go_upto_region 1 with fail
 obtain⟨W,hW⟩:=eR ((w.alloc (.cells (zK x) 185)).alloc (.cells (zK y) 185))
 have hB:Below w.heap.size w W:=by rw[hW];exact(bA).alloc sI _
 have a1:W.cell? ⟨w.heap.size,1,none⟩=some (.int .i64 x.n):=by rw[hW];simp[go_sem]
 have a2:W.cell? ⟨w.heap.size+1,1,none⟩=some (.int .i64 y.n):=by rw[hW];simp[go_sem]
 have a3:z9 W w.heap.size 2 32=some (idC x.id):=by rw[hW];simp[go_sem]
 have a4:z9 W (w.heap.size+1) 2 32=some (idC y.id):=by rw[hW];simp[go_sem]
 have a5:W.cell? ⟨w.heap.size,0,none⟩=some (.string x.val):=by rw[hW];simp[go_sem]
 have a6:W.cell? ⟨w.heap.size+1,0,none⟩=some (.string y.val):=by rw[hW];simp[go_sem]
 rw[<-hW];clear hW;refine lX W ?_;intro d hS;have b1:=zJ a1;have b2:=zJ a2;have b3:=zV a3;have b4:=zV a4;have b5:=zJ a5;have b6:=zJ a6;refine lQ ?_;intro K hK;refine(cmp_int _ _ _).mono ?_;rintro e w' ⟨rfl,rfl⟩;refine⟨_,rfl,hS,hK _ _ ?_⟩;clear hK K;refine lZ ?_;refine lC (aH _ _ _) ?_;clear hS;intro w' hS;refine lQ ?_;intro K hK;refine(r6 _ _ _).mono ?_;rintro e w' ⟨rfl,rfl⟩;refine⟨_,rfl,hS,hK _ _ ?_⟩;clear hK K;refine lH ?_;intro K hK;refine zH (fF hS _) (λhS=>?_);refine hK _ _ ?_;clear hK K;refine lH ?_;intro K hK;refine(BL _ _ [fS x.n y.n,yC x.id y.id,qS x.val y.val] sI _ (lor3_cells _ _ _ _)).mono ?_;rintro e w' ⟨rfl,rfl⟩;refine⟨_,rfl,hS,hK _ _ ?_⟩;clear hK K;refine lZ ?_;refine zC ?_;intro hS;(go_wp2_with fail);go_ret;exact⟨rfl,hB.trans (hS.mono hB.size)⟩
abbrev jC:=ByteArray×yV
theorem cmpS_ne{b:ByteArray}(h1:¬qS a b<0)(h2:a≠b):qS b a<0:=by
 have:=aJ a b;have h3:qS a b≠0:=λe=>h2 ((aI a b).1 e);omega
theorem iD:¬qS a a<0:=by rw[cmpS_self];omega
theorem cmpS_asym{b:ByteArray}(h:qS a b<0):¬qS b a<0:=oH (aJ a b)
def wU:List jC->Prop
 | []=>True
 | x :: l=>(∀y∈l,qS x.1 y.1<0)/\wU l
def dQ:List jC->ByteArray->yV->List jC
 | [],k,x=>[(k,x)]
 | y :: l,k,x=>if qS y.1 k<0 then y :: dQ l k x else if y.1=k then(if 0<sS x y.2 then(k,x) :: l else y :: l)else(k,x) :: y :: l
theorem VZ:∀(l:List jC) (k:ByteArray) (x:yV),∀y∈dQ l k x,y.1=k\/∃z∈l,z.1=y.1
 | [],k,x,y,hy=>by simp[dQ]at hy;left;rw[hy]
 | a :: l,k,x,y,hy=>by
  unfold dQ at hy;split at hy
  ·rcases mem_cons.1 hy with h | h
   ·right;exact⟨a,sI,by rw[h]⟩
   ·rcases VZ l k x y h with h | ⟨z,hz,e⟩
    ·exact .inl h
    ·exact .inr ⟨z,mem_cons.2 (.inr hz),e⟩
  ·split at hy
   ·split at hy
    ·rcases mem_cons.1 hy with h | h
     ·left;rw[h]
     ·right;exact⟨y,mem_cons.2 (.inr h),rfl⟩
    ·right;exact⟨y,hy,rfl⟩
   ·rcases mem_cons.1 hy with h | h
    ·left;rw[h]
    ·right;exact⟨y,h,rfl⟩
theorem ZG:∀(l:List jC) (k:ByteArray) (x:yV),wU l->wU (dQ l k x)
 | [],k,x,_=>⟨sI,trivial⟩
 | a :: l,k,x,h=>by
  unfold dQ;split
  ·rename_i hlt
   refine⟨λy hy=>?_,ZG l k x h.2⟩;rcases VZ l k x y hy with e | ⟨z,hz,e⟩
   ·rw[e];exact hlt
   ·rw[<-e];exact h.1 z hz
  ·rename_i hlt
   split
   ·rename_i he
    split
    ·exact⟨λy hy=>by rw[<-he];exact h.1 y hy,h.2⟩
    ·exact h
   ·rename_i he
    have d:qS k a.1<0:=cmpS_ne hlt he;refine⟨λy hy=>?_,h⟩;rcases mem_cons.1 hy with e | hy
    ·rw[e];exact d
    ·exact mR _ _ _ d (h.1 y hy)
theorem jc:∀(l:List jC) (k:ByteArray) (x:yV),k∉l.map (·.1)->(dQ l k x).Perm (l ++ [(k,x)])
 | [],_,_,_=>Perm.refl _
 | a :: l,k,x,h=>by
  simp only[map_cons,mem_cons,not_or]at h;unfold dQ;split
  ·exact(jc l k x h.2).cons a
  ·rw[if_neg (λe=>h.1 e.symm)];exact(perm_append_singleton (k,x) (a :: l)).symm
theorem Q8:∀(l:List jC) (k:ByteArray) (x was:yV),wU l->(k,was)∈l->dQ l k x=if 0<sS x was then l.map (λp=>if p.1=k then(k,x)else p)else l
 | [],_,_,_,_,h=>by simp at h
 | a :: l,k,x,was,hr,hm=>by
  unfold dQ;rcases mem_cons.1 hm with e | f
  ·subst e;rw[if_neg iD,if_pos rfl];have g:∀p∈l,p.1≠k:=λp hp e=>by
    have:=hr.1 p hp;rw[e]at this;exact iD this
   split
   ·rw[map_cons,if_pos rfl];congr 1
    have:l.map (λp=>if p.1=k then(k,x)else p)=l:=by
     conv=>rhs;rw[<-map_id l]
     exact map_congr_left λp hp=>by rw[if_neg (g p hp)];rfl
    rw[this]
   ·rfl
  ·have d:qS a.1 k<0:=hr.1 _ f;rw[if_pos d,Q8 l k x was hr.2 f];have j:a.1≠k:=λe=>(by rw[e]at d;exact iD d);split
   ·rw[map_cons,if_neg j]
   ·rfl
def j4(k:ByteArray)(x:yV):Int:=if 16<k.size\/16<x.val.size then 3 else if x.n<0\/2147483648<=x.n then 5 else 0
def JG(l:List jC)(k:ByteArray)(x:yV):List jC:=if j4 k x=0 then dQ l k x else l
def RowsOk(l:List jC):Prop:=wU l/\∀p∈l,j4 p.1 p.2=0
theorem lV{x:yV}(h:j4 k x=0):k.size<=16/\x.val.size<=16/\0<=x.n/\x.n<2147483648:=by
 unfold j4 at h;split at h
 ·omega
 ·split at h
  ·omega
  ·omega
theorem jd:∀(l:List jC) (k:ByteArray) (x:yV),∀y∈dQ l k x,y=(k,x)\/y∈l
 | [],k,x,y,hy=>by simp[dQ]at hy;exact .inl hy
 | a :: l,k,x,y,hy=>by
  unfold dQ at hy;split at hy
  ·rcases mem_cons.1 hy with h | h
   ·exact .inr (by rw[h];simp)
   ·rcases jd l k x y h with h | h
    ·exact .inl h
    ·exact .inr (mem_cons.2 (.inr h))
  ·split at hy
   ·split at hy
    ·rcases mem_cons.1 hy with h | h
     ·exact .inl h
     ·exact .inr (mem_cons.2 (.inr h))
    ·exact .inr hy
   ·rcases mem_cons.1 hy with h | h
    ·exact .inl h
    ·exact .inr h
theorem setL_ok{l:List jC}(h:RowsOk l)(k:ByteArray)(x:yV):RowsOk (JG l k x):=by
 unfold JG;split
 ·rename_i hc
  refine⟨ZG l k x h.1,λp hp=>?_⟩;rcases jd l k x p hp with e | hp
  ·rw[e];exact hc
  ·exact h.2 p hp
 ·exact h
theorem je(l:List jC)(k:ByteArray)(x:yV):(dQ l k x).length<=l.length+1:=by
 induction l with
 | nil=>simp[dQ]
 | cons a l ih =>
  unfold dQ
  repeat' split
  all_goals simp;try omega
theorem xa(l:List jC)(k:ByteArray)(x:yV):(JG l k x).length<=l.length+1:=by
 unfold JG;split
 ·exact je l k x
 ·omega
def pD(l:List jC)(k:ByteArray):Option yV:=(l.find? (λp=>decide (p.1=k))).map (·.2)
theorem wO(k:ByteArray)(x:yV)(w:World)(hk:k.size<=9223372036854775807)(hv:x.val.size<=9223372036854775807) :
  Calls prog 210 #[.string k,.agg (zK x)] w λe w'=>e=.returned (.int .i64 (j4 k x))/\Below w.heap.size w w':=by
 obtain⟨xv,xn,xi⟩:=x;dsimp only at hv;go_enter func210,ntmps210
 go_wp2_with fail
 all_goals
  go_ret;refine⟨y9 ?_,bA⟩;unfold j4
  first
   | rw[if_pos (by simp only;omega)]
   | rw[if_neg (by simp only;omega),if_pos (by simp only;omega)]
   | rw[if_neg (by simp only;omega),if_neg (by simp only;omega)]
theorem dB:bD prog 9 Value.string (λk:ByteArray=>k.size<=maxLen) where
 law:=WideMaps.string_law underlying9
 key:=λk hk=>by
  refine⟨.string k.data.toList,?_⟩;simp[keyOf,mapKey,underlying9,hk]
 inj:=λa b h=>by injection h
def setV(x:yV):Value:=.agg (zK x)
structure xC(w:World)(g b:Nat)(L:List jC):Prop where
 blk:w.heap[g]?=some (.cells #[.map (some b)] 183 (0,0))
 map:∃M es clk,yK w b Value.string setV (λk=>k.size<=maxLen) M es clk/\M.Perm L
 rows:RowsOk L
theorem xC.cell{w:World}{g b:Nat}{L:List jC}(h:xC w g b L):w.cell? ⟨g,0,none⟩=some (.map (some b)):=by
 rw[cell_of_row w g 0 _ _ _ h.blk];rfl
theorem xC.ne{L:List jC}(h:xC w g b L):g≠b:=by
 rintro rfl;obtain⟨M,es,d,hm,_⟩:=h.map;have:=h.blk;rw[hm.heap]at this;cases this
theorem xC.lt{w:World}{g b:Nat}{L:List jC}(h:xC w g b L):g<w.heap.size/\b<w.heap.size:=by
 obtain⟨M,es,d,hm,_⟩:=h.map;exact⟨block_lt_of_cell? w _ h.cell,hm.lt⟩
theorem xC.kept{w w':World}{g b:Nat}{L:List jC}{S:List Nat}(h:xC w g b L)(k:z8 S w w')(hg:g∉S)(hb:b∉S):xC w' g b L:=by
 obtain⟨M,es,d,hm,hp⟩:=h.map;exact⟨(k.block g h.lt.1 hg).trans h.blk,⟨M,es,d,hm.kept k hb,hp⟩,h.rows⟩
theorem xC.below{w':World}{L:List jC}(h:xC w g b L)(k:Below w.heap.size w w'):xC w' g b L :=
 h.kept (z8.of_below k) sI sI
theorem wN(w:World)(g b:Nat)(h:w.cell? ⟨g,0,none⟩=some (.map (some b))):Calls prog 128 #[.pointer (some ⟨g,0,none⟩)] w λe w'=>e=.returned (.bool false)/\w=w':=by
 have hn:=λr=>run_eql_map_nil (P:=prog) w 181 9 185 r underlying181;go_enter func128,ntmps128
 (go_wp2_with fail);go_ret;exact⟨rfl,rfl⟩
theorem lnew(w:World):Calls prog 166 #[] w λe w'=>∃g b,e=.returned (.pointer (some ⟨g,0,none⟩))/\xC w' g b []/\w.heap.size<=g/\w.heap.size<=b/\Below w.heap.size w w':=by
 have d:=@run_makeMap prog;go_enter func166,ntmps166
 (go_wp2_with fail);go_ret;refine⟨w.heap.size+1,w.heap.size,rfl,⟨?_,⟨[],#[],0,?_,Perm.refl _⟩,⟨trivial,sI⟩⟩,oM,oM,(bA).alloc sI _⟩
 ·exact heap_alloc2_new w _ _
 ·exact(yK.new w w.heap.size rfl).kept (z8.alloc _ _) sI
theorem QI{l:List jC}{x:yV}(h:pD l k=some x):(k,x)∈l:=by
 unfold pD at h;cases hf:l.find? (λp=>decide (p.1=k))with
 | none=>rw[hf]at h;cases h
 | some p =>
  rw[hf]at h;have h1:=mem_of_find?_eq_some hf;have h2:=find?_some hf;have h3:p.1=k:=by simpa using h2
  have h4:p.2=x:=by simpa using h
  rw[<-h3,<-h4];exact h1
theorem K8{l:List jC}(h:pD l k=none):k∉l.map (·.1):=by
 unfold pD at h;intro hm;obtain⟨p,hp,e⟩:=mem_map.1 hm;cases hf:l.find? (λp=>decide (p.1=k))with
 | none=>have:=find?_eq_none.1 hf p hp;simp[e]at this
 | some q=>rw[hf]at h;cases h
theorem xC.look{L:List jC}(h:xC w g b L)(hk:k.size<=maxLen) :
  (Instr.lookup 181 (.map (some b)) (.string k) true).run prog w=.ok (.tuple #[.agg (zK ((pD L k).getD vS)),.bool (pD L k).isSome]) w:=by
 obtain⟨M,es,j,hm,hp⟩:=h.map;cases hg:pD L k with
 | none =>
  have d:k∉M.map (·.1):=λhx=>K8 hg ((hp.map (·.1)).mem_iff.1 hx);exact hm.miss dB underlying181 (mZ w) hk d true
 | some x =>
  have f:(k,x)∈M:=hp.mem_iff.2 (QI hg);exact hm.hit dB underlying181 hk f true
theorem lset_bad(k v:ByteArray)(n:Int)(d:zA)(w:World)(g b:Nat)(L:List jC)(h:xC w g b L)(hk:k.size<=9223372036854775807)(hv:v.size<=9223372036854775807)(f:j4 k ⟨v,n,d⟩≠0) :
  Calls prog 266 #[.pointer (some ⟨g,0,none⟩),.string k,.string v,.int .i64 n,.agg (idC d)] w λe w'=>e=.returned (.int .i64 (j4 k ⟨v,n,d⟩))/\Below w.heap.size w w':=by
 have hc:(w.alloc (.cells (idC d) 23)).cell? ⟨g,0,none⟩=some (.map (some b)):=(cell?_alloc_lt w _ _ h.lt.1).trans h.cell;have hn:(j4 k ⟨v,n,d⟩ != 0)=true:=by rw[bne_iff_ne];exact f
 clear f;go_enter func266,ntmps266
 (go_wp2_with fail);refine(wN _ _ _ hc).mono ?_;rintro e w' ⟨rfl,rfl⟩;(go_wp2_with fail);refine(wO _ ⟨v,n,d⟩ _ hk hv).mono ?_;rintro e w' ⟨rfl,hb⟩;(go_wp2_with fail);go_ret;exact⟨rfl,yM ((bA).alloc sI _) hb⟩
theorem xC.put{L:List jC}(h:xC w g b L){x:yV}(hk:j4 k x=0)(hx:∀was,pD L k=some was->0<sS x was) :
  ∃w',(Instr.mapUpdate 181 (.map (some b)) (.string k) (.agg (zK x))).run prog w=.ok () w'/\xC w' g b (dQ L k x)/\z8 [b] w w':=by
 obtain⟨M,es,t,hm,hp⟩:=h.map;have r:k.size<=maxLen:=by have:=(lV hk).1;simp only[maxLen];omega
 obtain⟨w',s,j,f,m,d⟩:=hm.update (v:=x) dB underlying181 r;refine⟨w',f,⟨(d.block g h.lt.1 (by simp;exact h.ne)).trans h.blk,⟨_,s,j,m,?_⟩,?_⟩,d⟩
 ·unfold bJ;cases hg:pD L k with
  | none =>
   have h1:=K8 hg;have h2:k∉M.map (·.1):=λhx=>h1 ((hp.map (·.1)).mem_iff.1 hx);rw[if_neg h2];exact(hp.append_right _).trans (jc L k x h1).symm
  | some was =>
   have h1:=QI hg;have h2:k∈M.map (·.1):=mem_map.2 ⟨_,hp.mem_iff.2 h1,rfl⟩;rw[if_pos h2,Q8 L k x was h.rows.1 h1,if_pos (hx was hg)];exact hp.map _
 ·have:=setL_ok h.rows k x;unfold JG at this
  rwa [if_pos hk]at this
theorem lset_new(k v:ByteArray)(n:Int)(d:zA)(w:World)(g b:Nat)(L:List jC)(h:xC w g b L)(m:j4 k ⟨v,n,d⟩=0)(hg:pD L k=none) :
  Calls prog 266 #[.pointer (some ⟨g,0,none⟩),.string k,.string v,.int .i64 n,.agg (idC d)] w λe w'=>e=.returned (.int .i64 0)/\xC w' g b (dQ L k ⟨v,n,d⟩)/\z8 [b] w w':=by
 have s:=lV m;have hk:k.size<=9223372036854775807:=oM;have hv:v.size<=9223372036854775807:=by have:=s.2.1;simp only at this;omega
 have B:k.size<=maxLen:=by simp only[maxLen];omega
 clear s;have hc:(w.alloc (.cells (idC d) 23)).cell? ⟨g,0,none⟩=some (.map (some b)):=(cell?_alloc_lt w _ _ h.lt.1).trans h.cell;have t:Below w.heap.size w ((w.alloc (.cells (idC d) 23)).alloc (.cells (zK ⟨v,n,d⟩) 185)):=(bA).alloc sI _;have hn:(j4 k ⟨v,n,d⟩ != 0)=false:=by rw[m];rfl
 have I:=dH m;clear m;have Hg:=dH hg;clear hg;go_enter func266,ntmps266
 (go_wp2_with fail);refine(wN _ _ _ hc).mono ?_;rintro e w' ⟨rfl,rfl⟩;(go_wp2_with fail);refine(wO _ ⟨v,n,d⟩ _ hk hv).mono ?_;rintro e w1 ⟨rfl,hb⟩;have r:=yM t hb;have h1:=h.below r;have R:=h1.cell;have A:=h1.look B;simp only[Hg.out,Option.getD_none,Option.isSome_none]at A;have j:z9 w1 (w.heap.size+1) 0 34=some (zK ⟨v,n,d⟩):=by
  rw[zG (hb.block (w.heap.size+1) sI) 0 34];simp[go_sem]
 have M:w.heap.size+1<w1.heap.size:=by have:=hb.size;simp at this;omega
 have h2:xC (w1.alloc (.cells (zK vS) 185)) g b L:=h1.kept (z8.alloc _ _) sI sI;have f:z9 (w1.alloc (.cells (zK vS) 185)) (w.heap.size+1) 0 34=some (zK ⟨v,n,d⟩):=((z8.alloc w1 _).row oM sI 0 34).trans j;have G:Below w.heap.size w (w1.alloc (.cells (zK vS) 185)):=r.alloc oM _;clear j hb t hc;go_upto_region 10 with fail
 generalize w1.alloc (.cells (zK vS) 185)=W at *;obtain⟨w2,y,H,D⟩:=(h2.kept (z8.drew W) sI sI).put I.out (λJ e=>by rw[Hg.out]at e;cases e);have E:g∉[b]:=by simp;exact h.ne
 have F:=h2.cell;have O:=h.lt.2;refine kX [b] W ?_;intro N hS;have b1:=zF F E;have b2:=zY f (S:=[b]) sO;refine lQ ?_;intro K hK;refine zH (yA hS D sI) (λhS=>?_);refine hK _ _ ?_;clear hK K;refine zC ?_;intro hS;(go_wp2_with fail);go_ret;exact⟨rfl,H,z8.trans ((z8.of_below G).mono (S':=[b]) sI) hS iL⟩
theorem lset_later(k v:ByteArray)(n:Int)(d:zA)(w:World)(g b:Nat)(L:List jC)(h:xC w g b L)(s:j4 k ⟨v,n,d⟩=0)(j:yV)(hg:pD L k=some j)(G:0<sS ⟨v,n,d⟩ j) :
  Calls prog 266 #[.pointer (some ⟨g,0,none⟩),.string k,.string v,.int .i64 n,.agg (idC d)] w λe w'=>e=.returned (.int .i64 0)/\xC w' g b (dQ L k ⟨v,n,d⟩)/\z8 [b] w w':=by
 have D:=lV s;have hk:k.size<=9223372036854775807:=oM;have hv:v.size<=9223372036854775807:=by have:=D.2.1;simp only at this;omega
 have I:k.size<=maxLen:=by simp only[maxLen];omega
 clear D;have hc:(w.alloc (.cells (idC d) 23)).cell? ⟨g,0,none⟩=some (.map (some b)):=(cell?_alloc_lt w _ _ h.lt.1).trans h.cell;have E:Below w.heap.size w ((w.alloc (.cells (idC d) 23)).alloc (.cells (zK ⟨v,n,d⟩) 185)):=(bA).alloc sI _;have hn:(j4 k ⟨v,n,d⟩ != 0)=false:=by rw[s];rfl
 have T:=dH s;clear s;have Hg:=dH hg;clear hg;go_enter func266,ntmps266
 (go_wp2_with fail);refine(wN _ _ _ hc).mono ?_;rintro e w' ⟨rfl,rfl⟩;(go_wp2_with fail);refine(wO _ ⟨v,n,d⟩ _ hk hv).mono ?_;rintro e w1 ⟨rfl,hb⟩;have B:=yM E hb;have h1:=h.below B;have Z:=h1.cell;have H:=h1.look I;simp only[Hg.out,Option.getD_some,Option.isSome_some]at H;have r:z9 w1 (w.heap.size+1) 0 34=some (zK ⟨v,n,d⟩):=by
  rw[zG (hb.block (w.heap.size+1) sI) 0 34];simp[go_sem]
 have V:w.heap.size+1<w1.heap.size:=by have:=hb.size;simp at this;omega
 have h2:xC (w1.alloc (.cells (zK j) 185)) g b L:=h1.kept (z8.alloc _ _) sI sI;have f:z9 (w1.alloc (.cells (zK j) 185)) (w.heap.size+1) 0 34=some (zK ⟨v,n,d⟩):=((z8.alloc w1 _).row oM sI 0 34).trans r;have O:Below w.heap.size w (w1.alloc (.cells (zK j) 185)):=B.alloc oM _;have y:z9 (w1.alloc (.cells (zK j) 185)) w1.heap.size 0 34=some (zK j):=by simp[go_sem]
 clear hb E hc;(go_wp2_with fail);refine(VN _ _ _).mono ?_;rintro e W ⟨rfl,t⟩;have A:=yM O t;have h3:=h2.below t;have m:z9 W (w.heap.size+1) 0 34=some (zK ⟨v,n,d⟩):=(zG (t.block (w.heap.size+1) sO) 0 34).trans f;clear r f t y;go_upto_region 10 with fail
 obtain⟨w2,F,R,J⟩:=(h3.kept (z8.drew W) sI sI).put T.out (λx e=>by rw[Hg.out]at e;injection e with e;subst e;exact G);have M:g∉[b]:=by simp;exact h.ne
 have N:=h3.cell;have Y:=h.lt.2;refine kX [b] W ?_;intro X hS;have b1:=zF N M;have b2:=zY m (S:=[b]) sO;refine lQ ?_;intro K hK;refine zH (yA hS J sI) (λhS=>?_);refine hK _ _ ?_;clear hK K;refine zC ?_;intro hS;(go_wp2_with fail);go_ret;exact⟨rfl,R,z8.trans ((z8.of_below A).mono (S':=[b]) sI) hS iL⟩
theorem lset_same(k v:ByteArray)(n:Int)(d:zA)(w:World)(g b:Nat)(L:List jC)(h:xC w g b L)(r:j4 k ⟨v,n,d⟩=0)(j:yV)(hg:pD L k=some j)(J:¬0<sS ⟨v,n,d⟩ j) :
  Calls prog 266 #[.pointer (some ⟨g,0,none⟩),.string k,.string v,.int .i64 n,.agg (idC d)] w λe w'=>e=.returned (.int .i64 0)/\xC w' g b L/\Below w.heap.size w w':=by
 have D:=lV r;have hk:k.size<=9223372036854775807:=oM;have hv:v.size<=9223372036854775807:=by have:=D.2.1;simp only at this;omega
 have G:k.size<=maxLen:=by simp only[maxLen];omega
 clear D;have hc:(w.alloc (.cells (idC d) 23)).cell? ⟨g,0,none⟩=some (.map (some b)):=(cell?_alloc_lt w _ _ h.lt.1).trans h.cell;have E:Below w.heap.size w ((w.alloc (.cells (idC d) 23)).alloc (.cells (zK ⟨v,n,d⟩) 185)):=(bA).alloc sI _;have hn:(j4 k ⟨v,n,d⟩ != 0)=false:=by rw[r];rfl
 have N:=dH r;clear r;have Hg:=dH hg;clear hg;go_enter func266,ntmps266
 (go_wp2_with fail);refine(wN _ _ _ hc).mono ?_;rintro e w' ⟨rfl,rfl⟩;(go_wp2_with fail);refine(wO _ ⟨v,n,d⟩ _ hk hv).mono ?_;rintro e w1 ⟨rfl,hb⟩;have A:=yM E hb;have h1:=h.below A;have M:=h1.cell;have F:=h1.look G;simp only[Hg.out,Option.getD_some,Option.isSome_some]at F;have m:z9 w1 (w.heap.size+1) 0 34=some (zK ⟨v,n,d⟩):=by
  rw[zG (hb.block (w.heap.size+1) sI) 0 34];simp[go_sem]
 have I:w.heap.size+1<w1.heap.size:=by have:=hb.size;simp at this;omega
 have h2:xC (w1.alloc (.cells (zK j) 185)) g b L:=h1.kept (z8.alloc _ _) sI sI;have f:z9 (w1.alloc (.cells (zK j) 185)) (w.heap.size+1) 0 34=some (zK ⟨v,n,d⟩):=((z8.alloc w1 _).row oM sI 0 34).trans m;have H:Below w.heap.size w (w1.alloc (.cells (zK j) 185)):=A.alloc oM _;have t:z9 (w1.alloc (.cells (zK j) 185)) w1.heap.size 0 34=some (zK j):=by simp[go_sem]
 clear hb E hc;(go_wp2_with fail);refine(VN _ _ _).mono ?_;rintro e W ⟨rfl,s⟩;have y:=yM H s;have h3:=h2.below s;have B:z9 W (w.heap.size+1) 0 34=some (zK ⟨v,n,d⟩):=(zG (s.block (w.heap.size+1) sO) 0 34).trans f;clear m f s t;(go_wp2_with fail);go_ret;exact⟨rfl,h3,y⟩
theorem lset(k v:ByteArray)(n:Int)(d:zA)(w:World)(g b:Nat)(L:List jC)(h:xC w g b L)(hk:k.size<=9223372036854775807)(hv:v.size<=9223372036854775807) :
  Calls prog 266 #[.pointer (some ⟨g,0,none⟩),.string k,.string v,.int .i64 n,.agg (idC d)] w λe w'=>e=.returned (.int .i64 (j4 k ⟨v,n,d⟩))/\xC w' g b (JG L k ⟨v,n,d⟩)/\z8 [b] w w':=by
 by_cases hc:j4 k ⟨v,n,d⟩=0
 ·have hs:JG L k ⟨v,n,d⟩=dQ L k ⟨v,n,d⟩:=if_pos hc;rw[hc,hs];cases hg:pD L k with
  | none=>exact lset_new k v n d w g b L h hc hg
  | some was =>
   by_cases f:0<sS ⟨v,n,d⟩ was
   ·exact lset_later k v n d w g b L h hc was hg f
   ·have e:dQ L k ⟨v,n,d⟩=L:=by rw[Q8 L k _ was h.rows.1 (QI hg),if_neg f]
    rw[e];exact(lset_same k v n d w g b L h hc was hg f).mono λe w' ⟨he,h1,h2⟩=>⟨he,h1,(z8.of_below h2).mono sI⟩
 ·have hs:JG L k ⟨v,n,d⟩=L:=if_neg hc;rw[hs];exact(lset_bad k v n d w g b L h hk hv hc).mono λe w' ⟨he,h2⟩=>⟨he,h.below h2,(z8.of_below h2).mono sI⟩
structure qN where
 id:zA
 key:ByteArray
 val:ByteArray
def zQ(x:qN):Array Value:=idC x.id ++ #[.string x.key] ++ #[.string x.val]
@[simp] theorem gC(x:qN):(zQ x).size=34:=by simp[zQ]
@[go_sem] theorem XX(x:qN):(zQ x).extract 0 32=idC x.id:=by
 have h:zQ x=((#[]:Array Value))++idC x.id++(#[.string x.key] ++ #[.string x.val]):=by first | (simp[zQ,Array.append_assoc];done) | (apply Array.ext';simp[zQ];done)
 rw[h];exact bZ _ _ _ _ _ sI sI
@[go_sem] theorem iT(x:qN):(zQ x)[32]?=some (.string x.key):=by first | (simp[zQ,Array.getElem?_append];done) | (rw[show zQ x=(idC x.id) ++ #[.string x.key]++(#[.string x.val])from by apply Array.ext';simp[zQ]];exact xJ _ _ _ _ sI)
@[go_sem] theorem mRowC_gg32(x:qN)(h:32<(zQ x).size):(zQ x)[32]'h=.string x.key:=Option.some.inj ((Array.getElem?_eq_getElem h).symm.trans (iT x))
@[go_sem] theorem iS(x:qN):(zQ x)[33]?=some (.string x.val):=by first | (simp[zQ,Array.getElem?_append];done) | (rw[show zQ x=(idC x.id ++ #[.string x.key]) ++ #[.string x.val]++((#[]:Array Value))from by apply Array.ext';simp[zQ]];exact xJ _ _ _ _ sI)
@[go_sem] theorem mRowC_gg33(x:qN)(h:33<(zQ x).size):(zQ x)[33]'h=.string x.val:=Option.some.inj ((Array.getElem?_eq_getElem h).symm.trans (iS x))
@[go_sem] theorem mRowC_all(x:qN):(zQ x).extract 0 34=zQ x:=by have:=Array.extract_size (xs:=zQ x);rwa [gC]at this
theorem mRowC_inj{x y:qN}(h:zQ x=zQ y):x=y:=by
 have h0:=congrArg (λa=>a.extract 0 32) h;simp only[XX]at h0;have h0:=BS h0;have h1:=congrArg (λa=>a[32]?) h;simp only[iT,Option.some.injEq,Value.string.injEq]at h1;have h2:=congrArg (λa=>a[33]?) h;simp only[iS,Option.some.injEq,Value.string.injEq]at h2;cases x;cases y;simp_all
theorem lM(x:qN):∀u∈(zQ x).toList,u.oneCell'=true:=by
 intro u hu;simp only[zQ,Array.toList_append,mem_append]at hu;rcases hu with(hu | hu) | hu
 ·exact yN _ u hu
 ·simp at hu;subst hu;rfl
 ·simp at hu;subst hu;rfl
def nY:qN:=⟨id0,⟨#[]⟩,⟨#[]⟩⟩
theorem MRow_ext{x y:qN}(h:x.id=y.id/\x.key=y.key/\x.val=y.val):x=y:=by cases x;cases y;simp_all
instance:DecidableEq qN:=λx y=>if h:x.id=y.id/\x.key=y.key/\x.val=y.val then isTrue (MRow_ext h)else isFalse (λe=>h (by subst e;simp))
theorem QB:(prog.info? 189).map (·.size)=some 34:=kR
@[go_sem ↓] theorem cB(w:World):(zeroValue 189).run prog w=.ok (.agg (zQ nY)) w:=by
 have h:(prog.info? 189).bind (·.zero)=some (.agg (zQ nY)):=kR;cases hi:prog.info? 189 with
 | none=>rw[hi]at h;cases h
 | some i =>
  rw[hi]at h;have hz:i.zero=some (.agg (zQ nY)):=h;simp[zeroValue,typeInfo,hi,hz]
@[go_sem ↓] theorem loadMRow_rw(a:Addr):loadVar 189 a=ldS 189 a:=rfl
@[go_sem ↓] theorem storeMRow_rw(a:Addr)(v:Value):storeVar 189 a v=stS 189 a v:=rfl
@[go_sem] theorem loadMRow_run(w:World)(g o:Nat):(ldS 189 ⟨g,o,none⟩).run prog w=match z9 w g o 34 with | some cs=>.ok (.agg cs) w | none=>(loadVar 189 ⟨g,o,none⟩).run prog w :=
 jD underlying189 rfl QB w g o
@[go_sem] theorem storeMRow_run(w:World)(g:Nat)(hg:g=w.heap.size)(z:Array Value)(hz:z.size=34)(x:qN)(e:TypeId):(stS 189 ⟨g,0,none⟩ (.agg (zQ x))).run prog (w.alloc (.cells z e))=.ok () (w.alloc (.cells (zQ x) e)) :=
 hg ▸ xW QB w z (zQ x) hz (gC x) (lM x)
theorem QM:prog.underlying 189=some (.struct (prog.fieldsOf 189)):=kR
theorem XH(w:World):((prog.fieldsOf 189).mapM fun (f:Field)=>do pure (f.offset,<-sizeOf f.type)).run prog w=.ok #[(0,32),(32,1),(33,1)] w:=kR
@[go_sem ↓] theorem buildMRow_rw(parts:Array (Nat×Value)):Instr.build 189 parts=bdS 189 parts:=rfl
@[go_sem] theorem buildMRow(a0:zA)(a1:ByteArray)(a2:ByteArray)(w:World):(bdS 189 #[(0,.agg (idC a0)),(1,.string a1),(2,.string a2)]).run prog w=.ok (.agg (zQ ⟨a0,a1,a2⟩)) w:=by
 refine qO w QM _ (cB w) _ (XH w) [(0,.agg (idC a0)),(1,.string a1),(2,.string a2)] _ ?_;rw[show zQ nY=(#[]:Array Value)++idC id0++(#[.string ⟨#[]⟩]++(#[.string ⟨#[]⟩]))from by first | (simp[zQ,nY,Array.append_assoc];done) | (apply Array.ext';simp[zQ,nY])];rw[yW (off:=0) (size:=32) rfl sI sI (by simp[Value.cells])];rw[show(#[]:Array Value)++(Value.agg (idC a0)).cells++(#[.string ⟨#[]⟩]++(#[.string ⟨#[]⟩]))=(idC a0) ++ #[.string ⟨#[]⟩]++(#[.string ⟨#[]⟩])from by first | (simp[Value.cells,Array.append_assoc];done) | (apply Array.ext';simp[Value.cells];done) | (apply Array.ext';simp only[Array.toList_append];simp[Value.cells])];rw[yW (off:=32) (size:=1) rfl sI sI (by simp[Value.cells])];rw[show(idC a0)++(Value.string a1).cells++(#[.string ⟨#[]⟩])=(idC a0++(#[.string a1])) ++ #[.string ⟨#[]⟩]++(#[]:Array Value)from by first | (simp[Value.cells,Array.append_assoc];done) | (apply Array.ext';simp[Value.cells];done) | (apply Array.ext';simp only[Array.toList_append];simp[Value.cells])];rw[yW (off:=33) (size:=1) rfl sI sI (by simp[Value.cells])];first | (simp[Instr.fill,zQ,Array.append_assoc,Value.cells];done) | (simp only[Instr.fill,zQ];congr 1;apply Array.ext';simp[Value.cells];done) | (simp only[Instr.fill,zQ];congr 1;done) | (simp only[Instr.fill,zQ];done)
@[go_sem] theorem buildMRow_0(a0:zA)(w:World):(bdS 189 #[(0,.agg (idC a0))]).run prog w=.ok (.agg (zQ ⟨a0,⟨#[]⟩,⟨#[]⟩⟩)) w:=by
 refine qO w QM _ (cB w) _ (XH w) [(0,.agg (idC a0))] _ ?_;rw[show zQ nY=(#[]:Array Value)++idC id0++(#[.string ⟨#[]⟩]++(#[.string ⟨#[]⟩]))from by first | (simp[zQ,nY,Array.append_assoc];done) | (apply Array.ext';simp[zQ,nY])];rw[yW (off:=0) (size:=32) rfl sI sI (by simp[Value.cells])];first | (simp[Instr.fill,zQ,Array.append_assoc,Value.cells];done) | (simp only[Instr.fill,zQ];congr 1;apply Array.ext';simp[Value.cells];done) | (simp only[Instr.fill,zQ];congr 1;done) | (simp only[Instr.fill,zQ];done)
instance:Inhabited qN:=⟨nY⟩
def jU(x y:qN):Int:=orL [yC x.id y.id,qS x.key y.key,qS x.val y.val]
theorem orL3(a b c:Int):orL [a,b,c]=orC a (orC b c):=by
 unfold orC orL orL orL orL;split
 ·split
  ·split <;> simp_all
  ·rfl
 ·rfl
theorem YT:qJ jU:=(vM.pair (JC.pair JC)).of (λx:qN=>(x.id,x.key,x.val)) (λx y h=>by
 cases x;cases y
 simp only[Prod.mk.injEq]at h;obtain⟨h1,h2,h3⟩:=h;subst h1;subst h2;subst h3;rfl) (λx y=>orL3 _ _ _)
theorem or3_cells(w:World)(a b c:Int):∀j,j < [a,b,c].length->(w.alloc (.cells #[.int .i64 a,.int .i64 b,.int .i64 c] 3)).cell? ⟨w.heap.size,j,none⟩=some (.int .i64 ([a,b,c].getD j 0)):=by
 intro j hj;have:j=0\/j=1\/j=2:=by simp at hj;omega
 rcases this with rfl | rfl | rfl <;> simp
theorem morder(x y:qN)(w:World):Calls prog 189 #[.agg (zQ x),.agg (zQ y)] w λe w'=>e=.returned (.int .i64 (jU x y))/\Gr w w':=by
 go_enter func189,ntmps189
 go_upto_region 1 with fail
 obtain⟨W,hW⟩:=eR ((w.alloc (.cells (zQ x) 189)).alloc (.cells (zQ y) 189))
 have hB:Gr w W:=by rw[hW];exact((Gr.refl _).alloc _).alloc _
 have a3:z9 W w.heap.size 0 32=some (idC x.id):=by rw[hW];simp[go_sem]
 have a4:z9 W (w.heap.size+1) 0 32=some (idC y.id):=by rw[hW];simp[go_sem]
 have a5:W.cell? ⟨w.heap.size,32,none⟩=some (.string x.key):=by rw[hW];simp[go_sem]
 have a6:W.cell? ⟨w.heap.size+1,32,none⟩=some (.string y.key):=by rw[hW];simp[go_sem]
 have a7:W.cell? ⟨w.heap.size,33,none⟩=some (.string x.val):=by rw[hW];simp[go_sem]
 have a8:W.cell? ⟨w.heap.size+1,33,none⟩=some (.string y.val):=by rw[hW];simp[go_sem]
 rw[<-hW];clear hW;refine bF (Gr W) false kR kR kR (Gr.drew W) ?_;have d:=BV W;have hS:=Gr.drew W;have b3:=eZ a3;have b4:=eZ a4;have b5:=kC a5;have b6:=kC a6;have b7:=kC a7;have b8:=kC a8;refine lQ ?_;intro K hK;refine(aF _ _ _).mono ?_;rintro e w' ⟨rfl,hb⟩;replace hS:=Gr.trans hS hb;refine⟨_,rfl,hS,hK _ _ ?_⟩;clear hK K hb;refine lQ ?_;intro K hK;refine(r6 _ _ _).mono ?_;rintro e w' ⟨rfl,rfl⟩;refine⟨_,rfl,hS,hK _ _ ?_⟩;clear hK K;refine lQ ?_;intro K hK;refine(r6 _ _ _).mono ?_;rintro e w' ⟨rfl,rfl⟩;refine⟨_,rfl,hS,hK _ _ ?_⟩;clear hK K;refine lH ?_;intro K hK;refine zH (Gr.alloc hS _) (λhS=>?_);refine hK _ _ ?_;clear hK K;refine lH ?_;intro K hK;refine(BL _ _ [yC x.id y.id,qS x.key y.key,qS x.val y.val] sI _ (or3_cells _ _ _ _)).mono ?_;rintro e w' ⟨rfl,rfl⟩;refine⟨_,rfl,hS,hK _ _ ?_⟩;clear hK K;refine lZ ?_;refine zC ?_;intro hS;(go_wp2_with fail);go_ret;exact⟨rfl,hB.trans hS⟩
theorem cellsMR:prog.cellsOf 189=34:=kR
theorem rowMR:189<prog.types.size:=of_decide_eq_true kR
abbrev okM(x:qN):Prop:=x.key.size<=maxLen/\x.val.size<=maxLen
theorem BR(d:Nat){x:qN}(h:okM x):∃l,prog.keyLits (d+3) 189 (zQ x).toList=some l:=by
 obtain⟨l1,h1⟩:=sN d x.id;obtain⟨l2,h2⟩:=p9 (d+1) h.1;obtain⟨l3,h3⟩:=p9 (d+1) h.2;have e1:((zQ x).toList.drop 0).take 32=(idC x.id).toList:=by simp[zQ]
 have e2:((zQ x).toList.drop 32).take 1 = [.string x.key]:=by simp[zQ]
 have e3:((zQ x).toList.drop 33).take 1 = [.string x.val]:=by
  simp[zQ,drop_append];rw[drop_eq_nil_of_le sI];rfl
 refine Option.isSome_iff_exists.1 ?_;unfold Program.keyLits;simp only[underlying189];rw[if_pos ⟨by rw[cellsMR];simp,kR⟩];simp only[mapM_cons,mapM_nil,YI,vn,e1,e2,e3,h1,h2,h3];rfl
def nA(x:qN):Value:=.agg (zQ x)
theorem mrowKey:bD prog 189 nA okM where
 law:=deep_law_laid Tryz.laidOut (m:=3) oM rowMR kR (by rw[underlying189])
 key:=λx hx=>by
  obtain⟨d,hd⟩:∃d,prog.types.size+1=d+3:=⟨prog.types.size-2,oH size3⟩
  obtain⟨l,hl⟩:=BR d hx;refine⟨.string (keyBytes l),?_⟩;unfold keyOf;simp only[underlying189];have f:prog.keyType 189=true:=kR;have hf:(nA x).formed prog 189=true:=by simp[nA,Value.formed,underlying189,cellsMR]
  rw[f,hf,hd];simp only[Bool.and_self,if_true];have:(nA x).cells.toList=(zQ x).toList:=rfl;rw[this,hl];rfl
 inj:=λa b h=>by unfold nA at h;injection h with h;exact mRowC_inj h
end Go.Proofs.YtddopbhcpblpjaaGreatDoor
