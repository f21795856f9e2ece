/- Part 4 of the texts that lead to this claim: the walks of the functions and the plain law, in order. -/
import Derived.Test.YtplpiicfkbpkaaaGreatDoorMk3
import Derived.IntWalk
namespace Go.Proofs.YtplpiicfkbpkaaaGreatDoor
open Go.RowKit
open List hiding and get max min or set
open Go.Proofs.Tryz
open World
set_option maxRecDepth 100000
set_option maxHeartbeats 8000000
variable {a k:ByteArray}{w:World}{b g:Nat}{n:Int}{X:List BRow}{cs:Array Value}{t:TypeId}{f:Nat×Nat}{κ:Type}
def chkN(o:OpV):Int:=if 16<o.key.size\/16<o.val.size then 3 else if numO o=false then 5 else if 8<o.refs.length then 6 else if risI o.refs=false then 4 else 0
theorem plain_k{o:OpV}(h:plainO o):1<=o.k/\o.k<=7:=by unfold plainO at h;omega
theorem part_ne{k:Nat}(h1:1<=k)(h7:k<=7):((partN k:Int)==0)=false:=by
 have hk:k=1\/k=2\/k=3\/k=4\/k=5\/k=6\/k=7:=oM;rcases hk with rfl | rfl | rfl | rfl | rfl | rfl | rfl <;> decide
theorem op_check(o:OpV)(A:Option Addr)(c:Nat)(w:World)(hp:PartsVar w)(h:plainO o)(hT:TagsIn w A o.refs.length o.refs)(hl:o.refs.length<=4294967296) :
  Calls prog 54 #[.agg (opC o A c)] w λe w'=>e=.returned (.int .i64 (chkN o))/\Below w.heap.size w w':=by
 have hB:Below w.heap.size w (w.alloc (.cells (opC o A c) 28)):=bA;have hr:rowAt (w.alloc (.cells (opC o A c) 28)) w.heap.size 0 37=some (opC o A c):=by unfold opC;simp[go_sem]
 have hk:=plain_k h;have y:=op_of o.k _ (hp.below hB) oM;have V:=part_ne hk.1 hk.2;have N:=λw' (hp':PartsVar w')=>op_spare o A c w' hp' h;have D:=λw'=>op_number o A c w';have E:=hp.below hB;have G:TagsIn (w.alloc (.cells (opC o A c) 28)) A o.refs.length o.refs:=SlR.below hT hB;have F:chkN o=if 16<o.key.size\/16<o.val.size then 3 else if numO o=false then 5 else if 8<o.refs.length then 6 else if risI o.refs=false then 4 else 0:=rfl;have x0:=rowAt_cell hr (j:=0) oM;have x2:=rowAt_cell hr (j:=2) oM;have x3:=rowAt_cell hr (j:=3) oM;have x5:=rowAt_cell hr (j:=36) oM;unfold opC at x0 x2 x3 x5 hB hr y N D E G |-;simp only[opPC_g0,opPC_g2,opPC_g3,opPC_g36,Nat.zero_add]at x0 x2 x3 x5;clear hp h hT;obtain⟨nu,T⟩:=eX (numO o)
 obtain⟨ck,B⟩:=eX (chkN o)
 rw[T]at D F;rw[B]at F |-;clear T B;obtain⟨k,n,key,val,ref,refs⟩:=o;dsimp only at *;have I:=dH F;clear F hk;obtain⟨pk,R⟩:=eX (partN k)
 rw[R]at y V;clear R;go_enter func54,ntmps54
 go_upto_region 1 with fail
 obtain⟨gb,X⟩:=eX w.heap.size
 obtain⟨W,hW⟩:=eR (w.alloc (.cells (opPC ⟨(k:Int),n,key,val,ref,.slice A refs.length c⟩) 28))
 rw[<-hW]at x0 x2 x3 x5 hB hr y E G |-;rw[X]at x0 x2 x3 x5 hr |-;clear hW X;(go_wp2_with fail);refine y.mono ?_;rintro e w1 ⟨rfl,rfl⟩;clear y;(go_wp2_with fail);refine(N _ E).mono ?_;rintro e w1 ⟨rfl,r⟩;have y2:=(r.cell (p:=⟨gb,2,none⟩) (rowAt_lt hr)).trans x2;have y3:=(r.cell (p:=⟨gb,3,none⟩) (rowAt_lt hr)).trans x3;have y5:=(r.cell (p:=⟨gb,36,none⟩) (rowAt_lt hr)).trans x5;have O:rowAt w1 gb 0 37=_:=(rowAt_of_block (r.block gb (rowAt_lt hr)) _ _).trans hr;have Z:TagsIn w1 A refs.length refs:=SlR.below G r;have d:=bel2 hB r;clear N x0 x2 x3 x5 hr G E hB r V;by_cases M:16<key.size\/16<val.size
 ·have hc:=I.out;rw[if_pos M]at hc;have Hc:=dH hc;clear hc I;by_cases U:16<key.size
  ·have f:(16:Int)<key.size:=oM;(go_wp2_with fail);go_ret;exact⟨ret_int (by rw[Hc.out]),d⟩
  ·have f:¬(16:Int)<key.size:=oM;have t:(16:Int)<val.size:=oM;(go_wp2_with fail);go_ret;exact⟨ret_int (by rw[Hc.out]),d⟩
 ·have hc:=I.out;rw[if_neg M]at hc;have Hc:=dH hc;have f:¬(16:Int)<key.size:=oM;have t:¬(16:Int)<val.size:=oM;clear hc I M;cases nu with
  | false =>
   have m:=Hc.out;rw[if_pos rfl]at m;have J:=dH m;clear m;(go_wp2_with fail);refine(D _).mono ?_;rintro e w2 ⟨rfl,g⟩;(go_wp2_with fail);go_ret;exact⟨ret_int (by rw[J.out]),bel2 d g⟩
  | true =>
   have m:=Hc.out;rw[if_neg sI]at m;have J:=dH m;clear m Hc;have z5:=λw2 (g:Below w1.heap.size w1 w2)=>(g.cell (p:=⟨gb,36,none⟩) (rowAt_lt O)).trans y5;(go_wp2_with fail);refine(D _).mono ?_;rintro e w2 ⟨rfl,g⟩;have v5:=z5 w2 g;have Y:TagsIn w2 A refs.length refs:=SlR.below Z g;have s:=bel2 d g;have H:=is_ids w2 A refs.length c refs Y oM;clear z5 D y2 y3 y5 O Z d g Y;by_cases h8:8<refs.length
   ·have hc:=J.out;rw[if_pos h8]at hc;have Hc:=dH hc;have a0:(8:Int)<refs.length:=oM;clear hc;(go_wp2_with fail);go_ret;exact⟨ret_int (by rw[Hc.out]),s⟩
   ·have hc:=J.out;rw[if_neg h8]at hc;have a0:¬(8:Int)<refs.length:=oM;cases hri:risI refs with
    | false =>
     rw[hri,if_pos rfl]at hc;rw[hri]at H;have Hc:=dH hc;clear hc hri;(go_wp2_with fail);refine H.mono ?_;rintro e w3 ⟨rfl,L⟩;(go_wp2_with fail);go_ret;exact⟨ret_int (by rw[Hc.out]),bel2 s L⟩
    | true =>
     rw[hri,if_neg sI]at hc;rw[hri]at H;have Hc:=dH hc;clear hc hri;(go_wp2_with fail);refine H.mono ?_;rintro e w3 ⟨rfl,L⟩;(go_wp2_with fail);go_ret;exact⟨ret_int (by rw[Hc.out]),bel2 s L⟩
theorem op_belongs(k:Nat)(w:World)(hk:k<=9223372036854775807):Calls prog 24 #[.int .i64 k] w λe w'=>e=.returned (.int .i64 (belongs k))/\w=w':=by
 have hb:belongs k=if k=1 then 1 else if k=2\/k=3 then 2 else if k=4 then 3 else if k=5 then 4 else if k=6\/k=7 then 5 else 0:=rfl;have Hb:=dH hb;clear hb;go_enter func24,ntmps24
 go_wp2_with fail
 all_goals
  go_ret;exact⟨ret_int (by rw[Hb.out];simp at *;omega),rfl⟩
theorem plain_take(k:Nat)(l:List UInt8)(e:Int)(h1:1<=k)(h7:k<=7):plainO (takeO k l e).o/\(takeO k l e).o.k=k/\(takeO k l e).o.refs.length<=255:=by
 have hk:k=1\/k=2\/k=3\/k=4\/k=5\/k=6\/k=7:=oM;rcases hk with rfl | rfl | rfl | rfl | rfl | rfl | rfl
 ·exact⟨.inl ⟨rfl,rfl,rfl,rfl,rfl⟩,rfl,by simp[takeO]⟩
 ·exact⟨.inr (.inl ⟨rfl,rfl,rfl,rfl,rfl⟩),rfl,by simp[takeO]⟩
 ·exact⟨.inr (.inr (.inl ⟨rfl,rfl,rfl,rfl⟩)),rfl,refsR_len _ _⟩
 ·exact⟨.inr (.inr (.inr (.inl ⟨rfl,rfl,rfl⟩))),rfl,by simp[takeO]⟩
 ·exact⟨.inr (.inr (.inr (.inr (.inl ⟨rfl,rfl,rfl⟩)))),rfl,refsR_len _ _⟩
 ·exact⟨.inr (.inr (.inr (.inr (.inr (.inl ⟨rfl,rfl,rfl,rfl⟩))))),rfl,by simp[takeO]⟩
 ·exact⟨.inr (.inr (.inr (.inr (.inr (.inr ⟨rfl,rfl,rfl,rfl,rfl⟩))))),rfl,by simp[takeO]⟩
theorem num_take(k:Nat)(l:List UInt8)(e:Int)(h1:1<=k)(h7:k<=7):numO (takeO k l e).o=decide ((takeO k l e).o.n<2147483648):=by
 have hk:k=1\/k=2\/k=3\/k=4\/k=5\/k=6\/k=7:=oM;have b4:=numV_lt 4 l e;have b5:=numV_lt 4 (txL (txL l e) (txE l e)) (txE (txL l e) (txE l e));rw[Bool.eq_iff_iff];rcases hk with rfl | rfl | rfl | rfl | rfl | rfl | rfl <;> simp[numO,takeO] <;> omega
theorem chk_take(k:Nat)(l:List UInt8)(e:Int)(h1:1<=k)(h7:k<=7):chkN (takeO k l e).o=chkO (takeO k l e).o:=by
 have h:=num_take k l e h1 h7;unfold chkN chkO;rw[h];by_cases hn:(takeO k l e).o.n<2147483648
 ·rw[if_neg (show ¬(decide ((takeO k l e).o.n<2147483648)=false) by simp[hn]),if_neg (oM:¬(2147483648<=(takeO k l e).o.n))]
 ·rw[if_pos (sO:decide ((takeO k l e).o.n<2147483648)=false),if_pos (oM:2147483648<=(takeO k l e).o.n)]
theorem part_eq{k:Nat}(h:k=0\/7<k):partN k=0:=by
 rcases h with rfl | h
 ·rfl
 ·unfold partN;simp[getD,getElem?_eq_none (sO:[0,1,4,20,7,22,12,8].length<=k)]
@[simp] theorem opC_size(o:OpV)(A:Option Addr)(c:Nat):(opC o A c).size=37:=by unfold opC;simp
theorem opC_one(o:OpV)(A:Option Addr)(c:Nat):∀u∈(opC o A c).toList,u.oneCell'=true:=opPC_one _ rfl
def OfRes(w:World)(l:List UInt8)(en:Ending)(w':World):Prop :=
 ∃V,en=.returned (.tuple #[.agg V,.int .i64 (opE l)])/\(opE l=0->∃A c,V=opC (opO l) A c/\Own w' w.heap.size 23 32 A (opO l).refs.length c ((opO l).refs.map idC))/\(opE l≠0->V=opPC opP0)/\Below w.heap.size w w'
theorem op_Of(s:ByteArray)(w:World)(hp:PartsVar w)(hs:s.size<=9223372036854775807) :
  Calls prog 237 #[.string s] w (OfRes w s.data.toList):=by
 obtain⟨l,hl⟩:=eX s.data.toList
 have f4:s=mkB l:=by rw[<-hl];rfl
 have g2:l.length<=9223372036854775807:=by rw[<-hl];exact hs
 have b8:Below w.heap.size w (w.alloc (.cells (opPC opP0) 28)):=bA;have b3:(w.alloc (.cells (opPC opP0) 28)).heap[w.heap.size]?=some (.cells (opPC opP0) 28 (0,0)):=heap_alloc_new w _;have c6:=rd_open s (w.alloc (.cells (opPC opP0) 28)) hs;have d5:=hp.below b8;rw[hl]at c6 |-;subst f4;clear hl hs;have hE:opE l=if rawE 1 l 0≠0 then rawE 1 l 0
  else if numV 1 l 0=0\/7<numV 1 l 0 then 10
  else if endE (takeO (numV 1 l 0) (rawL 1 l 0) 0).l (takeO (numV 1 l 0) (rawL 1 l 0) 0).e≠0 then endE (takeO (numV 1 l 0) (rawL 1 l 0) 0).l (takeO (numV 1 l 0) (rawL 1 l 0) 0).e
  else chkO (takeO (numV 1 l 0) (rawL 1 l 0) 0).o:=rfl
 have hO:opO l=(takeO (numV 1 l 0) (rawL 1 l 0) 0).o:=rfl;have e6:=numV_lt 1 l 0;have f7:numV 1 l 0<256:=by simpa using e6
 have HE:=dH hE;have HO:=dH hO;have f6:=hp.lt;clear hE hO e6 hp;show Calls prog 237 #[.string (mkB l)] w _;go_enter func237,ntmps237
 go_upto_region 1 with fail
 obtain⟨ga,c4⟩:=eX w.heap.size
 have a0:=dH c4;obtain⟨W,hW⟩:=eR (w.alloc (.cells (opPC opP0) 28))
 rw[<-hW]at b8 b3 c6 d5 |-;rw[c4]at b3 |-;rw[c4]at f6;have f8:ga<W.heap.size:=(aG b3).1;clear hW c4;(go_wp2_with fail);refine c6.mono ?_;rintro en w1 ⟨rfl,a4,c5⟩;obtain⟨g,hg⟩:=eX W.heap.size
 rw[hg]at a4 f8 |-;have b2:=(c5.block ga oM).trans b3;have d3:=d5.below c5;have d4:=d3.lt;have b7:Below ga w w1:=by have:=b8.trans (c5.mono b8.size);rwa [a0.out]at this
 have g3:=a0.out;clear c6 b8 c5 b3 d5 hg;(go_wp2_with fail);refine(rd_num1 w1 g l 0 a4).mono ?_;rintro en w2 ⟨rfl,r,c2⟩;have j:=(c2.block ga (oH a4.lt) sO).trans b2;have c0:=d3.kept c2 (by simp;have:=d4;omega);have I:Below ga w w2:=b7.trans (c2.below (oH a4.lt) sO);obtain⟨k,hk⟩:=eX (numV 1 l 0)
 rw[hk]at HE HO f7 |-;clear a4 c2 b2 d3 b7 hk;by_cases he:rawE 1 l 0=0
 ·have U:=HE.out;rw[if_neg (by rw[he];simp)]at U;rw[he]at r;have a1:=dH U;clear U he HE;have a6:=op_of k w2 c0 oM;by_cases a8:k=0\/7<k
  ·have h2:=a1.out;rw[if_pos a8]at h2;rw[part_eq a8]at a6;have m:=dH h2;clear h2 a1 HO a8;(go_wp2_with fail);refine(rd_err w2 g _ 0 r).mono ?_;rintro en w3 ⟨rfl,rfl⟩;(go_wp2_with fail);refine a6.mono ?_;rintro en w3 ⟨rfl,rfl⟩;have T:=run_stS_at (P:=prog) infoOpP w2 ga (opPC opP0) (opPC opP0) _ j sI sI (opPC_one _ rfl);have f:=dH (setRow_heap w2 ga _ (opPC opP0) _ _ j);have t:Keep [ga] w2 (w2.setRow ga (opPC opP0)):=⟨rfl,rfl,rfl,by simp[setRow],λx _ hx=>setRow_other w2 ga x _ (by simpa using hx)⟩
   have F:Below ga w (w2.setRow ga (opPC opP0)):=I.trans (t.below (oH r.lt) sI);have Y:=dH F;clear F t j r I;(go_wp2_with fail);refine bodyPost_ret (results_cell_tmp results237 _ _ ga 28 (opPC opP0) (0,0) _ rfl f.out underlying28 rfl (by first | (rw[opPC_size];exact infoOpP) | (rw[opC_size];exact infoOpP))) rfl ?_;exact⟨_,by rw[m.out];rfl,λh0=>absurd (m.out.symm.trans h0) oM,λ_=>rfl,by rw[a0.out];exact Y.out⟩
  ·have h2:=a1.out;rw[if_neg a8]at h2;have m:=dH h2;have c3:1<=k:=oM;have c1:k<=7:=oM;have c9:=part_ne c3 c1;have d0:=plain_take k (rawL 1 l 0) 0 c3 c1;have d7:=chk_take k (rawL 1 l 0) 0 c3 c1;have d8:=op_take k w2 g (rawL 1 l 0) 0 r c0 c3 c1;obtain⟨pk,e4⟩:=eX (partN k)
   rw[e4]at a6 c9;obtain⟨R,hR⟩:=eX (takeO k (rawL 1 l 0) 0)
   rw[hR]at m HO d0 d7 d8;obtain⟨o,l2,e2⟩:=R;dsimp only at *;have f3:=dH d0;have g1:=dH d7;clear h2 a1 a8 e4 hR d0 d7;(go_wp2_with fail);refine(rd_err w2 g _ 0 r).mono ?_;rintro en w3 ⟨rfl,rfl⟩;(go_wp2_with fail);refine a6.mono ?_;rintro en w3 ⟨rfl,rfl⟩;clear a6;(go_wp2_with fail);refine d8.mono ?_;rintro en w3 ⟨A,c,rfl,a5,c8,a7⟩;have b1:=(a7.block ga (oH r.lt) sO).trans j;have e5:=c0.kept a7 sO;have b6:Below ga w w3:=I.trans (a7.below (oH r.lt) sO);have d6:g<w3.heap.size:=c8.lt;have f5:=a7.size;have f9:g<w2.heap.size:=r.lt;have a2:Below w3.heap.size w3 (w3.alloc (.cells (opC o A c) 28)):=bA;have V:(w3.alloc (.cells (opC o A c) 28)).heap[ga]?=_:=(a2.block ga oM).trans b1;have c7:=c8.below a2;have d2:=e5.below a2;have J:rowAt (w3.alloc (.cells (opC o A c) 28)) w3.heap.size 0 37=some (opC o A c):=by unfold opC;simp[go_sem]
   have L:=a5.below a2;have X:Below ga w (w3.alloc (.cells (opC o A c) 28)):=b6.trans (a2.mono oM);have ce:=rd_end _ g l2 e2 c7;have d:opC o A c=opPC ⟨o.k,o.n,o.key,o.val,o.ref,.slice A o.refs.length c⟩:=rfl;rw[d];go_upto_region 8 with fail
   rw[<-d];have e0:=dH d;obtain⟨gb,e7⟩:=eX w3.heap.size
   obtain⟨W4,f0⟩:=eR (w3.alloc (.cells (opC o A c) 28))
   rw[<-f0]at V c7 d2 J L X ce |-;rw[e7]at J d6 |-;clear f0 d a2 c8 e5 b6 b1 a5 d8 a7 r c0 I j e7;(go_wp2_with fail);refine ce.mono ?_;rintro en w5 ⟨rfl,a3⟩;have H:=(a3.block ga (aG V).1).trans V;have d1:=d2.below a3;have B:rowAt w5 gb 0 37=some (opC o A c):=(rowAt_of_block (a3.block gb (rowAt_lt J)) _ _).trans J;have E:=L.below a3;have N:Below ga w w5:=X.trans (a3.mono (oH X.size));have b0:ga<=w5.heap.size:=oH N.size;clear ce V c7 d2 J L X a3;by_cases O:endE l2 e2=0
   ·have h2:=m.out;rw[if_neg (by rw[O];simp),<-g1.out]at h2;rw[O];have f1:TagsIn w5 A o.refs.length o.refs:=E.slr;have cc:=op_check o A c w5 d1 f3.out.1 f1 (oH f3.out.2.2);obtain⟨ck,b4⟩:=eX (chkN o)
    rw[b4]at h2 cc;have y:=dH h2;clear h2 m O b4 f1 d1;(go_wp2_with fail);refine cc.mono ?_;rintro en w6 ⟨rfl,b5⟩;have G:=(b5.block ga (aG H).1).trans H;have e3:rowAt w6 gb 0 37=some (opC o A c):=(rowAt_of_block (b5.block gb (rowAt_lt B)) _ _).trans B;have D:=E.below b5;have M:Below ga w w6:=N.trans (b5.mono b0);have a9:ga<=w6.heap.size:=oH M.size;clear cc H B E N b5;cases hc0:(ck==0)with
    | true =>
     obtain rfl:ck=0:=by simpa using hc0
     have T:=run_stS_at (P:=prog) infoOpP w6 ga (opPC opP0) (opC o A c) _ G sI sI (opC_one o A c);have f:=dH (setRow_heap w6 ga _ (opC o A c) _ _ G);have t:Keep [ga] w6 (w6.setRow ga (opC o A c)):=⟨rfl,rfl,rfl,by simp[setRow],λx _ hx=>setRow_other w6 ga x _ (by simpa using hx)⟩
     have F:Below ga w (w6.setRow ga (opC o A c)):=M.trans (t.below a9 sI);have Z:Own (w6.setRow ga (opC o A c)) w.heap.size 23 32 A o.refs.length c (o.refs.map idC):=(D.mono (oH a0.out)).kept t (λx hx=>oS ((D.at_base hx).1));have Y:=dH F;have b9:=dH Z;clear F t G M Z D;(go_wp2_with fail);refine bodyPost_ret (results_cell_tmp results237 _ _ ga 28 (opC o A c) (0,0) _ rfl f.out underlying28 rfl (by first | (rw[opPC_size];exact infoOpP) | (rw[opC_size];exact infoOpP))) rfl ?_;exact⟨_,by rw[y.out];rfl,λ_=>⟨A,c,by rw[HO.out],by rw[HO.out];exact b9.out⟩,λh0=>absurd y.out h0,by rw[a0.out];exact Y.out⟩
    | false =>
     have e9:ck≠0:=by simpa using hc0
     have g0:(ck != 0)=true:=by simpa using hc0
     have d9:=dH e9;clear e9;have T:=run_stS_at (P:=prog) infoOpP w6 ga (opPC opP0) (opPC opP0) _ G sI sI (opPC_one _ rfl);have f:=dH (setRow_heap w6 ga _ (opPC opP0) _ _ G);have t:Keep [ga] w6 (w6.setRow ga (opPC opP0)):=⟨rfl,rfl,rfl,by simp[setRow],λx _ hx=>setRow_other w6 ga x _ (by simpa using hx)⟩
     have F:Below ga w (w6.setRow ga (opPC opP0)):=M.trans (t.below a9 sI);have Y:=dH F;clear F t G M D;(go_wp2_with fail);refine bodyPost_ret (results_cell_tmp results237 _ _ ga 28 (opPC opP0) (0,0) _ rfl f.out underlying28 rfl (by first | (rw[opPC_size];exact infoOpP) | (rw[opC_size];exact infoOpP))) rfl ?_;exact⟨_,by rw[y.out];rfl,λh0=>absurd (y.out.symm.trans h0) d9.out,λ_=>rfl,by rw[a0.out];exact Y.out⟩
   ·have h2:=m.out;rw[if_pos O]at h2;obtain⟨ee,f2⟩:=eX (endE l2 e2)
    rw[f2]at h2 O |-;have y:=dH h2;have d9:=dH O;have g0:(ee != 0)=true:=by simpa using O
    have g5:(ee==0)=false:=by simpa using O
    clear h2 m O f2 d1 B E;have T:=run_stS_at (P:=prog) infoOpP w5 ga (opPC opP0) (opPC opP0) _ H sI sI (opPC_one _ rfl);have f:=dH (setRow_heap w5 ga _ (opPC opP0) _ _ H);have t:Keep [ga] w5 (w5.setRow ga (opPC opP0)):=⟨rfl,rfl,rfl,by simp[setRow],λx _ hx=>setRow_other w5 ga x _ (by simpa using hx)⟩
    have F:Below ga w (w5.setRow ga (opPC opP0)):=N.trans (t.below b0 sI);have Y:=dH F;clear F t H N;(go_wp2_with fail);refine bodyPost_ret (results_cell_tmp results237 _ _ ga 28 (opPC opP0) (0,0) _ rfl f.out underlying28 rfl (by first | (rw[opPC_size];exact infoOpP) | (rw[opC_size];exact infoOpP))) rfl ?_;exact⟨_,by rw[y.out];rfl,λh0=>absurd (y.out.symm.trans h0) d9.out,λ_=>rfl,by rw[a0.out];exact Y.out⟩
 ·have U:=HE.out;rw[if_pos he]at U;obtain⟨e1,e8⟩:=eX (rawE 1 l 0)
  rw[e8]at U he r;have a1:=dH U;have He:=dH he;have g4:(e1 != 0)=true:=by simpa using he
  have O:(e1==0)=false:=by simpa using he
  clear U he HE HO e8;(go_wp2_with fail);refine(rd_err w2 g _ e1 r).mono ?_;rintro en w3 ⟨rfl,rfl⟩;(go_wp2_with fail);refine(rd_err w2 g _ e1 r).mono ?_;rintro en w3 ⟨rfl,rfl⟩;have T:=run_stS_at (P:=prog) infoOpP w2 ga (opPC opP0) (opPC opP0) _ j sI sI (opPC_one _ rfl);have f:=dH (setRow_heap w2 ga _ (opPC opP0) _ _ j);have t:Keep [ga] w2 (w2.setRow ga (opPC opP0)):=⟨rfl,rfl,rfl,by simp[setRow],λx _ hx=>setRow_other w2 ga x _ (by simpa using hx)⟩
  have F:Below ga w (w2.setRow ga (opPC opP0)):=I.trans (t.below (oH r.lt) sI);have Y:=dH F;clear F t j r I;(go_wp2_with fail);refine bodyPost_ret (results_cell_tmp results237 _ _ ga 28 (opPC opP0) (0,0) _ rfl f.out underlying28 rfl (by first | (rw[opPC_size];exact infoOpP) | (rw[opC_size];exact infoOpP))) rfl ?_;exact⟨_,by rw[a1.out];rfl,λh0=>absurd (a1.out.symm.trans h0) He.out,λ_=>rfl,by rw[a0.out];exact Y.out⟩
def fits(t:ByteArray)(m:MarkV):Prop:=opE m.body.data.toList=0/\belongs (opO m.body.data.toList).k=kindB t
instance (t:ByteArray) (m:MarkV):Decidable (fits t m):=by unfold fits;infer_instance
@[go_sem] theorem storeOp0_run(w:World)(g:Nat)(hg:g=w.heap.size)(z:Array Value)(hz:z.size=37)(e:TypeId):(stS 28 ⟨g,0,none⟩ (.agg (opPC opP0))).run prog (w.alloc (.cells z e))=.ok () (w.alloc (.cells (opPC opP0) e)):=storeOpP_run w g hg z hz opP0 rfl e
theorem opO_ok(l:List UInt8)(h:opE l=0):plainO (opO l)/\1<=(opO l).k/\(opO l).k<=7/\(opO l).key.size<=16/\(opO l).val.size<=16/\(opO l).refs.length<=8/\risI (opO l).refs=true/\(opO l).n<2147483648:=by
 unfold opE at h;split at h
 ·contradiction
 split at h
 ·cases h
 split at h
 ·contradiction
 rename_i h1 h2 h3
 have hp:=plain_take (numV 1 l 0) (rawL 1 l 0) 0 oM oM;unfold chkO at h;have e:(takeO (numV 1 l 0) (rawL 1 l 0) 0).o=opO l:=rfl;rw[e]at h hp;split at h
 ·cases h
 split at h
 ·cases h
 split at h
 ·cases h
 split at h
 ·cases h
 rename_i k1 k2 k3 k4
 refine⟨hp.1,oM,oM,oM,oM,oM,?_,oM⟩;cases hr:risI (opO l).refs with
 | true=>rfl
 | false=>exact absurd hr k4
theorem vfold_old(m:MarkV)(w:World)(g:Nat)(t:ByteArray)(b:Nat)(I:List Id32)(sv:Value)(h:ViewAt w g t b I sv)(hm:m.id∈I) :
  Calls prog 196 #[.pointer (some ⟨g,0,none⟩),.agg (markVC m)] w λe w'=>e=.returned (.bool false)/\Below w.heap.size w w':=by
 have hB:Below w.heap.size w (w.alloc (.cells (markVC m) 240)):=bA;have h1:=h.below hB;have hr:rowAt (w.alloc (.cells (markVC m) 240)) w.heap.size 0 32=some (idC m.id):=by simp[go_sem]
 go_enter func196,ntmps196
 go_upto_region 1 with fail
 generalize w.alloc (.cells (markVC m) 240)=W at *;have hc:=h1.cell1;have hk:∀x:Subtype (Bel W),(Instr.lookup 82 (.map (some b)) (.agg (idC m.id)) false).run prog x.1=.ok (.bool true) x.1:=λx=>ihit (h1.ids.below x.2) hm;clear h h1 hm;refine lX W ?_;intro d hS;have b1:=sub_cell hc;have b2:=sub_row hr;refine lQ ?_;intro K hK;refine(vnone_live W.drew g b hc).mono ?_;rintro e w' ⟨rfl,rfl⟩;refine⟨_,rfl,hS,hK _ _ ?_⟩;clear hK K;refine lZ ?_;refine wpLx_nil ?_;intro hS;(go_wp2_with fail);go_ret;exact⟨rfl,bel2 hB hS⟩
theorem vfold_new(m:MarkV)(w:World)(g:Nat)(t:ByteArray)(b:Nat)(I:List Id32)(sv:Value)(h:ViewAt w g t b I sv)(hm:m.id∉I)(hp:PartsVar w)(d8:b≠1)(hs:m.body.size<=9223372036854775807)(ht:t.size<=9223372036854775807)
  (Q:World->Prop)
  (a0:¬fits t m->∀w',ViewAt w' g t b (m.id :: I) sv->Keep [b] w w'->Q w')
  (d:fits t m->∀w1 A c,ViewAt w1 g t b (m.id :: I) sv->Keep [b] w w1->PartsVar w1->Own w1 w.heap.size 23 32 A (opO m.body.data.toList).refs.length c ((opO m.body.data.toList).refs.map idC) ->
   Calls prog 238 #[.pointer (some ⟨g,0,none⟩),.agg (markVC m),.agg (opC (opO m.body.data.toList) A c)] w1 λe w'=>e=.returned (.tuple #[])/\Q w') :
  Calls prog 196 #[.pointer (some ⟨g,0,none⟩),.agg (markVC m)] w λe w'=>e=.returned (.bool true)/\Q w':=by
 have hB:Below w.heap.size w (w.alloc (.cells (markVC m) 240)):=bA;have h1:=h.below hB;have b4:=hp.below hB;have T:rowAt (w.alloc (.cells (markVC m) 240)) w.heap.size 0 34=some (markVC m):=by simp[go_sem]
 have d7:=h.ids.lt;have d6:=h.lt;go_enter func196,ntmps196
 go_upto_region 1 with fail
 obtain⟨ga,b5⟩:=eX w.heap.size
 have a8:=dH b5;rw[b5]at T hB d7 d6 |-;obtain⟨W,hW⟩:=eR (w.alloc (.cells (markVC m) 240))
 rw[<-hW]at h1 b4 T hB |-;clear hW b5;have hr:rowAt W ga 0 32=some (idC m.id):=by have:=rowAt_sub T (j:=0) (m:=32) oM;rwa [markVC_e0]at this
 have L:W.cell? ⟨ga,33,none⟩=some (.string m.body):=by have:=rowAt_cell T (j:=33) oM;rwa [markVC_g33,Nat.zero_add]at this
 have hc:=h1.cell1;have hk:∀x:Subtype (Bel W),(Instr.lookup 82 (.map (some b)) (.agg (idC m.id)) false).run prog x.1=.ok (.bool false) x.1:=λx=>imiss (h1.ids.below x.2) hm;refine lX W ?_;intro X hS;have b1:=sub_cell hc;have b2:=sub_row hr;refine lQ ?_;intro K hK;refine(vnone_live W.drew g b hc).mono ?_;rintro e w' ⟨rfl,rfl⟩;refine⟨_,rfl,hS,hK _ _ ?_⟩;clear hK K;refine lZ ?_;refine wpLx_nil ?_;intro hS;clear b1 b2 X hk hS;have c6:g∉[b]:=by simpa using h1.ne
 have Y:ViewAt W.drew g t b I sv:=h1.kept (Keep.drew W) sI sI;have O:PartsVar W.drew:=b4.kept (Keep.drew W) sI;have c1:Below ga w W.drew:=hB.trans ((bel_drew W).mono (by have:=hB.size;have:=a8.out;omega));have b0:rowAt W.drew ga 0 32=some (idC m.id):=hr;have D:rowAt W.drew ga 0 34=some (markVC m):=T;have b8:W.drew.cell? ⟨ga,33,none⟩=some (.string m.body):=L;clear hr T L hc b4 hB;go_upto_region 3 with fail
 obtain⟨W1,c8⟩:=eR W.drew
 rw[<-c8]at Y O c1 b0 D b8 |-;clear c8 h1;have hc:=Y.cell1;obtain⟨w2,a9,d1,c5⟩:=iput (x:=m.id) (Y.ids.kept (Keep.drew W1) sI);refine kX [b] W1 ?_;intro X hS;have b1:=ksub_cell hc c6;have b2:=ksub_row b0 (S:=[b]) sO;refine lQ ?_;intro K hK;refine step_keep (kp_next hS c5 sI) (λhS=>?_);refine hK _ _ ?_;clear hK K;refine wpLx_nil ?_;intro hS;have y:Keep [b] W1 w2:=hS;have h2:ViewAt w2 g t b (m.id :: I) sv:=⟨(y.block g Y.lt c6).trans Y.blk,d1⟩
 have a1:ga∉[b]:=sO;have b3:PartsVar w2:=O.kept y (by simpa using λe=>d8 e.symm);have N:rowAt w2 ga 0 34=some (markVC m):=(y.row (rowAt_lt D) a1 _ _).trans D;have b7:w2.cell? ⟨ga,33,none⟩=some (.string m.body):=(y.cell (p:=⟨ga,33,none⟩) (rowAt_lt D) a1).trans b8;have d0:Keep [b] w w2:=Keep.trans ((Keep.of_below (c1.mono (by rw[a8.out];exact lR))).mono (S':=[b]) sI) y iL;clear b1 b2 X hS c5 d1 a9 b0 D b8 O Y c1 hc y;have c3:=op_Of m.body w2 b3 hs;obtain⟨l,hl⟩:=eX m.body.data.toList
 have Hl:=dH hl;rw[hl]at c3 d;have H:fits t m↔opE l=0/\belongs (opO l).k=kindB t:=by unfold fits;rw[hl]
 obtain⟨E,hE⟩:=eX (opE l)
 have d9:=dH hE;clear hl;(go_wp2_with fail);refine c3.mono ?_;rintro en w3 ⟨V,rfl,a7,J,a2⟩;rw[hE]at a7 J |-;have h3:=h2.below a2;have c4:=b3.below a2;have M:rowAt w3 ga 0 34=some (markVC m):=(rowAt_of_block (a2.block ga (rowAt_lt N)) _ _).trans N;have b9:Keep [b] w w3:=Keep.trans d0 (Keep.of_below a2) sI;clear c3 a2 h2 b3 N b7;by_cases h0:E=0
 ·subst h0;obtain⟨A,c,rfl,U⟩:=a7 rfl;have a6:=opO_ok l hE;have r:=U.mono (B':=ga) (by have:=d0.size;have:=a8.out;omega);have s:fits t m↔belongs (opO l).k=kindB t:=by rw[H];exact⟨λh=>h.2,λh=>⟨hE,h⟩⟩
  rw[<-a8.out]at r;obtain⟨o,ho⟩:=eX (opO l)
  rw[ho]at a6 r s d |-;have d5:o.k<=9223372036854775807:=oH a6.2.2.1;have e1:=dH a6;clear a7 J U H hE ho a6;have G:Below w3.heap.size w3 (w3.alloc (.cells (opC o A c) 28)):=bA;have h4:=h3.below G;have a5:=c4.below G;have F:rowAt (w3.alloc (.cells (opC o A c) 28)) ga 0 34=some (markVC m):=(rowAt_of_block (G.block ga (rowAt_lt M)) _ _).trans M;have f:=r.below G;have B:rowAt (w3.alloc (.cells (opC o A c) 28)) w3.heap.size 0 37=some (opC o A c):=by simp[go_sem]
  have R:Keep [b] w (w3.alloc (.cells (opC o A c) 28)):=Keep.trans b9 (Keep.of_below G) sI;clear G h3 c4 M r b9;unfold opC at h4 a5 F f B R |-;go_upto_region 5 with fail
  obtain⟨W4,a3⟩:=eR (w3.alloc (.cells (opPC ⟨o.k,o.n,o.key,o.val,o.ref,.slice A o.refs.length c⟩) 28))
  rw[<-a3]at h4 a5 F f B R |-;clear a3;have b6:=rowAt_cell B (j:=0) oM;rw[opPC_g0,Nat.zero_add]at b6;have c7:=h4.cell0;have cb:=op_belongs o.k W4.drew d5;have ck:=kind_any t W4.drew ht;obtain⟨B1,c2⟩:=eX (belongs o.k)
  obtain⟨K1,c0⟩:=eX (kindB t)
  rw[c2,c0]at s;rw[c2]at cb;rw[c0]at ck;have a4:=dH s;clear c2 c0 s;refine lX W4 ?_;intro X hS;have b1:=sub_cell b6;have b2:=sub_cell c7;refine lQ ?_;intro K hK;refine(cb).mono ?_;rintro e w' ⟨rfl,rfl⟩;refine⟨_,rfl,hS,hK _ _ ?_⟩;clear hK K;refine lZ ?_;refine lC (ck) ?_;clear hS;intro w' hS;refine lZ ?_;refine wpLx_nil ?_;intro hS;have y:Below W4.heap.size W4 w':=hS;have h5:=h4.below y;have d4:=a5.below y;have d3:rowAt w' ga 0 34=some (markVC m):=(rowAt_of_block (y.block ga (rowAt_lt F)) _ _).trans F;have d2:rowAt w' w3.heap.size 0 37=some (opPC ⟨o.k,o.n,o.key,o.val,o.ref,.slice A o.refs.length c⟩):=(rowAt_of_block (y.block w3.heap.size (rowAt_lt B)) _ _).trans B;have Z:=f.below y;have c9:Keep [b] w w':=Keep.trans R (Keep.of_below y) sI;clear b1 b2 X hS cb ck b6 c7 h4 a5 F B f R y;obtain⟨W5,rfl⟩:∃W5,W5=w':=⟨w',rfl⟩
  cases hbb:(B1==K1)with
  | true =>
   have hf:fits t m:=a4.out.2 (by simpa using hbb);have hd:=d hf W5 A c h5 c9 d4 Z;unfold opC at hd;clear hf hbb;go_upto_region 6 with fail
   (go_wp2_with fail);refine hd.mono ?_;rintro e w6 ⟨rfl,hq⟩;have Hq:=dH hq;clear hq a0 d hd;(go_wp2_with fail);go_ret;exact⟨rfl,Hq.out⟩
  | false =>
   have hf:¬fits t m:=λh=>(by have:=a4.out.1 h;rw[beq_eq_false_iff_ne]at hbb;exact hbb this);have hq:=a0 hf W5 h5 c9;have Hq:=dH hq;clear hf hq a0 d;(go_wp2_with fail);go_ret;exact⟨rfl,Hq.out⟩
 ·have hf:¬fits t m:=λh=>h0 (by rw[<-hE];exact(H.1 h).1);have hV:=J h0;subst hV;have G:Below w3.heap.size w3 (w3.alloc (.cells (opPC opP0) 28)):=bA;have h4:=h3.below G;have R:Keep [b] w (w3.alloc (.cells (opPC opP0) 28)):=Keep.trans b9 (Keep.of_below G) sI;have e0:(E==0)=false:=by simpa using h0
  clear d a7 J H hE h0 G;go_upto_region 5 with fail
  obtain⟨W4,a3⟩:=eR (w3.alloc (.cells (opPC opP0) 28))
  rw[<-a3]at h4 R |-;clear a3;have hq:=a0 hf _ (h4.below (bel_drew W4)) (Keep.trans R (Keep.of_below (bel_drew W4)) sI);have Hq:=dH hq;clear hf hq a0;refine lX W4 ?_;intro X hS;refine lQ ?_;intro K hK;refine hK _ _ ?_;clear hK K;refine lQ ?_;intro K hK;refine hK _ _ ?_;clear hK K;refine lZ ?_;refine wpLx_nil ?_;intro hS;(go_wp2_with fail);go_ret;exact⟨rfl,Hq.out⟩
def TallyAt(w:World)(g:Nat)(n:Int):Prop:=w.heap[g]?=some (.cells #[.int .i64 n,.bool true] 308 (0,0))
theorem TallyAt.lt(h:TallyAt w g n):g<w.heap.size:=(aG h).1
theorem TallyAt.kept{w':World}{S:List Nat}(h:TallyAt w g n)(k:Keep S w w')(hg:g∉S):TallyAt w' g n:=(k.block g h.lt hg).trans h
theorem TallyAt.cell0(h:TallyAt w g n):w.cell? ⟨g,0,none⟩=some (.int .i64 n):=by rw[cell_of_row w g 0 _ _ _ h];rfl
theorem TallyAt.cell1(h:TallyAt w g n):w.cell? ⟨g,1,none⟩=some (.bool true):=by rw[cell_of_row w g 1 _ _ _ h];rfl
theorem at_add(w:World)(g:Nat)(n m:Int)(h:TallyAt w g n):(callFunc 327 #[.pointer (some ⟨g,0,none⟩),.int .i64 m]).run prog w=.ok (.value (.int .i64 (wrap64 (n+m)))) (w.setCell ⟨g,0,none⟩ (.int .i64 (wrap64 (n+m)))):=by
 have h0:=h.cell0;have hf:w.frozen? ⟨g,0,none⟩=false:=by simp[frozen?,show w.heap[g]?=_ from h]
 rw[run_callFunc_extern func327 kR kR kR (e:=Extern.Atomic.update (Op.intArith .add) .i64 true) kR];have e:Extern.Atomic.update (Op.intArith .add) .i64 true #[.pointer (some ⟨g,0,none⟩),.int .i64 m]=(do
  let a <-asAddr (.pointer (some ⟨g,0,none⟩))
  let old <-Extern.Atomic.read (.int .i64) a
  let new <-Op.intArith .add .i64 (<-asInt old) (<-asInt (.int .i64 m))
  store a new .atomic
  pure (if true then new else old)):=rfl
 rw[e];have ew:wrap64 (n+m)=IntKind.i64.wrap (n+m):=(IntWalk.i64_left _).symm;simp[Extern.Atomic.read,asAddr,asInt,Op.intArith,go_sem,h0,hf,ew]
theorem tnone(w:World)(g:Nat)(n:Int)(h:TallyAt w g n):Calls prog 303 #[.pointer (some ⟨g,0,none⟩)] w λe w'=>e=.returned (.bool false)/\w=w':=by
 have h1:=h.cell1;clear h;go_enter func303,ntmps303
 (go_wp2_with fail);go_ret;exact⟨rfl,rfl⟩
theorem at_Add(w:World)(g:Nat)(n m:Int)(h:TallyAt w g n):Calls prog 304 #[.pointer (some ⟨g,0,none⟩),.int .i64 m] w λe w'=>e=.returned (.int .i64 (wrap64 (n+m)))/\w'=w.setCell ⟨g,0,none⟩ (.int .i64 (wrap64 (n+m))):=by
 have hr:=at_add w g n m h;clear h;go_enter func304,ntmps304
 (go_wp2_with fail);go_ret;exact⟨rfl,rfl⟩
theorem tinc(w:World)(g:Nat)(n m:Int)(h:TallyAt w g n)(h1:-2147483648<=m)(h2:m<2147483648) :
  Calls prog 275 #[.pointer (some ⟨g,0,none⟩),.int .i64 m] w λe w'=>e=.returned (.int .i64 0)/\TallyAt w' g (wrap64 (n+m))/\Keep [g] w w':=by
 have d:TallyAt (w.setCell ⟨g,0,none⟩ (.int .i64 (wrap64 (n+m)))) g (wrap64 (n+m)):=by
  have h0:w.heap[g]?=_:=h;unfold TallyAt;rw[heap_setCell_same h0];rfl
 have j:=Keep.setCell w ⟨g,0,none⟩ (.int .i64 (wrap64 (n+m)));have f:=dH d;have r:¬(2147483648<=m):=oM;have k:¬(m < -2147483648):=oM;clear d;go_enter func275,ntmps275
 (go_wp2_with fail);refine(tnone _ g n h).mono ?_;rintro e w1 ⟨rfl,rfl⟩;(go_wp2_with fail);refine(at_Add _ g n m h).mono ?_;rintro e w1 ⟨rfl,rfl⟩;(go_wp2_with fail);go_ret;exact⟨rfl,f.out,j⟩
theorem vdoes_t(m:MarkV)(o:OpV)(A:Option Addr)(c:Nat)(w:World)(g gt:Nat)(t:ByteArray)(b:Nat)(I:List Id32)(n:Int)(h:ViewAt w g t b I (.iface 245 (.pointer (some ⟨gt,0,none⟩))))(hT:TallyAt w gt n)(h1:-2147483648<=o.n)(h2:o.n<2147483648) :
  Calls prog 238 #[.pointer (some ⟨g,0,none⟩),.agg (markVC m),.agg (opC o A c)] w λe w'=>e=.returned (.tuple #[])/\TallyAt w' gt (wrap64 (n+o.n))/\Keep [gt] w w':=by
 have hB:Below w.heap.size w ((w.alloc (.cells (markVC m) 240)).alloc (.cells (opC o A c) 28)):=(bA).alloc sI _;have hc:=(h.below hB).cell2;have f:=hT.kept (Keep.of_below hB) sI;unfold opC at hB hc f |-;have ci:=tinc _ gt n o.n f h1 h2;go_enter func238,ntmps238
 (go_wp2_with fail);refine ci.mono ?_;rintro e w1 ⟨rfl,h1,j⟩;have d:Keep [gt] w w1:=Keep.trans ((Keep.of_below hB).mono (S':=[gt]) sI) j iL;clear hB hc f ci h hT j;(go_wp2_with fail);go_end0;exact⟨rfl,h1,d⟩
section
abbrev okR(x:BRow):Prop:=x.val.size<=maxLen
abbrev RowSet(w:World)(b:Nat)(L:List BRow):Prop:=SetAt w b rowV okR L
theorem zeroBool(w:World):(zeroValue 4).run prog w=.ok (.bool false) w:=kR
def small(x:BRow):Prop:=x.val.size<=16
theorem small_ok{x:BRow}(h:small x):okR x:=by unfold small at h;unfold okR;simp only[maxLen];omega
section
variable {w:World} {b:Nat} {X:List BRow} {x:BRow}
theorem rhit(h:RowSet w b X)(hk:small x)(hx:x∈X):(Instr.lookup 317 (.map (some b)) (.agg (bRowC x)) false).run prog w=.ok (.bool true) w:=SetAt.hit (kv:=rowV) (ok:=okR) h rowKey underlying317 (small_ok hk) hx
theorem rmiss(h:RowSet w b X)(hk:small x)(hx:x∉X):(Instr.lookup 317 (.map (some b)) (.agg (bRowC x)) false).run prog w=.ok (.bool false) w:=SetAt.miss (kv:=rowV) (ok:=okR) h rowKey underlying317 zeroBool (small_ok hk) hx
theorem rput(h:RowSet w b X)(hk:small x):∃w',(Instr.mapUpdate 317 (.map (some b)) (.agg (bRowC x)) (.bool true)).run prog w=.ok () w'/\RowSet w' b (x :: X)/\Keep [b] w w':=SetAt.put h rowKey underlying317 (small_ok hk)
theorem rdel(h:RowSet w b X)(hk:small x)(ty:TypeId):∃w',(Builtin.delete_ #[317,314] ty #[.map (some b),.agg (bRowC x)]).run prog w=.ok (.tuple #[]) w'/\RowSet w' b (X.filter λy=>decide (y≠x))/\Keep [b] w w':=SetAt.del h rowKey underlying317 (small_ok hk) ty
end
structure BagAt(w:World)(g bl bg:Nat)(L G:List BRow):Prop where
 blk:w.heap[g]?=some (.cells #[.map (some bl),.map (some bg)] 319 (0,0))
 live:RowSet w bl L
 gone:RowSet w bg G
 ne:bl≠bg
 risL:Ris cmpRow L
 risG:Ris cmpRow G
 smL:∀x∈L,small x
 smG:∀x∈G,small x
 apart:∀x∈L,x∉G
section
variable {w w':World} {g bl bg:Nat} {L G:List BRow}
theorem BagAt.cell0(h:BagAt w g bl bg L G):w.cell? ⟨g,0,none⟩=some (.map (some bl)):=by rw[cell_of_row w g 0 _ _ _ h.blk];rfl
theorem BagAt.cell1(h:BagAt w g bl bg L G):w.cell? ⟨g,1,none⟩=some (.map (some bg)):=by rw[cell_of_row w g 1 _ _ _ h.blk];rfl
theorem set_ne(h:RowSet w b X)(hg:w.heap[g]?=some (.cells cs t f)):g≠b:=by
 rintro rfl;obtain⟨M,es,d,hm,_⟩:=h;rw[hm.heap]at hg;cases hg
theorem BagAt.nel(h:BagAt w g bl bg L G):g≠bl:=set_ne h.live h.blk
theorem BagAt.neg(h:BagAt w g bl bg L G):g≠bg:=set_ne h.gone h.blk
theorem BagAt.lt(h:BagAt w g bl bg L G):g<w.heap.size/\bl<w.heap.size/\bg<w.heap.size:=⟨block_lt_of_cell? w _ h.cell0,h.live.lt,h.gone.lt⟩
theorem BagAt.kept{S:List Nat}(h:BagAt w g bl bg L G)(k:Keep S w w')(hg:g∉S)(hl:bl∉S)(hb:bg∉S):BagAt w' g bl bg L G :=
 ⟨(k.block g h.lt.1 hg).trans h.blk,h.live.kept k hl,h.gone.kept k hb,h.ne,h.risL,h.risG,h.smL,h.smG,h.apart⟩
theorem BagAt.below(h:BagAt w g bl bg L G)(k:Below w.heap.size w w'):BagAt w' g bl bg L G:=h.kept (Keep.of_below k) sI sI sI
end
theorem bnone_live(w:World)(g b:Nat)(h:w.cell? ⟨g,0,none⟩=some (.map (some b))):Calls prog 328 #[.pointer (some ⟨g,0,none⟩)] w λe w'=>e=.returned (.bool false)/\w=w':=by
 have hn:=λr=>run_eql_map_nil (P:=prog) w 317 314 4 r underlying317;go_enter func328,ntmps328
 (go_wp2_with fail);go_ret;exact⟨rfl,rfl⟩
def longE(s:ByteArray):Int:=if 16<s.size then 3 else 0
theorem bask(v:ByteArray)(w:World)(g b:Nat)(h:w.cell? ⟨g,0,none⟩=some (.map (some b)))(hv:v.size<=9223372036854775807):Calls prog 305 #[.pointer (some ⟨g,0,none⟩),.string v] w λe w'=>e=.returned (.int .i64 (longE v))/\w=w':=by
 go_enter func305,ntmps305
 (go_wp2_with fail);refine(bnone_live _ _ _ h).mono ?_;rintro e w' ⟨rfl,rfl⟩;go_wp2_with fail
 all_goals
  go_ret;refine⟨ret_int ?_,rfl⟩;unfold longE
  first
   | rw[if_pos oM]
   | rw[if_neg oM]
def addB(L G:List BRow)(x:BRow):List BRow:=if 16<x.val.size then L else if x∈G then L else insC cmpRow L x
theorem badd(d:Id32)(v:ByteArray)(w:World)(g bl bg:Nat)(L G:List BRow)(h:BagAt w g bl bg L G)(hv:v.size<=9223372036854775807) :
  Calls prog 276 #[.pointer (some ⟨g,0,none⟩),.agg (idC d),.string v] w λe w'=>e=.returned (.int .i64 (longE v))/\BagAt w' g bl bg (addB L G ⟨d,v⟩) G/\Keep [bl] w w':=by
 have h0:BagAt (w.alloc (.cells (idC d) 23)) g bl bg L G:=h.below (bA);have hc:=h0.cell0;by_cases f:16<v.size
 ·have e1:longE v=3:=if_pos f;have e2:addB L G ⟨d,v⟩=L:=if_pos f;rw[e1,e2];have j:=bask v _ g bl hc hv;rw[e1]at j;clear e1 e2 hc;go_enter func276,ntmps276
  (go_wp2_with fail);refine j.mono ?_;rintro e w' ⟨rfl,rfl⟩;(go_wp2_with fail);go_ret;exact⟨rfl,h0,(Keep.alloc _ _).mono sI⟩
 ·have e1:longE v=0:=if_neg f;have s:small ⟨d,v⟩:=by unfold small;simp only;omega
  have j:=bask v _ g bl hc hv;rw[e1]at j;rw[e1];have r:Below w.heap.size w ((w.alloc (.cells (idC d) 23)).alloc (.cells (bRowC ⟨d,v⟩) 314)):=(bA).alloc sI _;have h1:=h.below r;have k:rowAt ((w.alloc (.cells (idC d) 23)).alloc (.cells (bRowC ⟨d,v⟩) 314)) (w.heap.size+1) 0 33=some (bRowC ⟨d,v⟩):=by simp[go_sem]
  have R:=h.lt.2.1;clear hc e1 hv;by_cases hG:(⟨d,v⟩:BRow)∈G
  ·have e2:addB L G ⟨d,v⟩=L:=by unfold addB;rw[if_neg f,if_pos hG]
   rw[e2];clear e2 f;go_enter func276,ntmps276
   (go_wp2_with fail);refine j.mono ?_;rintro e w' ⟨rfl,rfl⟩;go_upto_region 5 with fail
   obtain⟨W,hW⟩:=eR ((w.alloc (.cells (idC d) 23)).alloc (.cells (bRowC ⟨d,v⟩) 314))
   rw[<-hW]at h1 k r |-;have t:=h1.cell1;have hk:∀x:Subtype (Bel W),(Instr.lookup 317 (.map (some bg)) (.agg (bRowC ⟨d,v⟩)) false).run prog x.1=.ok (.bool true) x.1:=λx=>rhit (h1.gone.below x.2) s hG;have J:=dH h0;have B:=dH hG;clear hW h0 hG j;refine lX W ?_;intro y hS;have b1:=sub_cell t;have b2:=sub_row k;refine lZ ?_;refine wpLx_nil ?_;intro hS;(go_wp2_with fail);go_ret;exact⟨rfl,h1.below hS,(Keep.of_below (bel2 r hS)).mono sI⟩
  ·have e2:addB L G ⟨d,v⟩=insC cmpRow L ⟨d,v⟩:=by unfold addB;rw[if_neg f,if_neg hG]
   rw[e2];clear e2 f;go_enter func276,ntmps276
   (go_wp2_with fail);refine j.mono ?_;rintro e w' ⟨rfl,rfl⟩;go_upto_region 5 with fail
   obtain⟨W,hW⟩:=eR ((w.alloc (.cells (idC d) 23)).alloc (.cells (bRowC ⟨d,v⟩) 314))
   rw[<-hW]at h1 k r |-;have t:=h1.cell1;have hk:∀x:Subtype (Bel W),(Instr.lookup 317 (.map (some bg)) (.agg (bRowC ⟨d,v⟩)) false).run prog x.1=.ok (.bool false) x.1:=λx=>rmiss (h1.gone.below x.2) s hG;have J:=dH h0;have B:=dH hG;clear hW h0 hG j;refine lX W ?_;intro y hS;have b1:=sub_cell t;have b2:=sub_row k;refine lZ ?_;refine wpLx_nil ?_;intro hS;have h2:=h1.below hS;have m:rowAt W.drew (w.heap.size+1) 0 33=some (bRowC ⟨d,v⟩):=k;have E:Below w.heap.size w W.drew:=bel2 r hS;clear b1 b2 hk t k h1 y r;go_upto_region 6 with fail
   obtain⟨W1,F⟩:=eR W.drew
   rw[<-F]at h2 m E |-;obtain⟨w2,H,O,I⟩:=rput (x:=⟨d,v⟩) (h2.live.kept (Keep.drew W1) sI) s;have D:g∉[bl]:=by simp;exact h2.nel
   have M:=h2.cell0;clear F hS;refine kX [bl] W1 ?_;intro y hS;have b1:=ksub_cell M D;have b2:=ksub_row m (S:=[bl]) sO;refine lQ ?_;intro K hK;refine step_keep (kp_next hS I sI) (λhS=>?_);refine hK _ _ ?_;clear hK K;refine wpLx_nil ?_;intro hS;(go_wp2_with fail);go_ret;have N:bg∉[bl]:=by simp;exact λe=>h2.ne e.symm
   have A:Keep [bl] W1 _:=hS;refine⟨rfl,⟨(A.block g h2.lt.1 D).trans h2.blk,O.congr λx=>?_,h2.gone.kept A N,h2.ne,ris_insC totRow h2.risL,h2.risG,λx hx=>?_,h2.smG,λx hx=>?_⟩,Keep.trans ((Keep.of_below E).mono (S':=[bl]) sI) A iL⟩
   ·rw[mem_insC totRow,mem_cons]
   ·rcases (mem_insC totRow).1 hx with e | hx
    ·rw[e];exact s
    ·exact h2.smL x hx
   ·rcases (mem_insC totRow).1 hx with e | hx
    ·rw[e];exact B.out
    ·exact h2.apart x hx
end
theorem row_ne{o k:Nat}(h:rowAt w g o k=some cs)(hs:RowSet w b X):g≠b:=by
 rintro rfl;obtain⟨M,es,d,hm,_⟩:=hs;unfold rowAt at h;rw[hm.heap]at h;cases h
def remG(G:List BRow)(v:ByteArray)(tags:List Id32):List BRow:=tags.foldl (λG t=>insC cmpRow G ⟨t,v⟩) G
def remL(L:List BRow)(v:ByteArray)(tags:List Id32):List BRow:=tags.foldl (λL t=>L.filter λy=>decide (y≠(⟨t,v⟩:BRow))) L
theorem remG_snoc(G:List BRow)(v:ByteArray)(d:List Id32)(t:Id32):remG G v (d ++ [t])=insC cmpRow (remG G v d) ⟨t,v⟩:=by simp[remG]
theorem remL_snoc(L:List BRow)(v:ByteArray)(d:List Id32)(t:Id32):remL L v (d ++ [t])=(remL L v d).filter λy=>decide (y≠(⟨t,v⟩:BRow)):=by simp[remL]
theorem brem_ok(v:ByteArray)(A:Option Addr)(n cap:Nat)(T:List Id32)(w:World)(g bl bg:Nat)(L G:List BRow)(h:BagAt w g bl bg L G)(hT:TagsIn w A n T)(hv:v.size<=16)(hn:n<=1000000) :
  Calls prog 277 #[.pointer (some ⟨g,0,none⟩),.string v,.slice A n cap] w λe w'=>e=.returned (.int .i64 0)/\BagAt w' g bl bg (remL L v T) (remG G v T)/\Keep [bl,bg] w w':=by
 have D:=hT.len;have j:=dH D;clear D;have F:=bask v w g bl h.cell0 oM;have e1:longE v=0:=if_neg oM;rw[e1]at F;clear e1;go_enter func277,ntmps277
 (go_wp2_with fail);refine F.mono ?_;rintro e w' ⟨rfl,rfl⟩;(go_wp2_with fail);go_loopw [19] (λi wr=>∃k:Nat,k<=n/\i=.int .i64 k/\BagAt wr g bl bg (remL L v (T.take k)) (remG G v (T.take k))/\Keep [bl,bg] w wr) (λi _=>n-(intOf i).toNat)
 case atStart=>exact⟨0,zL,rfl,by simpa[remL,remG]using h,Keep.refl _ _⟩
 case round =>
  obtain⟨k,hk,rfl,hB,N⟩:=hrel;by_cases B:k<n
  ·obtain⟨q,o,rfl,m⟩:=hT.get B (by rw[j.out];exact B);have a6:q≠bl:=row_ne m h.live;have a7:q≠bg:=row_ne m h.gone;have a5:rowAt wr q (o+k*32) 32=some (idC (T[k]'(by rw[j.out];exact B))):=(N.row (rowAt_lt m) (by simp[a6,a7]) _ _).trans m;have I:T.take (k+1)=T.take k ++ [T[k]'(by rw[j.out];exact B)]:=by rw[take_add_one,getElem?_eq_getElem (by rw[j.out];exact B)];rfl
   obtain⟨d,hd⟩:=eX (T[k]'(by rw[j.out];exact B))
   rw[hd]at a5 I;have b7:=dH I;clear hd I m;have J:small ⟨d,v⟩:=hv;obtain⟨L1,X⟩:=eX (remL L v (T.take k))
   obtain⟨G1,Y⟩:=eX (remG G v (T.take k))
   have b8:=dH X;have b9:=dH Y;rw[X,Y]at hB;clear X Y;have H:Below wr.heap.size wr ((wr.alloc (.cells (idC d) 23)).alloc (.cells (bRowC ⟨d,v⟩) 314)):=(bA).alloc sI _;have h1:=hB.below H;have f:rowAt ((wr.alloc (.cells (idC d) 23)).alloc (.cells (bRowC ⟨d,v⟩) 314)) (wr.heap.size+1) 0 33=some (bRowC ⟨d,v⟩):=by simp[go_sem]
   have a8:=hB.lt;go_upto_region 8 with fail
   obtain⟨W1,a3⟩:=eR ((wr.alloc (.cells (idC d) 23)).alloc (.cells (bRowC ⟨d,v⟩) 314))
   rw[<-a3]at h1 f H |-;obtain⟨w2,y,b5,U⟩:=rput (x:=⟨d,v⟩) (h1.gone.kept (Keep.drew W1) sI) J;have a1:g∉[bg]:=by simp;exact h1.neg
   have a2:=h1.cell1;clear a3;refine kX [bg] W1 ?_;intro M hS;have b1:=ksub_cell a2 a1;have b2:=ksub_row f (S:=[bg]) sO;refine lQ ?_;intro K hK;refine step_keep (kp_next hS U sI) (λhS=>?_);refine hK _ _ ?_;clear hK K;refine wpLx_nil ?_;intro hS;have r:Keep [bg] W1 w2:=hS;have a9:bl∉[bg]:=by simp;exact h1.ne
   have b0:=h1.live.kept r a9;have t:=(r.block g h1.lt.1 a1).trans h1.blk;have V:w2.cell? ⟨g,0,none⟩=some (.map (some bl)):=by rw[cell_of_row w2 g 0 _ _ _ t];rfl
   have s:rowAt w2 (wr.heap.size+1) 0 33=some (bRowC ⟨d,v⟩):=(r.row (rowAt_lt f) sO _ _).trans f;have E:Keep [bg] wr w2:=Keep.trans ((Keep.of_below H).mono (S':=[bg]) sI) r iL;have R:=hB.nel;have a4:=E.size;clear b1 b2 U y M hS r a2 f H;go_upto_region 9 with fail
   obtain⟨w3,y,b4,Z⟩:=rdel (x:=⟨d,v⟩) (b0.kept (Keep.drew w2) sI) J 0;have a0:g∉[bl]:=by simp;exact R
   refine kX [bl] w2 ?_;intro M hS;have b1:=ksub_cell V a0;have b2:=ksub_row s (S:=[bl]) sO;refine lQ ?_;intro K hK;refine step_keep (kp_next hS Z sI) (λhS=>?_);refine hK _ _ ?_;clear hK K;refine wpLx_nil ?_;intro hS;have r:Keep [bl] w2 w3:=hS;have O:bg∉[bl]:=by simp;exact λe=>h1.ne e.symm
   have b3:Keep [bl,bg] w w3:=Keep.trans (Keep.trans N E sI) r sI;have b6:BagAt w3 g bl bg (remL L v (T.take (k+1))) (remG G v (T.take (k+1))):=by
    rw[b7.out,remL_snoc,remG_snoc,b8.out,b9.out];refine⟨(r.block g (block_lt_of_cell? w2 _ V) a0).trans t,b4,(b5.congr λx=>?_).kept r O,h1.ne,hB.risL.filter _,ris_insC totRow hB.risG,λx hx=>hB.smL x (mem_filter.1 hx).1,λx hx=>?_,λx hx=>?_⟩
    ·rw[mem_insC totRow,mem_cons]
    ·rcases (mem_insC totRow).1 hx with e | hx
     ·rw[e];exact J
     ·exact hB.smG x hx
    ·intro hm;have h2:=mem_filter.1 hx;rcases (mem_insC totRow).1 hm with e | hm
     ·exact(decide_eq_true_eq.mp h2.2) e
     ·exact hB.apart x h2.1 hm
   clear b1 b2 Z y M hS r V s;(go_wp2_with fail);go_roundw
   case rel=>exact⟨k+1,oM,by go_num,b6,b3⟩
   case measure=>exact sZ
  ·(go_wp2_with fail);go_ret;have e:k=n:=oM;have e2:T.take k=T:=take_of_length_le (by rw[j.out];omega);rw[e2]at hB;exact⟨rfl,hB,N⟩
structure Setting where
 val:ByteArray
 n:Int
 id:Id32
def settingC(x:Setting):Array Value:=#[.string x.val] ++ #[.int .i64 x.n]++idC x.id
@[simp] theorem settingC_size(x:Setting):(settingC x).size=34:=by simp[settingC]
@[go_sem] theorem settingC_g0(x:Setting):(settingC x)[0]?=some (.string x.val):=by first | (simp[settingC,Array.getElem?_append];done) | (rw[show settingC x=((#[]:Array Value)) ++ #[.string x.val]++(#[.int .i64 x.n]++idC x.id)from by apply Array.ext';simp[settingC]];exact arr_at _ _ _ _ sI)
@[go_sem] theorem settingC_gg0(x:Setting)(h:0<(settingC x).size):(settingC x)[0]'h=.string x.val:=Option.some.inj ((Array.getElem?_eq_getElem h).symm.trans (settingC_g0 x))
@[go_sem] theorem settingC_g1(x:Setting):(settingC x)[1]?=some (.int .i64 x.n):=by first | (simp[settingC,Array.getElem?_append];done) | (rw[show settingC x=(#[.string x.val]) ++ #[.int .i64 x.n]++(idC x.id)from by apply Array.ext';simp[settingC]];exact arr_at _ _ _ _ sI)
@[go_sem] theorem settingC_gg1(x:Setting)(h:1<(settingC x).size):(settingC x)[1]'h=.int .i64 x.n:=Option.some.inj ((Array.getElem?_eq_getElem h).symm.trans (settingC_g1 x))
@[go_sem] theorem settingC_e2(x:Setting):(settingC x).extract 2 34=idC x.id:=by
 have h:settingC x=(#[.string x.val] ++ #[.int .i64 x.n])++idC x.id++((#[]:Array Value)):=by first | (simp[settingC,Array.append_assoc];done) | (apply Array.ext';simp[settingC];done)
 rw[h];exact arr_mid _ _ _ _ _ sI sI
@[go_sem] theorem settingC_all(x:Setting):(settingC x).extract 0 34=settingC x:=by have:=Array.extract_size (xs:=settingC x);rwa [settingC_size]at this
theorem settingC_one(x:Setting):∀u∈(settingC x).toList,u.oneCell'=true:=by
 intro u hu;simp only[settingC,Array.toList_append,mem_append]at hu;rcases hu with(hu | hu) | hu
 ·simp at hu;subst hu;rfl
 ·simp at hu;subst hu;rfl
 ·exact idC_one _ u hu
def setting0:Setting:=⟨⟨#[]⟩,0,id0⟩
theorem Setting_ext{x y:Setting}(h:x.val=y.val/\x.n=y.n/\x.id=y.id):x=y:=by cases x;cases y;simp_all
instance:DecidableEq Setting:=λx y=>if h:x.val=y.val/\x.n=y.n/\x.id=y.id then isTrue (Setting_ext h)else isFalse (λe=>h (by subst e;simp))
theorem infoSetting:(prog.info? 323).map (·.size)=some 34:=kR
@[go_sem ↓] theorem zeroSetting_run(w:World):(zeroValue 323).run prog w=.ok (.agg (settingC setting0)) w:=by
 have h:(prog.info? 323).bind (·.zero)=some (.agg (settingC setting0)):=kR;cases hi:prog.info? 323 with
 | none=>rw[hi]at h;cases h
 | some i =>
  rw[hi]at h;have hz:i.zero=some (.agg (settingC setting0)):=h;simp[zeroValue,typeInfo,hi,hz]
@[go_sem ↓] theorem loadSetting_rw(a:Addr):loadVar 323 a=ldS 323 a:=rfl
@[go_sem ↓] theorem storeSetting_rw(a:Addr)(v:Value):storeVar 323 a v=stS 323 a v:=rfl
@[go_sem] theorem loadSetting_run(w:World)(g o:Nat):(ldS 323 ⟨g,o,none⟩).run prog w=match rowAt w g o 34 with | some cs=>.ok (.agg cs) w | none=>(loadVar 323 ⟨g,o,none⟩).run prog w :=
 run_ldS underlying323 rfl infoSetting w g o
@[go_sem] theorem storeSetting_run(w:World)(g:Nat)(hg:g=w.heap.size)(z:Array Value)(hz:z.size=34)(x:Setting)(e:TypeId):(stS 323 ⟨g,0,none⟩ (.agg (settingC x))).run prog (w.alloc (.cells z e))=.ok () (w.alloc (.cells (settingC x) e)) :=
 hg ▸ run_stS_new infoSetting w z (settingC x) hz (settingC_size x) (settingC_one x)
theorem fieldsSetting:prog.underlying 323=some (.struct (prog.fieldsOf 323)):=kR
theorem placesSetting(w:World):((prog.fieldsOf 323).mapM fun (f:Field)=>do pure (f.offset,<-sizeOf f.type)).run prog w=.ok #[(0,1),(1,1),(2,32)] w:=kR
@[go_sem ↓] theorem buildSetting_rw(parts:Array (Nat×Value)):Instr.build 323 parts=bdS 323 parts:=rfl
@[go_sem] theorem buildSetting(a0:ByteArray)(a1:Int)(a2:Id32)(w:World):(bdS 323 #[(0,.string a0),(1,.int .i64 a1),(2,.agg (idC a2))]).run prog w=.ok (.agg (settingC ⟨a0,a1,a2⟩)) w:=by
 refine run_build w fieldsSetting _ (zeroSetting_run w) _ (placesSetting w) [(0,.string a0),(1,.int .i64 a1),(2,.agg (idC a2))] _ ?_;rw[show settingC setting0=(#[]:Array Value) ++ #[.string ⟨#[]⟩]++(#[.int .i64 0]++(idC id0))from by first | (simp[settingC,setting0,Array.append_assoc];done) | (apply Array.ext';simp[settingC,setting0])];rw[fill_step (off:=0) (size:=1) rfl sI sI (by simp[Value.cells])];rw[show(#[]:Array Value)++(Value.string a0).cells++(#[.int .i64 0]++(idC id0))=(#[.string a0]) ++ #[.int .i64 0]++(idC id0)from by first | (simp[Value.cells,Array.append_assoc];done) | (apply Array.ext';simp[Value.cells];done) | (apply Array.ext';simp only[Array.toList_append];simp[Value.cells])];rw[fill_step (off:=1) (size:=1) rfl sI sI (by simp[Value.cells])];rw[show(#[.string a0])++(Value.int .i64 a1).cells++(idC id0)=(#[.string a0]++(#[.int .i64 a1]))++idC id0++(#[]:Array Value)from by first | (simp[Value.cells,Array.append_assoc];done) | (apply Array.ext';simp[Value.cells];done) | (apply Array.ext';simp only[Array.toList_append];simp[Value.cells])];rw[fill_step (off:=2) (size:=32) rfl sI sI (by simp[Value.cells])];first | (simp[Instr.fill,settingC,Array.append_assoc,Value.cells];done) | (simp only[Instr.fill,settingC];congr 1;apply Array.ext';simp[Value.cells];done) | (simp only[Instr.fill,settingC];congr 1;done) | (simp only[Instr.fill,settingC];done)
def cmpSet(x y:Setting):Int:=orL [cmpI x.n y.n,cmpId x.id y.id,cmpS x.val y.val]
theorem lor3_cells(w:World)(a b c:Int):∀j,j < [a,b,c].length->(w.alloc (.cells #[.int .i64 a,.int .i64 b,.int .i64 c] 3)).cell? ⟨w.heap.size,j,none⟩=some (.int .i64 ([a,b,c].getD j 0)):=by
 intro j hj;have:j=0\/j=1\/j=2:=by simp at hj;omega
 rcases this with rfl | rfl | rfl <;> simp
theorem order_any(x y:Setting)(w:World):Calls prog 307 #[.agg (settingC x),.agg (settingC y)] w λe w'=>e=.returned (.int .i64 (cmpSet x y))/\Below w.heap.size w w':=by
 go_enter func307,ntmps307
 go_upto_region 1 with fail
 obtain⟨W,hW⟩:=eR ((w.alloc (.cells (settingC x) 323)).alloc (.cells (settingC y) 323))
 have hB:Below w.heap.size w W:=by rw[hW];exact(bA).alloc sI _
 have a1:W.cell? ⟨w.heap.size,1,none⟩=some (.int .i64 x.n):=by rw[hW];simp[go_sem]
 have a2:W.cell? ⟨w.heap.size+1,1,none⟩=some (.int .i64 y.n):=by rw[hW];simp[go_sem]
 have a3:rowAt W w.heap.size 2 32=some (idC x.id):=by rw[hW];simp[go_sem]
 have a4:rowAt W (w.heap.size+1) 2 32=some (idC y.id):=by rw[hW];simp[go_sem]
 have a5:W.cell? ⟨w.heap.size,0,none⟩=some (.string x.val):=by rw[hW];simp[go_sem]
 have a6:W.cell? ⟨w.heap.size+1,0,none⟩=some (.string y.val):=by rw[hW];simp[go_sem]
 rw[<-hW];clear hW;refine lX W ?_;intro d hS;have b1:=sub_cell a1;have b2:=sub_cell a2;have b3:=sub_row a3;have b4:=sub_row a4;have b5:=sub_cell a5;have b6:=sub_cell a6;refine lQ ?_;intro K hK;refine(cmp_int _ _ _).mono ?_;rintro e w' ⟨rfl,rfl⟩;refine⟨_,rfl,hS,hK _ _ ?_⟩;clear hK K;refine lZ ?_;refine lC (cmp_id _ _ _) ?_;clear hS;intro w' hS;refine lQ ?_;intro K hK;refine(cmp_str _ _ _).mono ?_;rintro e w' ⟨rfl,rfl⟩;refine⟨_,rfl,hS,hK _ _ ?_⟩;clear hK K;refine lH ?_;intro K hK;refine step_keep (bel_alloc hS _) (λhS=>?_);refine hK _ _ ?_;clear hK K;refine lH ?_;intro K hK;refine(or_any _ _ [cmpI x.n y.n,cmpId x.id y.id,cmpS x.val y.val] sI _ (lor3_cells _ _ _ _)).mono ?_;rintro e w' ⟨rfl,rfl⟩;refine⟨_,rfl,hS,hK _ _ ?_⟩;clear hK K;refine lZ ?_;refine wpLx_nil ?_;intro hS;(go_wp2_with fail);go_ret;exact⟨rfl,hB.trans (hS.mono hB.size)⟩
abbrev LRow:=ByteArray×Setting
theorem cmpS_ne{b:ByteArray}(h1:¬cmpS a b<0)(h2:a≠b):cmpS b a<0:=by
 have:=cmpS_anti a b;have h3:cmpS a b≠0:=λe=>h2 ((cmpS_zero a b).1 e);omega
theorem cmpS_irr:¬cmpS a a<0:=by rw[cmpS_self];omega
def Rising:List LRow->Prop
 | []=>True
 | x :: l=>(∀y∈l,cmpS x.1 y.1<0)/\Rising l
def insL:List LRow->ByteArray->Setting->List LRow
 | [],k,x=>[(k,x)]
 | y :: l,k,x=>if cmpS y.1 k<0 then y :: insL l k x else if y.1=k then(if 0<cmpSet x y.2 then(k,x) :: l else y :: l)else(k,x) :: y :: l
theorem insL_keys:∀(l:List LRow) (k:ByteArray) (x:Setting),∀y∈insL l k x,y.1=k\/∃z∈l,z.1=y.1
 | [],k,x,y,hy=>by simp[insL]at hy;left;rw[hy]
 | a :: l,k,x,y,hy=>by
  unfold insL at hy;split at hy
  ·rcases mem_cons.1 hy with h | h
   ·right;exact⟨a,sI,by rw[h]⟩
   ·rcases insL_keys l k x y h with h | ⟨z,hz,e⟩
    ·exact .inl h
    ·exact .inr ⟨z,mem_cons.2 (.inr hz),e⟩
  ·split at hy
   ·split at hy
    ·rcases mem_cons.1 hy with h | h
     ·left;rw[h]
     ·right;exact⟨y,mem_cons.2 (.inr h),rfl⟩
    ·right;exact⟨y,hy,rfl⟩
   ·rcases mem_cons.1 hy with h | h
    ·left;rw[h]
    ·right;exact⟨y,h,rfl⟩
theorem insL_rising:∀(l:List LRow) (k:ByteArray) (x:Setting),Rising l->Rising (insL l k x)
 | [],k,x,_=>⟨sI,trivial⟩
 | a :: l,k,x,h=>by
  unfold insL;split
  ·rename_i hlt
   refine⟨λy hy=>?_,insL_rising l k x h.2⟩;rcases insL_keys l k x y hy with e | ⟨z,hz,e⟩
   ·rw[e];exact hlt
   ·rw[<-e];exact h.1 z hz
  ·rename_i hlt
   split
   ·rename_i he
    split
    ·exact⟨λy hy=>by rw[<-he];exact h.1 y hy,h.2⟩
    ·exact h
   ·rename_i he
    have d:cmpS k a.1<0:=cmpS_ne hlt he;refine⟨λy hy=>?_,h⟩;rcases mem_cons.1 hy with e | hy
    ·rw[e];exact d
    ·exact cmpS_trans _ _ _ d (h.1 y hy)
theorem insL_new:∀(l:List LRow) (k:ByteArray) (x:Setting),k∉l.map (·.1)->(insL l k x).Perm (l ++ [(k,x)])
 | [],_,_,_=>Perm.refl _
 | a :: l,k,x,h=>by
  simp only[map_cons,mem_cons,not_or]at h;unfold insL;split
  ·exact(insL_new l k x h.2).cons a
  ·rw[if_neg (λe=>h.1 e.symm)];exact(perm_append_singleton (k,x) (a :: l)).symm
theorem insL_old:∀(l:List LRow) (k:ByteArray) (x was:Setting),Rising l->(k,was)∈l->insL l k x=if 0<cmpSet x was then l.map (λp=>if p.1=k then(k,x)else p)else l
 | [],_,_,_,_,h=>by simp at h
 | a :: l,k,x,was,hr,hm=>by
  unfold insL;rcases mem_cons.1 hm with e | f
  ·subst e;rw[if_neg cmpS_irr,if_pos rfl];have g:∀p∈l,p.1≠k:=λp hp e=>by
    have:=hr.1 p hp;rw[e]at this;exact cmpS_irr this
   split
   ·rw[map_cons,if_pos rfl];congr 1
    have:l.map (λp=>if p.1=k then(k,x)else p)=l:=by
     conv=>rhs;rw[<-map_id l]
     exact map_congr_left λp hp=>by rw[if_neg (g p hp)];rfl
    rw[this]
   ·rfl
  ·have d:cmpS a.1 k<0:=hr.1 _ f;rw[if_pos d,insL_old l k x was hr.2 f];have j:a.1≠k:=λe=>(by rw[e]at d;exact cmpS_irr d);split
   ·rw[map_cons,if_neg j]
   ·rfl
def checkE(k:ByteArray)(x:Setting):Int:=if 16<k.size\/16<x.val.size then 3 else if x.n<0\/2147483648<=x.n then 5 else 0
def setL(l:List LRow)(k:ByteArray)(x:Setting):List LRow:=if checkE k x=0 then insL l k x else l
def RowsOk(l:List LRow):Prop:=Rising l/\∀p∈l,checkE p.1 p.2=0
theorem checkE_bd{x:Setting}(h:checkE k x=0):k.size<=16/\x.val.size<=16/\0<=x.n/\x.n<2147483648:=by
 unfold checkE at h;split at h
 ·omega
 ·split at h
  ·omega
  ·omega
theorem insL_mem:∀(l:List LRow) (k:ByteArray) (x:Setting),∀y∈insL l k x,y=(k,x)\/y∈l
 | [],k,x,y,hy=>by simp[insL]at hy;exact .inl hy
 | a :: l,k,x,y,hy=>by
  unfold insL at hy;split at hy
  ·rcases mem_cons.1 hy with h | h
   ·exact .inr (by rw[h];simp)
   ·rcases insL_mem l k x y h with h | h
    ·exact .inl h
    ·exact .inr (mem_cons.2 (.inr h))
  ·split at hy
   ·split at hy
    ·rcases mem_cons.1 hy with h | h
     ·exact .inl h
     ·exact .inr (mem_cons.2 (.inr h))
    ·exact .inr hy
   ·rcases mem_cons.1 hy with h | h
    ·exact .inl h
    ·exact .inr h
theorem setL_ok{l:List LRow}(h:RowsOk l)(k:ByteArray)(x:Setting):RowsOk (setL l k x):=by
 unfold setL;split
 ·rename_i hc
  refine⟨insL_rising l k x h.1,λp hp=>?_⟩;rcases insL_mem l k x p hp with e | hp
  ·rw[e];exact hc
  ·exact h.2 p hp
 ·exact h
theorem insL_length(l:List LRow)(k:ByteArray)(x:Setting):(insL l k x).length<=l.length+1:=by
 induction l with
 | nil=>simp[insL]
 | cons a l ih =>
  unfold insL
  repeat' split
  all_goals simp;try omega
theorem setL_length(l:List LRow)(k:ByteArray)(x:Setting):(setL l k x).length<=l.length+1:=by
 unfold setL;split
 ·exact insL_length l k x
 ·omega
def getL(l:List LRow)(k:ByteArray):Option Setting:=(l.find? (λp=>decide (p.1=k))).map (·.2)
theorem lcheck_any(k:ByteArray)(x:Setting)(w:World)(hk:k.size<=9223372036854775807)(hv:x.val.size<=9223372036854775807) :
  Calls prog 247 #[.string k,.agg (settingC x)] w λe w'=>e=.returned (.int .i64 (checkE k x))/\Below w.heap.size w w':=by
 obtain⟨xv,xn,xi⟩:=x;dsimp only at hv;go_enter func247,ntmps247
 go_wp2_with fail
 all_goals
  go_ret;refine⟨ret_int ?_,bA⟩;unfold checkE
  first
   | rw[if_pos (by simp only;omega)]
   | rw[if_neg (by simp only;omega),if_pos (by simp only;omega)]
   | rw[if_neg (by simp only;omega),if_neg (by simp only;omega)]
theorem strKey:KeyEnc prog 9 Value.string (λk:ByteArray=>k.size<=maxLen) where
 law:=WideMaps.string_law underlying9
 key:=λk hk=>by
  refine⟨.string k.data.toList,?_⟩;simp[keyOf,mapKey,underlying9,hk]
 inj:=λa b h=>by injection h
def setV(x:Setting):Value:=.agg (settingC x)
structure LastAt(w:World)(g b:Nat)(L:List LRow):Prop where
 blk:w.heap[g]?=some (.cells #[.map (some b)] 330 (0,0))
 map:∃M es clk,MapAt w b Value.string setV (λk=>k.size<=maxLen) M es clk/\M.Perm L
 rows:RowsOk L
theorem LastAt.cell{w:World}{g b:Nat}{L:List LRow}(h:LastAt w g b L):w.cell? ⟨g,0,none⟩=some (.map (some b)):=by
 rw[cell_of_row w g 0 _ _ _ h.blk];rfl
theorem LastAt.ne{L:List LRow}(h:LastAt w g b L):g≠b:=by
 rintro rfl;obtain⟨M,es,d,hm,_⟩:=h.map;have:=h.blk;rw[hm.heap]at this;cases this
theorem LastAt.lt{w:World}{g b:Nat}{L:List LRow}(h:LastAt w g b L):g<w.heap.size/\b<w.heap.size:=by
 obtain⟨M,es,d,hm,_⟩:=h.map;exact⟨block_lt_of_cell? w _ h.cell,hm.lt⟩
theorem LastAt.kept{w w':World}{g b:Nat}{L:List LRow}{S:List Nat}(h:LastAt w g b L)(k:Keep S w w')(hg:g∉S)(hb:b∉S):LastAt w' g b L:=by
 obtain⟨M,es,d,hm,hp⟩:=h.map;exact⟨(k.block g h.lt.1 hg).trans h.blk,⟨M,es,d,hm.kept k hb,hp⟩,h.rows⟩
theorem LastAt.below{w':World}{L:List LRow}(h:LastAt w g b L)(k:Below w.heap.size w w'):LastAt w' g b L :=
 h.kept (Keep.of_below k) sI sI
theorem lnone_live(w:World)(g b:Nat)(h:w.cell? ⟨g,0,none⟩=some (.map (some b))):Calls prog 306 #[.pointer (some ⟨g,0,none⟩)] w λe w'=>e=.returned (.bool false)/\w=w':=by
 have hn:=λr=>run_eql_map_nil (P:=prog) w 328 9 323 r underlying328;go_enter func306,ntmps306
 (go_wp2_with fail);go_ret;exact⟨rfl,rfl⟩
theorem getL_mem{l:List LRow}{x:Setting}(h:getL l k=some x):(k,x)∈l:=by
 unfold getL at h;cases hf:l.find? (λp=>decide (p.1=k))with
 | none=>rw[hf]at h;cases h
 | some p =>
  rw[hf]at h;have h1:=mem_of_find?_eq_some hf;have h2:=find?_some hf;have h3:p.1=k:=by simpa using h2
  have h4:p.2=x:=by simpa using h
  rw[<-h3,<-h4];exact h1
theorem getL_none{l:List LRow}(h:getL l k=none):k∉l.map (·.1):=by
 unfold getL at h;intro hm;obtain⟨p,hp,e⟩:=mem_map.1 hm;cases hf:l.find? (λp=>decide (p.1=k))with
 | none=>have:=find?_eq_none.1 hf p hp;simp[e]at this
 | some q=>rw[hf]at h;cases h
theorem LastAt.look{L:List LRow}(h:LastAt w g b L)(hk:k.size<=maxLen) :
  (Instr.lookup 328 (.map (some b)) (.string k) true).run prog w=.ok (.tuple #[.agg (settingC ((getL L k).getD setting0)),.bool (getL L k).isSome]) w:=by
 obtain⟨M,es,j,hm,hp⟩:=h.map;cases hg:getL L k with
 | none =>
  have d:k∉M.map (·.1):=λhx=>getL_none hg ((hp.map (·.1)).mem_iff.1 hx);exact hm.miss strKey underlying328 (zeroSetting_run w) hk d true
 | some x =>
  have f:(k,x)∈M:=hp.mem_iff.2 (getL_mem hg);exact hm.hit strKey underlying328 hk f true
theorem lset_bad(k v:ByteArray)(n:Int)(d:Id32)(w:World)(g b:Nat)(L:List LRow)(h:LastAt w g b L)(hk:k.size<=9223372036854775807)(hv:v.size<=9223372036854775807)(f:checkE k ⟨v,n,d⟩≠0) :
  Calls prog 278 #[.pointer (some ⟨g,0,none⟩),.string k,.string v,.int .i64 n,.agg (idC d)] w λe w'=>e=.returned (.int .i64 (checkE k ⟨v,n,d⟩))/\Below w.heap.size w w':=by
 have hc:(w.alloc (.cells (idC d) 23)).cell? ⟨g,0,none⟩=some (.map (some b)):=(cell?_alloc_lt w _ _ h.lt.1).trans h.cell;have hn:(checkE k ⟨v,n,d⟩ != 0)=true:=by rw[bne_iff_ne];exact f
 clear f;go_enter func278,ntmps278
 (go_wp2_with fail);refine(lnone_live _ _ _ hc).mono ?_;rintro e w' ⟨rfl,rfl⟩;(go_wp2_with fail);refine(lcheck_any _ ⟨v,n,d⟩ _ hk hv).mono ?_;rintro e w' ⟨rfl,hb⟩;(go_wp2_with fail);go_ret;exact⟨rfl,bel2 ((bA).alloc sI _) hb⟩
theorem LastAt.put{L:List LRow}(h:LastAt w g b L){x:Setting}(hk:checkE k x=0)(hx:∀was,getL L k=some was->0<cmpSet x was) :
  ∃w',(Instr.mapUpdate 328 (.map (some b)) (.string k) (.agg (settingC x))).run prog w=.ok () w'/\LastAt w' g b (insL L k x)/\Keep [b] w w':=by
 obtain⟨M,es,t,hm,hp⟩:=h.map;have r:k.size<=maxLen:=by have:=(checkE_bd hk).1;simp only[maxLen];omega
 obtain⟨w',s,j,f,m,d⟩:=hm.update (v:=x) strKey underlying328 r;refine⟨w',f,⟨(d.block g h.lt.1 (by simp;exact h.ne)).trans h.blk,⟨_,s,j,m,?_⟩,?_⟩,d⟩
 ·unfold putL;cases hg:getL L k with
  | none =>
   have h1:=getL_none hg;have h2:k∉M.map (·.1):=λhx=>h1 ((hp.map (·.1)).mem_iff.1 hx);rw[if_neg h2];exact(hp.append_right _).trans (insL_new L k x h1).symm
  | some was =>
   have h1:=getL_mem hg;have h2:k∈M.map (·.1):=mem_map.2 ⟨_,hp.mem_iff.2 h1,rfl⟩;rw[if_pos h2,insL_old L k x was h.rows.1 h1,if_pos (hx was hg)];exact hp.map _
 ·have:=setL_ok h.rows k x;unfold setL at this
  rwa [if_pos hk]at this
theorem lset_new(k v:ByteArray)(n:Int)(d:Id32)(w:World)(g b:Nat)(L:List LRow)(h:LastAt w g b L)(m:checkE k ⟨v,n,d⟩=0)(hg:getL L k=none) :
  Calls prog 278 #[.pointer (some ⟨g,0,none⟩),.string k,.string v,.int .i64 n,.agg (idC d)] w λe w'=>e=.returned (.int .i64 0)/\LastAt w' g b (insL L k ⟨v,n,d⟩)/\Keep [b] w w':=by
 have s:=checkE_bd m;have hk:k.size<=9223372036854775807:=oM;have hv:v.size<=9223372036854775807:=by have:=s.2.1;simp only at this;omega
 have B:k.size<=maxLen:=by simp only[maxLen];omega
 clear s;have hc:(w.alloc (.cells (idC d) 23)).cell? ⟨g,0,none⟩=some (.map (some b)):=(cell?_alloc_lt w _ _ h.lt.1).trans h.cell;have t:Below w.heap.size w ((w.alloc (.cells (idC d) 23)).alloc (.cells (settingC ⟨v,n,d⟩) 323)):=(bA).alloc sI _;have hn:(checkE k ⟨v,n,d⟩ != 0)=false:=by rw[m];rfl
 have I:=dH m;clear m;have Hg:=dH hg;clear hg;go_enter func278,ntmps278
 (go_wp2_with fail);refine(lnone_live _ _ _ hc).mono ?_;rintro e w' ⟨rfl,rfl⟩;(go_wp2_with fail);refine(lcheck_any _ ⟨v,n,d⟩ _ hk hv).mono ?_;rintro e w1 ⟨rfl,hb⟩;have r:=bel2 t hb;have h1:=h.below r;have R:=h1.cell;have A:=h1.look B;simp only[Hg.out,Option.getD_none,Option.isSome_none]at A;have j:rowAt w1 (w.heap.size+1) 0 34=some (settingC ⟨v,n,d⟩):=by
  rw[rowAt_of_block (hb.block (w.heap.size+1) sI) 0 34];simp[go_sem]
 have M:w.heap.size+1<w1.heap.size:=by have:=hb.size;simp at this;omega
 have h2:LastAt (w1.alloc (.cells (settingC setting0) 323)) g b L:=h1.kept (Keep.alloc _ _) sI sI;have f:rowAt (w1.alloc (.cells (settingC setting0) 323)) (w.heap.size+1) 0 34=some (settingC ⟨v,n,d⟩):=((Keep.alloc w1 _).row oM sI 0 34).trans j;have G:Below w.heap.size w (w1.alloc (.cells (settingC setting0) 323)):=r.alloc oM _;clear j hb t hc;go_upto_region 10 with fail
 generalize w1.alloc (.cells (settingC setting0) 323)=W at *;obtain⟨w2,y,H,D⟩:=(h2.kept (Keep.drew W) sI sI).put I.out (λJ e=>by rw[Hg.out]at e;cases e);have E:g∉[b]:=by simp;exact h.ne
 have F:=h2.cell;have O:=h.lt.2;refine kX [b] W ?_;intro N hS;have b1:=ksub_cell F E;have b2:=ksub_row f (S:=[b]) sO;refine lQ ?_;intro K hK;refine step_keep (kp_next hS D sI) (λhS=>?_);refine hK _ _ ?_;clear hK K;refine wpLx_nil ?_;intro hS;(go_wp2_with fail);go_ret;exact⟨rfl,H,Keep.trans ((Keep.of_below G).mono (S':=[b]) sI) hS iL⟩
theorem lset_later(k v:ByteArray)(n:Int)(d:Id32)(w:World)(g b:Nat)(L:List LRow)(h:LastAt w g b L)(s:checkE k ⟨v,n,d⟩=0)(j:Setting)(hg:getL L k=some j)(G:0<cmpSet ⟨v,n,d⟩ j) :
  Calls prog 278 #[.pointer (some ⟨g,0,none⟩),.string k,.string v,.int .i64 n,.agg (idC d)] w λe w'=>e=.returned (.int .i64 0)/\LastAt w' g b (insL L k ⟨v,n,d⟩)/\Keep [b] w w':=by
 have D:=checkE_bd s;have hk:k.size<=9223372036854775807:=oM;have hv:v.size<=9223372036854775807:=by have:=D.2.1;simp only at this;omega
 have I:k.size<=maxLen:=by simp only[maxLen];omega
 clear D;have hc:(w.alloc (.cells (idC d) 23)).cell? ⟨g,0,none⟩=some (.map (some b)):=(cell?_alloc_lt w _ _ h.lt.1).trans h.cell;have E:Below w.heap.size w ((w.alloc (.cells (idC d) 23)).alloc (.cells (settingC ⟨v,n,d⟩) 323)):=(bA).alloc sI _;have hn:(checkE k ⟨v,n,d⟩ != 0)=false:=by rw[s];rfl
 have T:=dH s;clear s;have Hg:=dH hg;clear hg;go_enter func278,ntmps278
 (go_wp2_with fail);refine(lnone_live _ _ _ hc).mono ?_;rintro e w' ⟨rfl,rfl⟩;(go_wp2_with fail);refine(lcheck_any _ ⟨v,n,d⟩ _ hk hv).mono ?_;rintro e w1 ⟨rfl,hb⟩;have B:=bel2 E hb;have h1:=h.below B;have Z:=h1.cell;have H:=h1.look I;simp only[Hg.out,Option.getD_some,Option.isSome_some]at H;have r:rowAt w1 (w.heap.size+1) 0 34=some (settingC ⟨v,n,d⟩):=by
  rw[rowAt_of_block (hb.block (w.heap.size+1) sI) 0 34];simp[go_sem]
 have V:w.heap.size+1<w1.heap.size:=by have:=hb.size;simp at this;omega
 have h2:LastAt (w1.alloc (.cells (settingC j) 323)) g b L:=h1.kept (Keep.alloc _ _) sI sI;have f:rowAt (w1.alloc (.cells (settingC j) 323)) (w.heap.size+1) 0 34=some (settingC ⟨v,n,d⟩):=((Keep.alloc w1 _).row oM sI 0 34).trans r;have O:Below w.heap.size w (w1.alloc (.cells (settingC j) 323)):=B.alloc oM _;have y:rowAt (w1.alloc (.cells (settingC j) 323)) w1.heap.size 0 34=some (settingC j):=by simp[go_sem]
 clear hb E hc;(go_wp2_with fail);refine(order_any _ _ _).mono ?_;rintro e W ⟨rfl,t⟩;have A:=bel2 O t;have h3:=h2.below t;have m:rowAt W (w.heap.size+1) 0 34=some (settingC ⟨v,n,d⟩):=(rowAt_of_block (t.block (w.heap.size+1) sO) 0 34).trans f;clear r f t y;go_upto_region 10 with fail
 obtain⟨w2,F,R,J⟩:=(h3.kept (Keep.drew W) sI sI).put T.out (λx e=>by rw[Hg.out]at e;injection e with e;subst e;exact G);have M:g∉[b]:=by simp;exact h.ne
 have N:=h3.cell;have Y:=h.lt.2;refine kX [b] W ?_;intro X hS;have b1:=ksub_cell N M;have b2:=ksub_row m (S:=[b]) sO;refine lQ ?_;intro K hK;refine step_keep (kp_next hS J sI) (λhS=>?_);refine hK _ _ ?_;clear hK K;refine wpLx_nil ?_;intro hS;(go_wp2_with fail);go_ret;exact⟨rfl,R,Keep.trans ((Keep.of_below A).mono (S':=[b]) sI) hS iL⟩
theorem lset_same(k v:ByteArray)(n:Int)(d:Id32)(w:World)(g b:Nat)(L:List LRow)(h:LastAt w g b L)(r:checkE k ⟨v,n,d⟩=0)(j:Setting)(hg:getL L k=some j)(J:¬0<cmpSet ⟨v,n,d⟩ j) :
  Calls prog 278 #[.pointer (some ⟨g,0,none⟩),.string k,.string v,.int .i64 n,.agg (idC d)] w λe w'=>e=.returned (.int .i64 0)/\LastAt w' g b L/\Below w.heap.size w w':=by
 have D:=checkE_bd r;have hk:k.size<=9223372036854775807:=oM;have hv:v.size<=9223372036854775807:=by have:=D.2.1;simp only at this;omega
 have G:k.size<=maxLen:=by simp only[maxLen];omega
 clear D;have hc:(w.alloc (.cells (idC d) 23)).cell? ⟨g,0,none⟩=some (.map (some b)):=(cell?_alloc_lt w _ _ h.lt.1).trans h.cell;have E:Below w.heap.size w ((w.alloc (.cells (idC d) 23)).alloc (.cells (settingC ⟨v,n,d⟩) 323)):=(bA).alloc sI _;have hn:(checkE k ⟨v,n,d⟩ != 0)=false:=by rw[r];rfl
 have N:=dH r;clear r;have Hg:=dH hg;clear hg;go_enter func278,ntmps278
 (go_wp2_with fail);refine(lnone_live _ _ _ hc).mono ?_;rintro e w' ⟨rfl,rfl⟩;(go_wp2_with fail);refine(lcheck_any _ ⟨v,n,d⟩ _ hk hv).mono ?_;rintro e w1 ⟨rfl,hb⟩;have A:=bel2 E hb;have h1:=h.below A;have M:=h1.cell;have F:=h1.look G;simp only[Hg.out,Option.getD_some,Option.isSome_some]at F;have m:rowAt w1 (w.heap.size+1) 0 34=some (settingC ⟨v,n,d⟩):=by
  rw[rowAt_of_block (hb.block (w.heap.size+1) sI) 0 34];simp[go_sem]
 have I:w.heap.size+1<w1.heap.size:=by have:=hb.size;simp at this;omega
 have h2:LastAt (w1.alloc (.cells (settingC j) 323)) g b L:=h1.kept (Keep.alloc _ _) sI sI;have f:rowAt (w1.alloc (.cells (settingC j) 323)) (w.heap.size+1) 0 34=some (settingC ⟨v,n,d⟩):=((Keep.alloc w1 _).row oM sI 0 34).trans m;have H:Below w.heap.size w (w1.alloc (.cells (settingC j) 323)):=A.alloc oM _;have t:rowAt (w1.alloc (.cells (settingC j) 323)) w1.heap.size 0 34=some (settingC j):=by simp[go_sem]
 clear hb E hc;(go_wp2_with fail);refine(order_any _ _ _).mono ?_;rintro e W ⟨rfl,s⟩;have y:=bel2 H s;have h3:=h2.below s;have B:rowAt W (w.heap.size+1) 0 34=some (settingC ⟨v,n,d⟩):=(rowAt_of_block (s.block (w.heap.size+1) sO) 0 34).trans f;clear m f s t;(go_wp2_with fail);go_ret;exact⟨rfl,h3,y⟩
theorem lset(k v:ByteArray)(n:Int)(d:Id32)(w:World)(g b:Nat)(L:List LRow)(h:LastAt w g b L)(hk:k.size<=9223372036854775807)(hv:v.size<=9223372036854775807) :
  Calls prog 278 #[.pointer (some ⟨g,0,none⟩),.string k,.string v,.int .i64 n,.agg (idC d)] w λe w'=>e=.returned (.int .i64 (checkE k ⟨v,n,d⟩))/\LastAt w' g b (setL L k ⟨v,n,d⟩)/\Keep [b] w w':=by
 by_cases hc:checkE k ⟨v,n,d⟩=0
 ·have hs:setL L k ⟨v,n,d⟩=insL L k ⟨v,n,d⟩:=if_pos hc;rw[hc,hs];cases hg:getL L k with
  | none=>exact lset_new k v n d w g b L h hc hg
  | some was =>
   by_cases f:0<cmpSet ⟨v,n,d⟩ was
   ·exact lset_later k v n d w g b L h hc was hg f
   ·have e:insL L k ⟨v,n,d⟩=L:=by rw[insL_old L k _ was h.rows.1 (getL_mem hg),if_neg f]
    rw[e];exact(lset_same k v n d w g b L h hc was hg f).mono λe w' ⟨he,h1,h2⟩=>⟨he,h1,(Keep.of_below h2).mono sI⟩
 ·have hs:setL L k ⟨v,n,d⟩=L:=if_neg hc;rw[hs];exact(lset_bad k v n d w g b L h hk hv hc).mono λe w' ⟨he,h2⟩=>⟨he,h.below h2,(Keep.of_below h2).mono sI⟩
structure MRow where
 id:Id32
 key:ByteArray
 val:ByteArray
def mRowC(x:MRow):Array Value:=idC x.id ++ #[.string x.key] ++ #[.string x.val]
@[simp] theorem mRowC_size(x:MRow):(mRowC x).size=34:=by simp[mRowC]
@[go_sem] theorem mRowC_e0(x:MRow):(mRowC x).extract 0 32=idC x.id:=by
 have h:mRowC x=((#[]:Array Value))++idC x.id++(#[.string x.key] ++ #[.string x.val]):=by first | (simp[mRowC,Array.append_assoc];done) | (apply Array.ext';simp[mRowC];done)
 rw[h];exact arr_mid _ _ _ _ _ sI sI
@[go_sem] theorem mRowC_g32(x:MRow):(mRowC x)[32]?=some (.string x.key):=by first | (simp[mRowC,Array.getElem?_append];done) | (rw[show mRowC x=(idC x.id) ++ #[.string x.key]++(#[.string x.val])from by apply Array.ext';simp[mRowC]];exact arr_at _ _ _ _ sI)
@[go_sem] theorem mRowC_g33(x:MRow):(mRowC x)[33]?=some (.string x.val):=by first | (simp[mRowC,Array.getElem?_append];done) | (rw[show mRowC x=(idC x.id ++ #[.string x.key]) ++ #[.string x.val]++((#[]:Array Value))from by apply Array.ext';simp[mRowC]];exact arr_at _ _ _ _ sI)
@[go_sem] theorem mRowC_all(x:MRow):(mRowC x).extract 0 34=mRowC x:=by have:=Array.extract_size (xs:=mRowC x);rwa [mRowC_size]at this
theorem mRowC_inj{x y:MRow}(h:mRowC x=mRowC y):x=y:=by
 have h0:=congrArg (λa=>a.extract 0 32) h;simp only[mRowC_e0]at h0;have h0:=idC_inj h0;have h1:=congrArg (λa=>a[32]?) h;simp only[mRowC_g32,Option.some.injEq,Value.string.injEq]at h1;have h2:=congrArg (λa=>a[33]?) h;simp only[mRowC_g33,Option.some.injEq,Value.string.injEq]at h2;cases x;cases y;simp_all
theorem mRowC_one(x:MRow):∀u∈(mRowC x).toList,u.oneCell'=true:=by
 intro u hu;simp only[mRowC,Array.toList_append,mem_append]at hu;rcases hu with(hu | hu) | hu
 ·exact idC_one _ u hu
 ·simp at hu;subst hu;rfl
 ·simp at hu;subst hu;rfl
def mRow0:MRow:=⟨id0,⟨#[]⟩,⟨#[]⟩⟩
theorem MRow_ext{x y:MRow}(h:x.id=y.id/\x.key=y.key/\x.val=y.val):x=y:=by cases x;cases y;simp_all
instance:DecidableEq MRow:=λx y=>if h:x.id=y.id/\x.key=y.key/\x.val=y.val then isTrue (MRow_ext h)else isFalse (λe=>h (by subst e;simp))
theorem infoMRow:(prog.info? 338).map (·.size)=some 34:=kR
@[go_sem ↓] theorem zeroMRow_run(w:World):(zeroValue 338).run prog w=.ok (.agg (mRowC mRow0)) w:=by
 have h:(prog.info? 338).bind (·.zero)=some (.agg (mRowC mRow0)):=kR;cases hi:prog.info? 338 with
 | none=>rw[hi]at h;cases h
 | some i =>
  rw[hi]at h;have hz:i.zero=some (.agg (mRowC mRow0)):=h;simp[zeroValue,typeInfo,hi,hz]
@[go_sem ↓] theorem loadMRow_rw(a:Addr):loadVar 338 a=ldS 338 a:=rfl
@[go_sem ↓] theorem storeMRow_rw(a:Addr)(v:Value):storeVar 338 a v=stS 338 a v:=rfl
@[go_sem] theorem loadMRow_run(w:World)(g o:Nat):(ldS 338 ⟨g,o,none⟩).run prog w=match rowAt w g o 34 with | some cs=>.ok (.agg cs) w | none=>(loadVar 338 ⟨g,o,none⟩).run prog w :=
 run_ldS underlying338 rfl infoMRow w g o
@[go_sem] theorem storeMRow_run(w:World)(g:Nat)(hg:g=w.heap.size)(z:Array Value)(hz:z.size=34)(x:MRow)(e:TypeId):(stS 338 ⟨g,0,none⟩ (.agg (mRowC x))).run prog (w.alloc (.cells z e))=.ok () (w.alloc (.cells (mRowC x) e)) :=
 hg ▸ run_stS_new infoMRow w z (mRowC x) hz (mRowC_size x) (mRowC_one x)
theorem fieldsMRow:prog.underlying 338=some (.struct (prog.fieldsOf 338)):=kR
theorem placesMRow(w:World):((prog.fieldsOf 338).mapM fun (f:Field)=>do pure (f.offset,<-sizeOf f.type)).run prog w=.ok #[(0,32),(32,1),(33,1)] w:=kR
@[go_sem ↓] theorem buildMRow_rw(parts:Array (Nat×Value)):Instr.build 338 parts=bdS 338 parts:=rfl
@[go_sem] theorem buildMRow(a0:Id32)(a1:ByteArray)(a2:ByteArray)(w:World):(bdS 338 #[(0,.agg (idC a0)),(1,.string a1),(2,.string a2)]).run prog w=.ok (.agg (mRowC ⟨a0,a1,a2⟩)) w:=by
 refine run_build w fieldsMRow _ (zeroMRow_run w) _ (placesMRow w) [(0,.agg (idC a0)),(1,.string a1),(2,.string a2)] _ ?_;rw[show mRowC mRow0=(#[]:Array Value)++idC id0++(#[.string ⟨#[]⟩]++(#[.string ⟨#[]⟩]))from by first | (simp[mRowC,mRow0,Array.append_assoc];done) | (apply Array.ext';simp[mRowC,mRow0])];rw[fill_step (off:=0) (size:=32) rfl sI sI (by simp[Value.cells])];rw[show(#[]:Array Value)++(Value.agg (idC a0)).cells++(#[.string ⟨#[]⟩]++(#[.string ⟨#[]⟩]))=(idC a0) ++ #[.string ⟨#[]⟩]++(#[.string ⟨#[]⟩])from by first | (simp[Value.cells,Array.append_assoc];done) | (apply Array.ext';simp[Value.cells];done) | (apply Array.ext';simp only[Array.toList_append];simp[Value.cells])];rw[fill_step (off:=32) (size:=1) rfl sI sI (by simp[Value.cells])];rw[show(idC a0)++(Value.string a1).cells++(#[.string ⟨#[]⟩])=(idC a0++(#[.string a1])) ++ #[.string ⟨#[]⟩]++(#[]:Array Value)from by first | (simp[Value.cells,Array.append_assoc];done) | (apply Array.ext';simp[Value.cells];done) | (apply Array.ext';simp only[Array.toList_append];simp[Value.cells])];rw[fill_step (off:=33) (size:=1) rfl sI sI (by simp[Value.cells])];first | (simp[Instr.fill,mRowC,Array.append_assoc,Value.cells];done) | (simp only[Instr.fill,mRowC];congr 1;apply Array.ext';simp[Value.cells];done) | (simp only[Instr.fill,mRowC];congr 1;done) | (simp only[Instr.fill,mRowC];done)
instance:Inhabited MRow:=⟨mRow0⟩
def cmpMR(x y:MRow):Int:=orL [cmpId x.id y.id,cmpS x.key y.key,cmpS x.val y.val]
theorem orL3(a b c:Int):orL [a,b,c]=orC a (orC b c):=by
 unfold orC orL orL orL orL;split
 ·split
  ·split <;> simp_all
  ·rfl
 ·rfl
theorem totMR:TotC cmpMR:=(totId.pair (totS.pair totS)).of (λx:MRow=>(x.id,x.key,x.val)) (λx y h=>by
 cases x;cases y
 simp only[Prod.mk.injEq]at h;obtain⟨h1,h2,h3⟩:=h;subst h1;subst h2;subst h3;rfl) (λx y=>orL3 _ _ _)
theorem cellsMR:prog.cellsOf 338=34:=kR
theorem rowMR:338<prog.types.size:=of_decide_eq_true kR
abbrev okM(x:MRow):Prop:=x.key.size<=maxLen/\x.val.size<=maxLen
theorem keyLits_mrow(d:Nat){x:MRow}(h:okM x):∃l,prog.keyLits (d+3) 338 (mRowC x).toList=some l:=by
 obtain⟨l1,h1⟩:=keyLits_id d x.id;obtain⟨l2,h2⟩:=keyLits_str (d+1) h.1;obtain⟨l3,h3⟩:=keyLits_str (d+1) h.2;have e1:((mRowC x).toList.drop 0).take 32=(idC x.id).toList:=by simp[mRowC]
 have e2:((mRowC x).toList.drop 32).take 1 = [.string x.key]:=by simp[mRowC]
 have e3:((mRowC x).toList.drop 33).take 1 = [.string x.val]:=by
  simp[mRowC,drop_append];rw[drop_eq_nil_of_le sI];rfl
 refine Option.isSome_iff_exists.1 ?_;unfold Program.keyLits;simp only[underlying338];rw[if_pos ⟨by rw[cellsMR];simp,kR⟩];simp only[mapM_cons,mapM_nil,cellsId,cellsStr,e1,e2,e3,h1,h2,h3];rfl
def mrowV(x:MRow):Value:=.agg (mRowC x)
theorem mrowKey:KeyEnc prog 338 mrowV okM where
 law:=deep_law_laid Tryz.laidOut (m:=3) oM rowMR kR (by rw[underlying338])
 key:=λx hx=>by
  obtain⟨d,hd⟩:∃d,prog.types.size+1=d+3:=⟨prog.types.size-2,oH size3⟩
  obtain⟨l,hl⟩:=keyLits_mrow d hx;refine⟨.string (keyBytes l),?_⟩;unfold keyOf;simp only[underlying338];have f:prog.keyType 338=true:=kR;have hf:(mrowV x).formed prog 338=true:=by simp[mrowV,Value.formed,underlying338,cellsMR]
  rw[f,hf,hd];simp only[Bool.and_self,if_true];have:(mrowV x).cells.toList=(mRowC x).toList:=rfl;rw[this,hl];rfl
 inj:=λa b h=>by unfold mrowV at h;injection h with h;exact mRowC_inj h
section
theorem SetAt.clear{P:Program}{K T E':TypeId}{kv:κ->Value}{ok:κ->Prop}{L:List κ}(h:SetAt w b kv ok L)(ht:P.underlying T=some (.map K E'))(ty:TypeId) :
  ∃w',(Builtin.clear_ #[T] ty #[.map (some b)]).run P w=.ok (.tuple #[]) w'/\SetAt w' b kv ok []/\Keep [b] w w':=by
 obtain⟨M,es,d,hm,g,f⟩:=h;refine⟨_,?_,⟨[],#[],d,⟨heap_setObj _ hm.lt,rfl,rfl,sI,sI,sI,sI⟩,sI,sI⟩,keep_setObj w b _⟩;simp[Builtin.clear_,run_underlying ht,run_getObj_map hm.heap,run_setObj' hm.heap]
abbrev MSet(w:World)(b:Nat)(L:List MRow):Prop:=SetAt w b mrowV okM L
def msmall(x:MRow):Prop:=x.key.size<=16/\x.val.size<=16
theorem msmall_ok{x:MRow}(h:msmall x):okM x:=by
 obtain⟨h1,h2⟩:=h;exact⟨by simp only[maxLen];omega,by simp only[maxLen];omega⟩
theorem mput{X:List MRow}{x:MRow}(h:MSet w b X)(hk:msmall x):∃w',(Instr.mapUpdate 334 (.map (some b)) (.agg (mRowC x)) (.bool true)).run prog w=.ok () w'/\MSet w' b (x :: X)/\Keep [b] w w':=SetAt.put h mrowKey underlying334 (msmall_ok hk)
theorem mclear{X:List MRow}(h:MSet w b X)(ty:TypeId):∃w',(Builtin.clear_ #[334] ty #[.map (some b)]).run prog w=.ok (.tuple #[]) w'/\MSet w' b []/\Keep [b] w w':=SetAt.clear h underlying334 ty
structure MultiAt(w:World)(g bl bo:Nat)(X:List MRow)(O:List Id32):Prop where
 blk:w.heap[g]?=some (.cells #[.map (some bl),.map (some bo)] 336 (0,0))
 live:MSet w bl X
 over:IdSet w bo O
 ne:bl≠bo
 risX:Ris cmpMR X
 risO:Ris cmpId O
 sm:∀x∈X,msmall x
 apart:∀x∈X,x.id∉O
theorem setAt_ne{kv:κ->Value}{ok:κ->Prop}{X:List κ}(h:SetAt w b kv ok X)(hg:w.heap[g]?=some (.cells cs t f)):g≠b:=by
 rintro rfl;obtain⟨M,es,d,hm,_⟩:=h;rw[hm.heap]at hg;cases hg
section
variable {w w':World} {g bl bo:Nat} {X:List MRow} {O:List Id32}
theorem MultiAt.cell0(h:MultiAt w g bl bo X O):w.cell? ⟨g,0,none⟩=some (.map (some bl)):=by rw[cell_of_row w g 0 _ _ _ h.blk];rfl
theorem MultiAt.cell1(h:MultiAt w g bl bo X O):w.cell? ⟨g,1,none⟩=some (.map (some bo)):=by rw[cell_of_row w g 1 _ _ _ h.blk];rfl
theorem MultiAt.lt(h:MultiAt w g bl bo X O):g<w.heap.size/\bl<w.heap.size/\bo<w.heap.size:=⟨(aG h.blk).1,h.live.lt,h.over.lt⟩
theorem MultiAt.nel(h:MultiAt w g bl bo X O):g≠bl:=setAt_ne h.live h.blk
theorem MultiAt.neo(h:MultiAt w g bl bo X O):g≠bo:=setAt_ne h.over h.blk
theorem MultiAt.kept{S:List Nat}(h:MultiAt w g bl bo X O)(k:Keep S w w')(hg:g∉S)(hl:bl∉S)(ho:bo∉S):MultiAt w' g bl bo X O :=
 ⟨(k.block g h.lt.1 hg).trans h.blk,h.live.kept k hl,h.over.kept k ho,h.ne,h.risX,h.risO,h.sm,h.apart⟩
theorem MultiAt.below(h:MultiAt w g bl bo X O)(k:Below w.heap.size w w'):MultiAt w' g bl bo X O:=h.kept (Keep.of_below k) sI sI sI
end
theorem mnone_live(w:World)(g b:Nat)(h:w.cell? ⟨g,0,none⟩=some (.map (some b))):Calls prog 308 #[.pointer (some ⟨g,0,none⟩)] w λe w'=>e=.returned (.bool false)/\w=w':=by
 have hn:=λr=>run_eql_map_nil (P:=prog) w 334 338 4 r underlying334;go_enter func308,ntmps308
 (go_wp2_with fail);go_ret;exact⟨rfl,rfl⟩
theorem einfoMRow:ElemInfo prog 331 338 34 64 :=
 .of (z:=.agg (mRowC mRow0)) underlying331 kR kR kR (mRowC_size _) oM
@[go_sem ↓] theorem bsMRow_rw(n:Nat)(parts:Array (Nat×Value)):Instr.buildSlice 331 n parts=bsS 331 n parts:=rfl
@[go_sem] theorem bsMRow_run(w:World)(x:MRow):(bsS 331 1 #[(0,.agg (mRowC x))]).run prog w=.ok (.slice (some ⟨w.heap.size,0,none⟩) 1 1) (w.alloc (.cells (mRowC x) 338)) :=
 run_bsS1 einfoMRow oM w (mRowC x) (mRowC_size x)
def livR(X:List MRow)(O:List Id32):List MRow:=X.filter λx=>decide (x.id∉O)
theorem msweep(wS:World)(g bl bo:Nat)(X:List MRow)(O:List Id32)(E:wS.heap[g]?=some (.cells #[.map (some bl),.map (some bo)] 336 (0,0)))(hl:MSet wS bl X)(ho:IdSet wS bo O)(b6:bl≠bo)(hr:Ris cmpMR X)(f2:∀x∈X,msmall x)(hn:X.length<=1000000) :
  Calls prog 309 #[.pointer (some ⟨g,0,none⟩)] wS λe w'=>e=.returned (.tuple #[])/\MSet w' bl (livR X O)/\Keep [bl] wS w':=by
 have h9:=hl.lt;have h8:=ho.lt;have c7:=(aG E).1;have R:g≠bl:=setAt_ne hl E;have e0:wS.cell? ⟨g,0,none⟩=some (.map (some bl)):=by rw[cell_of_row wS g 0 _ _ _ E];rfl
 have g4:wS.cell? ⟨g,1,none⟩=some (.map (some bo)):=by rw[cell_of_row wS g 1 _ _ _ E];rfl
 obtain⟨w0,f,hR,g6,h7⟩:=SetAt.range (P:=prog) (kv:=mrowV) (ok:=okM) hl underlying334;go_enter func309,ntmps309
 (go_wp2_with fail);clear f E;go_loopw [2] (λout wr=>∃S A cap,out=.slice A (livR S O).length cap/\SetRange wr bl wS.heap.size mrowV okM X S/\Own wr w0.heap.size 338 34 A (livR S O).length cap ((livR S O).map mRowC)/\Below wS.heap.size wS wr/\w0.heap.size<=wr.heap.size) (λ_ wr=>wr.rangeLeft bl wS.heap.size)
 case atStart=>exact⟨[],none,0,rfl,hR,Own.nil _ _ _ _,g6,lR⟩
 case round =>
  obtain⟨S,A,cap,rfl,hR,t,hb,h6⟩:=hrel;rcases hR.next (P:=prog) 0 with⟨hall,c4,f⟩ | ⟨x,w1,hxL,hxS,f,hR1,hk1,hs1,hl1,hen⟩
  ·have a8:=(hb.cell (p:=⟨g,0,none⟩) c7).trans e0;obtain⟨wc,c8,f4,c6⟩:=mclear (hl.below hb) 0;have g3:=(c6.cell (p:=⟨g,0,none⟩) (show g<wr.heap.size by have:=hb.size;omega) (by simpa using R)).trans a8;have hp:S.Perm X:=(perm_ext_iff_of_nodup c4 (hr.nodup totMR)).2 hall;have g8:S.length=X.length:=hp.length_eq;have N:∀x,x∈livR S O↔x∈livR X O:=λx=>(by unfold livR;simp[hall]);have U:∀x∈livR S O,msmall x:=λx hx=>f2 x ((hall x).1 (mem_filter.1 hx).1);have c5:(livR S O).length<=1000000:=by have:(livR S O).length<=S.length:=length_filter_le _ _;omega
   have I:=t.kept c6 (λy hy=>oS ((t.at_base hy).1));have f8:Keep [bl] wS wc:=Keep.trans ((Keep.of_below hb).mono (S':=[bl]) sI) c6 iL;obtain⟨T,hT⟩:=eX (livR S O)
   rw[hT]at N U c5 I |-;have d1:=dH N;have h5:=dH hall;clear hT hall N hp g8 t hR hb;(go_wp2_with fail);clear c8 f a8;go_loopw [33] (λi wr=>∃k:Nat,k<=T.length/\i=.int .i64 k/\MSet wr bl (T.take k)/\Keep [bl] wS wr/\Own wr w0.heap.size 338 34 A T.length cap (T.map mRowC)) (λi _=>T.length-(intOf i).toNat)
   case atStart=>exact⟨0,zL,rfl,f4,f8,I⟩
   case round =>
    obtain⟨k,hk,rfl,hm,a6,s⟩:=hrel;by_cases a5:k<T.length
    ·obtain⟨q,o,rfl,a1⟩:=s.slr.at_ a5;obtain rfl:o=0:=by
      rcases s.addr with e | ⟨g',e⟩
      ·cases e
      ·injection e with e;injection e
     rw[Nat.zero_add,getElem_map]at a1;have d2:msmall (T[k]'a5):=U _ (getElem_mem _);have b8:T.take (k+1)=T.take k ++ [T[k]'a5]:=by rw[take_add_one,getElem?_eq_getElem a5];rfl
     obtain⟨x,hx⟩:=eX (T[k]'a5)
     rw[hx]at a1 d2 b8;have h0:=dH b8;clear hx b8;have F:Below wr.heap.size wr (wr.alloc (.cells (mRowC x) 338)):=bA;have d6:=SetAt.below hm F;have H:=s.below F;have V:=(F.cell (p:=⟨g,0,none⟩) (show g<wr.heap.size by have:=a6.size;omega)).trans ((a6.cell (p:=⟨g,0,none⟩) c7 (by simpa using R)).trans e0);have G:rowAt (wr.alloc (.cells (mRowC x) 338)) wr.heap.size 0 34=some (mRowC x):=by simp[go_sem]
     have d8:Keep [bl] wS (wr.alloc (.cells (mRowC x) 338)):=Keep.trans a6 (Keep.of_below F) sI;have f0:=a6.size;go_upto_region 10 with fail
     obtain⟨W1,b3⟩:=eR (wr.alloc (.cells (mRowC x) 338))
     rw[<-b3]at d6 H V G d8 |-;clear b3;obtain⟨w2,f,f3,d9⟩:=mput (x:=x) (d6.kept (Keep.drew W1) sI) d2;have g2:g∉[bl]:=by simpa using R
     refine kX [bl] W1 ?_;intro b6 hS;have b1:=ksub_cell V g2;have b2:=ksub_row G (S:=[bl]) sO;refine lQ ?_;intro K hK;refine step_keep (kp_next hS d9 sI) (λhS=>?_);refine hK _ _ ?_;clear hK K;refine wpLx_nil ?_;intro hS;have e7:Keep [bl] W1 w2:=hS;have a2:=H.kept e7 (λy hy=>oS ((s.at_base hy).1));have g0:=Keep.trans d8 e7 iL;clear b1 b2 b6 hS d9 f V G;(go_wp2_with fail);go_roundw
     case rel=>exact⟨k+1,oM,by go_num,SetAt.congr f3 (λy=>by rw[h0.out];simp[or_comm]),g0,a2⟩
     case measure=>exact sZ
    ·have e2:T.take k=T:=take_of_length_le oM;rw[e2]at hm;(go_wp2_with fail);go_end0;exact⟨rfl,SetAt.congr hm d1.out,a6⟩
  ·have i0:(livR S O).length+1<=1000000:=by
    obtain⟨M,Z,hZ,f9,_,g7,c4⟩:=hR1;have h1:=hZ.length;have h2:(Z.map (·.1)).length=(S ++ [x]).length:=by rw[g7]
    have h3:(M.map (·.1)).length<=X.length:=nodup_len c4 (λy hy=>(f9 y).1 hy);have h4:(livR S O).length<=S.length:=length_filter_le _ _;simp at h2 h3;omega
   have d7:livR (S ++ [x]) O=if x.id∈O then livR S O else livR S O ++ [x]:=by
    unfold livR;rw[filter_append];by_cases e:x.id∈O <;> simp[e]
   have J:=t.kept hk1 (λy hy=>oS ((t.at_base hy).1));have e4:Below wS.heap.size wS w1:=hb.trans (hk1.below (B:=wS.heap.size) oM sI);have F:Below w1.heap.size w1 (w1.alloc (.cells (mRowC x) 338)):=bA;have b5:=hR1.kept (Keep.of_below F) sI sI;have f7:(w1.alloc (.cells (mRowC x) 338)).rangeLeft bl wS.heap.size=w1.rangeLeft bl wS.heap.size:=rangeLeft_kept (Keep.of_below F) sI sI hR1.lt.2 hR1.lt.1;have D:=J.below F;have f1:w0.heap.size<=w1.heap.size:=oM;have b9:wS.heap.size<=w1.heap.size:=oM;have b0:Below wS.heap.size wS (w1.alloc (.cells (mRowC x) 338)):=e4.trans (F.mono b9);have G:rowAt (w1.alloc (.cells (mRowC x) 338)) w1.heap.size 0 34=some (mRowC x):=by simp[go_sem]
   have V:=(b0.cell (p:=⟨g,1,none⟩) c7).trans g4;have c3:IdSet (w1.alloc (.cells (mRowC x) 338)) bo O:=ho.kept (Keep.of_below (b0.mono lR)) sI;have L:w0.heap.size<=(w1.alloc (.cells (mRowC x) 338)).heap.size:=sO;change (Instr.next _ _ _).run prog wr=.ok (.tuple #[.bool true,.agg (mRowC x),.bool true]) w1 at f;change (Instr.entry _).run prog w1=.ok (.tuple #[.agg (mRowC x),.bool true]) w1 at hen;have e9:=dH d7;clear t hb hk1 hs1 hR1 J e4 F d7;go_upto_region 4 with fail
   obtain⟨W1,b3⟩:=eR (w1.alloc (.cells (mRowC x) 338))
   obtain⟨gx,g1⟩:=eX w1.heap.size
   rw[g1]at G;rw[<-b3]at b5 f7 D b0 G V c3 L |-;have d3:rowAt W1 gx 0 32=some (idC x.id):=by have:=rowAt_sub G (j:=0) (m:=32) oM;rwa [mRowC_e0]at this
   have hk:∀y:Subtype (Bel W1),(Instr.lookup 82 (.map (some bo)) (.agg (idC x.id)) false).run prog y.1=.ok (.bool (decide (x.id∈O))) y.1:=λy=>ilook (c3.below y.2);obtain⟨r,c2⟩:=eX (decide (x.id∈O))
   rw[c2]at hk;have e8:=dH c2;clear f hen b3 c2;refine lX W1 ?_;intro b6 hS;have b1:=sub_cell V;have b2:=sub_row d3;refine lZ ?_;refine wpLx_nil ?_;intro hS;have b4:SetRange W1.drew bl wS.heap.size mrowV okM X (S ++ [x]):=b5.kept (Keep.drew W1) sI sI;have f6:W1.drew.rangeLeft bl wS.heap.size=W1.rangeLeft bl wS.heap.size:=rangeLeft_kept (Keep.drew W1) sI sI b5.lt.2 b5.lt.1;have d:=D.kept (Keep.drew W1) sI;have c9:Below wS.heap.size wS W1.drew:=b0.drew;have c1:rowAt W1.drew gx 0 34=some (mRowC x):=G;have Y:w0.heap.size<=W1.drew.heap.size:=L;clear b1 b2 b6 hS hk V d3 G D b0 b5 c3 L;obtain⟨W2,e6⟩:=eX W1.drew
   rw[e6]at b4 f6 d c9 c1 Y |-;clear e6;cases r with
   | true =>
    have a7:x.id∈O:=of_decide_eq_true e8.out;have e5:=e9.out;rw[if_pos a7]at e5;have E5:=dH e5;clear e5 a7;(go_wp2_with fail);go_roundw
    case rel=>exact⟨S ++ [x],A,cap,by rw[E5.out],b4,by rw[E5.out];exact d,c9,Y⟩
    case measure=>omega
   | false =>
    have a7:x.id∉O:=of_decide_eq_false e8.out;have e5:=e9.out;rw[if_neg a7]at e5;have E5:=dH e5;clear e5 a7;have a9:Below W2.heap.size W2 (W2.alloc (.cells (mRowC x) 338)):=bA;have a4:=d.below a9;have a0:rowAt (W2.alloc (.cells (mRowC x) 338)) W2.heap.size 0 34=some (mRowC x):=by simp[go_sem]
    go_wp2_with (at_builtin;refine L_append einfoMRow rfl a4 rfl a0 (mRowC_one _) oM oM sO ?_;intro A' cap' w5 a3 b7 d4)
    have e3:bl∉blk A:=λhx=>(oH ((d.at_base hx).1));have d5:wS.heap.size∉blk A:=λhx=>(oH ((d.at_base hx).1));have d0:=b4.kept (Keep.of_below a9) sI sI;have g9:=d0.kept b7 e3 d5;have f5:w5.rangeLeft bl wS.heap.size=W2.rangeLeft bl wS.heap.size :=
     (rangeLeft_kept b7 e3 d5 d0.lt.2 d0.lt.1).trans (rangeLeft_kept (Keep.of_below a9) sI sI b4.lt.2 b4.lt.1)
    have c0:w0.heap.size<=w5.heap.size:=by
     have e1:=a9.size;have e2:=b7.size;omega
    have g5:Below wS.heap.size wS w5:=c9.trans ((a9.mono oM).trans (b7.below (B:=wS.heap.size) sO λy hy=>oH ((d.at_base hy).1)));(go_wp2_with fail);go_roundw
    case rel=>exact⟨S ++ [x],A',cap',by rw[E5.out];simp,g9,by rw[E5.out];simpa using a3,g5,c0⟩
    case measure=>omega
end
def putO(O T:List Id32):List Id32:=T.foldl (insC cmpId) O
theorem putO_ris{O T:List Id32}(h:Ris cmpId O):Ris cmpId (putO O T):=(foldl_insC totId T O h).1
theorem putO_snoc(O T:List Id32)(t:Id32):putO O (T ++ [t])=insC cmpId (putO O T) t:=by simp[putO]
theorem idrow_ne{o k:Nat}{kv:κ->Value}{ok:κ->Prop}{X:List κ}(h:rowAt w g o k=some cs)(hs:SetAt w b kv ok X):g≠b:=by
 rintro rfl;obtain⟨M,es,d,hm,_⟩:=hs;unfold rowAt at h;rw[hm.heap]at h;cases h
def setX(X:List MRow)(O:List Id32)(x:MRow)(T:List Id32):List MRow:=livR (insC cmpMR X x) (putO O T)
theorem mset(d:Id32)(key val:ByteArray)(A:Option Addr)(n cap:Nat)(T:List Id32)(w:World)(g bl bo:Nat)(X:List MRow)(O:List Id32)(h:MultiAt w g bl bo X O)(hT:TagsIn w A n T)(d6:key.size<=16)(c9:val.size<=16)(hn:n<=1000000)(hX:X.length<1000000) :
  Calls prog 279 #[.pointer (some ⟨g,0,none⟩),.agg (idC d),.string key,.string val,.slice A n cap] w λe w'=>e=.returned (.int .i64 0)/\MultiAt w' g bl bo (setX X O ⟨d,key,val⟩ T) (putO O T)/\Keep [bl,bo] w w':=by
 have L:=hT.len;have j:=dH L;have M:Below w.heap.size w (w.alloc (.cells (idC d) 23)):=bA;have h0:=h.below M;have R:rowAt (w.alloc (.cells (idC d) 23)) w.heap.size 0 32=some (idC d):=by simp[go_sem]
 have b3:msmall ⟨d,key,val⟩:=⟨d6,c9⟩
 have d9:=h.lt;clear L;go_enter func279,ntmps279
 go_upto_region 1 with fail
 obtain⟨ga,a7⟩:=eX w.heap.size
 have b0:=dH a7;rw[a7]at R d9 M |-;obtain⟨W0,c7⟩:=eR (w.alloc (.cells (idC d) 23))
 rw[<-c7]at h0 R M |-;clear c7 a7;(go_wp2_with fail);refine(mnone_live W0 g bl h0.cell0).mono ?_;rintro e w1 ⟨rfl,rfl⟩;go_upto_region 6 with fail
 have c2:g∉[bl]:=by simpa using h0.nel
 have c3:=h0.cell0;obtain⟨w2,E,b7,c1⟩:=mput (x:=⟨d,key,val⟩) (h0.live.kept (Keep.drew W0) sI) b3;refine kX [bl] W0 ?_;intro a2 hS;have b1:=ksub_cell c3 c2;have b2:=ksub_row R (S:=[bl]) sO;refine lQ ?_;intro K hK;refine step_keep (kp_next hS c1 sI) (λhS=>?_);refine hK _ _ ?_;clear hK K;refine wpLx_nil ?_;intro hS;have B:Keep [bl] W0 w2:=hS;have c4:=(B.block g h0.lt.1 c2).trans h0.blk;have d4:IdSet w2 bo O:=h0.over.kept B (by simpa using λe=>h0.ne e.symm);have e1:Keep [bl,bo] w w2:=Keep.trans ((Keep.of_below (M.mono (by rw[b0.out];exact lR))).mono (S':=[bl,bo]) sI) (B.mono (S':=[bl,bo]) sI) iL;have b6:MSet w2 bl (insC cmpMR X ⟨d,key,val⟩):=SetAt.congr b7 (λy=>by rw[mem_insC totMR,mem_cons]);have r:=ris_insC totMR (x:=⟨d,key,val⟩) h.risX;have D:∀y∈insC cmpMR X ⟨d,key,val⟩,msmall y:=λy hy=>by
  rcases (mem_insC totMR).1 hy with e | hy
  ·rw[e];exact b3
  ·exact h.sm y hy
 have b8:(insC cmpMR X ⟨d,key,val⟩).length<=1000000:=oH (insC_length (c:=cmpMR) X ⟨d,key,val⟩);have N:Hid (setX X O ⟨d,key,val⟩ T=livR (insC cmpMR X ⟨d,key,val⟩) (putO O T)):=rfl;obtain⟨X1,c5⟩:=eX (insC cmpMR X ⟨d,key,val⟩)
 rw[c5]at b6 r D b8 N;have a5:=h.nel;have a4:=h.neo;have s:=h.ne;have d1:=h.risO;have J:=h.live;have I:=h.over;clear c5 b1 b2 a2 hS c1 E R c3 B h0 M b7 hX;(go_wp2_with fail);go_loopw [33] (λi wr=>∃k:Nat,k<=n/\i=.int .i64 k/\MSet wr bl X1/\IdSet wr bo (putO O (T.take k))/\Keep [bl,bo] w wr) (λi _=>n-(intOf i).toNat)
 case atStart=>exact⟨0,zL,rfl,b6,d4,e1⟩
 case round =>
  obtain⟨k,hk,rfl,hm,ho,H⟩:=hrel;have F:wr.cell? ⟨g,1,none⟩=some (.map (some bo)):=(H.cell (p:=⟨g,1,none⟩) (show g<w.heap.size by have:=b0.out;omega) sO).trans h.cell1;have f:=(H.block g (oH b0.out) sO).trans h.blk;by_cases G:k<n
  ·obtain⟨q,o,rfl,m⟩:=hT.get G (by rw[j.out];exact G);have d3:q≠bl:=idrow_ne m J;have d2:q≠bo:=idrow_ne m I;have d0:rowAt wr q (o+k*32) 32=some (idC (T[k]'(by rw[j.out];exact G))):=(H.row (rowAt_lt m) (by simp[d3,d2]) _ _).trans m;have U:T.take (k+1)=T.take k ++ [T[k]'(by rw[j.out];exact G)]:=by rw[take_add_one,getElem?_eq_getElem (by rw[j.out];exact G)];rfl
   obtain⟨x,hx⟩:=eX (T[k]'(by rw[j.out];exact G))
   rw[hx]at d0 U;have e3:=dH U;clear hx U m;have Z:Below wr.heap.size wr (wr.alloc (.cells (idC x) 23)):=bA;have a3:=SetAt.below hm Z;have a1:=SetAt.below ho Z;have a9:=(Z.cell (p:=⟨g,1,none⟩) (block_lt_of_cell? wr _ F)).trans F;have a0:rowAt (wr.alloc (.cells (idC x) 23)) wr.heap.size 0 32=some (idC x):=by simp[go_sem]
   have b9:Keep [bl,bo] w (wr.alloc (.cells (idC x) 23)):=Keep.trans H (Keep.of_below Z) sI;have e0:bo<wr.heap.size:=ho.lt;go_upto_region 10 with fail
   obtain⟨W1,c6⟩:=eR (wr.alloc (.cells (idC x) 23))
   rw[<-c6]at a3 a1 a9 a0 b9 |-;clear c6;obtain⟨w5,E,b4,c0⟩:=iput (x:=x) (a1.kept (Keep.drew W1) sI);have a6:g∉[bo]:=by simpa using a4
   refine kX [bo] W1 ?_;intro a2 hS;have b1:=ksub_cell a9 a6;have b2:=ksub_row a0 (S:=[bo]) sO;refine lQ ?_;intro K hK;refine step_keep (kp_next hS c0 sI) (λhS=>?_);refine hK _ _ ?_;clear hK K;refine wpLx_nil ?_;intro hS;have B:Keep [bo] W1 w5:=hS;have d5:=a3.kept B (by simpa using s);have d7:Keep [bl,bo] w w5:=Keep.trans b9 (B.mono (S':=[bl,bo]) sI) iL;have V:IdSet w5 bo (putO O (T.take (k+1))):=SetAt.congr b4 (λy=>by rw[e3.out,putO_snoc,mem_insC totId,mem_cons]);clear b1 b2 a2 hS c0 E a9 a0 b4 B a3 a1;(go_wp2_with fail);go_roundw
   case rel=>exact⟨k+1,oM,by go_num,d5,V,d7⟩
   case measure=>exact sZ
  ·have e2:T.take k=T:=take_of_length_le (by rw[j.out];omega);rw[e2]at ho;have c8:=msweep wr g bl bo X1 (putO O T) f hm ho s r D b8;clear e2 F;(go_wp2_with fail);refine c8.mono ?_;rintro e w6 ⟨rfl,b5,Y⟩;have t:=(Y.block g (by have:=(aG f).1;exact this) (by simpa using a5)).trans f;have V:=ho.kept Y (by simpa using λe=>s e.symm);have a8:MultiAt w6 g bl bo (setX X O ⟨d,key,val⟩ T) (putO O T):=by
    rw[N.out];exact⟨t,b5,V,s,r.filter _,putO_ris d1,λy hy=>D y (mem_filter.1 hy).1,λy hy=>by have:=(mem_filter.1 hy).2;simpa using this⟩
   have d8:Keep [bl,bo] w w6:=Keep.trans H (Y.mono (S':=[bl,bo]) sI) iL;clear c8 b5 Y t V f hm ho H;(go_wp2_with fail);go_ret;exact⟨rfl,a8,d8⟩
end Go.Proofs.YtplpiicfkbpkaaaGreatDoor
