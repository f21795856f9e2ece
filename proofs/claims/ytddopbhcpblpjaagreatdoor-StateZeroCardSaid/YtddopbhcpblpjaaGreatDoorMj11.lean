/- Part 11 of the texts that lead to this claim: the walks of the functions and the plain law, in order. -/
import Derived.Test.YtddopbhcpblpjaaGreatDoorMj10
import Derived.LaidEqlPtr
import Derived.ChangeKeysEq
namespace Go.Proofs.YtddopbhcpblpjaaGreatDoor
open Go.RowKit
open List hiding and get max min or set
open Go.Proofs.Tryz
open World
set_option maxRecDepth 100000
set_option maxHeartbeats 8000000
variable {L M:List UInt32}{c d:zA}{A C N P:List (zA×Nat)}{k x:Nat}{p:Pay}{w:World}{S:List Pay}{bs:List UInt8}{R cs:Array Value}
@[go_sem] theorem buildLLink_none(w:World):(bdS 213 #[]).run prog w=.ok (.agg (xU ⟨none,none⟩)) w:=by
 refine qO w ZM _ (rI w) _ (Z8 w) [] _ ?_;simp[Instr.fill,dG]
theorem lru_cut(w:World)(nx pv:Nat->Nat)(A C:List (zA×Nat))(d dp dn:zA)(x p n:Nat)(hr:jN w nx pv (A++(d,x) :: C))(s:((A++(d,x) :: C).map (·.2)).Nodup)(T:pv x=p)(V:nx x=n)(hp:(dp,p)∈A++C)(hn:(dn,n)∈A++C) :
  Calls prog 169 #[.pointer (some ⟨x,0,none⟩)] w λe w'=>e=.returned (.tuple #[])/\jN w' (up nx p n) (up pv n p) (A++C)/\qG w' x d none none/\z8 [x,p,n] w w':=by
 have hx:=hr (d,x) sI;have k:∀q∈A++C,q∈A++(d,x) :: C:=λq hq=>by
  rcases mem_append.1 hq with h | h
  ·exact mem_append_left _ h
  ·exact mem_append_right _ (mem_cons_of_mem _ h)
 have r:((A++C).map (·.2)).Nodup:=s.sublist (Sublist.map _ (Sublist.append_left (sublist_cons_self _ _) _));have j:∀q∈A++C,q.2≠x:=λq hq e=>by
  rw[map_append,map_cons,nodup_append,nodup_cons]at s;rcases mem_append.1 hq with h | h
  ·exact s.2.2 q.2 (mem_map_of_mem h) x sI e
  ·exact s.2.1.1 (e ▸ mem_map_of_mem (f:=(·.2)) h)
 have R:x≠p:=λe=>j _ hp e.symm;have m:x≠n:=λe=>j _ hn e.symm;have g:jN w nx pv (A++C):=λq hq=>hr q (k q hq);simp only[T,V]at hx;have c32:=hx.c32;have c33:=hx.c33;unfold at0 at c32 c33;have y:x∉[p,n]:=by simp;exact⟨R,m⟩
 have M:∀q∈A++C,q.2∉[x]:=λq hq=>(by simpa using j q hq);have Hx:=dH hx;have a1:=dH g;have t:=dH r;have Hp:=dH hp;have Hn:=dH hn;clear hx hr s g r T V hp hn k j R m;go_enter func169,ntmps169
 go_upto_region 0 with fail
 have H:=a1.out (dp,p) Hp.out;have a6:=H.c33;have a4:=H.fro 33;have B:=z8.setCell w ⟨p,33,none⟩ (.pointer (some ⟨n,0,none⟩));have G:=a1.out.setn t.out Hp.out n;obtain⟨W1,U⟩:=eX (w.setCell ⟨p,33,none⟩ (.pointer (some ⟨n,0,none⟩)))
 rw[U]at B G;have a2:=dH G;have a0:Kp [p,n] w W1.drew:=z8.trans (B.mono sI) (z8.drew W1) sI;clear H G;refine kX [p,n] w ?_;intro j hS;have b1:=zF c32 y;have b2:=zF c33 y;refine lQ ?_;intro K hK;refine hK _ _ ?_;clear hK K hS U a6 a4 c32 c33;have hS:=a0;have I:=a2.out (dn,n) Hn.out;have a7:=I.c32;have a5:=I.fro 32;have L:=z8.setCell W1 ⟨n,32,none⟩ (.pointer (some ⟨p,0,none⟩));have g:=a2.out.setp t.out Hn.out p;obtain⟨W2,Z⟩:=eX (W1.setCell ⟨n,32,none⟩ (.pointer (some ⟨p,0,none⟩)))
 rw[Z]at L g;have D:Kp [p,n] w W2.drew:=z8.trans (z8.trans (B.mono sI) (L.mono sI) iL) (z8.drew W2) sI;refine lQ ?_;intro K hK;refine hK _ _ ?_;clear hK K hS Z a7 a5;have hS:=D;refine zC ?_;intro hS;have E:qG W2.drew x d (at0 p) (at0 n):=Hx.out.kept D y;have F:jN W2.drew (up nx p n) (up pv n p) (A++C):=g.kept (z8.drew W2) sI;have a8:=dH (show ∀q∈A++C,q.2∉[x]from M);have a3:=dH D;clear D hS b1 b2 j I B L g y a0 M;obtain⟨W3,Y⟩:=eX W2.drew
 rw[Y]at E F a3 |-;obtain⟨w4,a9,N,J⟩:=E.setl none none;have X:z8 [x,p,n] w w4:=z8.trans (a3.out.mono (S':=[x,p,n]) sI) J sI;have O:=F.kept J a8.out;have HF:=dH (And.intro O (And.intro N X));clear O N X J F E Y;(go_wp2_with fail);refine bodyPost_end (results_none rfl _ _ _) rfl ?_;exact⟨rfl,HF.out⟩
theorem qv(w:World)(g r b:Nat)(nx pv:Nat->Nat)(P:List (zA×Nat))(d dp dr:zA)(x p:Nat)(a c:Option Addr)(hg:w.heap[g]?=some (.cells #[.pointer (some ⟨r,0,none⟩),.map (some b)] 204 (0,0)))
  (hr:jN w nx pv P)(a2:(P.map (·.2)).Nodup)(k:(dr,r)∈P)(a0:pv r=p)(hp:(dp,p)∈P)(hx:qG w x d a c)(j:∀q∈P,q.2≠x)(M:∀q∈P,q.2≠g)(D:g≠x) :
  Calls prog 170 #[.pointer (some ⟨g,0,none⟩),.pointer (some ⟨x,0,none⟩)] w λe w'=>e=.returned (.tuple #[])/\jN w' (up (up nx p x) x r) (up (up pv x p) r x) (P ++ [(d,x)])/\z8 [x,p,r] w w':=by
 have f:=hr (dr,r) k;have cg:w.cell? ⟨g,0,none⟩=some (.pointer (some ⟨r,0,none⟩)):=by rw[cell_of_row w g 0 _ _ _ hg];rfl
 have cr:=f.c32;simp only[a0]at cr;unfold at0 at cr;have G:r≠x:=j _ k;have U:p≠x:=j _ hp;have T:r≠g:=M _ k;have a1:p≠g:=M _ hp;obtain⟨w1,b7,R,a4⟩:=(hx.kept (z8.drew w) (S:=[]) sI).setl (some ⟨p,0,none⟩) (some ⟨r,0,none⟩);have m:z8 [x] w w1:=z8.trans ((z8.drew w).mono sI) a4 sI;have Y:=hr.kept m (λq hq=>by simpa using j q hq);have b0:w1.cell? ⟨g,0,none⟩=some (.pointer (some ⟨r,0,none⟩)):=(m.cell (p:=⟨g,0,none⟩) (aG hg).1 (by simpa using D)).trans cg;have a9:Kp [x] w w1:=m;have X:r∉[x]:=by simpa using G
 have a5:g∉[x]:=by simpa using D
 have b5:=dH Y;have b3:=dH R;have c4:=dH m;have b6:=dH a2;have b4:=dH k;have Hp:=dH hp;have c2:=dH j;have N:=dH (show r≠x/\p≠x/\r≠g/\p≠g/\g≠x from⟨G,U,T,a1,D⟩);have c5:=dH b0;clear f hr a2 k a0 hp hx j M D G U T a1 Y R m hg b0;go_enter func170,ntmps170
 go_upto_region 0 with fail
 refine kX [x] w ?_;intro J hS;have b1:=zF cg a5;have b2:=zF cr X;refine lQ ?_;intro K hK;refine hK _ _ ?_;clear hK K hS;have hS:=a9;refine zC ?_;intro hS;have c32:=b3.out.c32;have cg:=c5.out;have I:=b5.out (dp,p) Hp.out;have c0:w1.cell? ⟨p,33,none⟩=some (.pointer (at0 (nx p))):=I.c33;have b8:=I.fro 33;have B:=z8.setCell w1 ⟨p,33,none⟩ (.pointer (some ⟨x,0,none⟩));have A:=b5.out.setn b6.out Hp.out x;obtain⟨W2,a7⟩:=eX (w1.setCell ⟨p,33,none⟩ (.pointer (some ⟨x,0,none⟩)))
 rw[a7]at B A;have a8:Kp [p,r] w1 W2.drew:=z8.trans (B.mono sI) (z8.drew W2) sI;have f:=A (dr,r) b4.out;have c1:=f.c32;have b9:=f.fro 32;have L:=z8.setCell W2 ⟨r,32,none⟩ (.pointer (some ⟨x,0,none⟩));have H:=A.setp b6.out b4.out x;obtain⟨W3,a6⟩:=eX (W2.setCell ⟨r,32,none⟩ (.pointer (some ⟨x,0,none⟩)))
 rw[a6]at L H;have E:Kp [p,r] w1 W3.drew:=z8.trans (z8.trans (B.mono (S':=[p,r]) sI) (L.mono (S':=[p,r]) sI) iL) (z8.drew W3) sI;have F:x∉[p,r]:=oS N.out;have s:g∉[p,r]:=oS N.out;have c3:=dH H;clear J b1 b2 hS a9 b7 a4 I f A H B L X a5 cr;(go_wp2_with fail);refine kX [p,r] w1 ?_;intro J hS;have b1:=zF c32 F;have b2:=zF cg s;refine lQ ?_;intro K hK;refine hK _ _ ?_;clear hK K hS a7 c0 b8 c32 cg;have hS:=a8;refine lQ ?_;intro K hK;refine hK _ _ ?_;clear hK K hS a6 c1 b9;have hS:=E;refine zC ?_;intro hS;have a3:z8 [x,p,r] w W3.drew:=z8.trans (c4.out.mono (S':=[x,p,r]) sI) (E.mono (S':=[x,p,r]) sI) (λy hy=>.inl hy);have O:qG W3.drew x d (at0 p) (at0 r):=b3.out.kept E F;have V:jN W3.drew (up nx p x) (up pv r x) P:=c3.out.kept (z8.drew W3) sI;have t:jN W3.drew (up (up nx p x) x r) (up (up pv x p) r x) (P ++ [(d,x)]):=by
  intro q hq;rcases mem_append.1 hq with hq | hq
  ·have Z:=c2.out q hq;have:=V q hq;rw[fV Z];by_cases e:q.2=r
   ·rw[e]at this |-;rw[tV]at this |-;exact this
   ·rw[fV e]at this |-;rw[fV Z];exact this
  ·have e:q=(d,x):=by simpa using hq
   subst e;show qG _ x d (at0 (up (up pv x p) r x x)) (at0 (up (up nx p x) x r x));rw[tV,fV (λe=>N.out.1 e.symm),tV];exact O
 have HF:=dH (And.intro t a3);clear t a3 O V a8 E hS J b1 b2 F s;(go_wp2_with fail);refine bodyPost_end (results_none rfl _ _ _) rfl ?_;exact⟨rfl,HF.out⟩
section
theorem qu(w:World)(g r:Nat)(h:w.cell? ⟨g,0,none⟩=some (.pointer (some ⟨r,0,none⟩))):Calls prog 137 #[.pointer (some ⟨g,0,none⟩)] w λe w'=>e=.returned (.bool false)/\w=w':=by
 go_enter func137,ntmps137
 (go_wp2_with fail);go_ret;exact⟨rfl,rfl⟩
theorem zeroNodeP(w:World):(zeroValue 201).run prog w=.ok (.pointer none) w:=kR
section
variable {w:World} {b:Nat} {M:List (zA×Nat)} {es:Array MapEntry} {clk:Nat} {d:zA} {x:Nat}
theorem lhit(h:yK w b idV fA vL M es clk)(hx:(d,x)∈M):(Instr.lookup 202 (.map (some b)) (.agg (idC d)) true).run prog w=.ok (.tuple #[.pointer (some ⟨x,0,none⟩),.bool true]) w:=yK.hit h j7 underlying202 (k:=d) (v:=x) trivial hx true
theorem lmiss(h:yK w b idV fA vL M es clk)(hx:d∉M.map (·.1)):(Instr.lookup 202 (.map (some b)) (.agg (idC d)) true).run prog w=.ok (.tuple #[.pointer none,.bool false]) w:=yK.miss h j7 underlying202 (zeroNodeP w) (k:=d) trivial hx true
end
def rE(L:List zA)(d:zA):List zA:=L.filter λx=>decide (x≠d)
theorem eK{L:List zA}(h:d∉L):rE L d=L:=filter_eq_self.2 λx hx=>decide_eq_true λe=>h (e ▸ hx)
theorem qi{A C:List zA}(h:(A++d :: C).Nodup):rE (A++d :: C) d=A++C:=by
 rw[nodup_append,nodup_cons]at h;unfold rE;rw[filter_append,filter_cons,if_neg sI];have h1:=eK (L:=A) (d:=d) λhm=>h.2.2 d hm d sI rfl;have h2:=eK (L:=C) (d:=d) h.2.1.1;unfold rE at h1 h2;rw[h1,h2]
theorem delL_mid(h:((A++(d,x) :: C).map (·.1)).Nodup):pH (A++(d,x) :: C) d=A++C:=by
 rw[map_append,map_cons,nodup_append,nodup_cons]at h;have e:pH (A++(d,x) :: C) d=pH A d++pH C d:=by unfold pH;rw[filter_append,filter_cons,if_neg sI]
 rw[e,aD (λhm=>h.2.2 d hm d sI rfl),aD h.2.1.1]
theorem VR(h:d∈N.map (·.1)):∃A x C,N=A++(d,x) :: C:=by
 obtain⟨q,hq,rfl⟩:=mem_map.1 h;obtain⟨A,C,e⟩:=append_of_mem hq;exact⟨A,q.2,C,e⟩
theorem YA(h:x∈P.map (·.2)):∃d,(d,x)∈P:=by
 obtain⟨q,hq,rfl⟩:=mem_map.1 h;exact⟨q.1,hq⟩
theorem VD{nx pv:Nat->Nat}{r:Nat}(hl:Ln nx pv r ((A++(d,x) :: C).map (·.2)) r) :
  (∃dp,(dp,pv x)∈((id0,r) :: A)++C)/\∃dn,(dn,nx x)∈((id0,r) :: A)++C:=by
 rw[map_append,map_cons]at hl;obtain⟨h1,h2⟩:=iH hl;have k1:=rD h1;have k2:=Ln_first h2;refine⟨YA ?_,YA ?_⟩
 ·rw[map_append,map_cons];exact mem_append_left _ k1
 ·rw[map_append,map_cons];rcases mem_append.1 k2 with h | h
  ·exact mem_append_right _ h
  ·have e:nx x=r:=by simpa using h
   rw[e];simp
theorem qw(w:World)(g:Nat)(F:List Nat)(L:List zA)(d:zA)(h:dL w g F L) :
  Calls prog 153 #[.pointer (some ⟨g,0,none⟩),.agg (idC d)] w λe w'=>e=.returned (.int .i64 (if d∈L then 0 else 7))/\(∃F',dL w' g F' (rE L d)/\∀x∈F',x∈F)/\z8 F w w':=by
 have T:=h.lt;obtain⟨r,b,N,nx,pv,h1,h2,h3,⟨M,es,c9,hm,hp⟩,h5,h6,h7,h8⟩:=h;have H2:=dH h2;rw[h2]at T;clear h2;have I:z8 [] w (w.alloc (.cells (idC d) 23)):=z8.alloc _ _;obtain⟨W,hW⟩:=eR (w.alloc (.cells (idC d) 23))
 have G:z9 W w.heap.size 0 32=some (idC d):=by rw[hW];simp[go_sem]
 have hB:Below w.heap.size w W:=by rw[hW];exact bA
 have c3:g<w.heap.size:=T g sI;rw[<-hW]at I;have U:=(I.block g c3 sI).trans h3;have d0:W.cell? ⟨g,0,none⟩=some (.pointer (some ⟨r,0,none⟩)):=by rw[cell_of_row W g 0 _ _ _ U];rfl
 have a9:W.cell? ⟨g,1,none⟩=some (.map (some b)):=by rw[cell_of_row W g 1 _ _ _ U];rfl
 have Y:=hm.kept I sI;have c1:=qu W g r d0;by_cases hd:d∈L
 ·rw[if_pos hd];rw[<-h1]at hd;obtain⟨A,x,C,rfl⟩:=VR hd;have R:(d,x)∈M:=hp.mem_iff.2 sI;have hk:∀v:Subtype (Bel W),(Instr.lookup 202 (.map (some b)) (.agg (idC d)) true).run prog v.1=.ok (.tuple #[.pointer (some ⟨x,0,none⟩),.bool true]) v.1:=λv=>lhit (Y.kept (z8.of_below v.2) sI) R;obtain⟨⟨dp,a4⟩,⟨dn,a5⟩⟩:=VD h5;have H:z8 [] w W.drew:=z8.trans I (z8.drew W) sI;have c8:jN W.drew nx pv (((id0,r) :: A)++(d,x) :: C):=h6.kept H sI;have c2:=lru_cut W.drew nx pv ((id0,r) :: A) C d dp dn x (pv x) (nx x) c8 h7 rfl rfl a4 a5;have b6:=qi (A:=A.map (·.1)) (C:=C.map (·.1)) (d:=d) (by rw[<-map_cons (f:=(·.1)) (a:=(d,x)),<-map_append,h1];exact h8);have hL:rE L d=(A++C).map (·.1):=by rw[<-h1,map_append,map_cons,b6,map_append]
  have b9:=Ln_cut (r:=r) (c:=x) (A:=A.map (·.2)) (C:=C.map (·.2)) (nx:=nx) (pv:=pv) (by rw[map_append,map_cons]at h5;exact h5) (by rw[map_append,map_cons]at h7;exact h7);have E:∀q∈((id0,r) :: A)++C,q∈(id0,r) :: (A++(d,x) :: C):=λq hq=>by
   simp only[mem_cons,mem_append,cons_append]at hq |-;rcases hq with h | h | h
   ·exact .inl h
   ·exact .inr (.inl h)
   ·exact .inr (.inr (.inr h))
  have B:∀y∈[x,pv x,nx x],∃dy,(dy,y)∈(id0,r) :: (A++(d,x) :: C):=by
   intro y hy;simp only[mem_cons,not_mem_nil,or_false]at hy;rcases hy with rfl | rfl | rfl
   ·exact⟨d,sI⟩
   ·exact⟨dp,E _ a4⟩
   ·exact⟨dn,E _ a5⟩
  have c6:(b∉[x,pv x,nx x]/\g∉[x,pv x,nx x])/\∀y∈[x,pv x,nx x],y<w.heap.size/\y∈g :: b :: r :: (A++(d,x) :: C).map (·.2):=by
   refine⟨⟨λhb=>?_,λhg=>?_⟩,λy hy=>?_⟩
   ·obtain⟨dy,hy⟩:=B b hb;have j:w.heap[b]?=some (.cells _ _ _):=(h6 _ hy).heap;rw[hm.heap]at j;cases j
   ·obtain⟨dy,hy⟩:=B g hg;have j:=(h6 _ hy).heap;rw[h3]at j;injection j with j
    injection j with j _ _
    have d6:=congrArg Array.size j;simp at d6
   ·obtain⟨dy,b3⟩:=B y hy;refine⟨(h6 _ b3).lt,?_⟩;rcases mem_cons.1 b3 with e | e
    ·injection e with _ e;rw[e];simp
    ·exact mem_cons_of_mem _ (mem_cons_of_mem _ (mem_cons_of_mem _ (mem_map_of_mem (f:=(·.2)) e)))
  have b5:(pH M d).Perm (A++C):=by
   rw[<-delL_mid (A:=A) (C:=C) (d:=d) (x:=x) (by rw[h1];exact h8)];exact hp.filter _
  have c4:g≠b:=λe=>(by rw[e,hm.heap]at h3;cases h3);have d7:=dH b5;have e0:=dH c4;have H8:=dH h8;have HL:=dH hL;have d8:=dH b9;have Hp:=dH hp;have X:=dH c6;have d9:=dH H;have H3:=dH h3;have Hm:=dH hm;have H7:=dH h7;have e2:=dH T;have HB:=dH hB;clear E B b5 c4 hL b9 hp c6 H h3 hm h7 b6 h1 h8 R hd a4 a5 h5 h6 c8 T I U Y hB;go_enter func153,ntmps153
  (go_wp2_with fail);rw[<-hW];obtain⟨ga,J⟩:=eX w.heap.size
  have d3:=dH J;rw[J]at G |-;clear hW J;refine c1.mono ?_;rintro e w' ⟨rfl,rfl⟩;clear c1;go_upto_region 3 with fail
  refine lX W ?_;intro O hS;have b1:=zJ a9;have b2:=zV G;refine lZ ?_;refine zC ?_;intro hS;clear O hS b1 b2 hk;(go_wp2_with fail);refine c2.mono ?_;rintro e w1 ⟨rfl,b4,d5,H⟩;have t:z8 [x,pv x,nx x] w w1:=z8.trans (d9.out.mono sI) H (λy hy=>.inl hy);have a7:=(t.block g c3 X.out.1.2).trans H3.out;have a8:w1.cell? ⟨g,1,none⟩=some (.map (some b)):=by rw[cell_of_row w1 g 1 _ _ _ a7];rfl
  have V:ga∉[x,pv x,nx x]:=λhh=>(by have:=(X.out.2 ga hh).1;have:=d3.out;omega);have a1:z9 w1 ga 0 32=some (idC d):=(H.row (w:=W.drew) (zD (w:=W.drew) G) V _ _).trans G;have b8:yK w1 b idV fA vL M es c9:=Hm.out.kept t X.out.1.1;obtain⟨w3,e1,a0,b7,c0⟩:=(b8.kept (z8.drew w1) (S:=[]) sI).delete j7 underlying202 (ty:=0) (k:=d) trivial;have c5:g∉[b]:=by simpa using e0.out
  have a3:ga∉[b]:=by have:=Hm.out.lt;have:=d3.out;simp;omega
  have d4:=dH a7;have d1:=dH b4;have d2:=dH t;clear b8 V t a7 b4 d5 H a9 G c2 d0;go_upto_region 7 with fail
  refine kX [b] w1 ?_;intro O hS;have b1:=zF a8 c5;have b2:=zY a1 a3;refine lQ ?_;intro K hK;refine zH (yA hS c0 sI) (λhS=>?_);refine hK _ _ ?_;clear hK K;refine zC ?_;intro hS;have Z:z8 [b] w1 w3:=hS;have c7:∀q∈(id0,r) :: (A++C),q.2∉[b]:=λq hq hb=>by
   have e:q.2=b:=by simpa using hb
   have j:w1.heap[q.2]?=some (.cells _ _ _):=(d1.out q hq).heap;rw[e,(Hm.out.kept d2.out X.out.1.1).heap]at j;cases j
  have s:dL w3 g (g :: b :: r :: (A++C).map (·.2)) (rE L d):=by
   refine⟨r,b,A++C,_,_,HL.out.symm,rfl,(Z.block g (aG d4.out).1 c5).trans d4.out,⟨_,_,_,b7,d7.out⟩,by rw[map_append];exact d8.out,d1.out.kept Z c7,?_,H8.out.filter _⟩;have h7:=H7.out;rw[map_append,map_cons]at h7;rw[map_append];exact h7.sublist (Sublist.cons_cons _ (Sublist.append_left (sublist_cons_self _ _) _))
  have D:∀y∈g :: b :: r :: (A++C).map (·.2),y∈g :: b :: r :: (A++(d,x) :: C).map (·.2):=by
   intro y hy;simp only[mem_cons,map_append,map_cons,mem_append]at hy |-;rcases hy with h | h | h | h | h
   ·exact .inl h
   ·exact .inr (.inl h)
   ·exact .inr (.inr (.inl h))
   ·exact .inr (.inr (.inr (.inl h)))
   ·exact .inr (.inr (.inr (.inr (.inr h))))
  have a2:z8 (g :: b :: r :: (A++(d,x) :: C).map (·.2)) w w3:=z8.trans (d2.out.mono (λy hy=>.inl (X.out.2 y hy).2)) Z sI;rw[<-H2.out]at a2;have m:∀y∈g :: b :: r :: (A++C).map (·.2),y∈F:=λy hy=>(by rw[H2.out];exact D y hy);have HF:=dH (And.intro s (And.intro m a2));clear s D m a2 Z hS c7 b7 c0 a0 b1 b2 O;(go_wp2_with fail);go_ret;exact⟨rfl,⟨_,HF.out.1,HF.out.2.1⟩,HF.out.2.2⟩
 ·rw[if_neg hd];have R:d∉M.map (·.1):=λhx=>hd (by rw[<-h1];exact(hp.map _).mem_iff.1 hx);have hk:∀v:Subtype (Bel W),(Instr.lookup 202 (.map (some b)) (.agg (idC d)) true).run prog v.1=.ok (.tuple #[.pointer none,.bool false]) v.1:=λv=>lmiss (Y.kept (z8.of_below v.2) sI) R;have s:dL w g F (rE L d):=by
   rw[eK hd,H2.out];exact⟨r,b,N,nx,pv,h1,rfl,h3,⟨M,es,c9,hm,hp⟩,h5,h6,h7,h8⟩
  have b0:=dH s;have HB:=dH hB;clear s h1 h3 hm hp h5 h6 h7 h8 hd R T I U Y hB;go_enter func153,ntmps153
  (go_wp2_with fail);rw[<-hW];obtain⟨ga,J⟩:=eX w.heap.size
  rw[J]at G |-;clear hW J;refine c1.mono ?_;rintro e w' ⟨rfl,rfl⟩;clear c1;go_upto_region 3 with fail
  refine lX W ?_;intro O hS;have b1:=zJ a9;have b2:=zV G;refine lZ ?_;refine zC ?_;intro hS;have a6:=yM HB.out hS;have HF:=dH (And.intro (b0.out.kept (z8.of_below a6) sI) (z8.of_below a6));clear O hS b1 b2 hk a6;(go_wp2_with fail);go_ret;exact⟨rfl,⟨_,HF.out.1,λ_ h=>h⟩,HF.out.2.mono sI⟩
end
theorem eqLink_00(w:World):(Op.equalIn 10000 213 (.agg (xU ⟨none,none⟩)) (.agg (xU ⟨none,none⟩))).run prog w=.ok true w:=kR
theorem eqLink_1(a b:Addr)(w:World):(Op.equalIn 10000 213 (.agg (xU ⟨some a,some b⟩)) (.agg (xU ⟨none,none⟩))).run prog w=.ok false w:=kR
attribute [go_sem ↓] eqLink_00 eqLink_1
theorem Y4(w:World):(bdS 215 #[]).run prog w=.ok (.agg (xO ⟨id0,⟨none,none⟩⟩)) w:=by
 refine qO w ZL _ (rH w) _ (Z7 w) [] _ ?_;simp[Instr.fill,sM,dG]
attribute [go_sem] Y4
theorem lru_new(w:World):Calls prog 183 #[] w λe w'=>∃g F,e=.returned (.pointer (some ⟨g,0,none⟩))/\dL w' g F []/\(∀x∈F,w.heap.size<=x)/\Below w.heap.size w w':=by
 have y:=@run_makeMap prog;have k:qG (w.alloc (.cells (xO ⟨id0,⟨none,none⟩⟩) 215)) w.heap.size id0 none none:=⟨heap_alloc_new w _⟩
 obtain⟨w1,s,f,m⟩:=k.setl (some ⟨w.heap.size,0,none⟩) (some ⟨w.heap.size,0,none⟩);have d:Below w.heap.size w w1:=((Below.refl w.heap.size w).alloc lR _).trans (m.below sI sI);have j:=f.lt;have t:=yK.new (kv:=idV) (vv:=fA) (ok:=vL) w1 w1.heap.size rfl;obtain⟨r,hr⟩:=eX w.heap.size
 have Hr:=dH hr;rw[hr]at f j s;clear k;go_enter func183,ntmps183
 go_upto_region 2 with fail
 clear hr m;(go_wp2_with fail);go_ret;have hg:=heap_alloc_new (w1.alloc (.map #[] 0)) (.cells #[.pointer (some ⟨r,0,none⟩),.map (some w1.heap.size)] 204 (0,0));have hk:=z8.trans (z8.alloc w1 (.map #[] 0)) (z8.alloc (w1.alloc (.map #[] 0)) (.cells #[.pointer (some ⟨r,0,none⟩),.map (some w1.heap.size)] 204 (0,0))) sI;refine⟨_,_,rfl,⟨r,w1.heap.size,[],λ_=>r,λ_=>r,rfl,rfl,(by have h9:=hg;rwa [(sI:(w1.alloc (.map #[] 0)).heap.size=w1.heap.size+1)]at h9),⟨_,_,_,t.kept (z8.alloc _ _) sI,Perm.refl _⟩,⟨rfl,rfl⟩,?_,sI,sI⟩,?_,?_⟩
 ·intro q hq;have e:q=(id0,r):=by simpa using hq
  subst e;exact f.kept hk sI
 ·have:=Hr.out;have:=d.size;intro x hx;simp at hx;rcases hx with h | h | h <;> omega
 ·exact(d.alloc d.size _).alloc (oS d.size) _
theorem lru_use(w:World)(g:Nat)(F:List Nat)(L:List zA)(d:zA)(h:dL w g F L) :
  Calls prog 101 #[.pointer (some ⟨g,0,none⟩),.agg (idC d)] w λe w'=>e=.returned (.int .i64 0)/\(∃F',dL w' g F' (rE L d ++ [d])/\∀x∈F',x∈F\/w.heap.size<=x)/\z8 F w w':=by
 have b6:=h.lt;obtain⟨r,b,N,nx,pv,h1,h2,h3,⟨M,es,f7,hm,hp⟩,h5,h6,h7,h8⟩:=h;have H2:=dH h2;rw[h2]at b6;clear h2;have V:z8 [] w (w.alloc (.cells (idC d) 23)):=z8.alloc _ _;obtain⟨W,hW⟩:=eR (w.alloc (.cells (idC d) 23))
 have H:z9 W w.heap.size 0 32=some (idC d):=by rw[hW];simp[go_sem]
 have hB:Below w.heap.size w W:=by rw[hW];exact bA
 have I:g<w.heap.size:=b6 g sI;rw[<-hW]at V;have c0:=(V.block g I sI).trans h3;have e5:W.cell? ⟨g,0,none⟩=some (.pointer (some ⟨r,0,none⟩)):=by rw[cell_of_row W g 0 _ _ _ c0];rfl
 have d5:W.cell? ⟨g,1,none⟩=some (.map (some b)):=by rw[cell_of_row W g 1 _ _ _ c0];rfl
 have b5:=hm.kept V sI;have c1:=qu W g r e5;have d1:g≠b:=λe=>(by rw[e,hm.heap]at h3;cases h3);have j:∀q∈(id0,r) :: N,q.2≠g/\q.2≠b:=by
  refine λq hq=>⟨λe=>?_,λe=>?_⟩
  ·have E:=(h6 _ hq).heap;rw[e,h3]at E;injection E with E
   injection E with E _ _
   have f5:=congrArg Array.size E;simp at f5
  ·have E:=(h6 _ hq).heap;rw[e,hm.heap]at E;cases E
 by_cases hd:d∈L
 ·rw[<-h1]at hd;obtain⟨A,x,C,rfl⟩:=VR hd;have a2:(d,x)∈M:=hp.mem_iff.2 sI;have hk:∀v:Subtype (Bel W),(Instr.lookup 202 (.map (some b)) (.agg (idC d)) true).run prog v.1=.ok (.tuple #[.pointer (some ⟨x,0,none⟩),.bool true]) v.1:=λv=>lhit (b5.kept (z8.of_below v.2) sI) a2;obtain⟨⟨dp,b3⟩,⟨dn,O⟩⟩:=VD h5;have a3:z8 [] w W.drew:=z8.trans V (z8.drew W) sI;have d4:jN W.drew nx pv (((id0,r) :: A)++(d,x) :: C):=h6.kept a3 sI;have f0:z9 W.drew x 32 2=some (xU ⟨some ⟨pv x,0,none⟩,some ⟨nx x,0,none⟩⟩):=(d4 (d,x) sI).rlk;have c2:=lru_cut W.drew nx pv ((id0,r) :: A) C d dp dn x (pv x) (nx x) d4 h7 rfl rfl b3 O;have e2:=qi (A:=A.map (·.1)) (C:=C.map (·.1)) (d:=d) (by rw[<-map_cons (f:=(·.1)) (a:=(d,x)),<-map_append,h1];exact h8);have hL:rE L d=(A++C).map (·.1):=by rw[<-h1,map_append,map_cons,e2,map_append]
  have a8:=Ln_cut (r:=r) (c:=x) (A:=A.map (·.2)) (C:=C.map (·.2)) (nx:=nx) (pv:=pv) (by rw[map_append,map_cons]at h5;exact h5) (by rw[map_append,map_cons]at h7;exact h7);have m:∀q∈((id0,r) :: A)++C,q∈(id0,r) :: (A++(d,x) :: C):=λq hq=>by
   simp only[mem_cons,mem_append,cons_append]at hq |-;rcases hq with h | h | h
   ·exact .inl h
   ·exact .inr (.inl h)
   ·exact .inr (.inr (.inr h))
  obtain⟨d7,a6⟩:=eX (up nx (pv x) (nx x))
  obtain⟨R,a4⟩:=eX (up pv (nx x) (pv x))
  rw[a6,a4]at a8 c2;rw[<-map_append]at a8;have b8:(r :: (A++C).map (·.2)).Nodup:=by
   rw[map_append,map_cons]at h7;rw[map_append];exact h7.sublist (Sublist.cons_cons _ (Sublist.append_left (sublist_cons_self _ _) _))
  have G:x∉r :: (A++C).map (·.2):=by
   have b9:=h7;rw[map_append,map_cons,nodup_cons,nodup_append,nodup_cons]at b9;rw[map_append,mem_cons,mem_append];rintro(e | e | e)
   ·exact b9.1 (by rw[<-e];simp)
   ·exact b9.2.2.2 x e x sI rfl
   ·exact b9.2.2.1.1 e
  obtain⟨dq,D⟩:∃dq,(dq,R r)∈(id0,r) :: (A++C):=YA (by rw[map_cons];exact rD a8);have a9:=Ln_hang a8 b8 G;have J:∀w1,z8 [x,pv x,nx x] W.drew w1->jN w1 d7 R (((id0,r) :: A)++C)->qG w1 x d none none->Calls prog 170 #[.pointer (some ⟨g,0,none⟩),.pointer (some ⟨x,0,none⟩)] w1 λe w'=>e=.returned (.tuple #[])/\(∃F',dL w' g F' (rE L d ++ [d])/\∀x∈F',x∈F\/w.heap.size<=x)/\z8 F w w':=by
   intro w1 f1 e9 e6;have hgs:g∉[x,pv x,nx x]:=by
    simp only[mem_cons,not_mem_nil,or_false,not_or];exact⟨λe=>(j (d,x) sI).1 e.symm,λe=>(j _ (m _ b3)).1 e.symm,λe=>(j _ (m _ O)).1 e.symm⟩
   have f2:b∉[x,pv x,nx x]:=by
    simp only[mem_cons,not_mem_nil,or_false,not_or];exact⟨λe=>(j (d,x) sI).2 e.symm,λe=>(j _ (m _ b3)).2 e.symm,λe=>(j _ (m _ O)).2 e.symm⟩
   have s:z8 [x,pv x,nx x] w w1:=z8.trans (a3.mono sI) f1 (λy hy=>.inl hy);refine(qv w1 g r b d7 R ((id0,r) :: (A++C)) d dq id0 x (R r) none none ((s.block g I hgs).trans h3) e9 b8 sI rfl D e6 ?_ ?_ ?_).mono ?_
   ·intro q hq e;exact G (by rw[<-e,<-map_cons (f:=(·.2)) (a:=(id0,r))];exact mem_map_of_mem hq)
   ·intro q hq;exact(j q (m q hq)).1
   ·exact λe=>(j (d,x) sI).1 e.symm
   ·rintro e w2 ⟨rfl,c7,B⟩;have d3:∀y∈[x,R r,r],∃dy,(dy,y)∈(id0,r) :: (A++(d,x) :: C):=by
     intro y hy;simp only[mem_cons,not_mem_nil,or_false]at hy;rcases hy with rfl | rfl | rfl
     ·exact⟨d,sI⟩
     ·exact⟨dq,m _ D⟩
     ·exact⟨id0,sI⟩
    have U:g∉[x,R r,r]:=λhg=>(by obtain⟨dy,hy⟩:=d3 g hg;exact(j _ hy).1 rfl);have a1:b∉[x,R r,r]:=λhb=>(by obtain⟨dy,hy⟩:=d3 b hb;exact(j _ hy).2 rfl);have Z:∀y,(∃dy,(dy,y)∈(id0,r) :: (A++(d,x) :: C))->y∈F:=by
     rintro y ⟨dy,hy⟩;rw[H2.out];exact mem_cons_of_mem _ (mem_cons_of_mem _ (by rw[<-map_cons (f:=(·.2)) (a:=(id0,r))];exact mem_map_of_mem (f:=(·.2)) hy))
    refine⟨rfl,⟨g :: b :: r :: (A++C ++ [(d,x)]).map (·.2),⟨r,b,A++C ++ [(d,x)],_,_,?_,rfl,(B.block g (Nat.lt_of_lt_of_le I s.size) U).trans ((s.block g I hgs).trans h3),⟨M,es,f7,(hm.kept s f2).kept B a1,hp.trans ?_⟩,?_,c7,?_,?_⟩,?_⟩,?_⟩
    ·rw[hL,map_append];rfl
    ·rw[append_assoc];exact Perm.append_left _ (perm_append_singleton (d,x) C).symm
    ·rw[map_append];exact a9
    ·rw[map_append,<-cons_append];exact nodup_append.2 ⟨b8,sI,λy hy z hz e=>by
      have ez:z=x:=by simpa using hz
      rw[e,ez]at hy;exact G hy⟩
    ·exact nodup_append.2 ⟨h8.filter _,sI,λy hy z hz e=>by
      have ez:z=d:=by simpa using hz
      rw[e,ez]at hy;have:=(mem_filter.1 hy).2;simp at this⟩
    ·intro y hy;left
     rcases mem_cons.1 hy with e | hy
     ·rw[e,H2.out];simp
     rcases mem_cons.1 hy with e | hy
     ·rw[e,H2.out];simp
     refine Z y ?_;rw[<-map_cons (f:=(·.2)) (a:=(id0,r))]at hy;obtain⟨q,hq,rfl⟩:=mem_map.1 hy;refine⟨q.1,?_⟩;rw[<-cons_append]at hq;rcases mem_append.1 hq with h | h
     ·exact m q h
     ·have e:q=(d,x):=by simpa using h
      rw[e];simp
    ·refine z8.trans (s.mono λy hy=>.inl (Z y ?_)) (B.mono λy hy=>.inl (Z y (d3 y hy))) (λy hy=>.inl hy);simp only[mem_cons,not_mem_nil,or_false]at hy;rcases hy with rfl | rfl | rfl
     ·exact⟨d,sI⟩
     ·exact⟨dp,m _ b3⟩
     ·exact⟨dn,m _ O⟩
  have b4:=dH J;clear J a9 D G b8 a6 a4 m a8 hL e2 d4 b3 O a2 hd h1 hp h5 h6 h7 h8 b6 j d1 b5 c0 V h3 hm a3 hB;go_enter func101,ntmps101
  (go_wp2_with fail);rw[<-hW];obtain⟨ga,a0⟩:=eX w.heap.size
  have d6:=dH a0;rw[a0]at H |-;clear hW;refine c1.mono ?_;rintro e w' ⟨rfl,rfl⟩;clear c1;go_upto_region 3 with fail
  refine lX W ?_;intro a7 hS;have b1:=zJ d5;have b2:=zV H;refine lZ ?_;refine zC ?_;intro hS;clear a7 hS b1 b2 hk a0;(go_wp2_with fail);refine c2.mono ?_;rintro e w1 ⟨rfl,e1,d9,a3⟩;have c3:=b4.out w1 a3 e1 d9;clear c2 e1 d9 a3;(go_wp2_with fail);refine c3.mono ?_;rintro e w2 ⟨rfl,hF,B⟩;have HF:=dH (And.intro hF B);clear c3 hF B;(go_wp2_with fail);go_ret;rw[d6.out.symm];exact⟨rfl,HF.out⟩
 ·have O:d∉N.map (·.1):=by rw[h1];exact hd
  have a2:d∉M.map (·.1):=λhx=>O ((hp.map _).mem_iff.1 hx);have hk:∀v:Subtype (Bel W),(Instr.lookup 202 (.map (some b)) (.agg (idC d)) true).run prog v.1=.ok (.tuple #[.pointer none,.bool false]) v.1:=λv=>lmiss (b5.kept (z8.of_below v.2) sI) a2;obtain⟨x,hx⟩:=eX W.heap.size
  obtain⟨W1,b7⟩:=eR ((W.alloc (.cells (xO ⟨d,dG⟩) 215)).drew)
  have e7:w.heap.size<x:=by
   have h9:w.heap.size<W.heap.size:=zD H;rw[<-hx];exact h9
  have X:z8 [] W W1:=by rw[b7];exact z8.trans (z8.alloc _ _) (z8.drew _) sI
  have s:z8 [] w W1:=z8.trans V X sI;have d8:qG W1 x d none none:=⟨by rw[b7,<-hx];exact heap_alloc_new _ _⟩
  have e3:=(s.block g I sI).trans h3;have e4:W1.cell? ⟨g,1,none⟩=some (.map (some b)):=by rw[cell_of_row W1 g 1 _ _ _ e3];rfl
  have T:z9 W1 w.heap.size 0 32=some (idC d):=(X.row (zD H) sI _ _).trans H;obtain⟨w3,g1,f6,c6,c8,c9⟩:=((hm.kept s sI).kept (z8.drew W1) (S:=[]) sI).update j7 underlying202 (k:=d) (v:=x) trivial;have a5:bJ M d x=M ++ [(d,x)]:=by unfold bJ;rw[if_neg a2]
  rw[a5]at c8;have f3:b<w.heap.size:=hm.lt;have d2:g∉[b]:=by simpa using d1
  have b0:w.heap.size∉[b]:=sO;have e8:x∉[b]:=sO;have Y:z8 [b] W1 w3:=z8.trans ((z8.drew W1).mono sI) c9 (λy hy=>.inl hy);have c5:=d8.kept Y e8;have f0:z9 w3 x 32 2=some (xU ⟨none,none⟩):=c5.rlk;have t:z8 [b] w w3:=z8.trans (s.mono sI) Y (λy hy=>.inl hy);have e0:jN w3 nx pv ((id0,r) :: N):=h6.kept t (λq hq=>by simpa using(j q hq).2);obtain⟨dq,D⟩:∃dq,(dq,pv r)∈(id0,r) :: N:=YA (by rw[map_cons];exact rD h5);have c4:∀q∈(id0,r) :: N,q.2≠x:=λq hq e=>(oH ((h6 q hq).lt));have G:x∉r :: N.map (·.2):=by
   rw[<-map_cons (f:=(·.2)) (a:=(id0,r))];intro hh;obtain⟨q,hq,e⟩:=mem_map.1 hh;exact c4 q hq e
  have a9:=Ln_hang h5 h7 G;have d0:g≠x:=oM;have c3:Calls prog 170 #[.pointer (some ⟨g,0,none⟩),.pointer (some ⟨x,0,none⟩)] w3 λe w'=>e=.returned (.tuple #[])/\(∃F',dL w' g F' (rE L d ++ [d])/\∀x∈F',x∈F\/w.heap.size<=x)/\z8 F w w':=by
   refine(qv w3 g r b nx pv ((id0,r) :: N) d dq id0 x (pv r) none none ((t.block g I d2).trans h3) e0 h7 sI rfl D c5 c4 (λq hq=>(j q hq).1) d0).mono ?_;rintro e w2 ⟨rfl,c7,B⟩;have Z:∀y,(∃dy,(dy,y)∈(id0,r) :: N)->y∈F:=by
    rintro y ⟨dy,hy⟩;rw[H2.out];exact mem_cons_of_mem _ (mem_cons_of_mem _ (by rw[<-map_cons (f:=(·.2)) (a:=(id0,r))];exact mem_map_of_mem (f:=(·.2)) hy))
   have U:g∉[x,pv r,r]:=by
    simp only[mem_cons,not_mem_nil,or_false,not_or];exact⟨d0,λe=>(j _ D).1 e.symm,λe=>(j (id0,r) sI).1 e.symm⟩
   have a1:b∉[x,pv r,r]:=by
    simp only[mem_cons,not_mem_nil,or_false,not_or];exact⟨oM,λe=>(j _ D).2 e.symm,λe=>(j (id0,r) sI).2 e.symm⟩
   refine⟨rfl,⟨g :: b :: r :: (N ++ [(d,x)]).map (·.2),⟨r,b,N ++ [(d,x)],_,_,?_,rfl,(B.block g (Nat.lt_of_lt_of_le I t.size) U).trans ((t.block g I d2).trans h3),⟨_,_,_,c8.kept B a1,Perm.append_right _ hp⟩,?_,c7,?_,?_⟩,?_⟩,?_⟩
   ·rw[eK hd,map_append,h1];rfl
   ·rw[map_append];exact a9
   ·rw[map_append,<-cons_append];exact nodup_append.2 ⟨h7,sI,λy hy z hz e=>by
     have ez:z=x:=by simpa using hz
     rw[e,ez]at hy;exact G hy⟩
   ·exact nodup_append.2 ⟨h8.filter _,sI,λy hy z hz e=>by
     have ez:z=d:=by simpa using hz
     rw[e,ez]at hy;have:=(mem_filter.1 hy).2;simp at this⟩
   ·intro y hy;rcases mem_cons.1 hy with e | hy
    ·left;rw[e,H2.out];simp
    rcases mem_cons.1 hy with e | hy
    ·left;rw[e,H2.out];simp
    rw[<-map_cons (f:=(·.2)) (a:=(id0,r))]at hy;obtain⟨q,hq,rfl⟩:=mem_map.1 hy;rw[<-cons_append]at hq;rcases mem_append.1 hq with h | h
    ·exact .inl (Z q.2 ⟨q.1,h⟩)
    ·have e:q=(d,x):=by simpa using h
     right;rw[e];show w.heap.size<=x;omega
   ·have f4:b∈F:=by rw[H2.out];simp
    refine z8.trans (t.mono λy hy=>.inl (by have e:y=b:=by simpa using hy
                                            rw[e];exact f4)) (B.mono (S':=x :: F) λy hy=>.inl ?_) (λy hy=>?_)
    ·simp only[mem_cons,not_mem_nil,or_false]at hy;rcases hy with rfl | rfl | rfl
     ·simp
     ·exact mem_cons_of_mem _ (Z _ ⟨dq,D⟩)
     ·exact mem_cons_of_mem _ (Z _ ⟨id0,sI⟩)
    ·rcases mem_cons.1 hy with e | hy
     ·right;omega
     ·exact .inl hy
  have f8:=dH c3;have f9:=dH b7;clear c3 a9 G c4 D e0 t Y c5 a5 c8 e3 d8 s X e7 a2 O hd h1 hp h5 h6 h7 h8 b6 j d1 b5 c0 V h3 hm hB f3 d0;go_enter func101,ntmps101
  (go_wp2_with fail);rw[<-hW];obtain⟨ga,a0⟩:=eX w.heap.size
  have d6:=dH a0;rw[a0]at H T b0 |-;clear hW a0;refine c1.mono ?_;rintro e w' ⟨rfl,rfl⟩;clear c1;go_upto_region 3 with fail
  refine lX W ?_;intro a7 hS;have b1:=zJ d5;have b2:=zV H;refine lZ ?_;refine zC ?_;intro hS;clear a7 hS b1 b2 hk e5 d5;have g0:W.drew.heap.size=x:=hx;go_upto_region 6 with fail
  rw[<-f9.out];clear b7 H;refine kX [b] W1 ?_;intro a7 hS;have b1:=zF e4 d2;have b2:=zY T b0;refine lQ ?_;intro K hK;refine zH (yA hS c9 sI) (λhS=>?_);refine hK _ _ ?_;clear hK K;refine zC ?_;intro hS;clear b1 b2 a7 hS c9 c6 e4 T;have c3:=f8.out;(go_wp2_with fail);refine c3.mono ?_;rintro e w2 ⟨rfl,hF,B⟩;have HF:=dH (And.intro hF B);clear c3 hF B;(go_wp2_with fail);go_ret;rw[d6.out.symm];exact⟨rfl,HF.out⟩

section
structure HeldO where
 b:ByteArray
 p:Bool
def dI(x:HeldO):Array Value:=#[.string x.b] ++ #[.bool x.p]
def iY:HeldO:=⟨⟨#[]⟩,false⟩
theorem HeldO_ext{x y:HeldO}(h:x.b=y.b/\x.p=y.p):x=y:=by cases x;cases y;simp_all
instance:DecidableEq HeldO:=λx y=>if h:x.b=y.b/\x.p=y.p then isTrue (HeldO_ext h)else isFalse (λe=>h (by subst e;simp))
@[go_sem ↓] theorem J7(w:World):(zeroValue 116).run prog w=.ok (.agg (dI iY)) w:=by
 have h:(prog.info? 116).bind (·.zero)=some (.agg (dI iY)):=kR;cases hi:prog.info? 116 with
 | none=>rw[hi]at h;cases h
 | some i =>
  rw[hi]at h;have hz:i.zero=some (.agg (dI iY)):=h;simp[zeroValue,typeInfo,hi,hz]
@[go_sem ↓] theorem loadHeldO_rw(a:Addr):loadVar 116 a=ldS 116 a:=rfl
@[go_sem ↓] theorem storeHeldO_rw(a:Addr)(v:Value):storeVar 116 a v=stS 116 a v:=rfl
theorem jz:prog.underlying 116=some (.struct (prog.fieldsOf 116)):=kR
theorem qb(w:World):((prog.fieldsOf 116).mapM fun (f:Field)=>do pure (f.offset,<-sizeOf f.type)).run prog w=.ok #[(0,1),(1,1)] w:=kR
@[go_sem ↓] theorem buildHeldO_rw(parts:Array (Nat×Value)):Instr.build 116 parts=bdS 116 parts:=rfl
@[go_sem] theorem buildHeldO_0(a0:ByteArray)(w:World):(bdS 116 #[(0,.string a0)]).run prog w=.ok (.agg (dI ⟨a0,false⟩)) w:=by
 refine qO w jz _ (J7 w) _ (qb w) [(0,.string a0)] _ ?_;rw[show dI iY=(#[]:Array Value) ++ #[.string ⟨#[]⟩]++(#[.bool false])from by first | (simp[dI,iY,Array.append_assoc];done) | (apply Array.ext';simp[dI,iY])];rw[yW (off:=0) (size:=1) rfl sI sI (by simp[Value.cells])];first | (simp[Instr.fill,dI,Array.append_assoc,Value.cells];done) | (simp only[Instr.fill,dI];congr 1;apply Array.ext';simp[Value.cells];done) | (simp only[Instr.fill,dI];congr 1;done) | (simp only[Instr.fill,dI];done)
structure mY(w:World)(x:Nat)(p:Pay):Prop where
 heap:w.heap[x]?=some (.cells #[.string p.body,.bool p.pin] 116 (0,0))
abbrev yo(l:Nat)(q by_ pn:Int)(b:Nat):Array Value:=#[.pointer (some ⟨l,0,none⟩),.int .i64 q,.int .i64 by_,.int .i64 pn,.map (some b)]
def v6(w:World)(g:Nat)(F:List Nat)(q:Int)(S:List Pay):Prop :=
 ∃(l b:Nat) (Fl:List Nat) (N:List (Pay×Nat)),N.map (·.1)=S/\F=g :: b :: (Fl++N.map (·.2)) /\
  w.heap[g]?=some (.cells (yo l q (xR S) (qW S) b) 110 (0,0))/\dL w l Fl (S.map (·.c)) /\
  (∃M es clk,yK w b idV fA vL M es clk/\M.Perm (N.map λp=>(p.1.c,p.2)))/\(∀p∈N,mY w p.2 p.1) /\
  (∀x∈Fl,x≠g/\x≠b/\x∉N.map (·.2))/\(N.map (·.2)).Nodup
section
variable {w w':World} {g:Nat} {F:List Nat} {q:Int} {S:List Pay}
theorem mY.lt(h:mY w x p):x<w.heap.size:=(aG h.heap).1
theorem mY.kept{T:List Nat}(h:mY w x p)(k:z8 T w w')(hx:x∉T):mY w' x p:=⟨(k.block x h.lt hx).trans h.heap⟩
theorem v6.kept{T:List Nat}(h:v6 w g F q S)(k:z8 T w w')(hF:∀x∈F,x∉T):v6 w' g F q S:=by
 obtain⟨l,b,Fl,N,h1,h2,h3,h4,⟨M,es,d,hm,hp⟩,h6,h7,h8⟩:=h;subst h2;exact⟨l,b,Fl,N,h1,rfl,(k.block g (aG h3).1 (hF g sI)).trans h3,h4.kept k λx hx=>hF x (by simp[hx]),⟨M,es,d,hm.kept k (hF b sI),hp⟩,
  λp hp=>(h6 p hp).kept k (hF _ (by simp;exact .inr (.inr (.inr ⟨_,hp⟩)))),h7,h8⟩
theorem v6.lt(h:v6 w g F q S):∀x∈F,x<w.heap.size:=by
 obtain⟨l,b,Fl,N,h1,h2,h3,h4,⟨M,es,d,hm,hp⟩,h6,h7,h8⟩:=h;subst h2;intro x hx;rcases mem_cons.1 hx with e | hx
 ·rw[e];exact(aG h3).1
 rcases mem_cons.1 hx with e | hx
 ·rw[e];exact hm.lt
 rcases mem_append.1 hx with hx | hx
 ·exact h4.lt x hx
 ·obtain⟨p,hp,rfl⟩:=mem_map.1 hx;exact(h6 p hp).lt
end
theorem yn(w:World)(g b:Nat)(h:w.cell? ⟨g,4,none⟩=some (.map (some b))):Calls prog 69 #[.pointer (some ⟨g,0,none⟩)] w λe w'=>e=.returned (.bool false)/\w=w':=by
 have hn:=λr=>run_eql_map_nil (P:=prog) w 108 23 114 r underlying108;go_enter func69,ntmps69
 (go_wp2_with fail);go_ret;exact⟨rfl,rfl⟩
theorem zeroHeldP(w:World):(zeroValue 114).run prog w=.ok (.pointer none) w:=kR
section
variable {w:World} {b:Nat} {M:List (zA×Nat)} {es:Array MapEntry} {clk:Nat} {d:zA} {x:Nat}
theorem shit(h:yK w b idV fA vL M es clk)(hx:(d,x)∈M):(Instr.lookup 108 (.map (some b)) (.agg (idC d)) true).run prog w=.ok (.tuple #[.pointer (some ⟨x,0,none⟩),.bool true]) w:=yK.hit h j7 underlying108 (k:=d) (v:=x) trivial hx true
theorem smiss(h:yK w b idV fA vL M es clk)(hx:d∉M.map (·.1)):(Instr.lookup 108 (.map (some b)) (.agg (idC d)) true).run prog w=.ok (.tuple #[.pointer none,.bool false]) w:=yK.miss h j7 underlying108 (zeroHeldP w) (k:=d) trivial hx true
end
theorem nK(w:World)(g b:Nat)(M:List (zA×Nat))(es:Array MapEntry)(t:Nat)(d:zA)(h:w.cell? ⟨g,4,none⟩=some (.map (some b)))(hm:yK w b idV fA vL M es t)(o:Option Addr)(bb:Bool)
  (hx:(bb=true/\∃x,o=some ⟨x,0,none⟩/\(d,x)∈M)\/(bb=false/\o=none/\d∉M.map (·.1))) :
  Calls prog 74 #[.pointer (some ⟨g,0,none⟩),.agg (idC d)] w λe w'=>e=.returned (.tuple #[.pointer o,.int .i64 (if bb then 0 else 7)])/\Below w.heap.size w w':=by
 have r:z8 [] w (w.alloc (.cells (idC d) 23)):=z8.alloc _ _;obtain⟨W,hW⟩:=eR (w.alloc (.cells (idC d) 23))
 have k:z9 W w.heap.size 0 32=some (idC d):=by rw[hW];simp[go_sem]
 have hB:Below w.heap.size w W:=by rw[hW];exact bA
 have cg:W.cell? ⟨g,4,none⟩=some (.map (some b)):=(hB.cell (p:=⟨g,4,none⟩) (block_lt_of_cell? w _ h)).trans h;have f:=hm.kept (z8.of_below hB) sI;have c1:=yn W g b cg;have hk:∀v:Subtype (Bel W),(Instr.lookup 108 (.map (some b)) (.agg (idC d)) true).run prog v.1=.ok (.tuple #[.pointer o,.bool bb]) v.1:=by
  intro v;rcases hx with⟨rfl,x,rfl,hx⟩ | ⟨rfl,rfl,hx⟩
  ·exact shit (f.kept (z8.of_below v.2) sI) hx
  ·exact smiss (f.kept (z8.of_below v.2) sI) hx
 have HX:=dH hx;clear hx hm f h r;go_enter func74,ntmps74
 (go_wp2_with fail);rw[<-hW];obtain⟨ga,j⟩:=eX w.heap.size
 have y:=dH j;rw[j]at k |-;clear hW j;refine c1.mono ?_;rintro e w' ⟨rfl,rfl⟩;clear c1;go_upto_region 3 with fail
 refine lX W ?_;intro m hS;have b1:=zJ cg;have b2:=zV k;refine lZ ?_;refine zC ?_;intro hS;have s:=yM hB hS;clear m hS b1 b2 hk;rcases HX.out with⟨rfl,x,rfl,_⟩ | ⟨rfl,rfl,_⟩
 all_goals
  clear HX;(go_wp2_with fail);go_ret2;exact⟨rfl,s⟩
theorem iI{g:Nat}{F:List Nat}{q:Int}(h:v6 w g F q S)(c:zA) :
  (∀p,jH S c=some p->∃x,mY w x p/\x∈F/\Calls prog 74 #[.pointer (some ⟨g,0,none⟩),.agg (idC c)] w λe w'=>e=.returned (.tuple #[.pointer (some ⟨x,0,none⟩),.int .i64 0])/\Below w.heap.size w w') /\
  (jH S c=none->Calls prog 74 #[.pointer (some ⟨g,0,none⟩),.agg (idC c)] w λe w'=>e=.returned (.tuple #[.pointer none,.int .i64 7])/\Below w.heap.size w w'):=by
 obtain⟨l,b,Fl,N,h1,h2,h3,h4,⟨M,es,j,hm,hp⟩,h6,h7,h8⟩:=h;have c4:w.cell? ⟨g,4,none⟩=some (.map (some b)):=by rw[cell_of_row w g 4 _ _ _ h3];rfl
 refine⟨λp k=>?_,λhn=>?_⟩
 ·obtain⟨d,m⟩:=jP k;rw[<-h1]at d;obtain⟨⟨p',x⟩,hq,e⟩:=mem_map.1 d;have e:p'=p:=e;subst e;refine⟨x,h6 _ hq,by rw[h2];exact mem_cons_of_mem _ (mem_cons_of_mem _ (mem_append_right _ (mem_map_of_mem (f:=(·.2)) hq))),?_⟩;refine nK w g b M es j c c4 hm _ true (.inl ⟨rfl,x,rfl,hp.mem_iff.2 (mem_map.2 ⟨_,hq,by rw[<-m]⟩)⟩)
 ·rw[dS,<-h1,map_map]at hn;refine nK w g b M es j c c4 hm _ false (.inr ⟨rfl,rfl,λhx=>hn ?_⟩);have:=(hp.map (·.1)).mem_iff.1 hx;rw[map_map]at this;exact this
theorem sto_get(w:World)(g:Nat)(F:List Nat)(q:Int)(S:List Pay)(c:zA)(h:v6 w g F q S) :
  Calls prog 30 #[.pointer (some ⟨g,0,none⟩),.agg (idC c)] w λe w'=>e=.returned (.tuple #[.string (match jH S c with | some p=>p.body | none=>⟨#[]⟩),.int .i64 (match jH S c with | some _=>0 | none=>7)])/\Below w.heap.size w w':=by
 have hB:Below w.heap.size w (w.alloc (.cells (idC c) 23)):=bA;have h1:=h.kept (z8.of_below hB) sI;have hr:z9 (w.alloc (.cells (idC c) 23)) w.heap.size 0 32=some (idC c):=by simp[go_sem]
 obtain⟨k1,k2⟩:=iI h1 c;clear h h1;cases hp:jH S c with
 | none =>
  have c1:=k2 hp;clear k1 k2;go_enter func30,ntmps30
  (go_wp2_with fail);refine c1.mono ?_;rintro e w' ⟨rfl,d⟩;have hb:=yM hB d;clear c1 d hr;(go_wp2_with fail);go_ret2;exact⟨rfl,hb⟩
 | some p =>
  obtain⟨x,hx,_,c1⟩:=k1 p hp;clear k1 k2;go_enter func30,ntmps30
  (go_wp2_with fail);refine c1.mono ?_;rintro e w' ⟨rfl,d⟩;have hb:=yM hB d;have f:w'.cell? ⟨x,0,none⟩=some (.string p.body):=by rw[cell_of_row w' x 0 _ _ _ (hx.kept (z8.of_below d) sI).heap];rfl
  clear c1 d hr hx;(go_wp2_with fail);go_ret2;exact⟨rfl,hb⟩
theorem B6(w:World)(g:Nat)(F:List Nat)(q:Int)(S:List Pay)(c:zA)(h:v6 w g F q S) :
  Calls prog 89 #[.pointer (some ⟨g,0,none⟩),.agg (idC c)] w λe w'=>e=.returned (.bool (jH S c).isSome)/\Below w.heap.size w w':=by
 have hB:Below w.heap.size w (w.alloc (.cells (idC c) 23)):=bA;have h1:=h.kept (z8.of_below hB) sI;have hr:z9 (w.alloc (.cells (idC c) 23)) w.heap.size 0 32=some (idC c):=by simp[go_sem]
 obtain⟨k1,k2⟩:=iI h1 c;clear h h1;cases hp:jH S c with
 | none =>
  have c1:=k2 hp;clear k1 k2;go_enter func89,ntmps89
  (go_wp2_with fail);refine c1.mono ?_;rintro e w' ⟨rfl,d⟩;have hb:=yM hB d;clear c1 d hr;(go_wp2_with fail);go_ret;exact⟨rfl,hb⟩
 | some p =>
  obtain⟨x,hx,_,c1⟩:=k1 p hp;clear k1 k2 hx;go_enter func89,ntmps89
  (go_wp2_with fail);refine c1.mono ?_;rintro e w' ⟨rfl,d⟩;have hb:=yM hB d;clear c1 d hr;(go_wp2_with fail);go_ret;exact⟨rfl,hb⟩
end
theorem nX{α β:Type}{f:α->β}:∀ {L:List α} {a b:α},(L.map f).Nodup->a∈L->b∈L->f a=f b->a=b
 | [],_,_,_,ha,_,_=>by cases ha
 | z :: L,a,b,hn,ha,hb,e=>by
  rw[map_cons,nodup_cons]at hn;rcases mem_cons.1 ha with h1 | h1 <;> rcases mem_cons.1 hb with h2 | h2
  ·rw[h1,h2]
  ·subst h1;exact absurd (by rw[e];exact mem_map_of_mem h2) hn.1
  ·subst h2;exact absurd (by rw[<-e];exact mem_map_of_mem h1) hn.1
  ·exact nX hn.2 h1 h2 e
theorem pinX_no(h:c∉S.map (·.c)):bB S c=S:=by
 unfold bB;have:∀p∈S,(if p.c=c then { p with pin:=true } else p)=id p:=λp hp=>if_neg λe:p.c=c=>h (by rw[<-e];exact mem_map_of_mem (f:=(·.c)) hp);rw[map_congr_left this,map_id]
theorem pinX_old(hn:(S.map (·.c)).Nodup)(hp:jH S c=some p)(h:p.pin=true):bB S c=S:=by
 obtain⟨hm,hc⟩:=jP hp;unfold bB;have:∀y∈S,(if y.c=c then { y with pin:=true } else y)=id y:=λy hy=>by
  split
  ·rename_i e
   have h2:=XI hn hy;rw[e,hp]at h2;injection h2 with h2
   subst h2;cases p
   simp at h;subst h;rfl
  ·rfl
 rw[map_congr_left this,map_id]
theorem pinned_pin(hn:(S.map (·.c)).Nodup)(hp:jH S c=some p)(h:p.pin=false):qW (bB S c)=qW S+p.body.size:=by
 obtain⟨hm,hc⟩:=jP hp;induction S with
 | nil=>cases hm
 | cons y S ih =>
  rw[map_cons,nodup_cons]at hn;by_cases e:y.c=c
  ·have hy:y=p:=by
    have:jH (y :: S) c=some y:=by unfold jH;rw[find?_cons,decide_eq_true e]
    rw[hp]at this;injection this with this;exact this.symm
   subst hy;have h2:=pinX_no (S:=S) (c:=c) (by rw[<-e];exact hn.1);have h3:bB (y :: S) c = { y with pin:=true } :: S:=by
    show(if y.c=c then { y with pin:=true } else y) :: bB S c=_;rw[if_pos e,h2]
   rw[h3];unfold qW;rw[filter_cons,filter_cons,if_pos rfl,if_neg (by simp[h])];simp only[map_cons,sum_cons];omega
  ·have d:jH S c=some p:=by
    unfold jH at hp |-;rw[find?_cons,decide_eq_false e]at hp;exact hp
   have:=ih hn.2 d (jP d).1;have h3:bB (y :: S) c=y :: bB S c:=by
    show(if y.c=c then { y with pin:=true } else y) :: bB S c=_;rw[if_neg e]
   rw[h3];unfold qW at this |-;rw[filter_cons,filter_cons];split
   ·simp only[map_cons,sum_cons];omega
   ·exact this
theorem sto_pin(w:World)(g:Nat)(F:List Nat)(q:Int)(S:List Pay)(c:zA)(h:v6 w g F q S)(c5:xR S<=1000000) :
  Calls prog 85 #[.pointer (some ⟨g,0,none⟩),.agg (idC c)] w λe w'=>(∃E:Int,e=.returned (.int .i64 E))/\v6 w' g F q (bB S c)/\z8 F w w':=by
 have hB:Below w.heap.size w (w.alloc (.cells (idC c) 23)):=bA;have h1:=h.kept (z8.of_below hB) sI;have hr:z9 (w.alloc (.cells (idC c) 23)) w.heap.size 0 32=some (idC c):=by simp[go_sem]
 obtain⟨k1,k2⟩:=iI h1 c;have T:(S.map (·.c)).Nodup:=by
  obtain⟨l,b,Fl,N,e1,e2,e3,e4,_⟩:=h;obtain⟨_,_,_,_,_,_,_,_,_,_,_,_,b9⟩:=e4;exact b9
 cases hp:jH S c with
 | none =>
  have c1:=k2 hp;have k:bB S c=S:=pinX_no (dS.1 hp);rw[k];have H:=dH h;clear k1 k2 h h1;go_enter func85,ntmps85
  (go_wp2_with fail);refine c1.mono ?_;rintro e w' ⟨rfl,d⟩;have hb:=yM hB d;have HF:=dH (And.intro (H.out.kept (z8.of_below hb) sI) ((z8.of_below hb).mono (S':=F) sI));clear c1 d hr hb;(go_wp2_with fail);go_ret;exact⟨⟨_,rfl⟩,HF.out⟩
 | some p =>
  have b7:qW S<=1000000:=Nat.le_trans (pX S) c5;obtain⟨l,b,Fl,N,e1,e2,e3,e4,⟨M,es,X,hm,s⟩,e6,e7,e8⟩:=h;obtain⟨a6,R⟩:=jP hp;obtain⟨x,j⟩:∃x,(p,x)∈N:=by
   rw[<-e1]at a6;obtain⟨q',b6,e⟩:=mem_map.1 a6;exact⟨q'.2,by rw[<-e];exact b6⟩
  have m:=e6 _ j;have hx:=m.kept (z8.of_below hB) sI;have c4:(w.alloc (.cells (idC c) 23)).cell? ⟨g,4,none⟩=some (.map (some b)):=by
   rw[cell_of_row _ g 4 _ _ _ ((hB.block g (aG e3).1).trans e3)];rfl
  have c1:=nK _ g b M es X c c4 (hm.kept (z8.of_below hB) sI) (some ⟨x,0,none⟩) true (.inl ⟨rfl,x,rfl,s.mem_iff.2 (mem_map.2 ⟨_,j,by rw[<-R]⟩)⟩);have b5:x∈F:=by rw[e2];exact mem_cons_of_mem _ (mem_cons_of_mem _ (mem_append_right _ (mem_map_of_mem (f:=(·.2)) j)))
  have a4:x≠g:=by
   rintro rfl;have h9:=m.heap;rw[e3]at h9;injection h9 with h9;injection h9 with h9 _ _
   have:=congrArg Array.size h9;simp at this
  clear c4 m;cases hpp:p.pin with
  | true =>
   have k:bB S c=S:=pinX_old T hp hpp;rw[k];have H:=dH (show v6 w g F q S from⟨l,b,Fl,N,e1,e2,e3,e4,⟨M,es,X,hm,s⟩,e6,e7,e8⟩);clear k1 k2 e1 e2 e3 e4 hm s e6 e7 e8 h1;go_enter func85,ntmps85
   (go_wp2_with fail);refine c1.mono ?_;rintro e w' ⟨rfl,d⟩;have hb:=yM hB d;have L:w'.cell? ⟨x,1,none⟩=some (.bool p.pin):=by rw[cell_of_row w' x 1 _ _ _ (hx.kept (z8.of_below d) sI).heap];rfl
   rw[hpp]at L;have HF:=dH (And.intro (H.out.kept (z8.of_below hb) sI) ((z8.of_below hb).mono (S':=F) sI));clear c1 d hr hb hx;(go_wp2_with fail);go_ret;exact⟨⟨_,rfl⟩,HF.out⟩
  | false =>
   have O:=pinned_pin T hp hpp;have Y:p.body.size<=1000000:=by
    have:=pX (bB S c);rw[mA]at this;omega
   have c0:g<w.heap.size:=(aG e3).1;have H:=dH (show v6 w g F q S from⟨l,b,Fl,N,e1,e2,e3,e4,⟨M,es,X,hm,s⟩,e6,e7,e8⟩);have E3:=dH e3;clear k1 k2 e3;go_enter func85,ntmps85
   (go_wp2_with fail);refine c1.mono ?_;rintro e w' ⟨rfl,d⟩;have hb:=yM hB d;have J:=(hx.kept (z8.of_below d) sI).heap;have L:w'.cell? ⟨x,1,none⟩=some (.bool p.pin):=by rw[cell_of_row w' x 1 _ _ _ J];rfl
   have c3:w'.frozen? ⟨x,1,none⟩=false:=by simp[frozen?,J]
   rw[hpp]at L;have a0:=(hb.block g c0).trans E3.out;clear c1 d hr hx;have hgs:(w'.setCell ⟨x,1,none⟩ (.bool true)).heap[g]?=some (.cells (yo l q (xR S) (qW S) b) 110 (0,0)):=((z8.setCell w' ⟨x,1,none⟩ (.bool true)).block g (aG a0).1 (by simp;exact λe=>a4 e.symm)).trans a0;have A:(w'.setCell ⟨x,1,none⟩ (.bool true)).heap[x]?=some (.cells #[.string p.body,.bool true] 116 (0,0)):=by rw[vQ J];rfl
   have U:=z8.setCell w' ⟨x,1,none⟩ (.bool true);go_upto_region 6 with fail
   obtain⟨W2,b4⟩:=eX (w'.setCell ⟨x,1,none⟩ (.bool true))
   rw[b4]at hgs A U |-;have a2:W2.cell? ⟨g,3,none⟩=some (.int .i64 (qW S)):=by rw[cell_of_row W2 g 3 _ _ _ hgs];rfl
   have m:W2.cell? ⟨x,0,none⟩=some (.string p.body):=by rw[cell_of_row W2 x 0 _ _ _ A];rfl
   have c2:W2.frozen? ⟨g,3,none⟩=false:=by simp[frozen?,hgs]
   obtain⟨P0,a3⟩:=eX (qW S)
   obtain⟨Z,hZ⟩:=eX p.body.size
   rw[a3]at O b7 a2 hgs;rw[hZ]at O Y;have c7:IntKind.i64.wrap ((P0:Int)+(Z:Int))=((P0+Z:Nat):Int):=by rw[IntWalk.i64_in _ oM];push_cast;rfl
   have HZ:=dH hZ;have c8:=dH a3;have c6:=dH O;clear b4 L c3 J a0 O a3;refine kF [] W2 ?_;intro b8 hS;have b1:=zF a2 (S:=[]) sI;have b2:=zF m (S:=[]) sI;refine lZ ?_;refine qY ?_ ?_;(focus(simp only[yL];done));intro K hK;go_simp;refine hK _ _ ?_;clear hK K;have I:((P0:Int)+(Z:Int))=((qW (bB S c):Nat):Int):=by rw[c6.out];push_cast;rfl
   have a1:=vQ hgs 3 (.int .i64 ((P0:Int)+(Z:Int)));have V:=z8.setCell W2 ⟨g,3,none⟩ (.int .i64 ((P0:Int)+(Z:Int)));obtain⟨W3,b3⟩:=eX (W2.setCell ⟨g,3,none⟩ (.int .i64 ((P0:Int)+(Z:Int))))
   rw[b3]at a1 V |-;clear b3;have a8:z8 [x,g] w' W3.drew:=z8.trans (z8.trans (U.mono (S':=[x,g]) sI) (V.mono (S':=[x,g]) sI) (λy hy=>.inl hy)) (z8.drew W3) sI;have D:z8 [x,g] w W3.drew:=z8.trans ((z8.of_below hb).mono sI) a8 (λy hy=>.inl hy);have a5:W3.drew.heap[x]?=some (.cells #[.string p.body,.bool true] 116 (0,0)):=((V.block x (aG A).1 (by simp;exact a4))).trans A;have G:v6 W3.drew g F q (bB S c):=by
    refine⟨l,b,Fl,N.map λr=>(if r.1.c=c then { r.1 with pin:=true } else r.1,r.2),?_,?_,?_,?_,⟨M,es,X,(hm.kept D ?_),?_⟩,?_,?_,?_⟩
    ·rw[<-e1,map_map];unfold bB;rw[map_map];rfl
    ·rw[e2,map_map];rfl
    ·have h9:W3.drew.heap[g]?=_:=a1;rw[h9,mA,<-I];rfl
    ·rw[BK];refine e4.kept D λy hy t=>?_;rcases mem_cons.1 t with e | t
     ·exact(e7 y hy).2.2 (by rw[e];exact mem_map_of_mem (f:=(·.2)) j)
     ·exact(e7 y hy).1 (by simpa using t)
    ·intro b0;simp only[mem_cons,not_mem_nil,or_false]at b0;rcases b0 with e | e
     ·have h9:=(e6 _ j).heap;have h9:w.heap[x]?=_:=h9;rw[<-e,hm.heap]at h9;cases h9
     ·have h9:=E3.out;rw[<-e,hm.heap]at h9;cases h9
    ·rw[map_map];refine s.trans (Perm.of_eq (map_congr_left λr _=>?_));show(r.1.c,r.2)=((if _ then _ else _:Pay).c,r.2)
     split <;> rfl
    ·intro r hr;obtain⟨r',B,rfl⟩:=mem_map.1 hr;by_cases e:r'.1.c=c
     ·have e5:r'=(p,x):=by
       have h9:=XI T (by rw[<-e1];exact mem_map_of_mem (f:=(·.1)) B:r'.1∈S);rw[e,hp]at h9;injection h9 with h9
       exact nX (f:=λr:Pay×Nat=>r.1.c) (by have h9:=T;rw[<-e1,map_map]at h9;exact h9) B j (by rw[e,R])
      subst e5;show mY W3.drew x (if p.c=c then _ else _);rw[if_pos R];exact⟨a5⟩
     ·show mY W3.drew r'.2 (if r'.1.c=c then _ else _);rw[if_neg e];refine(e6 r' B).kept D λt=>?_;simp only[mem_cons,not_mem_nil,or_false]at t;rcases t with h | h
      ·have e5:r'=(p,x):=by
        exact nX e8 B j h
       rw[e5]at e;exact e R
      ·have h9:=(e6 r' B).heap;rw[h,E3.out]at h9;injection h9 with h9;injection h9 with h9 _ _
       have:=congrArg Array.size h9;simp at this
    ·intro y hy;rw[map_map];exact e7 y hy
    ·rw[map_map];exact e8
   have a9:g∈F:=by rw[e2];simp
   have a7:z8 F w W3.drew:=D.mono λy hy=>by
    simp only[mem_cons,not_mem_nil,or_false]at hy;rcases hy with h | h
    ·rw[h];exact .inl b5
    ·rw[h];exact .inl a9
   have HF:=dH (And.intro G a7);clear G a7 D a8 a5 a9 a1 V U b1 b2 b8 hS A hgs a2 m c2 e4 e6 e7 e8 e1 e2 hm s;(go_wp2_with fail);go_ret;exact⟨⟨_,rfl⟩,HF.out⟩
theorem QN(h:c∉S.map (·.c)):kN S c=S :=
 filter_eq_self.2 λp hp=>decide_eq_true λe:p.c=c=>h (by rw[<-e];exact mem_map_of_mem (f:=(·.c)) hp)
theorem dropX_sum(hn:(S.map (·.c)).Nodup)(hp:jH S c=some p):xR S=xR (kN S c)+p.body.size/\qW S=qW (kN S c)+if p.pin then p.body.size else 0:=by
 obtain⟨hm,hc⟩:=jP hp;induction S with
 | nil=>cases hm
 | cons y S ih =>
  rw[map_cons,nodup_cons]at hn;by_cases e:y.c=c
  ·have hy:y=p:=by
    have:jH (y :: S) c=some y:=by unfold jH;rw[find?_cons,decide_eq_true e]
    rw[hp]at this;injection this with this;exact this.symm
   subst hy;have h2:=QN (S:=S) (c:=c) (by rw[<-e];exact hn.1);have h3:kN (y :: S) c=S:=by
    show List.filter _ (y :: S)=S;rw[filter_cons,if_neg (by simpa using e)];exact h2
   rw[h3];refine⟨by unfold xR;simp only[map_cons,sum_cons];omega,?_⟩;unfold qW;rw[filter_cons];split
   ·simp only[map_cons,sum_cons];omega
   ·rfl
  ·have f:jH S c=some p:=by
    unfold jH at hp |-;rw[find?_cons,decide_eq_false e]at hp;exact hp
   obtain⟨i1,i2⟩:=ih hn.2 f (jP f).1;have h3:kN (y :: S) c=y :: kN S c:=by
    show List.filter _ (y :: S)=_;rw[filter_cons,if_pos (by simpa using e)];rfl
   rw[h3];refine⟨by unfold xR at i1 |-;simp only[map_cons,sum_cons];omega,?_⟩;unfold qW at i2 |-;rw[filter_cons,filter_cons];by_cases d:y.pin=true
   ·rw[if_pos d,if_pos d];simp only[map_cons,sum_cons];omega
   ·rw[if_neg d,if_neg d];exact i2
theorem dropX_cs(S:List Pay)(c:zA):(kN S c).map (·.c)=rE (S.map (·.c)) c:=by
 unfold kN rE;rw[filter_map];rfl
theorem sto_drop(w:World)(g:Nat)(F:List Nat)(q:Int)(S:List Pay)(c:zA)(h:v6 w g F q S)(h1:xR S<=1000000) :
  Calls prog 90 #[.pointer (some ⟨g,0,none⟩),.agg (idC c)] w λe w'=>e=.returned (.int .i64 (if c∈S.map (·.c)then 0 else 7))/\(∃F',v6 w' g F' q (kN S c)/\∀x∈F',x∈F)/\z8 F w w':=by
 have hB:Below w.heap.size w (w.alloc (.cells (idC c) 23)):=bA;have hr:z9 (w.alloc (.cells (idC c) 23)) w.heap.size 0 32=some (idC c):=by simp[go_sem]
 obtain⟨l,b,Fl,N,e1,e2,e3,e4,⟨M,es,d2,hm,a8⟩,e6,e7,e8⟩:=h;have f0:(S.map (·.c)).Nodup:=by
  obtain⟨_,_,_,_,_,_,_,_,_,_,_,_,g7⟩:=e4;exact g7
 have f1:g<w.heap.size:=(aG e3).1;have c4:(w.alloc (.cells (idC c) 23)).cell? ⟨g,4,none⟩=some (.map (some b)):=by
  rw[cell_of_row _ g 4 _ _ _ ((hB.block g f1).trans e3)];rfl
 have d4:=hm.kept (z8.of_below hB) sI;by_cases hc:c∈S.map (·.c)
 ·rw[if_pos hc];obtain⟨p,hp⟩:∃p,jH S c=some p:=by
   cases e:jH S c with
   | none=>exact absurd hc (dS.1 e)
   | some p=>exact⟨p,rfl⟩
  obtain⟨e5,f7⟩:=jP hp;obtain⟨x,d8⟩:∃x,(p,x)∈N:=by
   rw[<-e1]at e5;obtain⟨q',g6,e⟩:=mem_map.1 e5;exact⟨q'.2,by rw[<-e];exact g6⟩
  have B:=e6 _ d8;have hx:=B.kept (z8.of_below hB) sI;have c1:=nK _ g b M es d2 c c4 d4 (some ⟨x,0,none⟩) true (.inl ⟨rfl,x,rfl,a8.mem_iff.2 (mem_map.2 ⟨_,d8,by rw[<-f7]⟩)⟩);have g4:x≠g:=by
   rintro rfl;have h9:=B.heap;rw[e3]at h9;injection h9 with h9;injection h9 with h9 _ _
   have:=congrArg Array.size h9;simp at this
  have f8:g≠b:=λe=>(by rw[e,hm.heap]at e3;cases e3);obtain⟨s1,s2⟩:=dropX_sum f0 hp;have f6:=pX S;have b7:=pX (kN S c);obtain⟨B0,g3⟩:=eX (xR S)
  obtain⟨P0,g2⟩:=eX (qW S)
  obtain⟨Z,hZ⟩:=eX p.body.size
  obtain⟨B1,d6⟩:=eX (xR (kN S c))
  obtain⟨P1,d5⟩:=eX (qW (kN S c))
  rw[g3]at s1 h1 f6 e3;rw[g2]at s2 f6 e3;rw[hZ,d6]at s1;rw[hZ,d5]at s2;rw[d5,d6]at b7;have h3:IntKind.i64.wrap ((B0:Int)-(Z:Int))=(B0:Int)-(Z:Int):=IntWalk.i64_in _ oM;have c7:∀w5 w8 T d1,z8 [g,b] w w5->z8 Fl w5 w8->w5.heap[g]?=some (.cells (yo l q ((B0:Int)-(Z:Int)) (P1:Int) b) 110 (0,0))->yK w5 b idV fA vL (pH M c) d1 d2->dL w8 l T (rE (S.map (·.c)) c)->(∀y∈T,y∈Fl)->(∃F',v6 w8 g F' q (kN S c)/\∀x∈F',x∈F)/\z8 F w w8:=by
   intro w5 w8 T d1 k1 k2 g9 U a0 D;have g8:g∉Fl:=λh=>(e7 g h).1 rfl;have h2:b∉Fl:=λh=>(e7 b h).2.1 rfl;have f5:∀r∈N.filter (λr=>decide (r.1.c≠c)),r∈N:=λr hr=>(mem_filter.1 hr).1;have hk:z8 ([g,b]++Fl) w w8:=z8.trans (k1.mono λy hy=>.inl (mem_append_left _ hy)) (k2.mono λy hy=>.inl (mem_append_right _ hy)) (λy hy=>.inl hy);refine⟨⟨g :: b :: (T++(N.filter λr=>decide (r.1.c≠c)).map (·.2)),⟨l,b,T,N.filter λr=>decide (r.1.c≠c),?_,rfl,?_,?_,⟨pH M c,d1,d2,U.kept k2 h2,?_⟩,?_,?_,?_⟩,?_⟩,?_⟩
   ·rw[<-e1];unfold kN;rw[filter_map];rfl
   ·have h9:=(k2.block g (Nat.lt_of_lt_of_le f1 k1.size) g8).trans g9;have e9:((B0:Int)-(Z:Int))=(B1:Int):=oM;rw[h9,d6,d5,e9]
   ·rw[dropX_cs];exact a0
   ·have h9:(pH M c).Perm ((N.map λp=>(p.1.c,p.2)).filter λp=>decide (p.1≠c)):=a8.filter _;rw[filter_map]at h9;exact h9
   ·intro r hr;refine(e6 r (f5 r hr)).kept hk λa9=>?_;rcases mem_append.1 a9 with a9 | a9
    ·have h9:=(e6 r (f5 r hr)).heap;simp only[mem_cons,not_mem_nil,or_false]at a9;rcases a9 with h | h
     ·rw[h,e3]at h9;injection h9 with h9;injection h9 with h9 _ _
      have:=congrArg Array.size h9;simp at this
     ·rw[h,hm.heap]at h9;cases h9
    ·exact(e7 _ a9).2.2 (mem_map_of_mem (f:=(·.2)) (f5 r hr))
   ·exact λy hy=>⟨(e7 y (D y hy)).1,(e7 y (D y hy)).2.1,λh=>(e7 y (D y hy)).2.2 ((Sublist.map _ filter_sublist).subset h)⟩
   ·exact e8.sublist (Sublist.map _ filter_sublist)
   ·intro y hy;rw[e2];rcases mem_cons.1 hy with h | hy
    ·rw[h];simp
    rcases mem_cons.1 hy with h | hy
    ·rw[h];simp
    refine mem_cons_of_mem _ (mem_cons_of_mem _ ?_);rcases mem_append.1 hy with h | h
    ·exact mem_append_left _ (D y h)
    ·exact mem_append_right _ ((Sublist.map _ filter_sublist).subset h)
   ·refine hk.mono λy hy=>.inl ?_;rw[e2];simp only[mem_append,mem_cons,not_mem_nil,or_false]at hy |-;rcases hy with(h | h) | h
    ·exact .inl h
    ·exact .inr (.inl h)
    ·exact .inr (.inr (.inl h))
  have d3:=dH c7;have H4:=dH e4;have H7:=dH e7;have Hm:=dH hm;have Hc:=dH hc;have d7:=dH f8;have H3:=dH e3;have d9:=B.heap;clear c7 e4 e7 hm hc f8 e6 e8 e1 e2 f0 e5 a8 hp f7 d8 d4 s1 b7 g3 g2 d6 d5 B e3;go_enter func90,ntmps90
  (go_wp2_with fail);refine c1.mono ?_;rintro e w' ⟨rfl,c9⟩;have hb:=yM hB c9;have Y:z9 w' w.heap.size 0 32=some (idC c):=((z8.of_below c9).row (zD hr) sI _ _).trans hr;obtain⟨ga,f2⟩:=eX w.heap.size
  have b3:=dH f2;rw[f2]at Y |-;clear f2 hr;have a7:=(hb.block x (aG d9).1).trans d9;have b0:=(hb.block g f1).trans H3.out;have e0:w'.cell? ⟨x,1,none⟩=some (.bool p.pin):=by rw[cell_of_row w' x 1 _ _ _ a7];rfl
  clear c1 hx d9;cases hpp:p.pin with
  | true =>
   rw[hpp]at e0;rw[hpp]at s2;have hP:(P0:Int)-(Z:Int)=(P1:Int):=by simp at s2;omega
   have g5:IntKind.i64.wrap ((P0:Int)-(Z:Int))=(P0:Int)-(Z:Int):=IntWalk.i64_in _ oM;have f9:w'.cell? ⟨g,3,none⟩=some (.int .i64 P0):=by rw[cell_of_row w' g 3 _ _ _ b0];rfl
   have b5:w'.cell? ⟨x,0,none⟩=some (.string p.body):=by rw[cell_of_row w' x 0 _ _ _ a7];rfl
   have h0:w'.frozen? ⟨g,3,none⟩=false:=by simp[frozen?,b0]
   have f3:=vQ b0 3 (.int .i64 ((P0:Int)-(Z:Int)));have J:=z8.setCell w' ⟨g,3,none⟩ (.int .i64 ((P0:Int)-(Z:Int)));have HP:=dH hP;clear s2 hP;go_upto_region 5 with fail
   refine kF [] w' ?_;intro t hS;have b1:=zF f9 (S:=[]) sI;have b2:=zF b5 (S:=[]) sI;refine lZ ?_;refine qY ?_ ?_;(focus(simp only[yL];done));intro K hK;go_simp;refine hK _ _ ?_;clear hK K hS t b1 b2 e0 f9 b5 h0 g5;obtain⟨W8,g1⟩:=eX (w'.setCell ⟨g,3,none⟩ (.int .i64 ((P0:Int)-(Z:Int))))
   rw[g1]at f3 J |-;clear g1;have E:z8 [g] w' W8.drew:=z8.trans (J.mono sI) (z8.drew W8) sI;have b4:W8.drew.heap[x]?=some (.cells #[.string p.body,.bool p.pin] 116 (0,0)):=(E.block x (aG a7).1 (by simpa using g4)).trans a7;have c0:W8.drew.heap[g]?=some (.cells (yo l q (B0:Int) (P1:Int) b) 110 (0,0)):=by
    have h9:W8.drew.heap[g]?=_:=f3;rw[h9,HP.out];rfl
   have b8:z8 [g] w W8.drew:=z8.trans ((z8.of_below hb).mono sI) E (λy hy=>.inl hy);have R:=dH (show ∀V,z8 [g] W8.drew V->z9 V ga 0 32=some (idC c)from λV hk=>((z8.trans E hk (λy hy=>.inl hy)).row (zD Y) (oS b3.out) _ _).trans Y);obtain⟨W9,g0⟩:=eX W8.drew
   rw[g0]at b4 c0 b8 R |-;clear Y f3 J E g0 a7 b0;go_upto_region 6 with fail
   have j:=c0;have B:(W9).cell? ⟨x,0,none⟩=some (.string p.body):=by rw[cell_of_row _ x 0 _ _ _ (b4)];rfl
   have c5:(W9).cell? ⟨g,2,none⟩=some (.int .i64 B0):=by rw[cell_of_row _ g 2 _ _ _ j];rfl
   have f4:(W9).frozen? ⟨g,2,none⟩=false:=by simp[frozen?,j]
   have a3:=vQ j 2 (.int .i64 ((B0:Int)-(Z:Int)));have I:=z8.setCell (W9) ⟨g,2,none⟩ (.int .i64 ((B0:Int)-(Z:Int)));refine kF [] W9 ?_;intro t hS;have b1:=zF c5 (S:=[]) sI;have b2:=zF B (S:=[]) sI;refine lZ ?_;refine qY ?_ ?_;(focus(simp only[yL];done));intro K hK;go_simp;refine hK _ _ ?_;clear hK K hS t b1 b2;obtain⟨W3,d0⟩:=eX ((W9).setCell ⟨g,2,none⟩ (.int .i64 ((B0:Int)-(Z:Int))))
   rw[d0]at a3 I |-;clear d0 j B c5 f4;have a1:z8 [g] (W9) W3.drew:=z8.trans (I.mono (S':=[g]) sI) (z8.drew W3) sI;have O:z8 [g] w W3.drew:=z8.trans (z8.trans (b8) (I.mono (S':=[g]) sI) (λy hy=>.inl hy)) (z8.drew W3) sI;have d:W3.drew.heap[g]?=some (.cells (yo l q ((B0:Int)-(Z:Int)) (P1:Int) b) 110 (0,0)):=a3;obtain⟨V,hV⟩:=eX W3.drew
   rw[hV]at O a1 d |-;clear hV I a3;have a6:g∉[b]:=by simpa using d7.out
   have c8:b∉[g]:=by simpa using λe:b=g=>d7.out e.symm
   have c3:V.cell? ⟨g,4,none⟩=some (.map (some b)):=by rw[cell_of_row V g 4 _ _ _ d];rfl
   have G:z9 V ga 0 32=some (idC c):=R.out V a1;have s:ga∉[b]:=by have:=Hm.out.lt;have:=b3.out;simp;omega
   obtain⟨w5,d1,X,U,b9⟩:=((Hm.out.kept O c8).kept (z8.drew V) (S:=[]) sI).delete j7 underlying108 (ty:=0) (k:=c) trivial;go_upto_region 7 with fail
   refine kX [b] V ?_;intro t hS;have b1:=zF c3 a6;have b2:=zY G s;refine lQ ?_;intro K hK;refine zH (yA hS b9 sI) (λhS=>?_);refine hK _ _ ?_;clear hK K;refine zC ?_;intro hS;have L:z8 [b] V w5:=hS;clear b1 b2 t X b9 hS;have a2:z8 [g,b] w w5:=z8.trans (O.mono (S':=[g,b]) sI) (L.mono (S':=[g,b]) sI) (λy hy=>.inl hy);have m:=(L.block g (aG d).1 a6).trans d;have c6:w5.cell? ⟨g,0,none⟩=some (.pointer (some ⟨l,0,none⟩)):=by rw[cell_of_row w5 g 0 _ _ _ m];rfl
   have b6:z9 w5 ga 0 32=some (idC c):=(L.row (zD G) s _ _).trans G;have a5:g∉Fl:=λh=>(H7.out g h).1 rfl;have a4:ga∉Fl:=λh=>(by have:=H4.out.lt ga h;have:=b3.out;omega);have c2:=qw w5.drew l Fl _ c ((H4.out.kept a2 (λy hy hm=>by
    rcases mem_cons.1 hm with e | hm
    ·exact(H7.out y hy).1 e
    ·exact(H7.out y hy).2.1 (by simpa using hm))).kept (z8.drew w5) (S:=[]) sI)
   rw[if_pos Hc.out]at c2;clear d O a1 L c3 G s a6 c8;go_upto_region 8 with fail
   refine kX Fl w5 ?_;intro t hS;have b1:=zF c6 a5;have b2:=zY b6 a4;refine lQ ?_;intro K hK;refine c2.mono ?_;rintro e w8 ⟨rfl,⟨T,a0,D⟩,E⟩;replace hS:=yA hS E (λy hy=>.inl hy);refine⟨_,rfl,hS,hK _ _ ?_⟩;clear hK K;refine lZ ?_;refine zC ?_;intro hS;have J:z8 Fl w5 w8:=hS;have A:=d3.out w5 w8 T _ a2 J m U a0 D;have HF:=dH A;clear A b1 b2 t hS E J a0 D m U a2 c6 b6 c2;(go_wp2_with fail);go_ret;exact⟨rfl,HF.out⟩
  | false =>
   rw[hpp]at e0;rw[hpp]at s2;have hP:(P0:Int)=(P1:Int):=by simp at s2;omega
   rw[hP]at b0;clear hP s2;go_upto_region 6 with fail
   have R:=dH (show ∀V,z8 [g] w' V->z9 V ga 0 32=some (idC c)from λV hk=>(hk.row (zD Y) (oS b3.out) _ _).trans Y);clear Y;have j:=b0;have B:(w').cell? ⟨x,0,none⟩=some (.string p.body):=by rw[cell_of_row _ x 0 _ _ _ (a7)];rfl
   have c5:(w').cell? ⟨g,2,none⟩=some (.int .i64 B0):=by rw[cell_of_row _ g 2 _ _ _ j];rfl
   have f4:(w').frozen? ⟨g,2,none⟩=false:=by simp[frozen?,j]
   have a3:=vQ j 2 (.int .i64 ((B0:Int)-(Z:Int)));have I:=z8.setCell (w') ⟨g,2,none⟩ (.int .i64 ((B0:Int)-(Z:Int)));refine kF [] w' ?_;intro t hS;have b1:=zF c5 (S:=[]) sI;have b2:=zF B (S:=[]) sI;refine lZ ?_;refine qY ?_ ?_;(focus(simp only[yL];done));intro K hK;go_simp;refine hK _ _ ?_;clear hK K hS t b1 b2;obtain⟨W3,d0⟩:=eX ((w').setCell ⟨g,2,none⟩ (.int .i64 ((B0:Int)-(Z:Int))))
   rw[d0]at a3 I |-;clear d0 j B c5 f4;have a1:z8 [g] (w') W3.drew:=z8.trans (I.mono (S':=[g]) sI) (z8.drew W3) sI;have O:z8 [g] w W3.drew:=z8.trans (z8.trans (((z8.of_below hb).mono sI:z8 [g] w w')) (I.mono (S':=[g]) sI) (λy hy=>.inl hy)) (z8.drew W3) sI;have d:W3.drew.heap[g]?=some (.cells (yo l q ((B0:Int)-(Z:Int)) (P1:Int) b) 110 (0,0)):=a3;obtain⟨V,hV⟩:=eX W3.drew
   rw[hV]at O a1 d |-;clear hV I a3;have a6:g∉[b]:=by simpa using d7.out
   have c8:b∉[g]:=by simpa using λe:b=g=>d7.out e.symm
   have c3:V.cell? ⟨g,4,none⟩=some (.map (some b)):=by rw[cell_of_row V g 4 _ _ _ d];rfl
   have G:z9 V ga 0 32=some (idC c):=R.out V a1;have s:ga∉[b]:=by have:=Hm.out.lt;have:=b3.out;simp;omega
   obtain⟨w5,d1,X,U,b9⟩:=((Hm.out.kept O c8).kept (z8.drew V) (S:=[]) sI).delete j7 underlying108 (ty:=0) (k:=c) trivial;go_upto_region 7 with fail
   refine kX [b] V ?_;intro t hS;have b1:=zF c3 a6;have b2:=zY G s;refine lQ ?_;intro K hK;refine zH (yA hS b9 sI) (λhS=>?_);refine hK _ _ ?_;clear hK K;refine zC ?_;intro hS;have L:z8 [b] V w5:=hS;clear b1 b2 t X b9 hS;have a2:z8 [g,b] w w5:=z8.trans (O.mono (S':=[g,b]) sI) (L.mono (S':=[g,b]) sI) (λy hy=>.inl hy);have m:=(L.block g (aG d).1 a6).trans d;have c6:w5.cell? ⟨g,0,none⟩=some (.pointer (some ⟨l,0,none⟩)):=by rw[cell_of_row w5 g 0 _ _ _ m];rfl
   have b6:z9 w5 ga 0 32=some (idC c):=(L.row (zD G) s _ _).trans G;have a5:g∉Fl:=λh=>(H7.out g h).1 rfl;have a4:ga∉Fl:=λh=>(by have:=H4.out.lt ga h;have:=b3.out;omega);have c2:=qw w5.drew l Fl _ c ((H4.out.kept a2 (λy hy hm=>by
    rcases mem_cons.1 hm with e | hm
    ·exact(H7.out y hy).1 e
    ·exact(H7.out y hy).2.1 (by simpa using hm))).kept (z8.drew w5) (S:=[]) sI)
   rw[if_pos Hc.out]at c2;clear d O a1 L c3 G s a6 c8;go_upto_region 8 with fail
   refine kX Fl w5 ?_;intro t hS;have b1:=zF c6 a5;have b2:=zY b6 a4;refine lQ ?_;intro K hK;refine c2.mono ?_;rintro e w8 ⟨rfl,⟨T,a0,D⟩,E⟩;replace hS:=yA hS E (λy hy=>.inl hy);refine⟨_,rfl,hS,hK _ _ ?_⟩;clear hK K;refine lZ ?_;refine zC ?_;intro hS;have J:z8 Fl w5 w8:=hS;have A:=d3.out w5 w8 T _ a2 J m U a0 D;have HF:=dH A;clear A b1 b2 t hS E J a0 D m U a2 c6 b6 c2;(go_wp2_with fail);go_ret;exact⟨rfl,HF.out⟩
 ·rw[if_neg hc];have c1:=nK _ g b M es d2 c c4 d4 none false (.inr ⟨rfl,rfl,λhx=>hc (by
   have:=(a8.map (·.1)).mem_iff.1 hx;rw[map_map]at this;rw[<-e1,map_map];exact this)⟩)
  have hS:kN S c=S:=QN hc;have H:=dH (show v6 w g F q (kN S c) by rw[hS];exact⟨l,b,Fl,N,e1,e2,e3,e4,⟨M,es,d2,hm,a8⟩,e6,e7,e8⟩);have Hc:=dH hc;clear hS e1 e2 e3 e4 hm a8 e6 e7 e8 d4 c4 f0 hc;go_enter func90,ntmps90
  (go_wp2_with fail);refine c1.mono ?_;rintro e w' ⟨rfl,c9⟩;have hb:=yM hB c9;have HF:=dH (And.intro (H.out.kept (z8.of_below hb) sI) ((z8.of_below hb).mono (S':=F) sI));clear c1 c9 hr hb;(go_wp2_with fail);go_ret;exact⟨rfl,⟨_,HF.out.1,λ_ h=>h⟩,HF.out.2⟩
def zU(n:Nat):List UInt32:=replicate n 0
theorem fX(n:Nat):(zU n).length=n:=length_replicate
def wC(x:UInt32):Value:=.int .u32 (nU x)
def wsC(L:List UInt32):Array Value:=(L.map wC).toArray
@[simp] theorem bE(L:List UInt32):(wsC L).size=L.length:=by simp[wsC]
theorem pU(L:List UInt32):∀u∈(wsC L).toList,u.oneCell'=true:=by
 intro u hu;simp[wsC]at hu;obtain⟨c,_,rfl⟩:=hu;rfl
theorem dN(L:List UInt32){i:Nat}(h:i<L.length):(wsC L)[i]?=some (.int .u32 (nU (L.getD i 0))):=by
 simp[wsC,wC,getD,h]
theorem dM(L:List UInt32)(i:Nat)(x:UInt32):(wsC L).setIfInBounds i (.int .u32 (nU x))=wsC (L.set i x):=by
 apply Array.ext';rw[Array.toList_setIfInBounds];show(L.map wC).set i (wC x)=(L.set i x).map wC;rw[map_set]
theorem YE:(prog.info? 322).map (·.size)=some 64:=kR
@[go_sem ↓] theorem zeroW64_run(w:World):(zeroValue 322).run prog w=.ok (.agg (wsC (zU 64))) w:=by
 have h:(prog.info? 322).bind (·.zero)=some (.agg (wsC (zU 64))):=kR;cases hi:prog.info? 322 with
 | none=>rw[hi]at h;cases h
 | some i =>
  rw[hi]at h;have hz:i.zero=some (.agg (wsC (zU 64))):=h;simp[zeroValue,typeInfo,hi,hz]
@[go_sem ↓] theorem loadW64_rw(a:Addr):loadVar 322 a=ldS 322 a:=rfl
@[go_sem ↓] theorem storeW64_rw(a:Addr)(v:Value):storeVar 322 a v=stS 322 a v:=rfl
@[go_sem] theorem loadW64_run(w:World)(g o:Nat):(ldS 322 ⟨g,o,none⟩).run prog w=match z9 w g o 64 with | some cs=>.ok (.agg cs) w | none=>(loadVar 322 ⟨g,o,none⟩).run prog w :=
 jD underlying322 rfl YE w g o
@[go_sem] theorem B2(w:World)(g:Nat)(hg:g=w.heap.size)(z:Array Value)(hz:z.size=64)(L:List UInt32)(hL:L.length=64)(e:TypeId):(stS 322 ⟨g,0,none⟩ (.agg (wsC L))).run prog (w.alloc (.cells z e))=.ok () (w.alloc (.cells (wsC L) e)) :=
 hg ▸ xW YE w z (wsC L) hz ((bE L).trans hL) (pU L)
theorem infoSt8:(prog.info? 340).map (·.size)=some 8:=kR
@[go_sem ↓] theorem zeroSt8_run(w:World):(zeroValue 340).run prog w=.ok (.agg (wsC (zU 8))) w:=by
 have h:(prog.info? 340).bind (·.zero)=some (.agg (wsC (zU 8))):=kR;cases hi:prog.info? 340 with
 | none=>rw[hi]at h;cases h
 | some i =>
  rw[hi]at h;have hz:i.zero=some (.agg (wsC (zU 8))):=h;simp[zeroValue,typeInfo,hi,hz]
@[go_sem ↓] theorem loadSt8_rw(a:Addr):loadVar 340 a=ldS 340 a:=rfl
@[go_sem ↓] theorem storeSt8_rw(a:Addr)(v:Value):storeVar 340 a v=stS 340 a v:=rfl
@[go_sem] theorem loadSt8_run(w:World)(g o:Nat):(ldS 340 ⟨g,o,none⟩).run prog w=match z9 w g o 8 with | some cs=>.ok (.agg cs) w | none=>(loadVar 340 ⟨g,o,none⟩).run prog w :=
 jD underlying340 rfl infoSt8 w g o
@[go_sem] theorem B5(w:World)(g:Nat)(hg:g=w.heap.size)(z:Array Value)(hz:z.size=8)(L:List UInt32)(hL:L.length=8)(e:TypeId):(stS 340 ⟨g,0,none⟩ (.agg (wsC L))).run prog (w.alloc (.cells z e))=.ok () (w.alloc (.cells (wsC L) e)) :=
 hg ▸ xW infoSt8 w z (wsC L) hz ((bE L).trans hL) (pU L)
theorem rot_left(x:UInt32)(n:Nat)(h0:0<n)(h1:n<32)(w:World) :
  Calls prog 323 #[.int .u32 (nU x),.int .i64 (-(n:Int))] w λe w'=>e=.returned (.int .u32 (nU (tN x n)))/\w=w':=by
 have hw:IntKind.u64.wrap (-(n:Int))=18446744073709551616-(n:Int):=by simp[IntKind.wrap,IntKind.bits,IntKind.signed];omega
 have hs:bits .and .u64 (18446744073709551616-(n:Int)) 31=((32-n:Nat):Int):=by
  rw[u64_and _ _ oM oM oM oM,show(31:Int).toNat=31 from rfl,nat_mask5];omega
 have g:IntKind.u64.wrap (32-((32-n:Nat):Int))=(n:Int):=by simp[IntKind.wrap,IntKind.bits,IntKind.signed];omega
 have hl:nU x*2 ^ (32-n) % 4294967296=nU (x <<< UInt32.ofNat (32-n)):=by
  rw[<-yc _ _ oM,IntKind.wrap_u32']
 have hr:Op.shift .shr .u32 (nU x) .u64 (n:Int)=pure (.int .u32 (nU (x >>> UInt32.ofNat n))):=by
  rw[shift_shr _ _ _ _ oM (by show _<=((32:Nat):Int);omega),Int.toNat_natCast,YQ _ _ h1]
 have d:x <<< UInt32.ofNat (32-n) ||| x >>> UInt32.ofNat n=tN x n:=UInt32.or_comm _ _
 have f:=dH d;clear d h0 h1;go_enter func323,ntmps323
 (go_wp2_with fail);go_ret;exact⟨by rw[f.out];rfl,rfl⟩
theorem bT(x:UInt32)(n:Nat)(h0:0<n)(h1:n<32)(w:World) :
  Calls prog 310 #[.int .u32 (nU x),.int .i64 n] w λe w'=>e=.returned (.int .u32 (nU (tN x n)))/\w=w':=by
 have c:=rot_left x n h0 h1 w;have hw:IntKind.i64.wrap (-(n:Int)) = -(n:Int):=by simp[IntKind.wrap,IntKind.bits,IntKind.signed];omega
 clear h0 h1;go_enter func310,ntmps310
 (go_wp2_with fail);refine c.mono ?_;rintro e w1 ⟨rfl,rfl⟩;(go_wp2_with fail);go_ret;exact⟨rfl,rfl⟩
@[go_sem] theorem u8_word(b:UInt8):IntKind.u32.wrap ((b.toNat:Nat):Int)=nU b.toUInt32:=by
 have:=b.toNat_lt;rw[IntKind.wrap_u32'];unfold nU;rw[UInt8.toNat_toUInt32];omega
theorem sh24(x:UInt32):IntKind.u32.wrap (nU x*(16777216:Int))=nU (x <<< 24):=yc x 24 oM
theorem sh16(x:UInt32):IntKind.u32.wrap (nU x*(65536:Int))=nU (x <<< 16):=yc x 16 oM
theorem sh8(x:UInt32):IntKind.u32.wrap (nU x*(256:Int))=nU (x <<< 8):=yc x 8 oM
theorem sh24m(x:UInt32):nU x*(16777216:Int) % (4294967296:Int)=nU (x <<< 24):=by have h:=sh24 x;rwa [IntKind.wrap_u32']at h
theorem sh16m(x:UInt32):nU x*(65536:Int) % (4294967296:Int)=nU (x <<< 16):=by have h:=sh16 x;rwa [IntKind.wrap_u32']at h
theorem sh8m(x:UInt32):nU x*(256:Int) % (4294967296:Int)=nU (x <<< 8):=by have h:=sh8 x;rwa [IntKind.wrap_u32']at h
attribute [go_sem] sh24 sh16 sh8 sh24m sh16m sh8m
@[go_sem] theorem dn3(x:UInt32):nU x / (8:Int)=nU (x >>> 3):=YQ x 3 oM
@[go_sem] theorem dn10(x:UInt32):nU x / (1024:Int)=nU (x >>> 10):=YQ x 10 oM
abbrev b9(w:World)(A:Option Addr)(n:Nat)(bs:List UInt8):Prop:=SlR w A n 1 (yH bs)
theorem b9.get{A:Option Addr}{n:Nat}(h:b9 w A n bs){i:Nat}(hi:i<n):∃g o,A=some ⟨g,o,none⟩/\∀j,j<n->w.cell? ⟨g,o+j,none⟩=some (.int .u8 ((bs.getD j 0).toNat:Int)):=by
 obtain⟨g,o,e,hr⟩:=h.at_ hi;have k:bs.length=n:=by simpa[yH]using h.1
 refine⟨g,o,e,λj hj=>?_⟩;obtain⟨g',o',e',f⟩:=h.at_ hj;rw[e]at e';injection e' with e';injection e' with e1 e2;subst e1 e2
 have d:z9 w g (o+j*1) 1=some #[yG (bs[j]'oM)]:=by rw[f];simp[yH,vY]
 have hc:=zB d (j:=0) oM;rw[(oM:o+j*1+0=o+j)]at hc;rw[hc];have m:j<bs.length:=oM;simp[yG,getD,m]
theorem sched_any(w:World)(A:Option Addr)(cap:Nat)(bs:List UInt8)(h:b9 w A 64 bs) :
  Calls prog 309 #[.slice A 64 cap] w λe w'=>e=.returned (.agg (wsC (yS bs 64)))/\Below w.heap.size w w':=by
 have F:Below w.heap.size w ((w.alloc (.cells (wsC (zU 64)) 322)).alloc (.cells (wsC (zU 64)) 322)):=(bA).alloc sI _;have J:((w.alloc (.cells (wsC (zU 64)) 322)).alloc (.cells (wsC (zU 64)) 322)).heap[w.heap.size]?=some (.cells (wsC (zU 64)) 322 (0,0)):=by
  rw[Below.heap_alloc _ _ _ sI];exact heap_alloc_new w _
 have I:((w.alloc (.cells (wsC (zU 64)) 322)).alloc (.cells (wsC (zU 64)) 322)).heap[w.heap.size+1]?=some (.cells (wsC (zU 64)) 322 (0,0)):=by
  have:=heap_alloc_new (w.alloc (.cells (wsC (zU 64)) 322)) (.cells (wsC (zU 64)) 322);simpa using this
 obtain⟨q,o,rfl,y⟩:=b9.get h (i:=0) oM;have X:q<w.heap.size:=block_lt_of_cell? _ _ (y 0 oM);have T:∀j,j<64->_:=λj hj=>(F.cell (p:=⟨q,o+j,none⟩) X).trans (y j hj);clear h y;go_enter func309,ntmps309
 (go_wp2_with fail);obtain⟨g,hg⟩:=eX w.heap.size
 have Hg:=dH hg;obtain⟨W,hW⟩:=eR ((w.alloc (.cells (wsC (zU 64)) 322)).alloc (.cells (wsC (zU 64)) 322))
 rw[<-hW]at F J I T |-;have c8:g+2=W.heap.size:=by rw[hW,<-hg];simp
 rw[hg]at F J I X |-;clear hg hW;go_loopw [4,5,6,7,8,9] (λ_ _ _ _ _ n wr=>∃k:Nat,k<=64/\n=.int .i64 k/\wr.heap[g+1]?=some (.cells (wsC (wsU bs k)) 322 (0,0))/\z8 [g+1] W wr) (λ_ _ _ _ _ n _=>64-(intOf n).toNat)
 case atStart=>exact⟨0,zL,rfl,I,z8.refl _ _⟩
 case round =>
  obtain⟨k,hk,rfl,hc,s⟩:=hrel;by_cases H:k<64
  ·by_cases a1:k<16
   ·obtain⟨m,hm⟩:∃m:Nat,4*k=m:=⟨_,rfl⟩
    have em:4*(k:Int)=(m:Int):=oM;have l0:(m:Int)<64:=oM;have t2:((m:Int)+2).toNat=m+2:=oM;have t3:((m:Int)+3).toNat=m+3:=oM;have w0:IntKind.i64.wrap (m:Int)=m:=by simp[IntKind.wrap,IntKind.bits,IntKind.signed];omega
    have w1:IntKind.i64.wrap ((m:Int)+1)=(m:Int)+1:=by simp[IntKind.wrap,IntKind.bits,IntKind.signed];omega
    have w2:IntKind.i64.wrap ((m:Int)+2)=(m:Int)+2:=by simp[IntKind.wrap,IntKind.bits,IntKind.signed];omega
    have w3:IntKind.i64.wrap ((m:Int)+3)=(m:Int)+3:=by simp[IntKind.wrap,IntKind.bits,IntKind.signed];omega
    have l1:0<=(m:Int)+1/\(m:Int)+1<64:=oM;have l2:0<=(m:Int)+2/\(m:Int)+2<64:=oM;have l3:0<=(m:Int)+3/\(m:Int)+3<64:=oM;have D:=λj (hj:j<64)=>(s.cell (p:=⟨q,o+j,none⟩) (by show q<_;omega) sO).trans (T j hj);have x0:=D m oM;have x1:=D (m+1) oM;have x2:=D (m+2) oM;have x3:=D (m+3) oM;have Y:=dH hm;clear D hm;go_upto_region 6 with fail
    refine kF ([]:List Nat) wr ?_;intro B hS;have d:q∉([]:List Nat):=sI;have b0:=zF x0 d;have b1:=zF x1 d;have b2:=zF x2 d;have b3:=zF x3 d;refine lZ ?_;have f:(bs.getD m 0).toUInt32 <<< 24 ||| (bs.getD (m+1) 0).toUInt32 <<< 16 ||| (bs.getD (m+2) 0).toUInt32 <<< 8 ||| (bs.getD (m+3) 0).toUInt32=fW bs (yS bs k) k:=by
     unfold fW zw byU;rw[if_pos a1,Y.out]
    have r:wr.drew.heap[g+1]?=some (.cells (wsC (wsU bs k)) 322 (0,0)):=hc;have x9:wr.drew.cell? ⟨g+1,k,none⟩=some (.int .u32 (nU ((wsU bs k).getD k 0))):=by
     rw[cell_of_row wr.drew _ k _ _ _ r,dN _ (by rw[fY _ hk];exact H)]
    have f9:wr.drew.frozen? ⟨g+1,k,none⟩=false:=by simp[frozen?,r]
    simp only[getD_eq_getElem?_getD]at f;have G:=dH f;clear f em Y b0 b1 b2 b3 x0 x1 x2 x3;refine qY ?_ ?_;(focus(simp only[yL];done));intro K hK;go_simp;rw[G.out];refine hK _ _ ?_;clear hK K;have E:=zE r k (.int .u32 (nU (fW bs (yS bs k) k)));rw[dM,Y7 bs H]at E;have R:z8 [g+1] W (wr.drew.setCell ⟨g+1,k,none⟩ (.int .u32 (nU (fW bs (yS bs k) k)))):=z8.trans (z8.trans s (z8.drew wr) sI) (z8.setCell wr.drew ⟨g+1,k,none⟩ _) sI;clear B hS d x9 f9 hc r s G;(go_wp2_with fail);go_roundw
    case rel=>exact⟨k+1,oM,by go_num,E,R⟩
    case measure=>exact sZ
   ·have gt:∀j:Nat,j<k->wr.drew.cell? ⟨g+1,j,none⟩=some (.int .u32 (nU ((yS bs k).getD j 0)))/\wr.cell? ⟨g+1,j,none⟩=some (.int .u32 (nU ((yS bs k).getD j 0))):=λj hj=>by
     have r:wr.drew.heap[g+1]?=some (.cells (wsC (wsU bs k)) 322 (0,0)):=hc;rw[cell_of_row wr.drew _ j _ _ _ r,cell_of_row wr _ j _ _ _ hc,dN _ (by rw[fY _ hk];omega),wsU_get bs hj];exact⟨rfl,rfl⟩
    obtain⟨a,ha⟩:∃a:Nat,k=a+16:=⟨k-16,oM⟩
    obtain⟨a5,a9⟩:∃a5:Nat,a+1=a5:=⟨_,rfl⟩
    obtain⟨a2,b4⟩:∃a2:Nat,a+14=a2:=⟨_,rfl⟩
    obtain⟨a7,a8⟩:∃a7:Nat,a+9=a7:=⟨_,rfl⟩
    have c0:(k:Int)-15=(a5:Int):=oM;have b7:IntKind.i64.wrap (a5:Int)=(a5:Int):=by simp[IntKind.wrap,IntKind.bits,IntKind.signed];omega
    have c7:(a5:Int)<64:=oM;have N:=(gt a5 oM).2;have s2:(k:Int)-2=(a2:Int):=oM;have w2:IntKind.i64.wrap (a2:Int)=(a2:Int):=by simp[IntKind.wrap,IntKind.bits,IntKind.signed];omega
    have l2:(a2:Int)<64:=oM;have x2:=(gt a2 oM).2;have b8:(k:Int)-16=(a:Int):=oM;have w16:IntKind.i64.wrap (a:Int)=(a:Int):=by simp[IntKind.wrap,IntKind.bits,IntKind.signed];omega
    have c6:(a:Int)<64:=oM;have M:=(gt a oM).1;have s7:(k:Int)-7=(a7:Int):=oM;have w7:IntKind.i64.wrap (a7:Int)=(a7:Int):=by simp[IntKind.wrap,IntKind.bits,IntKind.signed];omega
    have l7:(a7:Int)<64:=oM;have x7:=(gt a7 oM).1;have f:(yS bs k).getD a 0+sg0 ((yS bs k).getD a5 0)+(yS bs k).getD a7 0+sg1 ((yS bs k).getD a2 0)=fW bs (yS bs k) k:=by
     unfold fW;rw[if_neg a1,(oM:k-16=a),(oM:k-15=a5),(oM:k-7=a7),(oM:k-2=a2)]
    obtain⟨L,a3⟩:=eX ((yS bs k).getD a5 0)
    obtain⟨z2,h2⟩:=eX ((yS bs k).getD a2 0)
    obtain⟨b6,h3⟩:=eX ((yS bs k).getD a 0)
    obtain⟨z7,h4⟩:=eX ((yS bs k).getD a7 0)
    rw[a3]at N f;rw[h2]at x2 f;rw[h3]at M f;rw[h4]at x7 f;unfold sg0 sg1 at f;have G:=dH f;clear gt f a3 h2 h3 h4 ha a9 b4 a8;go_upto_region 7 with fail
    have d:g+1∉([]:List Nat):=sI;refine kX ([]:List Nat) wr ?_;intro B hS;have b0:=zF N d;have b1:=zF x2 d;refine lZ ?_;refine zC ?_;intro hS;clear B hS b0 b1 N x2;have q3:=dn3 L;have c5:=dn10 z2;have c1:=λw=>bT L 7 oM oM w;have c2:=λw=>bT L 18 oM oM w;have c3:=λw=>bT z2 17 oM oM w;have c4:=λw=>bT z2 19 oM oM w;(go_wp2_with fail);refine(c1 _).mono ?_;rintro e w1 ⟨rfl,rfl⟩;(go_wp2_with fail);refine(c2 _).mono ?_;rintro e w1 ⟨rfl,rfl⟩;(go_wp2_with fail);refine(c3 _).mono ?_;rintro e w1 ⟨rfl,rfl⟩;(go_wp2_with fail);refine(c4 _).mono ?_;rintro e w1 ⟨rfl,rfl⟩;clear c1 c2 c3 c4;go_upto_region 10 with fail
    refine kF ([]:List Nat) wr.drew ?_;intro B hS;have b0:=zF M d;have b1:=zF x7 d;have r:wr.drew.drew.heap[g+1]?=some (.cells (wsC (wsU bs k)) 322 (0,0)):=hc;have x9:wr.drew.drew.cell? ⟨g+1,k,none⟩=some (.int .u32 (nU ((wsU bs k).getD k 0))):=by
     rw[cell_of_row wr.drew.drew _ k _ _ _ r,dN _ (by rw[fY _ hk];exact H)]
    have f9:wr.drew.drew.frozen? ⟨g+1,k,none⟩=false:=by simp[frozen?,r]
    refine lZ ?_;refine qY ?_ ?_;(focus(simp only[yL];done));intro K hK;go_simp;rw[G.out];refine hK _ _ ?_;clear hK K;have E:=zE r k (.int .u32 (nU (fW bs (yS bs k) k)));rw[dM,Y7 bs H]at E;have R:z8 [g+1] W (wr.drew.drew.setCell ⟨g+1,k,none⟩ (.int .u32 (nU (fW bs (yS bs k) k)))):=z8.trans (z8.trans s ((z8.drew wr).trans (z8.drew wr.drew) sI) sI) (z8.setCell wr.drew.drew ⟨g+1,k,none⟩ _) sI;clear B hS d x9 f9 hc r s G b0 b1 M x7;(go_wp2_with fail);go_roundw
    case rel=>exact⟨k+1,oM,by go_num,E,R⟩
    case measure=>exact sZ
  ·have O:k=64:=oM;subst O;rw[wsU_all]at hc;have a6:z9 wr (g+1) 0 64=some (wsC (yS bs 64)):=by unfold z9;rw[hc];simp[go_sem,qK]
   have t:=(s.block g oM sI).trans J;have a4:=zX (P:=prog) YE wr g (wsC (zU 64)) (wsC (yS bs 64)) _ t (by simp[fX]) (by simp[qK]) (pU _);have V:=dH (setRow_heap wr g _ (wsC (yS bs 64)) _ _ t);have U:z8 [g] wr (wr.setRow g (wsC (yS bs 64))):=⟨rfl,rfl,rfl,by simp[setRow],λx _ hx=>setRow_other wr g x _ (by simpa using hx)⟩
   have Z:=z8.trans (s.mono (S':=[g,g+1]) sI) (U.mono (S':=[g,g+1]) sI) iL;have a0:Below g w (wr.setRow g (wsC (yS bs 64))):=F.trans (Z.below oM sI);have b5:=dH a0;clear U Z a0 t J I T F s;(go_wp2_with fail);exact bodyPost_ret (results_cell_row results309 _ _ g 322 (wsC (yS bs 64)) (0,0) _ rfl V.out underlying322 rfl (by rw[bE,qK];exact YE)) rfl ⟨rfl,by rw[Hg.out];exact b5.out⟩
@[go_sem] theorem notU(x:UInt32):bits .xor .u32 (if IntKind.u32.signed=true then -1 else IntKind.u32.max) (nU x)=nU (~~~x):=u_not x
structure xV(w:World):Prop where
 first:∀k,k<8->w.cell? ⟨0,k,none⟩=some (.int .u32 (nU (hU.getD k 0)))
 k:∀k,k<64->w.cell? ⟨2,k,none⟩=some (.int .u32 (nU (kU.getD k 0)))
theorem xV.ltF(h:xV w):0<w.heap.size:=block_lt_of_cell? w _ (h.first 0 oM)
theorem xV.ltK(h:xV w):2<w.heap.size:=block_lt_of_cell? w _ (h.k 0 oM)
theorem xV.kept{w':World}{S:List Nat}(h:xV w)(k:z8 S w w')(h0:0∉S)(h1:2∉S):xV w' :=
 ⟨λi hi=>(k.cell (p:=⟨0,i,none⟩) h.ltF h0).trans (h.first i hi),λi hi=>(k.cell (p:=⟨2,i,none⟩) h.ltK h1).trans (h.k i hi)⟩
theorem xV.below{w':World}(h:xV w)(hb:Below w.heap.size w w'):xV w':=h.kept (z8.of_below hb) sI sI
def StU.l(s:StU):List UInt32:=[s.a,s.b,s.c,s.d,s.e,s.f,s.g,s.h]
theorem StU.l_len(s:StU):s.l.length=8:=rfl
theorem mix_get(h:L.length=M.length)(hk:k<M.length):(L.take k++M.drop k).getD k 0=M.getD k 0:=by
 rw[getD_eq_getElem?_getD,getD_eq_getElem?_getD,getElem?_append_right sO,length_take,(oM:min k L.length=k),Nat.sub_self,getElem?_drop,Nat.add_zero]
theorem mix_set(h:L.length=M.length)(hk:k<M.length):(L.take k++M.drop k).set k (L.getD k 0)=L.take (k+1)++M.drop (k+1):=by
 have hL:k<L.length:=oM;have e1:L.take (k+1)=L.take k ++ [L[k]]:=by rw[take_add_one,getElem?_eq_getElem hL];rfl
 have e2:L.getD k 0=L[k]:=by rw[getD_eq_getElem?_getD,getElem?_eq_getElem hL];rfl
 rw[set_append_right _ _ sO,length_take,(oM:min k L.length=k),Nat.sub_self,drop_eq_getElem_cons hk,set_cons_zero,e1,e2,append_assoc];rfl
theorem zip_get{s t:StU}(hk:k<8):s.l.getD k 0+t.l.getD k 0=(fT s t).l.getD k 0:=by
 have h8:k=0\/k=1\/k=2\/k=3\/k=4\/k=5\/k=6\/k=7:=oM;rcases h8 with rfl | rfl | rfl | rfl | rfl | rfl | rfl | rfl <;> rfl
theorem kf{g T}(hb:w.heap[g]?=some (.cells (wsC L++R) T (0,0)))(hk:k<L.length):w.cell? ⟨g,k,none⟩=some (.int .u32 (nU (L.getD k 0))):=by
 rw[cell_of_row w g k _ _ _ hb,Array.getElem?_append_left (by rw[bE];exact hk),dN L hk]
theorem app_set(L:List UInt32)(R:Array Value)(k:Nat)(hk:k<L.length)(x:UInt32):(wsC L++R).setIfInBounds k (.int .u32 (nU x))=wsC (L.set k x)++R:=by
 rw[<-dM,Array.setIfInBounds_append_left (by rw[bE];exact hk)]
theorem sizeU32(w:World):(sizeOf 250).run prog w=.ok 1 w:=by
 have h:(prog.info? 250).map (·.size)=some 1:=kR;cases hi:prog.info? 250 with
 | none=>rw[hi]at h;cases h
 | some i =>
  rw[hi]at h;have hk:i.size=1:=by simpa using h
  simp[sizeOf,typeInfo,hi,hk]
theorem index_w{t:TypeId}{n:Nat}(h:prog.underlying t=some (.array n 250))(hk:k<n){v:Value}(hc:cs[k]?=some v)(w:World) :
  (Instr.index t (.agg cs) (.int .i64 k)).run prog w=.ok v w:=by
 have h1:(part 250 cs k).run prog w=.ok v w:=run_part_plain w kR hc;have h2:(0:Int)<=(k:Int)/\(k:Int)<(n:Int):=⟨oM,oM⟩
 simp[Instr.index,asIntOf,run_underlying h,hk,sizeU32,h1]
theorem yd(w:World)(g:Nat)(T:TypeId)(s:StU)(R:Array Value)(A:Option Addr)(cap:Nat)(bs:List UInt8)(hv:xV w)(hg:w.heap[g]?=some (.cells (wsC s.l++R) T (0,0)))(h:b9 w A 64 bs)(f1:g≠0)(f0:g≠2) :
  Calls prog 271 #[.pointer (some ⟨g,0,none⟩),.slice A 64 cap] w λe w'=>e=.returned (.tuple #[])/\w'.heap[g]?=some (.cells (wsC (rJ s bs).l++R) T (0,0))/\z8 [g] w w':=by
 have e6:g<w.heap.size:=(aG hg).1;have c0:=sched_any w A cap bs h;have U:=qK bs 64;obtain⟨ws,D⟩:=eX (yS bs 64)
 have c3:rJ s bs=fT s (lB ws s 64):=by rw[<-D];rfl
 rw[D]at c0 U;rw[c3];have d6:=dH U;clear D c3 h U;go_enter func271,ntmps271
 (go_wp2_with fail);refine c0.mono ?_;rintro e w1 ⟨rfl,E⟩;have a1:=hv.below (E.alloc (oH E.size) (.cells (wsC ws) 322));have Y:Below w.heap.size w (w1.alloc (.cells (wsC ws) 322)):=E.alloc E.size _;have hn:=heap_alloc_new w1 (.cells (wsC ws) 322);have d9:=B2 w1 w1.heap.size rfl (wsC (zU 64)) (by simp[fX]) ws d6.out 322;have d8:=E.size;have O:=(Y.block g e6).trans hg;clear c0 hv;go_upto_region 1 with fail
 obtain⟨ga,c9⟩:=eX w1.heap.size
 obtain⟨W,hW⟩:=eR (w1.alloc (.cells (wsC ws) 322))
 rw[c9]at hn d8 |-;rw[<-hW]at hn Y a1 O |-;have J:ga<W.heap.size:=(aG hn).1;clear d9 hW c9 E hg;have xs:=λk (hk:k<8)=>kf O (k:=k) hk;have x0:=xs 0 oM;have x1:=xs 1 oM;have x2:=xs 2 oM;have x3:=xs 3 oM;have x4:=xs 4 oM;have x5:=xs 5 oM;have x6:=xs 6 oM;have x7:=xs 7 oM;simp only[StU.l,getD_cons_zero,getD_cons_succ]at x0 x1 x2 x3 x4 x5 x6 x7;have B:g∉([]:List Nat):=sI;refine kX ([]:List Nat) W ?_;intro H hS;have b0:=zF x0 B;have b1:=zF x1 B;have b2:=zF x2 B;have b3:=zF x3 B;have b4:=zF x4 B;have b5:=zF x5 B;have b6:=zF x6 B;have b7:=zF x7 B;refine lZ ?_;refine zC ?_;intro hS;clear H b0 b1 b2 b3 b4 b5 b6 b7 x0 x1 x2 x3 x4 x5 x6 x7 xs;have a0:xV W.drew:=a1.kept hS sI sI;have a2:W.drew.heap[ga]?=some (.cells (wsC ws) 322 (0,0)):=hn;have hgd:W.drew.heap[g]?=some (.cells (wsC s.l++R) T (0,0)):=O;have X:Below w.heap.size w W.drew:=Y.drew;clear hS a1 hn O Y;obtain⟨V,hV⟩:=eR W.drew
 have a4:ga<V.heap.size:=by rw[hV];exact J
 rw[<-hV]at a0 a2 hgd X |-;clear hV J;(go_wp2_with fail);go_loopw [5,6,7,8,9,10,11,12,13,14,15,52] (λra rb rc rd re rf rg rh _ _ _ n wr=>∃(k:Nat) (z:StU),k<=64/\n=.int .i64 k/\Hid (lB ws s k=z)/\ra=.int .u32 (nU z.a)/\rb=.int .u32 (nU z.b)/\rc=.int .u32 (nU z.c)/\rd=.int .u32 (nU z.d)/\re=.int .u32 (nU z.e)/\rf=.int .u32 (nU z.f)/\rg=.int .u32 (nU z.g)/\rh=.int .u32 (nU z.h)/\z8 [] V wr) (λ_ _ _ _ _ _ _ _ _ _ _ n _=>64-(intOf n).toNat)
 case atStart=>exact⟨0,s,oM,rfl,(show _=_ from rfl),rfl,rfl,rfl,rfl,rfl,rfl,rfl,rfl,z8.refl _ _⟩
 case round =>
  obtain⟨k,z,hk,rfl,hz,rfl,rfl,rfl,rfl,rfl,rfl,rfl,rfl,j⟩:=hrel;by_cases m:k<64
  ·have F:lB ws s (k+1)=rndU z (kU.getD k 0) (ws.getD k 0):=by rw[lB,hz.out]
   have d5:=dH F;obtain⟨za,zb,zc,zd,ze,zf,zg,zh⟩:=z;have b8:=a0.kept j sI sI;have c4:=(j.block ga a4 sI).trans a2;have y0:=b8.k k m;have y1:wr.cell? ⟨ga,k,none⟩=some (.int .u32 (nU (ws.getD k 0))):=by rw[cell_of_row wr ga k _ _ _ c4,dN ws (by rw[d6.out];exact m)]
   obtain⟨kv,c5⟩:=eX (kU.getD k 0)
   obtain⟨wv,a8⟩:=eX (ws.getD k 0)
   rw[c5]at y0 F;rw[a8]at y1 F;have d5:=dH F;have c6:=λw=>bT ze 6 oM oM w;have d4:=λw=>bT ze 11 oM oM w;have d1:=λw=>bT ze 25 oM oM w;have c2:=λw=>bT za 2 oM oM w;have d3:=λw=>bT za 13 oM oM w;have d2:=λw=>bT za 22 oM oM w;clear F c5 a8 b8 c4;go_upto_region 5 with fail
   have e1:2∉([]:List Nat):=sI;have e0:ga∉([]:List Nat):=sI;refine kX ([]:List Nat) wr ?_;intro H hS;have b0:=zF y0 e1;have b1:=zF y1 e0;refine lQ ?_;intro K hK;refine(c6 _).mono ?_;rintro e w' ⟨rfl,rfl⟩;refine⟨_,rfl,hS,hK _ _ ?_⟩;clear hK K;refine lQ ?_;intro K hK;refine(d4 _).mono ?_;rintro e w' ⟨rfl,rfl⟩;refine⟨_,rfl,hS,hK _ _ ?_⟩;clear hK K;refine lQ ?_;intro K hK;refine(d1 _).mono ?_;rintro e w' ⟨rfl,rfl⟩;refine⟨_,rfl,hS,hK _ _ ?_⟩;clear hK K;refine lZ ?_;refine zC ?_;intro hS;clear H b0 b1 y0 y1 c6 d4 d1;have c7:z8 [] V wr.drew:=z8.trans j hS sI;obtain⟨wd,a9⟩:=eR wr.drew
   rw[<-a9]at c7 |-;clear hS a9 j;(go_wp2_with fail);refine(c2 _).mono ?_;rintro e w2 ⟨rfl,rfl⟩;(go_wp2_with fail);refine(d3 _).mono ?_;rintro e w2 ⟨rfl,rfl⟩;(go_wp2_with fail);refine(d2 _).mono ?_;rintro e w2 ⟨rfl,rfl⟩;clear c2 d3 d2;(go_wp2_with fail);go_roundw
   case rel=>exact⟨k+1,_,oM,by go_num,(show _=_ from d5.out),rfl,rfl,rfl,rfl,rfl,rfl,rfl,rfl,c7⟩
   case measure=>exact sZ
  ·have I:k=64:=oM;have G:lB ws s 64=z:=I ▸ hz.out;have Hz:=dH G;clear G I;have r:=(j.block g oM sI).trans hgd;have e7:Below w.heap.size w wr:=X.trans (j.below X.size sI);clear hz hk a0 a2 hgd;have d7:Below w.heap.size w wr:=e7;clear j X;go_upto_region 10 with fail
   have e5:g<wr.heap.size:=(aG r).1;obtain⟨V2,a7⟩:∃V2,V2=wr:=⟨wr,rfl⟩
   have f2:=dH (show[z.a,z.b,z.c,z.d,z.e,z.f,z.g,z.h]=z.l from rfl);go_loopw [16,17,124] (λ_ _ n wr=>∃k:Nat,k<=8/\n=.int .i64 k/\wr.heap[g]?=some (.cells (wsC ((fT s z).l.take k++s.l.drop k)++R) T (0,0))/\z8 [g] V2 wr) (λ_ _ n _=>8-(intOf n).toNat)
   case atStart=>exact⟨0,oM,rfl,(by rw[r];rfl),by rw[a7];exact z8.refl _ _⟩
   case round =>
    clear r;obtain⟨k,hk,rfl,r,j⟩:=hrel;by_cases m:k<8
    ·have a3:((fT s z).l.take k++s.l.drop k).length=8:=by simp[StU.l_len];omega
     have y0:=kf r (k:=k) (by rw[a3];exact m);rw[mix_get (L:=(fT s z).l) (M:=s.l) rfl m]at y0;have y1:(wsC [z.a,z.b,z.c,z.d,z.e,z.f,z.g,z.h])[k]?=some (.int .u32 (nU (z.l.getD k 0))):=dN z.l m;have y:=app_set ((fT s z).l.take k++s.l.drop k) R k (by rw[a3];exact m) ((fT s z).l.getD k 0);rw[mix_set (L:=(fT s z).l) (M:=s.l) rfl m]at y;have Z:=zip_get (s:=s) (t:=z) m;obtain⟨c1,a6⟩:=eX (s.l.getD k 0)
     obtain⟨c2,a5⟩:=eX (z.l.getD k 0)
     rw[a6,a5]at Z;rw[a6]at y0;rw[a5]at y1;rw[<-Z]at y;have N:=dH y;have e4:(Instr.index 251 (.agg #[.int .u32 (nU z.a),.int .u32 (nU z.b),.int .u32 (nU z.c),.int .u32 (nU z.d),.int .u32 (nU z.e),.int .u32 (nU z.f),.int .u32 (nU z.g),.int .u32 (nU z.h)]) (.int .i64 k)).run prog wr=.ok (.int .u32 (nU c2)) wr:=index_w (t:=251) underlying251 m y1 wr;clear y Z a6 a5 a3;go_upto_region 12 with fail
     refine kF ([]:List Nat) wr ?_;intro H hS;have b0:=zF y0 B;have hgd:wr.drew.heap[g]?=some (.cells (wsC ((fT s z).l.take k++s.l.drop k)++R) T (0,0)):=r;have x9:wr.drew.cell? ⟨g,k,none⟩=some (.int .u32 (nU c1)):=y0;have f9:wr.drew.frozen? ⟨g,k,none⟩=false:=by simp[frozen?,hgd]
     refine lZ ?_;refine qY ?_ ?_;(focus(simp only[yL];done));intro K hK;go_simp;refine hK _ _ ?_;clear hK K;have d0:=zE hgd k (.int .u32 (nU (c1+c2)));rw[N.out]at d0;have e3:z8 [g] V2 (wr.drew.setCell ⟨g,k,none⟩ (.int .u32 (nU (c1+c2)))):=z8.trans (z8.trans j (z8.drew wr) sI) (z8.setCell wr.drew ⟨g,k,none⟩ _) sI;clear H hS x9 f9 r hgd j b0 y0 y1 e4 N;(go_wp2_with fail);go_roundw
     case rel=>exact⟨k+1,oM,by go_num,d0,e3⟩
     case measure=>exact sZ
    ·have c8:k=8:=oM;have e8:(fT s z).l.take k++s.l.drop k=(fT s z).l:=by rw[c8];rfl
     rw[e8,<-Hz.out]at r;have e9:=dH r;have e2:z8 [g] w wr:=z8.trans ((z8.of_below d7).mono (S':=[g]) sI) (by rw[<-a7];exact j) sI;clear r j e8 c8 a7;(go_wp2_with fail);go_end0;exact⟨rfl,e9.out,e2⟩
end Go.Proofs.YtddopbhcpblpjaaGreatDoor
