/- Part 13 of the texts that lead to this claim: the walks of the functions and the plain law, in order. -/
import Derived.Test.YtddopbhcpblpjaaGreatDoorMj12
import Derived.WalkMore
namespace Go.Proofs.YtddopbhcpblpjaaGreatDoor
open Go.RowKit
open List hiding and get max min or set
open Go.Proofs.Tryz
open World
set_option maxRecDepth 100000
set_option maxHeartbeats 8000000
variable {Q:Exit->Act->World->Prop}{T:TypeId}{B cap i j k n:Nat}{w:World}{A:Option Addr}{bs:List UInt8}{L:List (Array Value)}{ops:Array Oper}
def Weighs(f:FuncId)(first caps:Array Value)(w:World)(t:zA)(c:zA->Int):Prop :=
 ∀(x:zA) (w':World),Below w.heap.size w w'->Calls prog f (first++(#[.agg (idC x),.agg (idC t)]++caps)) w' λe w''=>e=.returned (.int .i64 (c x))/\Below w'.heap.size w' w''
theorem ZP(f:FuncId)(first r:Array Value)(X:zt f)(c:zA->Int)(t:zA)(w:World)(hp:Weighs f first r w t c)(A:Option Addr)(n cap:Nat)(R:List zA)(h:zW w A n R)(hn:n<=1000000)
  (hm:∀a b (hb:b<R.length),(a9:a<b)->c R[b]<0->c (R[a]'oM)<0) :
  Calls prog 155 #[.slice A n cap,.agg (idC t),.func (.func f) first r] w λe w'=>∃(i:Nat) (b:Bool),e=.returned (.tuple #[.int .i64 i,.bool b])/\i<=n/\(∀k (hk:k<R.length),k<i->c R[k]<0)/\(∀k (hk:k<R.length),i<=k->0<=c R[k])/\(b=true↔∃hi:i<R.length,c R[i]=0)/\Below w.heap.size w w':=by
 have E:R.length=n:=by simpa using h.1
 have hB:Below w.heap.size w (w.alloc (.cells (idC t) 23)):=bA;have G:z9 (w.alloc (.cells (idC t) 23)) w.heap.size 0 32=some (idC t):=by simp[go_sem]
 have h1:=SlR.below h hB;obtain⟨W,hW⟩:=eR (w.alloc (.cells (idC t) 23))
 obtain⟨ga,M⟩:=eX w.heap.size
 rw[<-hW]at hB G h1;have Hp:=dH hp;have Hm:=dH hm;have g:=dH E;have H1:=dH h1;have HB:=dH hB;have HW:=dH hW;have a1:=dH M;rw[M]at G;clear hp hm h h1 hB M;go_enter func155,ntmps155
 go_upto_region 3 with fail
 rw[<-hW,a1.out];clear hW E;go_loopw [9,10] (λiv jv wr=>∃i j:Nat,iv=.int .i64 i/\jv=.int .i64 j/\i<=j/\j<=n/\Hid (∀k (hk:k<R.length),k<i->c R[k]<0)/\Hid (∀k (hk:k<R.length),j<=k->0<=c R[k])/\Below W.heap.size W wr) (λiv jv _=>(intOf jv).toNat-(intOf iv).toNat)
 case atStart=>exact⟨0,n,rfl,rfl,zL,lR,(show ∀k (hk:k<R.length),k<0->c R[k]<0 from λk _ h=>absurd h (Nat.not_lt_zero _)),(show ∀k (hk:k<R.length),n<=k->0<=c R[k]from λk hk h=>oH g.out),Below.refl _ _⟩
 case round =>
  obtain⟨i,j,rfl,rfl,a4,I,H,L,hb⟩:=hrel;have m:z9 wr ga 0 32=some (idC t):=((z8.of_below hb).row (zD G) sI _ _).trans G;by_cases a3:i<j
  ·obtain⟨h,hh⟩:=eX ((i+j) / 2)
   have a8:((i:Int)+(j:Int)) / 2=(h:Int):=oM;have a5:i<=h:=oM;have a7:h<j:=oM;have a6:h<n:=oM;have U:h<R.length:=oH g.out;have a2:IntKind.i64.wrap ((h:Int)+1)=(h:Int)+1:=IntWalk.i64_in _ oM;obtain⟨q,o,rfl,d⟩:=zW.get (SlR.below H1.out hb) (i:=h) oM U;obtain⟨x,hx⟩:=eX (R[h])
   rw[hx]at d;have c1:=Hp.out x wr.drew (by have:=HB.out;exact(this.trans (hb.mono this.size)).drew);have hc:=X (first++(#[.agg (idC x),.agg (idC t)]++r));obtain⟨C,hC⟩:=eX (c x)
   rw[hC]at c1;have HC:=dH (show c R[h]=C by rw[hx];exact hC);have Hh:=dH hh;clear hx hC hh;go_upto_region 5 with fail
   refine lX wr ?_;intro B hS;have b1:=zV d;have b2:=zV m;refine lZ ?_;refine lC (c1) ?_;clear hS;intro w' hS;refine lZ ?_;refine zC ?_;intro hS;have s:Below W.heap.size W w':=hb.trans (Below.mono (show Below wr.heap.size wr w' from hS) hb.size);clear B hS b1 b2 c1 hc d m hb;by_cases N:C<0
   ·have D:∀k (hk:k<R.length),k<h+1->c R[k]<0:=λk hk Y=>by
     rcases Nat.lt_or_ge k h with h1 | h1
     ·exact Hm.out k h (oH g.out) h1 (by rw[HC.out];exact N)
     ·obtain rfl:k=h:=oM;rw[HC.out];exact N
    have O:=dH D;clear D;(go_wp2_with fail);go_roundw
    case rel=>exact⟨h+1,j,by go_num,rfl,oM,I,O,L,s⟩
    case measure=>exact sZ
   ·have F:∀k (hk:k<R.length),h<=k->0<=c R[k]:=λk hk Y=>by
     rcases Nat.lt_or_ge h k with h1 | h1
     ·refine Classical.byContradiction λhn=>?_;have:=Hm.out h k hk h1 oM;rw[HC.out]at this;exact N this
     ·obtain rfl:k=h:=oM;rw[HC.out];omega
    have T:=dH F;clear F;(go_wp2_with fail);go_roundw
    case rel=>exact⟨i,h,rfl,rfl,oM,oM,H,T,s⟩
    case measure=>exact sZ
  ·obtain rfl:i=j:=oM;have y:Below w.heap.size w wr:=by have:=HB.out;exact this.trans (hb.mono this.size)
   by_cases V:i<n
   ·have Z:i<R.length:=oH g.out;have J:((i:Int)<(n:Int)):=oM;obtain⟨q,o,rfl,d⟩:=zW.get (SlR.below H1.out hb) (i:=i) oM Z;obtain⟨x,hx⟩:=eX (R[i])
    rw[hx]at d;have c1:=Hp.out x wr.drew y.drew;have hc:=X (first++(#[.agg (idC x),.agg (idC t)]++r));obtain⟨C,hC⟩:=eX (c x)
    rw[hC]at c1;have HC:=dH (show c R[i]=C by rw[hx];exact hC);clear hx hC;go_upto_region 8 with fail
    refine lX wr ?_;intro B hS;have b1:=zV d;have b2:=zV m;refine lZ ?_;refine lC (c1) ?_;clear hS;intro w' hS;refine lZ ?_;refine zC ?_;intro hS;have s:Below w.heap.size w w':=y.trans (Below.mono (show Below wr.heap.size wr w' from hS) y.size);clear B hS b1 b2 c1 hc d m hb y;(go_wp2_with fail);go_ret2;exact⟨i,decide (C=0),rfl,I,H.out,L.out,by rw[decide_eq_true_iff];exact⟨λh=>⟨oH g.out,by rw[HC.out];exact h⟩,fun ⟨_,h⟩=>by rw[HC.out]at h;exact h⟩,s⟩
   ·have J:¬((i:Int)<(n:Int)):=oM;go_upto_region 8 with fail
    refine lX wr ?_;intro B hS;refine lQ ?_;intro K hK;refine hK _ _ ?_;clear hK K;refine lZ ?_;refine zC ?_;intro hS;have s:Below w.heap.size w wr.drew:=y.drew;have a0:=dH V;clear B hS m hb y V;(go_wp2_with fail);go_ret2;exact⟨i,.inl ⟨rfl,I,H.out,L.out,λh=>absurd h (by have:=g.out;have:=a0.out;omega),s⟩⟩
theorem set_app{Q T:List zA}(x:zA)(hi:i<Q.length):(Q++T).set i x=Q.set i x++T:=set_append_left _ _ hi
theorem JD{Q:List zA}(x:zA)(hi:i<Q.length):(Q.set i x ++ [x]).take (i+1)=Q.take i ++ [x]:=by
 rw[take_append_of_le_length sO,take_succ_eq_append_getElem (by simpa using hi),take_set_of_le lR]
 simp
theorem QO(f:FuncId)(first D:Array Value)(b0:zt f)(p:zA->Bool)(w:World)(A:Option Addr)(hp:Tells f first D (blk A) w p)(B n cap:Nat)(R:List zA)(h:Own w B 23 32 A n cap (R.map idC))(hn:n<=1000000) :
  Calls prog 24 #[.slice A n cap,.func (.func f) first D] w λe w'=>e=.returned (.slice A (R.filter λx=>!p x).length cap)/\Own w' B 23 32 A (R.filter λx=>!p x).length cap ((R.filter λx=>!p x).map idC)/\z8 (blk A) w w':=by
 have J:R.length=n:=by simpa using h.len
 have c1:=K5 f first D b0 (blk A) w p hp A n cap R w (z8.refl _ _) h.slr hn;have Hp:=dH hp;have Hh:=dH h;obtain⟨Z,hZ⟩:∃Z,(R.filter λx=>!p x)=Z:=⟨_,rfl⟩
 rw[hZ];have HZ:=dH hZ;have Hl:=dH J;clear hp hZ;go_enter func24,ntmps24
 (go_wp2_with fail);refine c1.mono ?_;rintro e w1 ⟨j0,rfl,hj,G⟩;clear c1;rcases hj with⟨rfl,hall⟩ | ⟨i0,rfl,hi0,hpre,hat⟩
 ·have e:Z=R:=by rw[<-HZ.out];exact filter_eq_self.2 λx hx=>by rw[hall x hx];rfl
  have HF:=dH (And.intro (Hh.out.below G) (z8.of_below G));have He:=dH e;clear hall e h G J;(go_wp2_with fail);go_ret;exact⟨by rw[He.out,Hl.out];rfl,by rw[He.out,Hl.out];exact HF.out.1,HF.out.2.mono sI⟩
 ·obtain⟨g,rfl⟩:∃g,A=some ⟨g,0,none⟩:=by
   rcases h.addr with e | e
   ·obtain⟨⟨_,h2⟩,_,_⟩:=h;rcases h2 with⟨_,h0⟩ | ⟨g,c,cur,hv,_⟩
    ·omega
    ·rw[e]at hv;cases hv
   ·exact e
  have b1:(R.take (i0+1)).take i0=(R.take (i0+1)).filter λx=>!p x:=by
   have M:i0<R.length:=oM;rw[take_take,Nat.min_eq_left oM,take_succ_eq_append_getElem M,filter_append];have e1:((R.take i0).filter λx=>!p x)=R.take i0:=filter_eq_self.2 λx hx=>(by rw[hpre x hx];rfl);have e2:([R[i0]].filter λx=>!p x) = []:=by rw[filter_cons,hat M];rfl
   rw[e1,e2,append_nil]
  have c5:=dH b1;have a7:z8 [g] w w1:=(z8.of_below G).mono sI;have E:=Hh.out.below G;have c9:((i0:Int) == -1)=false:=by rw[beq_eq_false_iff_ne];omega
  have b6:IntKind.i64.wrap ((i0:Int)+1)=(i0:Int)+1:=IntWalk.i64_in _ oM;have HO:=dH E;have c6:=dH a7;clear b1 hpre hat h G E a7;(go_wp2_with fail);go_loopw [5,6] (λiv jv wr=>∃(i j:Nat) (Q:List zA),iv=.int .i64 i/\jv=.int .i64 j/\Q.length=j/\i<j/\j<=n/\Hid (Q.take i=(R.take j).filter λx=>!p x)/\Own wr B 23 32 (some ⟨g,0,none⟩) n cap ((Q++R.drop j).map idC)/\z8 [g] w wr) (λ_ jv _=>n-(intOf jv).toNat)
  case atStart =>
   have M:i0<R.length:=oM;exact⟨i0,i0+1,R.take (i0+1),rfl,by go_num,by rw[length_take];omega,oM,oM,c5,by rw[take_append_drop];exact HO.out,c6.out⟩
  case round =>
   obtain⟨i,j,Q,rfl,rfl,a1,d2,d1,hQ,d,hk⟩:=hrel;have b6:IntKind.i64.wrap ((i:Int)+1)=(i:Int)+1:=IntWalk.i64_in _ oM;have c7:IntKind.i64.wrap ((j:Int)+1)=(j:Int)+1:=IntWalk.i64_in _ oM;by_cases M:j<n
   ·have a8:j<R.length:=oM;obtain⟨x,hx⟩:=eX (R[j])
    have L:R.drop j=x :: R.drop (j+1):=by rw[<-hx];exact drop_eq_getElem_cons a8
    have H:R.take (j+1)=R.take j ++ [x]:=by rw[<-hx];exact take_succ_eq_append_getElem a8
    have b8:z9 wr g (j*32) 32=some (idC x):=by
     obtain⟨g',o',e,hr⟩:=d.slr.at_ (i:=j) oM;injection e with e;injection e with e1 e2
     subst e1;subst e2;rw[Nat.zero_add]at hr;rw[hr,getElem_map];congr 2
     rw[getElem_append_right oM];simp[a1,hx]
    have O:Below wr.heap.size wr (wr.alloc (.cells (idC x) 23)):=bA;have I:z9 (wr.alloc (.cells (idC x) 23)) wr.heap.size 0 32=some (idC x):=by simp[go_sem]
    have b9:=(d.at_base (x:=g) (by simp[blk])).2;obtain⟨W1,a0⟩:=eR (wr.alloc (.cells (idC x) 23))
    obtain⟨gb,Y⟩:=eX wr.heap.size
    rw[<-a0]at O I;have F:z8 [g] w W1:=z8.trans hk ((z8.of_below O).mono sI) (λy hy=>.inl hy);have r:=d.below O;have c2:=Hp.out x W1 F;have hc:=b0 (first.push (.agg (idC x))++D);obtain⟨bb,U⟩:=eX (p x)
    rw[U]at c2;have c4:=dH a0;have d3:=dH Y;have b4:=dH L;have b2:=dH H;have b5:=dH U;rw[Y]at I b9;clear a0 hx L H U d hk O;go_upto_region 8 with fail
    rw[<-c4.out];clear Y;(go_wp2_with fail);refine c2.mono ?_;rintro e w2 ⟨rfl,N⟩;have a6:z8 [g] w w2:=z8.trans F ((z8.of_below N).mono sI) (λy hy=>.inl hy);have k:=r.below N;have V:z9 w2 gb 0 32=some (idC x):=((z8.of_below N).row (zD I) sI _ _).trans I;clear c2 hc N r F I;cases bb with
    | true =>
     have HR:=dH (show Own w2 B 23 32 (some ⟨g,0,none⟩) n cap ((Q ++ [x]++R.drop (j+1)).map idC) by rw[append_assoc,singleton_append,<-b4.out];exact k);have a2:=dH (show(Q ++ [x]).take i=(R.take (j+1)).filter λx=>!p x by
      rw[take_append_of_le_length oM,hQ.out,b2.out,filter_append];simp[b5.out])
     clear k V;(go_wp2_with fail);go_roundw
     case rel=>exact⟨i,j+1,Q ++ [x],rfl,by go_num,by simp[a1],oM,oM,a2,HR.out,a6⟩
     case measure=>exact sZ
    | false =>
     obtain⟨w3,c8,t,a5⟩:=VK yO k (i:=i) oM (xM x) (yN x);have HR:=dH (show Own w3 B 23 32 (some ⟨g,0,none⟩) n cap (((Q.set i x ++ [x])++R.drop (j+1)).map idC) by
      rw[<-map_set,set_app x oM]at t;rw[append_assoc,singleton_append,<-b4.out];exact t)
     have a2:=dH (show(Q.set i x ++ [x]).take (i+1)=(R.take (j+1)).filter λx=>!p x by
      rw[JD x oM,hQ.out,b2.out,filter_append];simp[b5.out])
     have a3:z8 [g] w w3:=z8.trans a6 a5 (λy hy=>.inl hy);have c3:=dH a3;clear k t a5 a3;(go_wp2_with fail);go_roundw
     case rel=>exact⟨i+1,j+1,Q.set i x ++ [x],by go_num,by go_num,by simp[a1],oM,oM,a2,HR.out,c3.out⟩
     case measure=>exact sZ
   ·have X:j=n:=oM;have L:R.drop j = []:=drop_of_length_le oM;have H:R.take j=R:=take_of_length_le oM;have T:=hQ.out;rw[H,HZ.out]at T;rw[L,append_nil]at d;obtain⟨A2,c2,b7,w8,c0,s,a4⟩:=VL yO (z:=.agg (idC id0)) kR (yN id0) d (m:=i) oM 0;rw[<-map_take,T]at s;have d0:=λw0=>SlW.lo (P:=prog) yO d.slw (m:=i) oM w0;have a9:Z.length=i:=by rw[<-T,length_take];omega
    have HF:=dH (And.intro s (z8.trans hk a4 (λy hy=>.inl hy)));have b3:=dH a9;clear L H T d s a4 a9 hk X;(go_wp2_with fail);go_ret;exact⟨by rw[b3.out];rfl,by rw[b3.out];exact HF.out.1,by simpa[blk]using HF.out.2⟩
structure aP(w:World)(b g:Nat)(h:HdV)(A:Option Addr)(c:Nat):Prop where
 box:w.cell? ⟨b,0,none⟩=some (.pointer (some ⟨g,0,none⟩))
 row:z9 w g 0 38=some (hdC (hdO h A c))
 ids:zW w A h.ps.length h.ps
 len:h.ps.length<=1000000
 tps:h.tp.size<=9223372036854775807
theorem aP.below{w w':World}{b g:Nat}{h:HdV}{A:Option Addr}{c:Nat}(x:aP w b g h A c)(hb:Below w.heap.size w w'):aP w' b g h A c :=
 ⟨(hb.cell (p:=⟨b,0,none⟩) (block_lt_of_cell? w _ x.box)).trans x.box,(zG (hb.block g (zD x.row)) _ _).trans x.row,SlR.below x.ids hb,x.len,x.tps⟩
theorem hr_3(w:World)(b g:Nat)(h:HdV)(A:Option Addr)(c:Nat)(hd:aP w b g h A c) :
  Calls prog 251 #[.pointer (some ⟨b,0,none⟩)] w λe w'=>e=.returned (.bool (decide (h.ht<1\/1073741824<h.ht)))/\Below w.heap.size w w':=by
 have xb:=hd.box;have x1:=zB hd.row (j:=1) oM;simp only[wQ,mJ,mI,pC,pB,pA,Nat.zero_add,hdO]at x1;clear hd;by_cases a1:h.ht<1
 ·have hb:=dH (decide_eq_true (Or.inl a1:h.ht<1\/1073741824<h.ht));go_enter func251,ntmps251
  (go_wp2_with fail);go_ret;exact⟨yI (by first | rfl | (rw[hb.out]) | (simp;omega)),Below.refl _ _⟩
 ·by_cases a2:1073741824<h.ht
  ·have hb:=dH (decide_eq_true (Or.inr a2:h.ht<1\/1073741824<h.ht));go_enter func251,ntmps251
   (go_wp2_with fail);go_ret;exact⟨yI (by first | rfl | (rw[hb.out]) | (simp;omega)),Below.refl _ _⟩
  ·have hb:=dH (decide_eq_false (λh=>h.elim a1 a2:¬(h.ht<1\/1073741824<h.ht)));go_enter func251,ntmps251
   (go_wp2_with fail);go_ret;exact⟨yI (by first | rfl | (rw[hb.out]) | (simp;omega)),Below.refl _ _⟩
theorem hr_6(w:World)(b g:Nat)(h:HdV)(A:Option Addr)(c:Nat)(hd:aP w b g h A c) :
  Calls prog 254 #[.pointer (some ⟨b,0,none⟩)] w λe w'=>e=.returned (.bool (decide (h.au<0\/255<h.au)))/\Below w.heap.size w w':=by
 have xb:=hd.box;have x1:=zB hd.row (j:=3) oM;simp only[wQ,mJ,mI,pC,pB,pA,Nat.zero_add,hdO]at x1;clear hd;by_cases a1:h.au<0
 ·have hb:=dH (decide_eq_true (Or.inl a1:h.au<0\/255<h.au));go_enter func254,ntmps254
  (go_wp2_with fail);go_ret;exact⟨yI (by first | rfl | (rw[hb.out]) | (simp;omega)),Below.refl _ _⟩
 ·by_cases a2:255<h.au
  ·have hb:=dH (decide_eq_true (Or.inr a2:h.au<0\/255<h.au));go_enter func254,ntmps254
   (go_wp2_with fail);go_ret;exact⟨yI (by first | rfl | (rw[hb.out]) | (simp;omega)),Below.refl _ _⟩
  ·have hb:=dH (decide_eq_false (λh=>h.elim a1 a2:¬(h.au<0\/255<h.au)));go_enter func254,ntmps254
   (go_wp2_with fail);go_ret;exact⟨yI (by first | rfl | (rw[hb.out]) | (simp;omega)),Below.refl _ _⟩
theorem hr_7(w:World)(b g:Nat)(h:HdV)(A:Option Addr)(c:Nat)(hd:aP w b g h A c) :
  Calls prog 255 #[.pointer (some ⟨b,0,none⟩)] w λe w'=>e=.returned (.bool (decide (h.sq<1\/1073741824<h.sq)))/\Below w.heap.size w w':=by
 have xb:=hd.box;have x1:=zB hd.row (j:=4) oM;simp only[wQ,mJ,mI,pC,pB,pA,Nat.zero_add,hdO]at x1;clear hd;by_cases a1:h.sq<1
 ·have hb:=dH (decide_eq_true (Or.inl a1:h.sq<1\/1073741824<h.sq));go_enter func255,ntmps255
  (go_wp2_with fail);go_ret;exact⟨yI (by first | rfl | (rw[hb.out]) | (simp;omega)),Below.refl _ _⟩
 ·by_cases a2:1073741824<h.sq
  ·have hb:=dH (decide_eq_true (Or.inr a2:h.sq<1\/1073741824<h.sq));go_enter func255,ntmps255
   (go_wp2_with fail);go_ret;exact⟨yI (by first | rfl | (rw[hb.out]) | (simp;omega)),Below.refl _ _⟩
  ·have hb:=dH (decide_eq_false (λh=>h.elim a1 a2:¬(h.sq<1\/1073741824<h.sq)));go_enter func255,ntmps255
   (go_wp2_with fail);go_ret;exact⟨yI (by first | rfl | (rw[hb.out]) | (simp;omega)),Below.refl _ _⟩
theorem hr_8(w:World)(b g:Nat)(h:HdV)(A:Option Addr)(c:Nat)(hd:aP w b g h A c) :
  Calls prog 256 #[.pointer (some ⟨b,0,none⟩)] w λe w'=>e=.returned (.bool (decide (h.sz<1\/512<h.sz)))/\Below w.heap.size w w':=by
 have xb:=hd.box;have x1:=zB hd.row (j:=5) oM;simp only[wQ,mJ,mI,pC,pB,pA,Nat.zero_add,hdO]at x1;clear hd;by_cases a1:h.sz<1
 ·have hb:=dH (decide_eq_true (Or.inl a1:h.sz<1\/512<h.sz));go_enter func256,ntmps256
  (go_wp2_with fail);go_ret;exact⟨yI (by first | rfl | (rw[hb.out]) | (simp;omega)),Below.refl _ _⟩
 ·by_cases a2:512<h.sz
  ·have hb:=dH (decide_eq_true (Or.inr a2:h.sz<1\/512<h.sz));go_enter func256,ntmps256
   (go_wp2_with fail);go_ret;exact⟨yI (by first | rfl | (rw[hb.out]) | (simp;omega)),Below.refl _ _⟩
  ·have hb:=dH (decide_eq_false (λh=>h.elim a1 a2:¬(h.sz<1\/512<h.sz)));go_enter func256,ntmps256
   (go_wp2_with fail);go_ret;exact⟨yI (by first | rfl | (rw[hb.out]) | (simp;omega)),Below.refl _ _⟩
theorem hr_1(w:World)(b g:Nat)(h:HdV)(A:Option Addr)(c:Nat)(hd:aP w b g h A c) :
  Calls prog 249 #[.pointer (some ⟨b,0,none⟩)] w λe w'=>e=.returned (.bool (decide (4<h.ps.length)))/\Below w.heap.size w w':=by
 have xb:=hd.box;have x0:=zB hd.row (j:=0) oM;simp only[wQ,Nat.zero_add,hdO]at x0;have e:decide ((4:Int)<(h.ps.length:Int))=decide (4<h.ps.length):=by rw[decide_eq_decide];omega
 have E:=dH e;clear hd e;go_enter func249,ntmps249
 (go_wp2_with fail);go_ret;exact⟨yI (by first | exact E.out | (rw[<-E.out];rfl)),Below.refl _ _⟩
theorem hr_2(w:World)(b g:Nat)(h:HdV)(A:Option Addr)(c:Nat)(hd:aP w b g h A c) :
  Calls prog 250 #[.pointer (some ⟨b,0,none⟩)] w λe w'=>e=.returned (.bool (!kD h.ps))/\Below w.heap.size w w':=by
 have xb:=hd.box;have x0:=zB hd.row (j:=0) oM;simp only[wQ,Nat.zero_add,hdO]at x0;have ci:=iU w A h.ps.length c h.ps hd.ids (oH hd.len);obtain⟨r,hr⟩:=eX (kD h.ps)
 rw[hr]at ci |-;clear hd hr;go_enter func250,ntmps250
 (go_wp2_with fail);refine ci.mono ?_;rintro e w2 ⟨rfl,hb⟩;(go_wp2_with fail);go_ret;exact⟨rfl,hb⟩
theorem hr_4(w:World)(b g:Nat)(h:HdV)(A:Option Addr)(c:Nat)(hd:aP w b g h A c) :
  Calls prog 252 #[.pointer (some ⟨b,0,none⟩)] w λe w'=>e=.returned (.bool ((h.ps.length==0) != (h.ht==1)))/\Below w.heap.size w w':=by
 have xb:=hd.box;have x0:=zB hd.row (j:=0) oM;have x1:=zB hd.row (j:=1) oM;simp only[wQ,mJ,Nat.zero_add,hdO]at x0 x1;have e:((h.ps.length:Int)==0)=(h.ps.length==0):=by rw[Bool.eq_iff_iff];simp
 obtain⟨p,hp⟩:∃p:Bool,(h.ps.length==0)=p:=⟨_,rfl⟩
 obtain⟨q,hq⟩:∃q:Bool,(h.ht==1)=q:=⟨_,rfl⟩
 rw[hp]at e |-;rw[hq];clear hd hp;go_enter func252,ntmps252
 go_upto_region 1 with fail
 refine lX w ?_;intro d hS;have c0:=zJ xb;have c1:=zJ x0;have c2:=zJ x1;refine lZ ?_;refine zC ?_;intro hS;have f:Below w.heap.size w w.drew:=hS;clear hS d c0 c1 c2;(go_wp2_with fail);go_ret;exact⟨yI (by cases p <;> cases q <;> rfl),f⟩
theorem hr_5(w:World)(b g:Nat)(h:HdV)(A:Option Addr)(c:Nat)(hd:aP w b g h A c) :
  Calls prog 253 #[.pointer (some ⟨b,0,none⟩)] w λe w'=>e=.returned (.bool (decide (j5 h.tp≠0)))/\Below w.heap.size w w':=by
 have xb:=hd.box;have x2:=zB hd.row (j:=2) oM;simp only[mI,Nat.zero_add,hdO]at x2;have ci:=rA h.tp w hd.tps;obtain⟨r,hr⟩:=eX (j5 h.tp)
 rw[hr]at ci |-;have e:(r != 0)=decide (r≠0):=by rw[Bool.eq_iff_iff];simp
 have E:=dH e;clear hd hr e;go_enter func253,ntmps253
 (go_wp2_with fail);refine ci.mono ?_;rintro e w2 ⟨rfl,hb⟩;(go_wp2_with fail);go_ret;exact⟨yI (by first | exact E.out | (rw[<-E.out];rfl)),hb⟩
def aZ(k:Nat):FuncId:=[249,250,251,252,253,254,255,256].getD k 0
def xd(k:Nat):Int:=[6,4,12,12,9,5,5,5].getD k 0
def ruleB(h:HdV)(k:Nat):Bool:=[decide (4<h.ps.length),!kD h.ps,decide (h.ht<1\/1073741824<h.ht),(h.ps.length==0) != (h.ht==1),decide (j5 h.tp≠0),decide (h.au<0\/255<h.au),decide (h.sq<1\/1073741824<h.sq),decide (h.sz<1\/512<h.sz)].getD k false
theorem rule_any(w:World)(b g:Nat)(h:HdV)(A:Option Addr)(c:Nat)(hd:aP w b g h A c)(k:Nat)(hk:k<8) :
  Calls prog (aZ k) #[.pointer (some ⟨b,0,none⟩)] w λe w'=>e=.returned (.bool (ruleB h k))/\Below w.heap.size w w':=by
 have h8:k=0\/k=1\/k=2\/k=3\/k=4\/k=5\/k=6\/k=7:=oM;rcases h8 with rfl | rfl | rfl | rfl | rfl | rfl | rfl | rfl
 ·exact hr_1 w b g h A c hd
 ·exact hr_2 w b g h A c hd
 ·exact hr_3 w b g h A c hd
 ·exact hr_4 w b g h A c hd
 ·exact hr_5 w b g h A c hd
 ·exact hr_6 w b g h A c hd
 ·exact hr_7 w b g h A c hd
 ·exact hr_8 w b g h A c hd
def tG(h:HdV):Nat->Int
 | 0=>0
 | n+1=>if ruleB h (7-n)=true then xd (7-n)else tG h n
theorem ju(h:HdV):tG h 8=hdE h:=by
 have e:tG h 8=if decide (4<h.ps.length)=true then(6:Int)else if(!kD h.ps)=true then 4 else if decide (h.ht<1\/1073741824<h.ht)=true then 12
  else if((h.ps.length==0) != (h.ht==1))=true then 12 else if decide (j5 h.tp≠0)=true then 9 else if decide (h.au<0\/255<h.au)=true then 5
  else if decide (h.sq<1\/1073741824<h.sq)=true then 5 else if decide (h.sz<1\/512<h.sz)=true then 5 else 0:=rfl
 rw[e];unfold hdE;simp only[decide_eq_true_eq,Bool.not_eq_true']
theorem BY(h:HdV)(hk:k<8):tG h (8-k)=if ruleB h k=true then xd k else tG h (8-(k+1)):=by
 obtain⟨n,hn⟩:∃n,8-k=n+1:=⟨7-k,oM⟩
 rw[hn,tG,(oM:7-n=k),(oM:8-(k+1)=n)]
def lA(b k:Nat):Array Value:=#[.func (.func (aZ k)) #[] #[.pointer (some ⟨b,0,none⟩)],.int .i64 (xd k)]
def sA(b:Nat):Array Value:=#[.func (.func 249) #[] #[.pointer (some ⟨b,0,none⟩)],.int .i64 6,.func (.func 250) #[] #[.pointer (some ⟨b,0,none⟩)],.int .i64 4,.func (.func 251) #[] #[.pointer (some ⟨b,0,none⟩)],.int .i64 12,.func (.func 252) #[] #[.pointer (some ⟨b,0,none⟩)],.int .i64 12,.func (.func 253) #[] #[.pointer (some ⟨b,0,none⟩)],.int .i64 9,.func (.func 254) #[] #[.pointer (some ⟨b,0,none⟩)],.int .i64 5,.func (.func 255) #[] #[.pointer (some ⟨b,0,none⟩)],.int .i64 5,.func (.func 256) #[] #[.pointer (some ⟨b,0,none⟩)],.int .i64 5]
theorem rulesC_row(b k:Nat)(hk:k<8):(sA b).extract (k*2) (k*2+2)=lA b k:=by
 have h8:k=0\/k=1\/k=2\/k=3\/k=4\/k=5\/k=6\/k=7:=oM;rcases h8 with rfl | rfl | rfl | rfl | rfl | rfl | rfl | rfl <;> (simp[sA,lA,aZ,xd])
theorem rules_any(w:World)(q:Addr) :
  Calls prog 194 #[.pointer (some q)] w λe w'=>e=.returned (.slice (some ⟨w.heap.size+1,0,none⟩) 8 8)/\w'=(w.alloc (.cells #[.pointer (some q)] 273)).alloc (.cells (sA w.heap.size) 275):=by
 go_enter func194,ntmps194
 (go_wp2_with fail);go_ret;exact⟨rfl,by unfold sA;rfl⟩
theorem call_rule0(args:Array Value)(w:World):∀k,k<8->(callFunc (aZ k) args).run prog w=.ok (.enter (aZ k) args) w
 | 0,_=>by kernel_rfl
 | 1,_=>by kernel_rfl
 | 2,_=>by kernel_rfl
 | 3,_=>by kernel_rfl
 | 4,_=>by kernel_rfl
 | 5,_=>by kernel_rfl
 | 6,_=>by kernel_rfl
 | 7,_=>by kernel_rfl
 | k+8,h=>absurd h oM
theorem call_rule(k:Nat)(hk:k<8)(args:Array Value)(w:World):(callFunc (aZ k) args).run prog w=.ok (.enter (aZ k) args) w:=call_rule0 args w k hk
theorem infoRu:(prog.info? 275).map (·.size)=some 2:=kR
@[go_sem ↓] theorem loadRu_rw(a:Addr):loadVar 275 a=ldS 275 a:=rfl
@[go_sem ↓] theorem storeRu_rw(a:Addr)(v:Value):storeVar 275 a v=stS 275 a v:=rfl
@[go_sem] theorem loadRu_run(w:World)(g o:Nat):(ldS 275 ⟨g,o,none⟩).run prog w=match z9 w g o 2 with | some cs=>.ok (.agg cs) w | none=>(loadVar 275 ⟨g,o,none⟩).run prog w :=
 jD underlying275 rfl infoRu w g o
@[go_sem] theorem storeRu_run(w:World)(g:Nat)(hg:g=w.heap.size)(z:Array Value)(hz:z.size=2)(b k:Nat)(e:TypeId):(stS 275 ⟨g,0,none⟩ (.agg (lA b k))).run prog (w.alloc (.cells z e))=.ok () (w.alloc (.cells (lA b k) e)) :=
 hg ▸ xW infoRu w z (lA b k) hz rfl (by intro u hu;simp[lA]at hu;rcases hu with rfl | rfl <;> rfl)
theorem QG(w:World)(h:HdV)(A:Option Addr)(c:Nat)(hT:zW w A h.ps.length h.ps)(hn:h.ps.length<=1000000)(ht:h.tp.size<=9223372036854775807) :
  Calls prog 139 #[.agg (hdC (hdO h A c))] w λe w'=>e=.returned (.int .i64 (hdE h))/\Below w.heap.size w w':=by
 have hB:Below w.heap.size w (w.alloc (.cells (hdC (hdO h A c)) 44)):=bA;have hr:z9 (w.alloc (.cells (hdC (hdO h A c)) 44)) w.heap.size 0 38=some (hdC (hdO h A c)):=by simp[go_sem]
 have R:=SlR.below hT hB;have cr:=rules_any (w.alloc (.cells (hdC (hdO h A c)) 44)) ⟨w.heap.size,0,none⟩;rw[(sI:(w.alloc (.cells (hdC (hdO h A c)) 44)).heap.size=w.heap.size+1)]at cr;go_enter func139,ntmps139
 go_wp2_with fail
 go_step3
 go_wp2_with fail
 go_step3
 (go_wp2_with fail);refine cr.mono ?_;rintro e w1 ⟨rfl,rfl⟩;clear cr;go_upto_region 3 with fail
 obtain⟨g,hg⟩:=eX w.heap.size
 have Hg:=dH hg;obtain⟨W,hW⟩:=eR (((w.alloc (.cells (hdC (hdO h A c)) 44)).alloc (.cells #[.pointer (some ⟨w.heap.size,0,none⟩)] 273)).alloc (.cells (sA (w.heap.size+1)) 275))
 have y:Below (w.alloc (.cells (hdC (hdO h A c)) 44)).heap.size (w.alloc (.cells (hdC (hdO h A c)) 44)) W:=by rw[hW];exact(bA).alloc sI _
 have d:∀k,k<8->z9 W (g+1+1) (k*2) 2=some (lA (g+1) k):=λk hk=>by
  have hn:=heap_alloc_new ((w.alloc (.cells (hdC (hdO h A c)) 44)).alloc (.cells #[.pointer (some ⟨w.heap.size,0,none⟩)] 273)) (.cells (sA (w.heap.size+1)) 275);rw[(sI:((w.alloc (.cells (hdC (hdO h A c)) 44)).alloc (.cells #[.pointer (some ⟨w.heap.size,0,none⟩)] 273)).heap.size=w.heap.size+1+1),<-hW,hg]at hn;unfold z9;rw[hn];simp only;rw[if_pos (by show k*2+2<=16;omega),rulesC_row _ _ hk]
 have m:W.cell? ⟨g+1,0,none⟩=some (.pointer (some ⟨g,0,none⟩)):=by
  have hn:=heap_alloc_new (w.alloc (.cells (hdC (hdO h A c)) 44)) (.cells #[.pointer (some ⟨w.heap.size,0,none⟩)] 273);rw[(sI:(w.alloc (.cells (hdC (hdO h A c)) 44)).heap.size=w.heap.size+1)]at hn;have D:=(Below.heap_alloc ((w.alloc (.cells (hdC (hdO h A c)) 44)).alloc (.cells #[.pointer (some ⟨w.heap.size,0,none⟩)] 273)) (.cells (sA (w.heap.size+1)) 275) (w.heap.size+1) sI).trans hn;rw[<-hW]at D;rw[hg]at D;rw[cell_of_row W (g+1) 0 _ _ _ D];rfl
 have hd:aP W (g+1) g h A c:=⟨m,by rw[hg]at hr;exact(zG (y.block g sO) _ _).trans hr,SlR.below R y,hn,ht⟩
 have T:Below g w W:=by rw[<-hg];exact hB.trans (y.mono sI)
 have N:g+1+1<W.heap.size:=zD (d 0 oM);rw[<-hW];simp only[hg];clear hW hr R hB y m hT hg;obtain⟨b,hb⟩:=eX (g+1)
 obtain⟨gr,M⟩:=eX (b+1)
 simp only[hb,M]at d hd N |-;have a1:g<b:=oM;have a2:b<gr:=oM;have HE:=dH (ju h);clear hb M;go_loopw [3,5,8] (λev _ n wr=>∃k:Nat,k<=8/\n=.int .i64 k/\ev=.int .i64 0/\Hid (hdE h=tG h (8-k))/\Below W.heap.size W wr) (λ_ _ n _=>8-(intOf n).toNat)
 case atStart=>exact⟨0,oM,rfl,rfl,(show _=_ from HE.out.symm),Below.refl _ _⟩
 case round =>
  obtain⟨k,hk,rfl,rfl,hE,j⟩:=hrel;by_cases s:k<8
  ·have r:=hE.out;rw[BY h s]at r;have X:=(zG (j.block gr N) (k*2) 2).trans (d k s);have F:Below wr.heap.size wr (wr.alloc (.cells (lA b k) 275)):=bA;have O:=(hd.below j).below F;have cr:=rule_any _ b g h A c O k s;obtain⟨B,hB⟩:=eX (ruleB h k)
   obtain⟨E,I⟩:=eX (xd k)
   have Z:(wr.alloc (.cells (lA b k) 275)).cell? ⟨wr.heap.size,0,none⟩=some (.func (.func (aZ k)) #[] #[.pointer (some ⟨b,0,none⟩)]):=by simp[go_sem,lA]
   have L:(wr.alloc (.cells (lA b k) 275)).cell? ⟨wr.heap.size,1,none⟩=some (.int .i64 E):=by simp[go_sem,lA,I]
   rw[hB]at cr r;rw[I]at r;have V:=dH r;have U:=call_rule k s #[.pointer (some ⟨b,0,none⟩)] (wr.alloc (.cells (lA b k) 275));clear r hB I hE;(go_wp2_with fail);refine cr.mono ?_;rintro e w5 ⟨rfl,H⟩;have Y:=(H.cell (p:=⟨wr.heap.size,1,none⟩) sI).trans L;have G:Below W.heap.size W w5:=yM (yM j F) H;clear cr U Z L X O F H j;cases B with
   | true =>
    have f:hdE h=E:=by rw[V.out,if_pos rfl]
    have J:=dH f;have t:Below g w w5:=T.trans (G.mono oM);have a0:=dH t;clear f t G;(go_wp2_with fail);rw[Exit.noGoto_ret];go_ret;exact⟨y9 J.out.symm,by rw[Hg.out];exact a0.out⟩
   | false =>
    have f:Hid (hdE h=tG h (8-(k+1))):=(show _=_ by rw[V.out,if_neg sI])
    (go_wp2_with fail);go_roundw
    case rel=>exact⟨k+1,oM,by go_num,rfl,f,G⟩
    case measure=>exact sZ
  ·have f:hdE h=0:=by rw[hE.out,(oM:8-k=0)];rfl
   have J:=dH f;have t:Below g w wr:=T.trans (j.mono oM);clear f;(go_wp2_with fail);rw[Exit.noGoto_ret];go_ret;exact⟨y9 J.out.symm,by rw[Hg.out];exact t⟩

theorem mk2(w:World):(Instr.makeSlice 127 (.int .i64 2) (.int .i64 2)).run prog w=.ok (.slice (some ⟨w.heap.size,0,none⟩) 2 2) (w.alloc (.cells #[.int .u8 0,.int .u8 0] 5)):=kR
theorem rnum2(n:Nat)(w:World)(h:n<65536) :
  Calls prog 111 #[.int .i64 n,.int .i64 2] w λe w'=>e=.returned (.tuple #[.string ⟨(beL 2 n).toArray⟩,.int .i64 0])/\Below w.heap.size w w':=by
 have k:decide ((n:Int)<0)=false:=sI;have j:decide (65536<=(n:Int))=false:=sO;have f:=mQ w (beL 2 n) 2 rfl #[.int .u8 ((n:Int) / 256 % 256),.int .u8 ((n:Int) % 256)] (by
  have e1:(n:Int) / 256=((n / 256:Nat):Int):=sI;rw[e1,u8n,u8n,iG];simp[beL,yG])
 obtain⟨bs,d⟩:=eX (beL 2 n)
 rw[d]at f |-;clear d;have g:=mk2;go_enter func111,ntmps111
 (go_wp2_with fail);refine wp_loop_rounds 2 ?_;rw[rounds_succ];(go_wp2_with fail);rw[rounds_succ];(go_wp2_with fail);refine wp_loop_rounds 3 ?_;rw[rounds_succ];(go_wp2_with fail);rw[rounds_succ];(go_wp2_with fail);rw[rounds_succ];(go_wp2_with fail);go_ret2;exact⟨rfl,bA⟩
theorem hnum(n M:Nat)(w:World)(hM:M=1\/M=2\/M=4)(h:n<256 ^ M) :
  Calls prog 117 #[.int .i64 n,.int .i64 M] w λe w'=>e=.returned (.string ⟨(beL M n).toArray⟩)/\Below w.heap.size w w':=by
 have c:Calls prog 111 #[.int .i64 n,.int .i64 M] w λe w'=>e=.returned (.tuple #[.string ⟨(beL M n).toArray⟩,.int .i64 0])/\Below w.heap.size w w':=by
  rcases hM with rfl | rfl | rfl
  ·exact rnum1 n w h
  ·exact rnum2 n w h
  ·exact rnum4 n w h
 obtain⟨s,hs⟩:∃s:ByteArray,(⟨(beL M n).toArray⟩:ByteArray)=s:=⟨_,rfl⟩
 rw[hs]at c |-;clear hs hM h;go_enter func117,ntmps117
 (go_wp2_with fail);refine c.mono ?_;rintro e w1 ⟨rfl,hb⟩;(go_wp2_with fail);go_ret;exact⟨rfl,hb⟩
theorem conv_own(h:Own w B 5 1 A n cap (yH bs))(hn:n=bs.length) :
  (convert 127 9 (.slice A n cap)).run prog w=.ok (.string ⟨bs.toArray⟩) w:=XM h hn
theorem hraw(d:zA)(w:World) :
  Calls prog 118 #[.agg (idC d)] w λe w'=>e=.returned (.string ⟨d.l.toArray⟩)/\Below w.heap.size w w':=by
 have r:Below w.heap.size w (w.alloc (.cells (idC d) 23)):=bA;have hid:=heap_alloc_new w (.cells (idC d) 23);go_enter func118,ntmps118
 go_upto_region 3 with fail
 obtain⟨g,hg⟩:=eX w.heap.size
 have Hg:=dH hg;obtain⟨W,hW⟩:=eR (w.alloc (.cells (idC d) 23))
 rw[<-hW]at r hid |-;rw[hg]at r hid |-;have O:g<W.heap.size:=(aG hid).1;clear hg hW;go_loopw [3,4] (λsv iv wr=>∃(k:Nat) (A:Option Addr) (cap:Nat),k<=32/\iv=.int .i64 k/\sv=.slice A k cap/\Own wr (g+1) 5 1 A k cap (yH (d.l.take k))/\wr.heap[g]?=some (.cells (idC d) 23 (0,0))/\Below g w wr/\g+1<=wr.heap.size) (λ_ iv _=>32-(intOf iv).toNat)
 case atStart=>exact⟨0,none,0,oM,rfl,rfl,Own.nil _ _ _ _,hid,r,oM⟩
 case round =>
  clear hid r;obtain⟨k,A,cap,hk,rfl,rfl,ho,hid,hb,M⟩:=hrel;by_cases J:k<32
  ·have H:k<d.l.length:=by rw[d.h];exact J
   have x0:wr.cell? ⟨g,k,none⟩=some (.int .u8 ((d.l[k]).toNat:Int)):=by rw[cell_of_row wr g k _ _ _ hid];simp[idC,yG,H]
   have s:d.l.take (k+1)=d.l.take k ++ [d.l[k]]:=by rw[take_add_one,getElem?_eq_getElem H];rfl
   obtain⟨x,hx⟩:=eX (d.l[k])
   rw[hx]at x0 s;have q1:=QU wr ((x.toNat:Nat):Int);have B:z9 (wr.alloc (.cells #[.int .u8 ((x.toNat:Nat):Int)] 5)) wr.heap.size 0 1=some (vY x):=(by simp[go_sem,vY,yG])
   have E:=ho.kept (z8.alloc wr (.cells #[.int .u8 ((x.toNat:Nat):Int)] 5)) sI;have I:=dH s;clear hx s;go_wp2_with (at_builtin;refine xS qV rfl E rfl B (by simp[vY,yG];rfl) oM oM sO ?_;intro A6 y w6 D G f)
   have m:z8 (blk A) wr w6:=z8.trans ((z8.alloc wr _).mono (S':=blk A) sI) G iL;have L:Below g w w6:=hb.trans (m.below oM (λx hx=>oH ((ho.at_base hx).1)));have t:=(m.block g oM (λhx=>oH ((ho.at_base hx).1))).trans hid;have N:=m.size;have F:yH (d.l.take k) ++ [vY x]=yH (d.l.take (k+1)):=by rw[I.out];simp[yH]
   rw[F]at D;clear F G f E B q1 ho hb I m hid x0;(go_wp2_with fail);go_roundw
   case rel=>exact⟨k+1,A6,y,oM,by go_num,rfl,D,t,L,oM⟩
   case measure=>exact sZ
  ·have j:k=d.l.length:=by rw[d.h];omega
   have e:d.l.take k=d.l:=take_of_length_le oM;rw[e]at ho;have R:=conv_own ho j;clear e ho hid j;(go_wp2_with fail);go_ret;exact⟨rfl,by rw[Hg.out];exact hb⟩
theorem rids_any(R:List zA)(w:World)(A:Option Addr)(n c:Nat)(h:zW w A n R)(hn:n<=4) :
  Calls prog 115 #[.slice A n c] w λe w'=>∃s:ByteArray,e=.returned (.string s)/\s.data.toList=beL 1 n++R.flatMap (·.l)/\s.size<=200/\Below w.heap.size w w':=by
 have c1:=rnum1 n w oM;have B:=h.len;have f:=dH B;clear B;go_enter func115,ntmps115
 (go_wp2_with fail);refine c1.mono ?_;rintro e w1 ⟨rfl,O⟩;clear c1;obtain⟨s0,H⟩:∃s0:ByteArray,(⟨(beL 1 n).toArray⟩:ByteArray)=s0:=⟨_,rfl⟩
 have T:=dH H;rw[H];clear H;go_upto_region 3 with fail
 go_loopw [3,5,6] (λv i _ wr=>∃(k:Nat) (s:ByteArray),k<=n/\i=.int .i64 k/\v=.string s/\s.size=1+32*k/\Hid (s.data.toList=beL 1 n++(R.take k).flatMap (·.l))/\Below w.heap.size w wr) (λ_ i _ _=>n-(intOf i).toNat)
 case atStart=>exact⟨0,s0,oM,rfl,rfl,(by rw[<-T.out];rfl),(show s0.data.toList=_ by rw[<-T.out];simp),O⟩
 case round =>
  clear O;obtain⟨k,s,hk,rfl,rfl,m,hs,hb⟩:=hrel;by_cases y:k<n
  ·obtain⟨q,o,rfl,hr⟩:=zW.get (SlR.below h hb) y (by rw[f.out];exact y);have E:R.take (k+1)=R.take k ++ [R[k]'(by rw[f.out];exact y)]:=by rw[take_add_one,getElem?_eq_getElem (by rw[f.out];exact y)];rfl
   obtain⟨d,hd⟩:=eX (R[k]'(by rw[f.out];exact y))
   rw[hd]at hr E;have U:=dH E;clear hd E;obtain⟨W,hW⟩:∃W,W=wr:=⟨wr,rfl⟩
   go_upto_region 6 with fail
   go_loopw [3,6] (λv i wr=>∃(j:Nat) (t:ByteArray),j<=32/\i=.int .i64 j/\v=.string t/\t.size=1+32*k+j/\Hid (t.data.toList=beL 1 n++(R.take k).flatMap (·.l)++d.l.take j)/\Below W.heap.size W wr) (λ_ i _=>32-(intOf i).toNat)
   case atStart=>exact⟨0,s,oM,rfl,rfl,m,(show _=_ by rw[hs.out];simp),by rw[hW];exact Below.refl _ _⟩
   case round =>
    rw[<-hW]at hr hb;clear hW m hs;obtain⟨j,t,hj,rfl,rfl,m,hs,D⟩:=hrel;by_cases r:j<32
    ·have J:=(zG (D.block q (zD hr)) _ _).trans hr;have hc:=zB J (j:=j) r;have M:j<d.l.length:=by rw[d.h];exact r
     have N:(idC d)[j]?=some (.int .u8 (d.l[j]).toNat):=by simp[idC,yG,M]
     rw[N]at hc;have F:d.l.take (j+1)=d.l.take j ++ [d.l[j]]:=by rw[take_add_one,getElem?_eq_getElem M];rfl
     obtain⟨x,hx⟩:=eX (d.l[j])
     rw[hx]at hc F;have a0:=dH F;have a3:=bs1_u8 wr (x.toNat:Int);have a2:=mQ wr [x] 1 rfl #[.int .u8 (x.toNat:Int)] rfl;have Y:Below W.heap.size W (wr.alloc (.cells #[.int .u8 (x.toNat:Int)] 5)):=D.alloc D.size _;clear N hx F J;(go_wp2_with fail);go_roundw
     case rel=>exact⟨j+1,_,oM,by go_num,rfl,(by rw[ByteArray.size_append,m];rfl),(show(t++⟨#[x]⟩).data.toList=_ by rw[a0.out,ByteArray.data_append,Array.toList_append,hs.out];simp),Y⟩
     case measure=>exact sZ
    ·have I:j=32:=oM;have e:d.l.take j=d.l:=take_of_length_le (by rw[d.h];omega);have g:=hs.out;rw[e]at g;have V:Hid (t.data.toList=beL 1 n++(R.take (k+1)).flatMap (·.l)):=(show _=_ by rw[g,U.out];simp)
     have Z:Below w.heap.size w wr:=yM hb D;have G:t.size=1+32*(k+1):=oM;clear hs g e m I hb D hr;(go_wp2_with fail);go_roundw
     case rel=>exact⟨k+1,t,oM,by go_num,rfl,G,V,Z⟩
     case measure=>exact sZ
  ·have X:k=n:=oM;have e:R.take k=R:=take_of_length_le (by rw[f.out];omega);have g:=hs.out;rw[e]at g;have Hs:=dH g;have L:s.size<=200:=oM;have a1:=dH L;clear hs g m e X L;(go_wp2_with fail);go_ret;exact⟨s,rfl,Hs.out,a1.out,hb⟩
theorem rN(x:UInt32)(n:Nat)(h0:0<n)(h1:n<32)(w:World) :
  Calls prog 238 #[.int .u32 (nU x),.int .i64 n] w λe w'=>e=.returned (.int .u32 (nU (tN x n)))/\w=w':=by
 have hs:(32:Int)-(n:Int)=((32-n:Nat):Int):=oM;have hl:nU x*2 ^ (32-n) % (4294967296:Int)=nU (x <<< UInt32.ofNat (32-n)):=by
  rw[<-yc _ _ oM,IntKind.wrap_u32']
 have hr:nU x / 2 ^ n=nU (x >>> UInt32.ofNat n):=YQ x n h1;have d:x >>> UInt32.ofNat n ||| x <<< UInt32.ofNat (32-n)=tN x n:=rfl
 have f:=dH d;have l1:(n:Int)<=32:=oM;have l2:((32-n:Nat):Int)<=32:=oM;clear d h0 h1;go_enter func238,ntmps238
 (go_wp2_with fail);go_ret;exact⟨by rw[f.out];rfl,rfl⟩
theorem rword(w:World)(A:Option Addr)(cap n:Nat)(bs:List UInt8)(h:b9 w A n bs)(m:Nat)(hm:m+3<n)(hn:n<=1000000) :
  Calls prog 237 #[.slice A n cap,.int .i64 m] w λe w'=>e=.returned (.int .u32 (nU (zw bs m)))/\Below w.heap.size w w':=by
 obtain⟨q,o,rfl,f⟩:=b9.get h (i:=0) oM;have l0:(m:Int)<n:=oM;have t1:((m:Int)+1).toNat=m+1:=oM;have t2:((m:Int)+2).toNat=m+2:=oM;have t3:((m:Int)+3).toNat=m+3:=oM;have w0:IntKind.i64.wrap (m:Int)=m:=by simp[IntKind.wrap,IntKind.bits,IntKind.signed];omega
 have w1:IntKind.i64.wrap ((m:Int)+1)=(m:Int)+1:=by simp[IntKind.wrap,IntKind.bits,IntKind.signed];omega
 have w2:IntKind.i64.wrap ((m:Int)+2)=(m:Int)+2:=by simp[IntKind.wrap,IntKind.bits,IntKind.signed];omega
 have w3:IntKind.i64.wrap ((m:Int)+3)=(m:Int)+3:=by simp[IntKind.wrap,IntKind.bits,IntKind.signed];omega
 have l1:0<=(m:Int)+1/\(m:Int)+1<n:=oM;have l2:0<=(m:Int)+2/\(m:Int)+2<n:=oM;have l3:0<=(m:Int)+3/\(m:Int)+3<n:=oM;have x0:=f m oM;have x1:=f (m+1) oM;have x2:=f (m+2) oM;have x3:=f (m+3) oM;have d:(bs.getD m 0).toUInt32 <<< 24 ||| (bs.getD (m+1) 0).toUInt32 <<< 16 ||| (bs.getD (m+2) 0).toUInt32 <<< 8 ||| (bs.getD (m+3) 0).toUInt32=zw bs m:=rfl
 obtain⟨y0,h0⟩:=eX (bs.getD m 0)
 obtain⟨y1,h1⟩:=eX (bs.getD (m+1) 0)
 obtain⟨y2,h2⟩:=eX (bs.getD (m+2) 0)
 obtain⟨y3,h3⟩:=eX (bs.getD (m+3) 0)
 rw[h0]at x0 d;rw[h1]at x1 d;rw[h2]at x2 d;rw[h3]at x3 d;have j:=dH d;clear d h0 h1 h2 h3 f h;go_enter func237,ntmps237
 go_upto_region 1 with fail
 refine lX w ?_;intro k hS;have b0:=zJ x0;have b1:=zJ x1;have b2:=zJ x2;have b3:=zJ x3;refine lZ ?_;refine zC ?_;intro hS;have g:Below w.heap.size w w.drew:=hS;(go_wp2_with fail);go_ret;exact⟨by rw[j.out];rfl,g⟩
def mvU(z:StU)(j:Nat):List UInt32:=z.l.take (j+1)++(z.l.drop j).take (7-j)
theorem mvU_len(z:StU)(hj:j<=7):(mvU z j).length=8:=by unfold mvU;simp[z.l_len];omega
theorem mvU_get(z:StU)(h1:j<7):(mvU z (j+1)).getD j 0=z.l.getD j 0:=by
 have h8:j=0\/j=1\/j=2\/j=3\/j=4\/j=5\/j=6:=oM;rcases h8 with rfl | rfl | rfl | rfl | rfl | rfl | rfl <;> rfl
theorem mvU_set(z:StU)(h1:j<7):(mvU z (j+1)).set (j+1) (z.l.getD j 0)=mvU z j:=by
 have h8:j=0\/j=1\/j=2\/j=3\/j=4\/j=5\/j=6:=oM;rcases h8 with rfl | rfl | rfl | rfl | rfl | rfl | rfl <;> rfl
theorem JS{s z:StU}(hk:k<8):z.l.getD k 0+s.l.getD k 0=(fT s z).l.getD k 0:=by rw[<-zip_get hk,UInt32.add_comm]
theorem tU{L:List UInt32}{g:Nat}(hb:w.heap[g]?=some (.cells (wsC L) T (0,0)))(hk:k<L.length):w.cell? ⟨g,k,none⟩=some (.int .u32 (nU (L.getD k 0))):=by
 rw[cell_of_row w g k _ _ _ hb,dN L hk]
theorem rblock(w:World)(s:StU)(A:Option Addr)(cap:Nat)(bs:List UInt8)(gk f6:Nat)(TK:TypeId)(h:b9 w A 64 bs)(hk:w.heap[gk]?=some (.cells (wsC kU) TK (0,0))) :
  Calls prog 182 #[.agg (wsC s.l),.slice A 64 cap,.slice (some ⟨gk,0,none⟩) 64 f6] w λe w'=>e=.returned (.agg (wsC (rJ s bs).l))/\Below w.heap.size w w':=by
 have g9:gk<w.heap.size:=(aG hk).1;have a1:Below w.heap.size w (((w.alloc (.cells (wsC s.l) 251)).alloc (.cells (wsC (zU 8)) 251)).alloc (.cells (wsC (zU 64)) 322)):=((bA).alloc sI _).alloc sO _;have O:=heap_alloc_new ((w.alloc (.cells (wsC s.l) 251)).alloc (.cells (wsC (zU 8)) 251)) (.cells (wsC (zU 64)) 322);rw[(sI:((w.alloc (.cells (wsC s.l) 251)).alloc (.cells (wsC (zU 8)) 251)).heap.size=w.heap.size+2)]at O;have a8:(((w.alloc (.cells (wsC s.l) 251)).alloc (.cells (wsC (zU 8)) 251)).alloc (.cells (wsC (zU 64)) 322)).heap[w.heap.size+1]?=some (.cells (wsC (zU 8)) 251 (0,0)):=by
  rw[Below.heap_alloc _ _ _ sI];have:=heap_alloc_new (w.alloc (.cells (wsC s.l) 251)) (.cells (wsC (zU 8)) 251);simpa using this
 have c9:(((w.alloc (.cells (wsC s.l) 251)).alloc (.cells (wsC (zU 8)) 251)).alloc (.cells (wsC (zU 64)) 322)).heap[w.heap.size]?=some (.cells (wsC s.l) 251 (0,0)):=by
  rw[Below.heap_alloc _ _ _ sO,Below.heap_alloc _ _ _ sI];exact heap_alloc_new _ _
 have hA:∀x∈blk A,x<w.heap.size:=by
  obtain⟨q,o,rfl,_⟩:=b9.get h (i:=0) oM;intro x hx;simp[blk]at hx;subst hx;exact SlR.old h rfl oM
 have h0:=h.below a1;have e1:=(a1.block gk g9).trans hk;clear h hk;go_enter func182,ntmps182
 go_upto_region 3 with fail
 obtain⟨g,hg⟩:=eX w.heap.size
 have Hg:=dH hg;obtain⟨W,hW⟩:=eR (((w.alloc (.cells (wsC s.l) 251)).alloc (.cells (wsC (zU 8)) 251)).alloc (.cells (wsC (zU 64)) 322))
 rw[<-hW]at a1 c9 a8 O h0 e1 |-;rw[hg]at a1 c9 a8 O g9 hA |-;obtain⟨g2,a0⟩:=eX (g+1)
 obtain⟨g3,h6⟩:=eX (g2+1)
 rw[(oM:g+2=g3)]at O;rw[a0]at a8;simp only[a0,h6];have j5:g<g2:=oM;have j4:g2<g3:=oM;have l5:g3<W.heap.size:=(aG O).1;clear hg hW a0 h6;go_loopw [8,9,10] (λn _ _ wr=>∃k:Nat,k<=64/\n=.int .i64 k/\wr.heap[g3]?=some (.cells (wsC (wsU bs k)) 322 (0,0))/\z8 [g3] W wr) (λn _ _ _=>64-(intOf n).toNat)
 case atStart=>exact⟨0,zL,rfl,O,z8.refl _ _⟩
 case round =>
  obtain⟨k,hk,rfl,hc,d⟩:=hrel;by_cases E:k<64
  ·by_cases i0:k<16
   ·obtain⟨m,hm⟩:∃m:Nat,4*k=m:=⟨_,rfl⟩
    have em:4*(k:Int)=(m:Int):=oM;have e3:=rword wr A cap 64 bs (h0.kept d (λx hx=>oS (hA x hx))) m oM oM;have H:zw bs m=fW bs (yS bs k) k:=by unfold fW;rw[if_pos i0,hm]
    rw[H]at e3;clear H hm;(go_wp2_with fail);refine e3.mono ?_;rintro e w2 ⟨rfl,f3⟩;have j3:g3<wr.heap.size:=(aG hc).1;have t:=(f3.block g3 j3).trans hc;have x9:w2.cell? ⟨g3,k,none⟩=some (.int .u32 (nU ((wsU bs k).getD k 0))):=tU t (by rw[fY _ hk];exact E);have f9:w2.frozen? ⟨g3,k,none⟩=false:=by simp[frozen?,t]
    have e7:=zE t k (.int .u32 (nU (fW bs (yS bs k) k)));rw[dM,Y7 bs E]at e7;have Y:z8 [g3] W (w2.setCell ⟨g3,k,none⟩ (.int .u32 (nU (fW bs (yS bs k) k)))):=z8.trans (z8.trans d (z8.of_below f3) sI) (z8.setCell w2 ⟨g3,k,none⟩ _) sI;have k4:=dH e7;clear e3 f3 t e7 d hc em;(go_wp2_with fail);go_roundw
    case rel=>exact⟨k+1,oM,by go_num,k4.out,Y⟩
    case measure=>exact sZ
   ·have gt:∀j:Nat,j<k->wr.cell? ⟨g3,j,none⟩=some (.int .u32 (nU ((yS bs k).getD j 0))):=λj hj=>by
     rw[tU hc (by rw[fY _ hk];omega),wsU_get bs hj]
    obtain⟨a,ha⟩:∃a:Nat,k=a+16:=⟨k-16,oM⟩
    obtain⟨a5,j7⟩:∃a5:Nat,a+1=a5:=⟨_,rfl⟩
    obtain⟨a2,j8⟩:∃a2:Nat,a+14=a2:=⟨_,rfl⟩
    obtain⟨a7,j6⟩:∃a7:Nat,a+9=a7:=⟨_,rfl⟩
    have l0:(k:Int)-15=(a5:Int):=oM;have k8:IntKind.i64.wrap (a5:Int)=(a5:Int):=by simp[IntKind.wrap,IntKind.bits,IntKind.signed];omega
    have l3:(a5:Int)<64:=oM;have g0:=gt a5 oM;have s2:(k:Int)-2=(a2:Int):=oM;have w2:IntKind.i64.wrap (a2:Int)=(a2:Int):=by simp[IntKind.wrap,IntKind.bits,IntKind.signed];omega
    have l2:(a2:Int)<64:=oM;have x2:=gt a2 oM;have k9:(k:Int)-16=(a:Int):=oM;have w16:IntKind.i64.wrap (a:Int)=(a:Int):=by simp[IntKind.wrap,IntKind.bits,IntKind.signed];omega
    have l1:(a:Int)<64:=oM;have d2:=gt a oM;have s7:(k:Int)-7=(a7:Int):=oM;have w7:IntKind.i64.wrap (a7:Int)=(a7:Int):=by simp[IntKind.wrap,IntKind.bits,IntKind.signed];omega
    have l7:(a7:Int)<64:=oM;have x7:=gt a7 oM;have H:(yS bs k).getD a 0+sg0 ((yS bs k).getD a5 0)+(yS bs k).getD a7 0+sg1 ((yS bs k).getD a2 0)=fW bs (yS bs k) k:=by
     unfold fW;rw[if_neg i0,(oM:k-16=a),(oM:k-15=a5),(oM:k-7=a7),(oM:k-2=a2)]
    obtain⟨f8,i1⟩:=eX ((yS bs k).getD a5 0)
    obtain⟨z2,h2⟩:=eX ((yS bs k).getD a2 0)
    obtain⟨k7,h3⟩:=eX ((yS bs k).getD a 0)
    obtain⟨z7,h4⟩:=eX ((yS bs k).getD a7 0)
    rw[i1]at g0 H;rw[h2]at x2 H;rw[h3]at d2 H;rw[h4]at x7 H;unfold sg0 sg1 at H;have i8:=dH H;have c1:=λw=>rN f8 7 oM oM w;have c2:=λw=>rN f8 18 oM oM w;have c3:=λw=>rN z2 17 oM oM w;have c4:=λw=>rN z2 19 oM oM w;clear gt H i1 h2 h3 h4 ha j7 j8 j6;go_upto_region 9 with fail
    have d7:g3∉([]:List Nat):=sI;refine kF ([]:List Nat) wr ?_;intro N hS;have b0:=zF d2 d7;have b1:=zF x7 d7;have F:wr.drew.heap[g3]?=some (.cells (wsC (wsU bs k)) 322 (0,0)):=hc;have x9:wr.drew.cell? ⟨g3,k,none⟩=some (.int .u32 (nU ((wsU bs k).getD k 0))):=tU F (by rw[fY _ hk];exact E);have f9:wr.drew.frozen? ⟨g3,k,none⟩=false:=by simp[frozen?,F]
    refine lQ ?_;intro K hK;refine(c1 _).mono ?_;rintro e w' ⟨rfl,rfl⟩;refine⟨_,rfl,hS,hK _ _ ?_⟩;clear hK K;refine lQ ?_;intro K hK;refine(c2 _).mono ?_;rintro e w' ⟨rfl,rfl⟩;refine⟨_,rfl,hS,hK _ _ ?_⟩;clear hK K;refine lQ ?_;intro K hK;refine(c3 _).mono ?_;rintro e w' ⟨rfl,rfl⟩;refine⟨_,rfl,hS,hK _ _ ?_⟩;clear hK K;refine lQ ?_;intro K hK;refine(c4 _).mono ?_;rintro e w' ⟨rfl,rfl⟩;refine⟨_,rfl,hS,hK _ _ ?_⟩;clear hK K;refine lZ ?_;refine qY ?_ ?_;(focus(simp only[yL];done));intro K hK;go_simp;rw[i8.out];refine hK _ _ ?_;clear hK K;have t:=zE F k (.int .u32 (nU (fW bs (yS bs k) k)));rw[dM,Y7 bs E]at t;have Y:z8 [g3] W (wr.drew.setCell ⟨g3,k,none⟩ (.int .u32 (nU (fW bs (yS bs k) k)))):=z8.trans (z8.trans d (z8.drew wr) sI) (z8.setCell wr.drew ⟨g3,k,none⟩ _) sI;clear N hS d7 x9 f9 hc F d i8 b0 b1 d2 x7 g0 x2 c1 c2 c3 c4;(go_wp2_with fail);go_roundw
    case rel=>exact⟨k+1,oM,by go_num,t,Y⟩
    case measure=>exact sZ
  ·have G:k=64:=oM;rw[G,wsU_all]at hc;have d4:=qK bs 64;obtain⟨ws,J⟩:=eX (yS bs 64)
   have g7:rJ s bs=fT s (lB ws s 64):=by rw[<-J];rfl
   rw[J]at hc d4;have j9:=dH d4;have k1:=dH g7;have r:=(d.block g oM sO).trans c9;have D:=(d.block g2 oM sO).trans a8;have b6:=(d.block gk oM sO).trans e1;have Z:Below g w wr:=a1.trans (d.below (B:=g) oM sO);have c0:g3<wr.heap.size:=oH d.size;have a4:z9 wr g 0 8=some (wsC s.l):=by unfold z9;rw[r];simp[s.l_len]
   have a6:=heap_alloc_new wr (.cells (wsC s.l) 251);have j1:=nJ wr wr.heap.size rfl (wsC (zU 8)) (by simp[fX]) s.l s.l_len 251;have f2:Below g w (wr.alloc (.cells (wsC s.l) 251)):=Z.alloc (by have:=Z.size;have:=Hg.out;omega) _;have ha:=z8.alloc wr (.cells (wsC s.l) 251);have X:=(ha.block g oM sI).trans r;have R:=(ha.block g2 oM sI).trans D;have d8:=(ha.block gk oM sI).trans b6;have e4:=(ha.block g3 c0 sI).trans hc;clear J g7 d4 G d c9 a8 O e1 h0 a1 r D b6 Z hc ha;go_upto_region 11 with fail
   obtain⟨gv,h5⟩:=eX wr.heap.size
   obtain⟨V,hV⟩:=eR (wr.alloc (.cells (wsC s.l) 251))
   rw[<-hV]at a6 f2 X R d8 e4 |-;rw[h5]at a6 c0 |-;have j2:gv<V.heap.size:=(aG a6).1;clear j1 a4 hV h5;(go_wp2_with fail);go_loopw [12,13,14,15,16,17] (λn _ _ _ _ _ wr=>∃(k:Nat) (z:StU),k<=64/\n=.int .i64 k/\Hid (lB ws s k=z)/\wr.heap[gv]?=some (.cells (wsC z.l) 251 (0,0))/\z8 [gv] V wr) (λn _ _ _ _ _ _=>64-(intOf n).toNat)
   case atStart=>exact⟨0,s,oM,rfl,(show _=_ from rfl),a6,z8.refl _ _⟩
   case round =>
    clear a6;obtain⟨k,z,hk,rfl,hz,hc,d⟩:=hrel;by_cases E:k<64
    ·have c8:lB ws s (k+1)=rndU z (kU.getD k 0) (ws.getD k 0):=by rw[lB,hz.out]
     obtain⟨za,zb,zc,zd,ze,zf,zg,zh⟩:=z;have ys:=λj (hj:j<8)=>tU hc (k:=j) hj;have y0:=ys 0 oM;have y1:=ys 1 oM;have y2:=ys 2 oM;have y4:=ys 4 oM;have y5:=ys 5 oM;have y6:=ys 6 oM;have y7:=ys 7 oM;simp only[StU.l,getD_cons_zero,getD_cons_succ]at y0 y1 y2 y4 y5 y6 y7;have b6:=(d.block gk oM sO).trans d8;have h7:=(d.block g3 oM sO).trans e4;have yk:wr.cell? ⟨gk,k,none⟩=some (.int .u32 (nU (kU.getD k 0))):=tU b6 E;have yw:wr.cell? ⟨g3,k,none⟩=some (.int .u32 (nU (ws.getD k 0))):=tU h7 (by rw[j9.out];exact E);obtain⟨kv,a9⟩:=eX (kU.getD k 0)
     obtain⟨wv,g4⟩:=eX (ws.getD k 0)
     rw[a9]at yk c8;rw[g4]at yw c8;have i7:=dH c8;have c6:=λw=>rN ze 6 oM oM w;have i5:=λw=>rN ze 11 oM oM w;have i2:=λw=>rN ze 25 oM oM w;have c2:=λw=>rN za 2 oM oM w;have i4:=λw=>rN za 13 oM oM w;have i3:=λw=>rN za 22 oM oM w;clear c8 a9 g4 b6 h7 ys;go_upto_region 16 with fail
     have q1:gv∉([]:List Nat):=sI;have q2:gk∉([]:List Nat):=sI;have q3:g3∉([]:List Nat):=sI;refine kX ([]:List Nat) wr ?_;intro N hS;have b1:=zF y7 q1;have b2:=zF y5 q1;have b3:=zF y6 q1;have b4:=zF yk q2;have b5:=zF yw q3;refine lQ ?_;intro K hK;refine(c6 _).mono ?_;rintro e w' ⟨rfl,rfl⟩;refine⟨_,rfl,hS,hK _ _ ?_⟩;clear hK K;refine lQ ?_;intro K hK;refine(i5 _).mono ?_;rintro e w' ⟨rfl,rfl⟩;refine⟨_,rfl,hS,hK _ _ ?_⟩;clear hK K;refine lQ ?_;intro K hK;refine(i2 _).mono ?_;rintro e w' ⟨rfl,rfl⟩;refine⟨_,rfl,hS,hK _ _ ?_⟩;clear hK K;refine lZ ?_;refine zC ?_;intro hS;have e0:z8 [gv] V wr.drew:=z8.trans d hS sI;have F:wr.drew.heap[gv]?=some (.cells (wsC (StU.l ⟨za,zb,zc,zd,ze,zf,zg,zh⟩)) 251 (0,0)):=hc;have y1:wr.drew.cell? ⟨gv,1,none⟩=some (.int .u32 (nU zb)):=y1;have y2:wr.drew.cell? ⟨gv,2,none⟩=some (.int .u32 (nU zc)):=y2;obtain⟨wd,g6⟩:=eR wr.drew
     rw[<-g6]at e0 F y1 y2 |-;clear N hS b1 b2 b3 b4 b5 y0 y4 y5 y6 y7 yk yw c6 i5 i2 g6 hc d;go_upto_region 17 with fail
     refine kX ([]:List Nat) wd ?_;intro N hS;have b1:=zF y1 q1;have b2:=zF y2 q1;refine lQ ?_;intro K hK;refine(c2 _).mono ?_;rintro e w' ⟨rfl,rfl⟩;refine⟨_,rfl,hS,hK _ _ ?_⟩;clear hK K;refine lQ ?_;intro K hK;refine(i4 _).mono ?_;rintro e w' ⟨rfl,rfl⟩;refine⟨_,rfl,hS,hK _ _ ?_⟩;clear hK K;refine lQ ?_;intro K hK;refine(i3 _).mono ?_;rintro e w' ⟨rfl,rfl⟩;refine⟨_,rfl,hS,hK _ _ ?_⟩;clear hK K;refine lZ ?_;refine zC ?_;intro hS;have d9:z8 [gv] V wd.drew:=z8.trans e0 hS sI;have e5:wd.drew.heap[gv]?=some (.cells (wsC (mvU ⟨za,zb,zc,zd,ze,zf,zg,zh⟩ 7)) 251 (0,0)):=F;obtain⟨we,g5⟩:=eR wd.drew
     rw[<-g5]at d9 e5 |-;clear N hS b1 b2 y1 y2 c2 i4 i3 g5 e0 F;obtain⟨tt,d6⟩:=eX (zh+(tN ze 6 ^^^ tN ze 11 ^^^ tN ze 25)+(ze &&& zf ^^^ ~~~ze &&& zg)+kv+wv)
     obtain⟨uu,d5⟩:=eX ((tN za 2 ^^^ tN za 13 ^^^ tN za 22)+(za &&& zb ^^^ za &&& zc ^^^ zb &&& zc))
     rw[d6,d5];have g1:rndU ⟨za,zb,zc,zd,ze,zf,zg,zh⟩ kv wv=⟨tt+uu,za,zb,zc,zd+tt,ze,zf,zg⟩:=by rw[<-d6,<-d5];rfl
     have i6:=dH g1;clear d6 d5 g1;go_upto_region 19 with fail
     go_loopw [17] (λjv wr=>∃j:Nat,j<=7/\jv=.int .i64 j/\wr.heap[gv]?=some (.cells (wsC (mvU ⟨za,zb,zc,zd,ze,zf,zg,zh⟩ j)) 251 (0,0))/\z8 [gv] we wr) (λjv _=>(intOf jv).toNat)
     case atStart=>exact⟨7,oM,rfl,e5,z8.refl _ _⟩
     case round =>
      clear e5;obtain⟨j,hj,rfl,I,d0⟩:=hrel;by_cases l4:0<j
      ·obtain⟨i,hi⟩:∃i,j=i+1:=⟨j-1,oM⟩
       have es:(j:Int)-1=(i:Int):=oM;have li:(i:Int)<8:=oM;have lj:(j:Int)<8:=oM;have U:=mvU_len ⟨za,zb,zc,zd,ze,zf,zg,zh⟩ hj;have x0:wr.cell? ⟨gv,i,none⟩=some (.int .u32 (nU ((StU.l ⟨za,zb,zc,zd,ze,zf,zg,zh⟩).getD i 0))):=by
        rw[tU I (by rw[U];omega),hi,mvU_get _ oM]
       have x1:wr.cell? ⟨gv,j,none⟩=some (.int .u32 (nU ((mvU ⟨za,zb,zc,zd,ze,zf,zg,zh⟩ j).getD j 0))):=tU I (by rw[U];omega);have f1:wr.frozen? ⟨gv,j,none⟩=false:=by simp[frozen?,I]
       have f:=mvU_set ⟨za,zb,zc,zd,ze,zf,zg,zh⟩ (j:=i) oM;rw[<-hi]at f;obtain⟨y,hy⟩:=eX ((StU.l ⟨za,zb,zc,zd,ze,zf,zg,zh⟩).getD i 0)
       rw[hy]at f x0;have t:=zE I j (.int .u32 (nU y));rw[dM,f]at t;have Y:z8 [gv] we (wr.setCell ⟨gv,j,none⟩ (.int .u32 (nU y))):=z8.trans d0 (z8.setCell wr ⟨gv,j,none⟩ _) iL;have k5:=dH t;clear f hy t I d0 U hi;(go_wp2_with fail);go_roundw
       case rel=>exact⟨i,oM,rfl,k5.out,Y⟩
       case measure=>exact sZ
      ·have b8:j=0:=oM;rw[b8]at I;have d1:wr.heap[gv]?=some (.cells (wsC [za,za,zb,zc,zd,ze,zf,zg]) 251 (0,0)):=I;have x4:wr.cell? ⟨gv,4,none⟩=some (.int .u32 (nU zd)):=tU d1 (k:=4) sI;have f4:wr.frozen? ⟨gv,4,none⟩=false:=by simp[frozen?,d1]
       have c5:=zE d1 4 (.int .u32 (nU (zd+tt)));rw[dM]at c5;have x0:(wr.setCell ⟨gv,4,none⟩ (.int .u32 (nU (zd+tt)))).cell? ⟨gv,0,none⟩=some (.int .u32 (nU za)):=tU c5 (k:=0) sI;have f0:(wr.setCell ⟨gv,4,none⟩ (.int .u32 (nU (zd+tt)))).frozen? ⟨gv,0,none⟩=false:=by simp[frozen?,c5]
       have e6:=zE c5 0 (.int .u32 (nU (tt+uu)));rw[dM]at e6;have h8:((wr.setCell ⟨gv,4,none⟩ (.int .u32 (nU (zd+tt)))).setCell ⟨gv,0,none⟩ (.int .u32 (nU (tt+uu)))).heap[gv]?=some (.cells (wsC (StU.l ⟨tt+uu,za,zb,zc,zd+tt,ze,zf,zg⟩)) 251 (0,0)):=e6;have b7:z8 [gv] V ((wr.setCell ⟨gv,4,none⟩ (.int .u32 (nU (zd+tt)))).setCell ⟨gv,0,none⟩ (.int .u32 (nU (tt+uu)))):=z8.trans (z8.trans (z8.trans d9 d0 iL) (z8.setCell _ _ _) iL) (z8.setCell _ _ _) iL;have k3:=dH h8;have k2:=dH b7;have i9:Hid (lB ws s (k+1)=⟨tt+uu,za,zb,zc,zd+tt,ze,zf,zg⟩):=i7.out.trans i6.out;clear d1 c5 e6 h8 b7 I d0 b8 d9 i7 i6 hz;(go_wp2_with fail);go_roundw
       case rel=>exact⟨k+1,_,oM,by go_num,i9,k3.out,k2.out⟩
       case measure=>exact sZ
    ·have G:k=64:=oM;have a3:lB ws s 64=z:=G ▸ hz.out;have k0:Hid (rJ s bs=fT s z):=(show _=_ by rw[k1.out,a3])
     have r:=(d.block g oM sO).trans X;have D:=(d.block g2 oM sO).trans R;have Z:Below g w wr:=f2.trans (d.below (B:=g) oM sO);have e2:gv<wr.heap.size:=oH d.size;clear a3 G hz d X R f2 d8 e4;go_upto_region 25 with fail
     obtain⟨V2,f5⟩:∃V2,V2=wr:=⟨wr,rfl⟩
     go_loopw [18] (λjv wr=>∃j:Nat,j<=8/\jv=.int .i64 j/\wr.heap[gv]?=some (.cells (wsC ((fT s z).l.take j++z.l.drop j)) 251 (0,0))/\z8 [gv] V2 wr) (λjv _=>8-(intOf jv).toNat)
     case atStart=>exact⟨0,oM,rfl,(by rw[hc];rfl),by rw[f5];exact z8.refl _ _⟩
     case round =>
      clear hc;rw[<-f5]at r D Z e2;clear f5;obtain⟨j,hj,rfl,hc,d⟩:=hrel;by_cases E:j<8
      ·have U:((fT s z).l.take j++z.l.drop j).length=8:=by simp[StU.l_len];omega
       have y0:=tU hc (k:=j) (by rw[U];exact E);rw[mix_get (L:=(fT s z).l) (M:=z.l) rfl E]at y0;have y1:wr.cell? ⟨g,j,none⟩=some (.int .u32 (nU (s.l.getD j 0))):=tU ((d.block g oM sO).trans r) E;have f:=mix_set (L:=(fT s z).l) (M:=z.l) rfl E;have d3:=JS (s:=s) (z:=z) E;obtain⟨c1,e9⟩:=eX (z.l.getD j 0)
       obtain⟨c2,t⟩:=eX (s.l.getD j 0)
       rw[e9,t]at d3;rw[e9]at y0;rw[t]at y1;rw[<-d3]at f;have c7:=dH f;clear f d3 e9 t U;go_upto_region 27 with fail
       have q1:gv∉([]:List Nat):=sI;have q2:g∉([]:List Nat):=sI;refine kF ([]:List Nat) wr ?_;intro N hS;have b0:=zF y0 q1;have b1:=zF y1 q2;have F:wr.drew.heap[gv]?=some (.cells (wsC ((fT s z).l.take j++z.l.drop j)) 251 (0,0)):=hc;have x9:wr.drew.cell? ⟨gv,j,none⟩=some (.int .u32 (nU c1)):=y0;have f9:wr.drew.frozen? ⟨gv,j,none⟩=false:=by simp[frozen?,F]
       refine lZ ?_;refine qY ?_ ?_;(focus(simp only[yL];done));intro K hK;go_simp;refine hK _ _ ?_;clear hK K;have a0:=zE F j (.int .u32 (nU (c1+c2)));rw[dM,c7.out]at a0;have Y:z8 [gv] V2 (wr.drew.setCell ⟨gv,j,none⟩ (.int .u32 (nU (c1+c2)))):=z8.trans (z8.trans d (z8.drew wr) sI) (z8.setCell wr.drew ⟨gv,j,none⟩ _) sI;clear N hS x9 f9 hc F d b0 b1 y0 y1 c7;(go_wp2_with fail);go_roundw
       case rel=>exact⟨j+1,oM,by go_num,a0,Y⟩
       case measure=>exact sZ
      ·have h1:j=8:=oM;have e8:(fT s z).l.take j++z.l.drop j=(fT s z).l:=by rw[h1];rfl
       rw[e8]at hc;have a4:z9 wr gv 0 8=some (wsC (fT s z).l):=by unfold z9;rw[hc];simp[StU.l_len]
       have T:=(d.block g2 oM sO).trans D;have j0:=zX (P:=prog) iW wr g2 (wsC (zU 8)) (wsC (fT s z).l) _ T (by simp[fX]) (by simp[StU.l_len]) (pU _);have f7:=dH (setRow_heap wr g2 _ (wsC (fT s z).l) _ _ T);have b7:z8 [g2] wr (wr.setRow g2 (wsC (fT s z).l)):=⟨rfl,rfl,rfl,by simp[setRow],λx _ hx=>setRow_other wr g2 x _ (by simpa using hx)⟩
       have g8:=z8.trans (d.mono (S':=[g2,gv]) sI) (b7.mono (S':=[g2,gv]) sI) iL;have h9:Below g w (wr.setRow g2 (wsC (fT s z).l)):=Z.trans (g8.below oM sO);have k6:=dH h9;clear b7 g8 h9 T hc e8 h1 d r D Z;(go_wp2_with fail);exact bodyPost_ret (results_cell_row results182 _ _ g2 251 (wsC (fT s z).l) (0,0) _ rfl f7.out underlying251 rfl (by rw[bE,StU.l_len];exact iW)) rfl ⟨by rw[k0.out],by rw[Hg.out];exact k6.out⟩
theorem rconsts(w:World):Calls prog 181 #[] w λe w'=>e=.returned (.slice (some ⟨w.heap.size,0,none⟩) 64 64)/\w'=w.alloc (.cells (wsC kU) 250):=by
 go_enter func181,ntmps181
 (go_wp2_with fail);go_ret;exact⟨rfl,kR⟩
theorem rstart(w:World):Calls prog 180 #[] w λe w'=>e=.returned (.agg (wsC xY.l))/\Below w.heap.size w w':=by
 have e:(((((((((wsC (zU 8)).setIfInBounds 0 (.int .u32 1779033703)).setIfInBounds 1 (.int .u32 3144134277)).setIfInBounds 2 (.int .u32 1013904242)).setIfInBounds 3 (.int .u32 2773480762)).setIfInBounds 4 (.int .u32 1359893119)).setIfInBounds 5 (.int .u32 2600822924)).setIfInBounds 6 (.int .u32 528734635)).setIfInBounds 7 (.int .u32 1541459225))=wsC xY.l:=kR;have d:=nJ w w.heap.size rfl (wsC (zU 8)) (by simp[fX]) xY.l xY.l_len 251;have Hn:=dH (heap_alloc_new w (.cells (wsC xY.l) 251));have hb:Below w.heap.size w (w.alloc (.cells (wsC xY.l) 251)):=bA;have Hb:=dH hb;clear hb;go_enter func180,ntmps180
 (go_wp2_with fail);exact bodyPost_ret (results_cell_row results180 _ _ w.heap.size 251 (wsC xY.l) (0,0) _ rfl Hn.out underlying251 rfl (by rw[bE,StU.l_len];exact iW)) rfl ⟨rfl,Hb.out⟩
def BuZ(w:World)(B:Nat)(A:Option Addr)(n cap:Nat)(bs:List UInt8):Prop :=
 bs.length=n/\∃g cur fz,A=some ⟨g,0,none⟩/\B<=g/\w.heap[g]?=some (.cells cur 5 fz)/\n<=cap/\cap<=maxLen/\cur.size=cap/\(fz.2=0\/cap<=fz.1)/\cur.toList.take n=bs.map yG
theorem BuZ.conv(w:World)(B:Nat)(hB:B<=w.heap.size)(s:ByteArray)(hs:s.size<=maxLen) :
  ∃cap,(convert 9 127 (.string s)).run prog w=.ok (.slice (some ⟨w.heap.size,0,none⟩) s.size cap) (Go.Lib.bytesWorld w 5 s)/\BuZ (Go.Lib.bytesWorld w 5 s) B (some ⟨w.heap.size,0,none⟩) s.size cap s.data.toList/\Below w.heap.size w (Go.Lib.bytesWorld w 5 s):=by
 have f:=grownCap_ge w s.size 0 5;have d:(Go.Lib.bytesCells w 5 s).size=grownCap w s.size 0 5:=by simp[Go.Lib.bytesCells];omega
 refine⟨_,Go.Lib.run_convert_string_bytes (P:=prog) w 9 127 5 s underlying9 underlying127 underlying5,⟨rfl,w.heap.size,_,_,rfl,hB,Go.Lib.bytesWorld_at_new w _ s,f,grownCap_le_maxLen w _ _ _ hs,d,.inr (by rw[d];exact lR),?_⟩,?_⟩
 ·have e:s.size=(s.data.toList.map yG).length:=sI;show((Go.Lib.bytesCells w 5 s).toList).take s.size=_;rw[show(Go.Lib.bytesCells w 5 s).toList=s.data.toList.map yG++replicate (grownCap w s.size 0 5-s.size) (.int .u8 0) by simp[Go.Lib.bytesCells,yG],e,take_left]
 ·exact⟨rfl,rfl,rfl,by rw[Go.Lib.bytesWorld_size];omega,λk hk=>Go.Lib.bytesWorld_at_old w _ s k hk⟩
theorem BuZ.at_base(h:BuZ w B A n cap bs):∀x∈blk A,B<=x/\x<w.heap.size:=by
 obtain⟨_,g,d,fz,rfl,hb,hg,_⟩:=h;intro x hx;simp[blk]at hx;subst hx;exact⟨hb,(aG hg).1⟩
theorem BuZ.kept{w':World}{S:List Nat}(h:BuZ w B A n cap bs)(k:z8 S w w')(hn:∀x∈blk A,x∉S):BuZ w' B A n cap bs:=by
 obtain⟨hl,g,d,fz,rfl,hb,hg,hr⟩:=h;exact⟨hl,g,d,fz,rfl,hb,(k.block g (aG hg).1 (hn g (by simp[blk]))).trans hg,hr⟩
theorem BuZ.bytes(h:BuZ w B A n cap bs):b9 w A n bs:=by
 obtain⟨hl,g,d,fz,rfl,hb,hg,m,s,r,_,ht⟩:=h;refine⟨by rw[sW];exact hl,λ_=>⟨g,0,rfl,λi hi=>?_⟩⟩;have k:i<n:=by rw[sW]at hi;omega
 unfold z9;rw[hg];simp only[Nat.zero_add,Nat.mul_one];rw[if_pos oM];congr 1
 have h1:d.toList[i]?=some (yG (bs[i]'oM)):=by
  have h2:=congrArg (λl=>l[i]?) ht;simp only[getElem?_take,if_pos k,getElem?_map,getElem?_eq_getElem (oM:i<bs.length),Option.map_some]at h2;exact h2
 have f:i<d.size:=oM;have h3:d[i]'f=yG (bs[i]'oM):=by
  have:d.toList[i]?=some d[i]:=by rw[Array.getElem?_toList,Array.getElem?_eq_getElem f]
  rw[this]at h1;exact Option.some.inj h1
 apply Array.ext
 ·simp[yH,vY];omega
 ·intro j h4 h5;simp[yH,vY]at h5;subst h5;simp[yH,vY,h3]
theorem BuZ.slw(h:BuZ w B A n cap bs):SlW w A n cap 1 (yH bs):=by
 have hb:=h.bytes;obtain⟨hl,g,f,fz,rfl,_,hg,d,_⟩:=h;exact⟨hb,d,(λe=>by cases e),(λa e=>by injection e with e;rw[<-e])⟩
theorem BuZ.append(h:BuZ w B A n cap bs)(q c:Nat)(x:UInt8)(hx:w.cell? ⟨q,0,none⟩=some (yG x))(hn:n+1<=1000000000)(hB:B<=w.heap.size)(ty:TypeId) :
  ∃A' cap' w',(Builtin.append_ #[127,127] ty #[.slice A n cap,.slice (some ⟨q,0,none⟩) 1 c]).run prog w=.ok (.slice A' (n+1) cap') w'/\BuZ w' B A' (n+1) cap' (bs ++ [x])/\z8 (blk A) w w':=by
 obtain⟨i,z,hi,hz,k,L,D⟩:=qV.info;obtain⟨hl,g,y,fz,rfl,hb,hg,M,J,I,t,ht⟩:=h;have f:∀(j:Nat) u,[yG x][j]?=some u->w.cell? ((⟨q,0,none⟩:Addr).add j)=some u:=by
  intro j u hu;have:j=0:=by
   have:=(List.getElem?_eq_some_iff.1 hu).1;simp at this;exact this
  subst this;simp at hu;subst hu;exact hx
 by_cases d:n+1<=cap
 ·have hc:w.cell? ⟨g,n,none⟩=some (y[n]'oM):=by rw[cell_of_row w g n _ _ _ hg,Array.getElem?_eq_getElem]
  have hf:w.frozen? ⟨g,n,none⟩=false:=by
   simp only[frozen?,hg];rcases t with h | h
   ·simp;omega
   ·simp;omega
  have H:=zE hg n (yG x);refine⟨some ⟨g,0,none⟩,cap,w.setCell ⟨g,n,none⟩ (yG x),?_,⟨by simp[hl],g,_,fz,rfl,hb,H,d,J,by simp[I],t,?_⟩,z8.setCell w ⟨g,n,none⟩ _⟩
  ·have r:=run_firstCells_some (P:=prog) w i.size 1 ⟨q,0,none⟩ 1 c [yG x] (by simp[k]) f;have E:(store (⟨g,n,none⟩:Addr) (yG x) .plain).run prog w=.ok () (w.setCell ⟨g,n,none⟩ (yG x)):=by
    unfold yG;rw[run_store_int];unfold stored;rw[hc,hf];rfl
   simp[Builtin.append_,run_underlying qV.und,sizeOf,typeInfo,hi,k,Builtin.lenOf,d,r,Addr.add_lit];rw[k]at r;rw[r];simp[storeCells,Addr.add,E]
  ·rw[Array.toList_setIfInBounds];have F:n<y.toList.length:=sO;rw[take_set,take_add_one,ht,getElem?_eq_getElem F,Option.toList_some,set_append_right _ _ (by simp[hl])];simp[hl]
 ·have N:n=cap:=oM;have m:∀(j:Nat) v,(bs.map yG)[j]?=some v->w.cell? ((⟨g,0,none⟩:Addr).add j)=some v:=by
   intro j v hv;have hj:j<n:=by have:=(List.getElem?_eq_some_iff.1 hv).1;simpa[hl]using this
   have e:(⟨g,0,none⟩:Addr).add j=⟨g,j,none⟩:=by unfold Addr.add;split <;> simp_all
   rw[e,cell_of_row w g j _ _ _ hg,<-Array.getElem?_toList,<-hv,<-ht,getElem?_take,if_pos hj]
  have G:=grownCap_ge w (n+1) cap 5;have s:grownCap w (n+1) cap 5<=maxLen:=grownCap_le_maxLen w _ _ _ (by simp only[maxLen];omega);have hr:=run_append_grow (P:=prog) w 127 ty 5 i z qV.und hi hz ⟨g,0,none⟩ n cap (bs.map yG) (by simp[hl,k]) m ⟨q,0,none⟩ 1 c [yG x] (by simp[k]) f oM oM (growslice_fits oM (by rw[L];omega));refine⟨_,_,_,hr,⟨by simp[hl],w.heap.size,_,(0,0),rfl,hB,heap_alloc_new w.drew _,G,s,?_,.inl rfl,?_⟩,(z8.trans (z8.drew w) (z8.alloc _ _) sI).mono sI⟩
  ·simp only[Array.size_append,size_toArray,size_zeroCells,D,length_map,hl,length_cons,length_nil];omega
  ·simp only[Array.toList_append];have e:n+1=((bs.map yG) ++ [yG x]).length:=by simp[hl]
   rw[e,take_left];simp
theorem sX{a:Act}{d:List Oper}{dst:Option Tmp}{s x:Operand}{ty:TypeId}{pos:String}{after:Array Edge}
  (hs:a.eval s=.slice A n cap)(f:BuZ w B A n cap bs)
  {q c:Nat}{u:UInt8}(hx:a.eval x=.slice (some ⟨q,0,none⟩) 1 c)(hu:w.cell? ⟨q,0,none⟩=some (yG u))(hn:n+1<=1000000000)(hB:B<=w.heap.size)
  (h:∀A' cap' w',BuZ w' B A' (n+1) cap' (bs ++ [u])->z8 (blk A) w w'->wpList prog ops Q d (a.put dst (.slice A' (n+1) cap')) w') :
  wpList prog ops Q ({ dst:=dst,op:=.call { callee:=.builtin .append,args:=#[s,x],argTypes:=#[127,127] },type:=ty,pos:=pos,after:=after,guard:=none } :: d) a w:=by
 obtain⟨A',cap',w',hr,h1,h2⟩:=f.append q c u hu hn hB ty;exact ZQ hs hx hr (h A' cap' w' h1 h2)
theorem SlW.mid{P:Program}{E:TypeId}{bytes:Nat}(I:yT P T E k bytes)(h:SlW w A n cap k L){m:Nat}(hm:m+j<=n)(hj:0<j) :
  ∃A2,(∀w0:World,(slS T (.slice A n cap) (some (.int .i64 m)) (some (.int .i64 (m+j:Nat))) none).run P w0=.ok (.slice A2 j (cap-m)) w0)/\(∀w':World,SlR w' A n k L->SlR w' A2 j k ((L.drop m).take j)):=by
 have f:=h.le;refine⟨if cap=m then A else A.map λa=>a.add (m*k),λw0=>?_,λw' hL=>?_⟩
 ·rw[wZ I];unfold Instr.slice Instr.sliceBounds;simp only[Sem.run_bind,run_underlying I.und,Result.andThen_ok,Sem.run_pure,k9 w0 (m+j) cap oM,k9 w0 m (m+j) oM,I.sizeOf_run w0,Option.isSome_none,Bool.false_eq_true,if_false];rw[(oM:m+j-m=j)]
 ·have d:¬cap=m:=oM;rw[if_neg d];cases A with
  | none=>exact absurd (h.nil rfl) oM
  | some a =>
   obtain⟨g,o,sp⟩:=a;have:sp=none:=h.plain _ rfl;subst this;have e:(⟨g,o,none⟩:Addr).add (m*k)=⟨g,o+m*k,none⟩:=by unfold Addr.add;split <;> simp_all
   simp only[Option.map_some,e];exact(hL.drop_ (m:=m) oM).take_ oM
theorem KF:∀(L:List UInt32) (i:Nat),i<4*L.length->(L.flatMap b4U).getD i 0=(b4U (L.getD (i / 4) 0)).getD (i % 4) 0
 | [],i,h=>by simp at h
 | x :: L,i,h=>by
  rw[flatMap_cons];by_cases h4:i<4
  ·rw[K9 _ _ _ (by rw[wT];exact h4),(oM:i / 4=0),(oM:i % 4=i)];rfl
  ·have ih:=KF L (i-4) (by simp at h;omega);rw[getD_eq_getElem?_getD,getElem?_append_right (by rw[wT];omega),wT,<-getD_eq_getElem?_getD,ih,(oM:(i-4) % 4=i % 4),(oM:i / 4=(i-4) / 4+1),getD_cons_succ]
theorem b4_get(x:UInt32){b:Nat}(hb:b<4):nU x / 2 ^ (24-8*b) % (256:Int)=((((b4U x).getD b 0).toNat:Nat):Int):=by
 have h4:b=0\/b=1\/b=2\/b=3:=oM;rcases h4 with rfl | rfl | rfl | rfl
 ·exact w24 x
 ·exact w16 x
 ·exact w8 x
 ·have h:=w0 x;show nU x / 1 % 256=_;rw[Int.ediv_one];exact h
theorem out_get(F:StU)(hi:i<32):nU (F.l.getD (i / 4) 0) / 2 ^ (24-8*(i % 4)) % (256:Int)=((((fM F).getD i 0).toNat:Nat):Int):=by
 rw[<-VM,KF _ _ (by rw[F.l_len];omega),b4_get _ oM]
theorem rsum(w:World)(s:ByteArray)(hs:s.size<=1000000) :
  Calls prog 119 #[.string s] w λe w'=>e=.returned (.agg (idC (qI s.data.toList)))/\Below w.heap.size w w':=by
 obtain⟨N,hN⟩:=eX s.size
 obtain⟨l,hl⟩:=eX s.data.toList
 have h5:l.length=N:=by rw[<-hl,<-hN];rfl
 have j1:Below w.heap.size w (w.alloc (.cells (idC id0) 23)):=bA;have hid:=heap_alloc_new w (.cells (idC id0) 23);obtain⟨cap0,d0,B,Z⟩:=BuZ.conv (w.alloc (.cells (idC id0) 23)) (w.heap.size+1) sI s (by simp only[maxLen];omega);rw[hl,hN]at B;rw[hl];have d1:Below w.heap.size w (Go.Lib.bytesWorld (w.alloc (.cells (idC id0) 23)) 5 s):=j1.trans (Z.mono sI);have G:=(Z.block w.heap.size sI).trans hid;have m9:s.size=N:=hN;rw[hN]at hs d0;obtain⟨W,hW⟩:=eX (Go.Lib.bytesWorld (w.alloc (.cells (idC id0) 23)) 5 s)
 obtain⟨A0,f7⟩:=eX (some (⟨(w.alloc (.cells (idC id0) 23)).heap.size,0,none⟩:Addr))
 rw[hW]at d0 B d1 G;rw[f7]at d0 B;obtain⟨ga,i6⟩:=eX w.heap.size
 have q1:=QU W 128;have k2:ga+1<=W.heap.size:=by have:=B.at_base;rw[<-f7]at this;have:=this _ (by simp[blk];rfl);omega
 have d4:=B.kept (z8.alloc W (.cells #[.int .u8 128] 5)) sI;have g5:(W.alloc (.cells #[.int .u8 128] 5)).cell? ⟨W.heap.size,0,none⟩=some (yG 128):=by simp[go_sem,yG]
 have j8:=dH h5;have HN:=dH hN;have m4:=dH i6;rw[i6]at d4 B d1 G;clear j1 hid Z hW f7 h5 hN hl;go_enter func119,ntmps119
 go_wp2_with (at_builtin;refine sX rfl d4 rfl g5 oM sO ?_;intro A1 g1 w1 g4 i4)
 have c6:z8 (blk A0) W w1:=z8.trans ((z8.alloc W _).mono (S':=blk A0) sI) i4 iL;have l9:Below ga w w1:=d1.trans (c6.below oM (λx hx=>oH ((B.at_base x hx).1)));have e8:=(c6.block ga oM (λhx=>oH ((B.at_base ga hx).1))).trans G;have h8:l ++ [128]=l++128 :: replicate 0 0:=rfl;rw[h8]at g4;have k1:=c6.size;clear d4 g5 i4 c6 d1 G B q1 h8 d0;obtain⟨z,hz⟩:=eX ((119-N % 64) % 64)
 have Hz:=dH hz;have j9:z<64:=oM;have h0:(N+1+z) % 64=56:=oM;have h4:∀j,j<z->(N+1+j) % 64≠56:=λj hj=>oM;have j7:=dH h0;have m2:=dH h4;clear hz h0 h4;go_loopw [3] (λsv wr=>∃(j:Nat) (A3:Option Addr) (H:Nat),j<=z/\sv=.slice A3 (N+1+j) H/\BuZ wr (ga+1) A3 (N+1+j) H (l++128 :: replicate j 0)/\wr.heap[ga]?=some (.cells (idC id0) 23 (0,0))/\Below ga w wr/\ga+1<=wr.heap.size) (λsv _=>2000000-V8 sv)
 case atStart=>exact⟨0,A1,g1,oM,rfl,g4,e8,l9,oM⟩
 case round =>
  obtain⟨j,A3,H,hj,rfl,ho,d,hb,a0⟩:=hrel;obtain⟨ln,d9⟩:=eX (N+1+j)
  rw[d9]at ho |-;have c0:=dH d9;have n4:ln<=1000100:=oM;clear d9;by_cases d8:j<z
  ·have e1:((ln:Int) % (64:Int) != 56)=true:=by
    rw[bne_iff_ne];have:=m2.out j d8;have:=c0.out;omega
   have q1:=QU wr 0;have a7:=ho.kept (z8.alloc wr (.cells #[.int .u8 0] 5)) sI;have a6:(wr.alloc (.cells #[.int .u8 0] 5)).cell? ⟨wr.heap.size,0,none⟩=some (yG 0):=by simp[go_sem,yG]
   go_wp2_with (at_builtin;refine sX rfl a7 rfl a6 oM sO ?_;intro A4 g0 w4 g9 i3)
   have t:z8 (blk A3) wr w4:=z8.trans ((z8.alloc wr _).mono (S':=blk A3) sI) i3 iL;have l8:Below ga w w4:=hb.trans (t.below oM (λx hx=>oH ((ho.at_base x hx).1)));have e7:=(t.block ga oM (λhx=>oH ((ho.at_base ga hx).1))).trans d;have n1:=t.size;have h7:l++128 :: replicate j 0 ++ [0]=l++128 :: replicate (j+1) 0:=by
    rw[replicate_succ'];simp
   rw[h7]at g9;clear h7 i3 a7 a6 q1 ho hb t d;go_roundw
   case rel=>exact⟨j+1,A4,g0,oM,(by rw[<-c0.out,Nat.add_assoc]),(by rw[show N+1+(j+1)=ln+1 by have:=c0.out;omega];exact g9),e7,l8,oM⟩
   case measure=>simp[V8];omega
  ·have e5:j=z:=oM;have e1:((ln:Int) % (64:Int) != 56)=false:=by
    rw[bne_eq_false_iff_eq];have:=j7.out;have:=c0.out;omega
   have a9:N+1+z=ln:=by rw[<-c0.out,e5]
   have b8:=dH a9;obtain⟨D,hD⟩:=eX (l++128 :: replicate z 0)
   rw[e5,hD]at ho;have HD:=dH hD;clear e5 a9 hD hj d8;go_upto_region 6 with fail
   go_loopw [3,5] (λsv iv wr=>∃(i r1:Nat) (A5:Option Addr) (y:Nat),i+r1=8/\iv=.int .i64 ((r1:Int)-1)/\sv=.slice A5 (ln+i) y/\BuZ wr (ga+1) A5 (ln+i) y (D++(sK N).take i)/\wr.heap[ga]?=some (.cells (idC id0) 23 (0,0))/\Below ga w wr/\ga+1<=wr.heap.size) (λ_ iv _=>(intOf iv+1).toNat)
   case atStart=>exact⟨0,8,A3,H,rfl,rfl,rfl,(by rw[take_zero,append_nil];exact ho),d,hb,a0⟩
   case round =>
    clear ho hb d a0;obtain⟨i,r1,A5,y,e6,rfl,rfl,ho,d,hb,a0⟩:=hrel;by_cases d8:0<r1
    ·obtain⟨r,hr⟩:∃r:Nat,r1=r+1:=⟨r1-1,oM⟩
     have er:(r1:Int)-1=(r:Int):=oM;have n2:r<8:=oM;have j5:7-i=r:=oM;obtain⟨c,hc⟩:=eX (UInt8.ofNat (N*8 / 2 ^ (8*r)))
     have d5:=VW (n:=N) (i:=i) oM oM;rw[j5,hc]at d5;have eb:(N:Int)*(8:Int) / 2 ^ (8*r) % (256:Int)=((c.toNat:Nat):Int):=by
      rw[<-hc];have h3:((N*8 / 2 ^ (8*r):Nat):Int)=(N:Int)*(8:Int) / 2 ^ (8*r):=sI;rw[<-h3]
      simp
     have q1:=QU wr ((c.toNat:Nat):Int);have a6:(wr.alloc (.cells #[.int .u8 ((c.toNat:Nat):Int)] 5)).cell? ⟨wr.heap.size,0,none⟩=some (yG c):=by simp[go_sem,yG]
     have a7:=ho.kept (z8.alloc wr (.cells #[.int .u8 ((c.toNat:Nat):Int)] 5)) sI;have j6:=dH d5;have c7:i<8:=oM;have m3:=dH e6;have Hr:=dH hr;clear hc hr d5 j5 e6;go_wp2_with (at_builtin;refine sX rfl a7 rfl a6 oM sO ?_;intro A6 f8 w6 Y O)
     have t:z8 (blk A5) wr w6:=z8.trans ((z8.alloc wr _).mono (S':=blk A5) sI) O iL;have b6:Below ga w w6:=hb.trans (t.below oM (λx hx=>oH ((ho.at_base x hx).1)));have A:=(t.block ga oM (λhx=>oH ((ho.at_base ga hx).1))).trans d;have n0:=t.size;have h6:D++(sK N).take i ++ [c]=D++(sK N).take (i+1):=by rw[j6.out];simp
     rw[h6]at Y;clear h6 O a7 a6 q1 ho hb j6 eb t d;(go_wp2_with fail);go_roundw
     case rel=>exact⟨i+1,r,A6,f8,(by have:=m3.out;have:=Hr.out;omega),rfl,rfl,Y,A,b6,oM⟩
     case measure=>exact sZ
    ·have k6:r1=0:=oM;have c7:i=8:=oM;have k8:((r1:Int)-1)<0:=oM;obtain⟨E,hE⟩:=eX (l++wK N)
     have f:D++(sK N).take i=E:=by
      rw[c7,take_of_length_le (by rw[tD];omega),<-HD.out,<-hE];unfold wK;rw[Hz.out];simp
     rw[f]at ho;obtain⟨M,hM⟩:=eX (ln+i)
     have b7:M % 64=0:=by have h1:=b8.out;have h2:=j7.out;omega
     have f6:E.length=M:=by rw[<-hE,length_append,j8.out,nT,Hz.out,<-hM,c7];have:=b8.out;omega
     have n5:M<=1000200:=oM;rw[hM]at ho |-;have b4:(⟨fM (vB (M / 64) xY E),xX _⟩:zA)=qI l:=by
      unfold qI;apply ji;unfold shaU;rw[j8.out,hE,f6]
     have c3:=dH b4;have g3:=dH b7;have n6:=dH f6;have c1:=λw=>rstart w;have c2:=λw=>rconsts w;clear f hM b7 f6 b4 hE c7 k6 e6;(go_wp2_with fail);refine(c1 _).mono ?_;rintro e w5 ⟨rfl,f5⟩;have k3:=nJ w5 w5.heap.size rfl (wsC (zU 8)) (by simp[fX]) xY.l xY.l_len 251;have e4:z8 [] wr (w5.alloc (.cells (wsC xY.l) 251)):=z8.trans (z8.of_below f5) (z8.alloc w5 _) sI;have c5:=heap_alloc_new w5 (.cells (wsC xY.l) 251);have k4:=f5.size;(go_wp2_with fail);refine(c2 _).mono ?_;rintro e w6 ⟨rfl,rfl⟩;obtain⟨gh,e9⟩:=eX w5.heap.size
     obtain⟨V,hV⟩:=eR (w5.alloc (.cells (wsC xY.l) 251))
     have d2:V.heap.size=gh+1:=by rw[hV,<-e9];simp
     rw[<-hV]at e4 c5 |-;rw[e9]at c5 k4 |-;rw[d2];have O:z8 [] wr (V.alloc (.cells (wsC kU) 250)):=z8.trans e4 (z8.alloc V _) sI;have c9:=heap_alloc_new V (.cells (wsC kU) 250);rw[d2]at c9;have T:=(Below.heap_alloc V (.cells (wsC kU) 250) gh oM).trans c5;have Y:=ho.kept O sI;have A:=(O.block ga oM sI).trans d;have b6:Below ga w (V.alloc (.cells (wsC kU) 250)):=hb.trans (O.below oM sI);have j4:=ho.at_base;obtain⟨U,hU⟩:=eR (V.alloc (.cells (wsC kU) 250))
     have m0:U.heap.size=gh+2:=by rw[hU];simp[d2]
     rw[<-hU]at c9 T Y A b6 |-;have j3:∀x∈blk A5,x≠gh:=λx hx=>(oH ((j4 x hx).2));have m7:=dH j3;have l5:ga<gh:=oM;have m1:gh+1<U.heap.size:=oM;clear hU hV e9 e4 c5 k3 f5 ho d hb O d2 m0 j4 j3 c1 c2;go_upto_region 12 with fail
     go_loopw [8] (λiv wr=>∃(k m:Nat),64*k=m/\m<=M/\iv=.int .i64 m/\wr.heap[gh]?=some (.cells (wsC (vB k xY E).l) 251 (0,0))/\z8 [gh] U wr) (λiv _=>M+64-(intOf iv).toNat)
     case atStart=>exact⟨0,0,rfl,oM,rfl,T,z8.refl _ _⟩
     case round =>
      clear T;obtain⟨k,m,l1,n3,rfl,hc,g⟩:=hrel;by_cases l0:m<M
      ·have d7:m+64<=M:=oH g3.out;have d3:=Y.kept g (λx hx=>by simpa using m7.out x hx);obtain⟨A7,a5,g7⟩:=d3.slw.mid qV (m:=m) (j:=64) d7 oM;have a3:∀w0:World,(slS 127 (.slice A5 M y) (some (.int .i64 m)) (some (.int .i64 ((m:Int)+64))) none).run prog w0=.ok (.slice A7 64 (y-m)) w0:=λw0=>by
        have h:=a5 w0
        rwa [(oM:((m+64:Nat):Int)=(m:Int)+64)]at h
       have b5:b9 wr A7 64 ((E.drop m).take 64):=by
        have h:=g7 wr d3.slw.rd;unfold yH at h;rw[<-map_drop,<-map_take]at h;exact h
       have i0:=(g.block (gh+1) m1 sI).trans c9;have cb:=rblock wr.drew (vB k xY E) A7 (y-m) ((E.drop m).take 64) (gh+1) 64 250 (b5.kept (z8.drew wr) sI) i0;have a2:rJ (vB k xY E) ((E.drop m).take 64)=vB (k+1) xY E:=by rw[aM,l1]
       rw[a2]at cb;have k0:IntKind.i64.wrap ((m:Int)+64)=(m:Int)+64:=by simp[IntKind.wrap,IntKind.bits,IntKind.signed];omega
       have c8:gh<wr.heap.size:=(aG hc).1;have J:z9 wr gh 0 8=some (wsC (vB k xY E).l):=by unfold z9;rw[hc];simp[StU.l_len]
       clear a5 g7 b5 d3 i0 a2;go_upto_region 14 with fail
       have q1:gh∉([]:List Nat):=sI;refine kF ([]:List Nat) wr ?_;intro k9 hS;have b0:=zY J q1;refine lQ ?_;intro K hK;refine cb.mono ?_;rintro e w7 ⟨rfl,f4⟩;have e0:z8 [] wr w7:=z8.trans (z8.drew wr) (z8.of_below f4) sI;replace hS:=bM hS f4;refine⟨_,rfl,hS,hK _ _ ?_⟩;clear hK K;have f1:=(e0.block gh c8 sI).trans hc;have a1:=zX (P:=prog) iW w7 gh (wsC (vB k xY E).l) (wsC (vB (k+1) xY E).l) _ f1 (by simp[StU.l_len]) (by simp[StU.l_len]) (pU _);have l7:=setRow_heap w7 gh _ (wsC (vB (k+1) xY E).l) _ _ f1;have i2:z8 [gh] w7 (w7.setRow gh (wsC (vB (k+1) xY E).l)):=⟨rfl,rfl,rfl,by simp[setRow],λx _ hx=>setRow_other w7 gh x _ (by simpa using hx)⟩
       have t:z8 [gh] U (w7.setRow gh (wsC (vB (k+1) xY E).l)):=z8.trans (z8.trans g (e0.mono (S':=[gh]) sI) iL) i2 iL;refine lZ ?_;refine qY ?_ ?_;(focus(simp only[yL];done));intro K hK;go_simp;refine hK _ _ ?_;clear hK K;clear k9 hS b0 J hc f1 e0 i2 g f4 cb a1 a3;(go_wp2_with fail);go_roundw
       case rel=>exact⟨k+1,m+64,oM,oM,by go_num,l7,t⟩
       case measure=>exact sZ
      ·have d6:m=M:=oM;have i1:k=M / 64:=oM;obtain⟨F,hF⟩:=eX (vB (M / 64) xY E)
       rw[i1,hF]at hc;rw[hF]at c3;have c8:gh<wr.heap.size:=(aG hc).1;have d:=(g.block ga oM sO).trans A;have i8:Below ga w wr:=b6.trans (g.below oM sO);have ha:=z8.alloc wr (.cells (idC id0) 23);have b3:=heap_alloc_new wr (.cells (idC id0) 23);have f0:=(ha.block gh c8 sI).trans hc;have R:=(ha.block ga oM sI).trans d;have f3:Below ga w (wr.alloc (.cells (idC id0) 23)):=i8.trans (ha.below oM sI);clear hF i1 d6 g d i8 ha hc A b6 Y c9;go_upto_region 17 with fail
       obtain⟨gb,i5⟩:=eX wr.heap.size
       obtain⟨V,hV⟩:=eR (wr.alloc (.cells (idC id0) 23))
       rw[<-hV]at b3 f3 R f0 |-;rw[i5]at b3 c8 |-;have l3:gb<V.heap.size:=(aG b3).1;clear hV i5;go_loopw [10] (λiv wr=>∃i:Nat,i<=32/\iv=.int .i64 i/\wr.heap[gb]?=some (.cells (idA (fM F) i) 23 (0,0))/\z8 [gb] V wr) (λiv _=>32-(intOf iv).toNat)
       case atStart=>exact⟨0,oM,rfl,(by rw[jj];exact b3),z8.refl _ _⟩
       case round =>
        clear b3;obtain⟨i,hi,rfl,hc,g⟩:=hrel;by_cases a8:i<32
        ·have i7:=(g.block gh oM sO).trans f0;have x0:wr.cell? ⟨gh,i / 4,none⟩=some (.int .u32 (nU (F.l.getD (i / 4) 0))):=tU i7 (by rw[F.l_len];omega);have c4:=out_get F a8;have k7:=xX F;have L:=idA_set (fM F) i oM a8;have j0:(fM F).getD i 0=(fM F)[i]'oM:=by rw[getD_eq_getElem?_getD,getElem?_eq_getElem oM];rfl
         rw[j0]at c4;obtain⟨bb,i9⟩:=eX ((fM F)[i]'oM)
         rw[i9]at c4 L;obtain⟨x,hx⟩:=eX (F.l.getD (i / 4) 0)
         rw[hx]at c4 x0;obtain⟨a4,j2⟩:=eX (i / 4)
         obtain⟨r4,g8⟩:=eX (i % 4)
         obtain⟨sh,g6⟩:=eX (24-8*r4)
         rw[j2]at x0;rw[g8,g6]at c4;have e1:(i:Int) / (4:Int)=(a4:Int):=oM;have e2:(i:Int) % (4:Int)=(r4:Int):=oM;have e3:(24:Int)-8*(r4:Int)=(sh:Int):=oM;have l4:(a4:Int)<8:=oM;have m8:(sh:Int)<=32:=oM;have a0:=idA_size (fM F) i oM oM;have l6:∃v,wr.cell? ⟨gb,i,none⟩=some v:=⟨(idA (fM F) i)[i]'oM,by rw[cell_of_row wr gb i _ _ _ hc,Array.getElem?_eq_getElem]⟩
         obtain⟨v9,x9⟩:=l6;have f9:wr.frozen? ⟨gb,i,none⟩=false:=by simp[frozen?,hc]
         have f2:=zE hc i (.int .u8 ((bb.toNat:Nat):Int));have I:(idA (fM F) i).setIfInBounds i (.int .u8 ((bb.toNat:Nat):Int))=idA (fM F) (i+1):=L;rw[I]at f2;have l2:z8 [gb] V (wr.setCell ⟨gb,i,none⟩ (.int .u8 ((bb.toNat:Nat):Int))):=z8.trans g (z8.setCell wr ⟨gb,i,none⟩ _) iL;have m5:=dH f2;clear L I f2 a0 i9 j0 k7 hx j2 g8 g6 hc g i7;(go_wp2_with fail);go_roundw
         case rel=>exact⟨i+1,oM,by go_num,m5.out,l2⟩
         case measure=>exact sZ
        ·have b2:i=(fM F).length:=by rw[xX];omega
         have f:=idA_full (fM F) (.inl (xX F));rw[b2,f]at hc;have b1:xQ (fM F)=qI l:=by rw[<-c3.out];unfold xQ;rw[dif_pos (xX F)]
         rw[b1]at hc;have k5:z9 wr gb 0 32=some (idC (qI l)):=by unfold z9;rw[hc];simp
         have X:=(g.block ga oM sO).trans R;have a1:=zX (P:=prog) xP wr ga (idC id0) (idC (qI l)) _ X sI sI (yN _);have g2:=dH (setRow_heap wr ga _ (idC (qI l)) _ _ X);have t:z8 [ga] wr (wr.setRow ga (idC (qI l))):=⟨rfl,rfl,rfl,by simp[setRow],λx _ hx=>setRow_other wr ga x _ (by simpa using hx)⟩
         have h9:=z8.trans (g.mono (S':=[ga,gb]) sI) (t.mono (S':=[ga,gb]) sI) iL;have Z:Below ga w (wr.setRow ga (idC (qI l))):=f3.trans (h9.below oM sO);have m6:=dH Z;clear t h9 Z X hc g R f3 f b2 b1 f0;(go_wp2_with fail);exact bodyPost_ret (results_cell_row results119 _ _ ga 23 (idC (qI l)) (0,0) _ rfl g2.out underlying23 rfl (by rw[xM];exact xP)) rfl ⟨rfl,by rw[m4.out];exact m6.out⟩
theorem lY(m n:Nat):(⟨(beL m n).toArray⟩:ByteArray).size=m:=by
 show(beL m n).toArray.size=m;simp[xA]
theorem ZO{s:ByteArray}(h:j5 s=0):s.size<=12:=by
 by_cases hf:jT s=true
 ·exact(mK hf).2
 ·have h1:yF s=0:=if_neg hf;have h2:j5 s=9:=if_pos h1;rw[h2]at h;exact absurd h (by decide)
end Go.Proofs.YtddopbhcpblpjaaGreatDoor
