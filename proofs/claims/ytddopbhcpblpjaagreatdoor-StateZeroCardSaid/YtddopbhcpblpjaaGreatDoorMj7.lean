/- Part 7 of the texts that lead to this claim: the walks of the functions and the plain law, in order. -/
import Derived.Test.YtddopbhcpblpjaaGreatDoorMj6
import Derived.Laws.Bits64b
namespace Go.Proofs.YtddopbhcpblpjaaGreatDoor
open Go.RowKit
open List hiding and get max min or set
open Go.Proofs.Tryz
open World
set_option maxRecDepth 100000
set_option maxHeartbeats 8000000
variable {E:TypeId}{k n:Nat}{w w':World}{L:List (Array Value)}{O:List Nat}{v:Value}{A:Option Addr}{R:List xB}{cs:Array Value}
section
open Go.RowKit Go.Sort Go.Shelf
instance:Inhabited jO:=⟨lI⟩
@[go_sem ↓] theorem eqPair_run(x y:jO)(w:World):(Op.equalIn 10000 179 (.agg (yB x)) (.agg (yB y))).run prog w=.ok (t7 x y) w:=KI x y w
def jF(x y:jO):Int:=orL [qS x.key y.key,qS x.val y.val]
theorem wV:qJ jF:=(JC.pair JC).of (λx:jO=>(x.key,x.val)) (λx y h=>by
 cases x;cases y
 simp only[Prod.mk.injEq]at h;obtain⟨h1,h2⟩:=h;subst h1;subst h2;rfl) (λx y=>orL2 _ _)
theorem Own.hi_at{P:Program}{T:TypeId}{bytes:Nat}(I:yT P T E k bytes){B g cap:Nat}(h:Own w B E k (some ⟨g,0,none⟩) n cap L){m:Nat}(hm:m<n)(w0:World) :
  (slS T (.slice (some ⟨g,0,none⟩) n cap) (some (.int .i64 m)) none none).run P w0=.ok (.slice (some ⟨g,m*k,none⟩) (n-m) (cap-m)) w0:=by
 have hA:=h.cap_le;rw[wZ I];unfold Instr.slice Instr.sliceBounds;simp only[Sem.run_bind,run_underlying I.und,Result.andThen_ok,Sem.run_pure,k9 w0 m n (Nat.le_of_lt hm),I.sizeOf_run w0,Option.isSome_none,Bool.false_eq_true,if_false];rw[if_neg oM];congr 2
 show some ((⟨g,0,none⟩:Addr).add (m*k))=_;unfold Addr.add;split <;> simp_all
theorem Own.get{α:Type}[Inhabited α]{enc:α->Array Value}{B g cap:Nat}{d:Array α}(h:Own w B E k (some ⟨g,0,none⟩) n cap (d.toList.map enc)){j:Nat}(hj:j<n):z9 w g (j*k) k=some (enc d[j]!):=by
 have hl:d.size=n:=by simpa using h.len
 obtain⟨q,o,e,hr⟩:=h.slr.at_ hj;injection e with e;injection e with e1 e2
 subst e1;subst e2;rw[Nat.zero_add]at hr;rw[hr,getElem_map,getElem!_pos d j oM]
 simp
theorem JR(w:World)(B g n cap:Nat)(R:List jO)(F:Own w B 179 2 (some ⟨g,0,none⟩) n cap (R.map yB))(hn:n<=1000000)(hs:R.Pairwise (λx y=>¬jF y x<0)) :
  Calls prog 135 #[.slice (some ⟨g,0,none⟩) n cap] w λe w'=>e=.returned (.slice (some ⟨g,0,none⟩) (kL jF R).length cap)/\Own w' B 179 2 (some ⟨g,0,none⟩) (kL jF R).length cap ((kL jF R).map yB)/\z8 [g] w w':=by
 have L:R.length=n:=by simpa using F.len
 rw[<-pJ wV R hs];obtain⟨d,hd⟩:=eX R.toArray
 have c8:R=d.toList:=by rw[<-hd]
 have a6:d.size=n:=by rw[<-hd];simpa using L
 have c6:Lib.compact R=Lib.compactUpTo d n:=by unfold Lib.compact;rw[hd,L]
 rw[c6];rw[c8]at F;have I:(∀j,j<n->Lib.keeps d j=true)->Lib.compactUpTo d n=d.toList:=λh=>by
  rw[Lib.compactUpTo_all d n h,<-a6];exact Lib.range_map_get d
 have b3:=dH a6;clear hd c8 c6 hs L a6;have f2:g<w.heap.size:=(F.at_base (x:=g) (by simp[blk])).2;go_enter func135,ntmps135
 by_cases h2:n<2
 ·have he:=I (λj hj=>by
   have:j=0:=by
    by_cases h1:j=0
    ·exact h1
    ·have a5:j=1:=oM;omega
   subst this;simp[Lib.keeps])
  have He:=dH he;clear he I;(go_wp2_with fail);go_ret;rw[He.out];have hl:d.toList.length=n:=by rw[Array.length_toList];exact b3.out
  exact⟨by rw[hl];rfl,by rw[hl];exact F,z8.refl _ _⟩
 ·(go_wp2_with fail);go_loopw [3] (λi wr=>∃k:Nat,1<=k/\k<=n/\i=.int .i64 k/\Hid (∀j,j<k->Lib.keeps d j=true)/\Below w.heap.size w wr) (λi _=>n-(intOf i).toNat)
  case atStart=>exact⟨1,lR,oM,rfl,(show ∀j,j<1->_ from Lib.keeps_lt_one d),Below.refl _ _⟩
  case round =>
   obtain⟨k,f1,hk,rfl,N,hb⟩:=hrel;have t:=F.below hb;by_cases b6:k<n
   ·have H:=t.get b6;have G:=t.get (j:=k-1) oM;obtain⟨x,hx⟩:=eX (d[k]!)
    obtain⟨y,hy⟩:=eX (d[k-1]!)
    rw[hx]at H;rw[hy]at G;obtain⟨k1,a4⟩:=eX (k-1)
    have e2:((k:Int)-1)=(k1:Int):=oM;have e1:k1<n:=oM;have e7:IntKind.i64.wrap (k1:Int)=(k1:Int):=IntWalk.i64_in _ oM;rw[a4]at G;obtain⟨eb,c1⟩:=eX (t7 x y)
    have d1:=dH c1;have Hx:=dH hx;have Hy:=dH hy;have f3:=dH a4;clear hx hy a4;go_upto_region 6 with fail
    refine lX wr ?_;intro O hS;have b1:=zV H;have b2:=zV G;refine lZ ?_;refine zC ?_;intro hS;have a7:Below w.heap.size w wr.drew:=hb.drew;have E:Own wr.drew B 179 2 (some ⟨g,0,none⟩) n cap (d.toList.map yB):=t.kept (z8.drew wr) sI;clear O hS b1 b2 H G c1 hb t;obtain⟨W,hW⟩:=eX wr.drew
    rw[hW]at a7 E |-;clear hW;cases eb with
    | false =>
     have O:d[k]!≠d[k-1]!:=by
      rw[Hx.out,Hy.out];intro e;have:=(mB x y).2 e;rw[d1.out]at this;cases this
     have T:=Lib.keeps_pos O;have a8:=dH T;clear O T;(go_wp2_with fail);go_roundw
     case rel=>exact⟨k+1,oM,oM,by go_num,(show ∀j,j<k+1->Lib.keeps d j=true from λj hj=>by
      by_cases e:j=k
      ·rw[e];exact a8.out
      ·exact N.out j oM),a7⟩
     case measure=>exact sZ
    | true =>
     have X:d[k]! = d[k-1]!:=by rw[Hx.out,Hy.out];exact(mB x y).1 d1.out
     have A:=Lib.CompInv.start N.out (Lib.keeps_neg oM X);have a9:=dH A;have e9:=λw0=>E.hi_at (P:=prog) kW b6 w0;clear X A;(go_wp2_with fail);go_loopw [3,5] (λkv iv ws=>∃(k2 kk:Nat) (dk:Array jO),1<=k2/\k2<=n-k/\iv=.int .i64 k2/\kv=.int .i64 kk/\Hid (Lib.CompInv d (k+k2) kk dk)/\Own ws B 179 2 (some ⟨g,0,none⟩) n cap (dk.toList.map yB)/\z8 [g] w ws/\kk<k+k2) (λ_ iv _=>(n-k)-(intOf iv).toNat)
     case atStart=>exact⟨1,k,d,lR,oM,rfl,rfl,a9,E,(z8.of_below a7).mono sI,oM⟩
     case round =>
      obtain⟨k2,kk,dk,e0,d9,rfl,rfl,A,f,a3,d7⟩:=hrel;by_cases d5:k2<n-k
      ·have Z:dk.size=n:=by simpa using f.len
       have H:=f.get (j:=k+k2) oM;have G:=f.get (j:=k+k2-1) oM;obtain⟨x2,a0⟩:=eX (dk[k+k2]!)
       obtain⟨y2,U⟩:=eX (dk[k+k2-1]!)
       have c4:d[k+k2]! = x2:=by rw[<-a0];exact(A.out.high _ oM).symm
       have c3:d[k+k2-1]! = y2:=by rw[<-U];exact(A.out.high _ oM).symm
       rw[a0]at H;rw[U]at G;obtain⟨j1,a5⟩:=eX (k2-1)
       have e4:((k2:Int)-1)=(j1:Int):=oM;have e3:j1<n-k:=oM;have d3:IntKind.i64.wrap (j1:Int)=(j1:Int):=IntWalk.i64_in _ oM;rw[(oM:k+k2-1=k+j1),Nat.add_mul]at G;rw[Nat.add_mul]at H;obtain⟨nb,b5⟩:=eX (t7 x2 y2)
       have c9:=dH b5;have b0:=dH c4;have d2:=dH c3;have f4:=dH a5;have f5:=dH Z;clear a0 U a5 c4 c3 Z;go_upto_region 11 with fail
       refine lX wr ?_;intro O hS;have b1:=zV H;have b2:=zV G;refine lZ ?_;refine zC ?_;intro hS;have M:z8 [g] w wr.drew:=z8.trans a3 (z8.drew wr) sI;have s:Own wr.drew B 179 2 (some ⟨g,0,none⟩) n cap (dk.toList.map yB):=f.kept (z8.drew wr) sI;have a1:z9 wr.drew g (k*2+k2*2) 2=some (yB x2):=H;clear O hS b1 b2 H G b5 a3 f;obtain⟨W2,c7⟩:=eX wr.drew
       rw[c7]at M s a1 |-;clear c7;cases nb with
       | true =>
        have X:d[k+k2]! = d[k+k2-1]!:=by rw[b0.out,d2.out];exact(mB x2 y2).1 c9.out
        have b4:=A.out.skip (Lib.keeps_neg oM X);have e6:=dH b4;clear X b4;(go_wp2_with fail);go_roundw
        case rel=>exact⟨k2+1,kk,dk,oM,oM,by go_num,rfl,(show Lib.CompInv d (k+(k2+1)) kk dk from e6.out),s,M,oM⟩
        case measure=>exact sZ
       | false =>
        have V:d[k+k2]!≠d[k+k2-1]!:=by
         rw[b0.out,d2.out];intro e;have:=(mB x2 y2).2 e;rw[c9.out]at this;cases this
        have T:=A.out.keep (by rw[b3.out];omega) (Lib.keeps_pos V);rw[b0.out]at T;have a8:=dH T;clear V T;obtain⟨w7,e8,J,c0⟩:=VK kW s (i:=kk) oM (cs:=yB x2) sI (g9 x2);have b8:(dk.toList.map yB).set kk (yB x2)=(dk.setIfInBounds kk x2).toList.map yB:=by
         rw[Array.toList_setIfInBounds,map_set]
        rw[b8]at J;have a2:=z8.trans M c0 iL;have d6:kk<n:=oM;clear b8 c0 s;(go_wp2_with fail);go_roundw
        case rel=>exact⟨k2+1,kk+1,_,oM,oM,by go_num,by go_num,(show Lib.CompInv d (k+(k2+1)) (kk+1) _ from a8.out),J,a2,oM⟩
        case measure=>exact sZ
      ·have hm:k+k2=n:=oM;have r:=A.out;rw[hm]at r;have d6:kk<n:=oH r.lt;have Z:dk.size=n:=by simpa using f.len
       have c5:dk.toList.take kk=Lib.compactUpTo d n:=by
        apply ext_getElem?;intro j;by_cases hj:j<kk
        ·rw[r.low j hj,getElem?_take,if_pos hj,Array.getElem?_toList,getElem!_pos dk j oM,Array.getElem?_eq_getElem oM]
        ·rw[getElem?_eq_none sO,getElem?_eq_none (by rw[r.len];omega)]
       obtain⟨A2,c2,d4,w8,e5,D,b9⟩:=VL kW (z:=.agg (yB lI)) kR (g9 lI) f (m:=kk) oM 0;rw[<-map_take,c5]at D;have b7:(Lib.compactUpTo d n).length=kk:=r.len;have f0:=λw0=>SlW.lo (P:=prog) kW f.slw (m:=kk) oM w0;have d8:=z8.trans a3 b9 iL;have d0:=dH b7;have Y:=dH D;clear c5 r b7 D Z hm b9 f;(go_wp2_with fail);go_ret;exact⟨by rw[d0.out];rfl,by rw[d0.out];exact Y.out,d8⟩
   ·have he:=I (λj hj=>N.out j oM);have He:=dH he;clear he I;(go_wp2_with fail);go_ret;rw[He.out];have hl:d.toList.length=n:=by rw[Array.length_toList];exact b3.out
    exact⟨by rw[hl];rfl,by rw[hl];exact t,(z8.of_below hb).mono sI⟩
end
section
open Go.RowKit Go.Sort Go.Shelf
def rP(S:List jO):List jO:=S.mergeSort λx y=>!(ltOf jF y x)
theorem psort_le(S:List jO):(rP S).Pairwise (λx y=>¬jF y x<0):=by
 have f:∀a b:jO,((!ltOf jF b a) || !ltOf jF a b)=true:=λa b=>by
  unfold ltOf;by_cases h1:jF b a<0
  ·have:=wV.asym h1;simp[this]
  ·simp[h1]
 have g:∀a b d:jO,(!ltOf jF b a)=true->(!ltOf jF d b)=true->(!ltOf jF d a)=true:=λa b d h1 h2=>by
  unfold ltOf at *;simp only[Bool.not_eq_true',decide_eq_false_iff_not]at h1 h2 |-;intro h3;exact h2 (wV.le_trans (a:=d) (b:=a) (d:=b) (wV.asym h3) (by
   by_cases e:a=b
   ·subst e;exact absurd h3 h2
   ·exact wV.flip h1 (λe'=>e e'.symm)))
 exact Pairwise.imp (fun {a b} h=>by simpa[ltOf]using h) (pairwise_mergeSort g f S)
theorem XE(S:List jO):(rP S).Perm S:=mergeSort_perm _ _
theorem isAggPair(w:World):(isAgg 179).run prog w=.ok true w:=by simp[isAgg,run_underlying underlying179]
theorem size_pairs(w:World):(Go.sizeOf 179).run prog w=.ok 2 w:=by
 have h:=jf;cases hi:prog.info? 179 with
 | none=>rw[hi]at h;cases h
 | some i =>
  rw[hi]at h;have hk:i.size=2:=by simpa using h
  simp[Go.sizeOf,typeInfo,hi,hk]
theorem mpcmp(x y:jO)(w:World):Calls prog 132 #[.agg (yB x),.agg (yB y)] w λe w'=>e=.returned (.int .i64 (jF x y))/\Gr w w':=by
 go_enter func132,ntmps132
 go_upto_region 1 with fail
 obtain⟨W,hW⟩:=eR ((w.alloc (.cells (yB x) 179)).alloc (.cells (yB y) 179))
 have hB:Gr w W:=by rw[hW];exact((Gr.refl _).alloc _).alloc _
 have a3:W.cell? ⟨w.heap.size,0,none⟩=some (.string x.key):=by rw[hW];simp[go_sem]
 have a4:W.cell? ⟨w.heap.size+1,0,none⟩=some (.string y.key):=by rw[hW];simp[go_sem]
 have a5:W.cell? ⟨w.heap.size,1,none⟩=some (.string x.val):=by rw[hW];simp[go_sem]
 have a6:W.cell? ⟨w.heap.size+1,1,none⟩=some (.string y.val):=by rw[hW];simp[go_sem]
 rw[<-hW];clear hW;refine bF (Gr W) false kR kR kR (Gr.drew W) ?_;have d:=BV W;have hS:=Gr.drew W;have b3:=kC a3;have b4:=kC a4;have b5:=kC a5;have b6:=kC a6;refine lQ ?_;intro K hK;refine(r6 _ _ _).mono ?_;rintro e w' ⟨rfl,rfl⟩;refine⟨_,rfl,hS,hK _ _ ?_⟩;clear hK K;refine lQ ?_;intro K hK;refine(r6 _ _ _).mono ?_;rintro e w' ⟨rfl,rfl⟩;refine⟨_,rfl,hS,hK _ _ ?_⟩;clear hK K;refine lH ?_;intro K hK;refine zH (Gr.alloc hS _) (λhS=>?_);refine hK _ _ ?_;clear hK K;refine lH ?_;intro K hK;refine(BL W.heap.size 2 [qS x.key y.key,qS x.val y.val] sI (W.alloc (.cells #[.int .i64 (qS x.key y.key),.int .i64 (qS x.val y.val)] 3)).drew (VO W _ _)).mono ?_;rintro e w' ⟨rfl,rfl⟩;refine⟨_,rfl,hS,hK _ _ ?_⟩;clear hK K;refine lZ ?_;refine zC ?_;intro hS;(go_wp2_with fail);go_ret;exact⟨rfl,hB.trans hS⟩
theorem sort_pairs(w:World)(B:Nat)(A:Option Addr)(n cap:Nat)(S:List jO)(d:Own w B 179 2 A n cap (S.map yB))(hn:S.length<=1000000) :
  Calls prog 131 #[.slice A n cap,.func (.func 132) #[] #[]] w λe w'=>e=.returned (.tuple #[])/\Own w' B 179 2 A n cap ((rP S).map yB)/\z8 (blk A) w w':=by
 have hl:S.length=n:=by simpa using d.len
 rcases d.addr with rfl | ⟨g,rfl⟩
 ·have k:n=0:=(d.cap_le.2 rfl).1;subst k;have hS:S = []:=eq_nil_of_length_eq_zero hl;subst hS;refine(AnyF.slices_SortFunc_none laySortPair none cap (.func (.func 132) #[] #[]) w).mono ?_;rintro e w' ⟨rfl,rfl⟩;exact⟨rfl,by simpa[rP]using d,z8.refl _ _⟩
 ·subst hl;have hH:=own_holds (enc:=yB) oM wJ d;have j:CmpLays prog 132 #[] (λx:jO=>(yB x).toList) 2 jF g 0 S.toArray.size w:=λm os dk _ x y=>mpcmp x y _;have r:g<w.heap.size:=(d.at_base (x:=g) (by simp[blk])).2;have f:=AnyQ.slices_SortFunc_total laySortPair 2 isAggPair size_pairs (λx:jO=>(yB x).toList) sI (λx v hv=>g9 x v hv) jF (swo_of wV) 132 #[] g 0 cap S.toArray w
   (enters_of func132 kR rfl) j hH r sO (λx y h1 h2=>by
    simp only[ltOf,decide_eq_false_iff_not]at h1 h2;exact Classical.byContradiction λe=>h2 (wV.flip h1 e))
  have e1:S.toArray.size=S.length:=sI;rw[e1]at f;refine f.mono ?_;rintro e w' ⟨rfl,n,os,rfl⟩;have e2:(S.toArray.toList.mergeSort λx y=>!(ltOf jF y x))=rP S:=rfl;rw[e2];obtain⟨h1,h2⟩:=sH (enc:=yB) oM wJ d n (rP S) (XE S).length_eq os;exact⟨rfl,h1,h2.mono (by simp[blk])⟩
theorem vh(w:World)(cap:Nat):Calls prog 135 #[.slice none 0 cap] w λe w'=>e=.returned (.slice none 0 cap)/\w=w':=by
 go_enter func135,ntmps135
 (go_wp2_with fail);go_ret;exact⟨rfl,rfl⟩
def VQ(x:qN):jO:=⟨x.key,x.val⟩
def eQ(X:List qN):List jO:=kL jF (X.map VQ)
theorem mlist(w:World)(g bl bo:Nat)(X:List qN)(O:List zA)(h:xN w g bl bo X O)(hn:X.length<=1000000) :
  Calls prog 67 #[.pointer (some ⟨g,0,none⟩)] w λe w'=>∃A cap,e=.returned (.slice A (eQ X).length cap)/\Own w' w.heap.size 179 2 A (eQ X).length cap ((eQ X).map yB)/\Below w.heap.size w w':=by
 have c1:=msorted w g bl bo X O h hn;go_enter func67,ntmps67
 (go_wp2_with fail);refine c1.mono ?_;rintro e w1 ⟨RA,rc,rfl,t,hb⟩;have a3:=t.slr;have H:=t.addr;clear t c1 h;(go_wp2_with fail);go_loopw [3,9] (λout i wr=>∃(k:Nat) (A:Option Addr) (cap:Nat),k<=X.length/\i=.int .i64 k/\out=.slice A k cap/\Own wr w1.heap.size 179 2 A k cap (((X.take k).map VQ).map yB)/\Below w1.heap.size w1 wr) (λ_ i _=>X.length-(intOf i).toNat)
 case atStart=>exact⟨0,none,0,zL,rfl,rfl,Own.nil _ _ _ _,Below.refl _ _⟩
 case round =>
  obtain⟨k,A,cap,hk,rfl,rfl,f,D⟩:=hrel;by_cases J:k<X.length
  ·obtain⟨q,o,rfl,hr⟩:=(a3.below D).at_ J;obtain rfl:o=0:=by
    rcases H with e | ⟨g',e⟩
    ·cases e
    ·injection e with e;injection e
   rw[Nat.zero_add,getElem_map]at hr;have L:((X.take (k+1)).map VQ).map yB=((X.take k).map VQ).map yB ++ [yB (VQ (X[k]'J))]:=by rw[take_add_one,getElem?_eq_getElem J,Option.toList_some,map_append,map_append];rfl
   obtain⟨x,hx⟩:=eX (X[k]'J)
   rw[hx]at hr L;have a9:=dH L;clear hx L;have M:=D.size;have U:Below wr.heap.size wr ((wr.alloc (.cells (zQ x) 189)).alloc (.cells (yB ⟨x.key,x.val⟩) 179)):=(bA).alloc sI _;have d:=f.below U;have F:z9 ((wr.alloc (.cells (zQ x) 189)).alloc (.cells (yB ⟨x.key,x.val⟩) 179)) (wr.heap.size+1) 0 2=some (yB ⟨x.key,x.val⟩):=by simp[go_sem]
   go_wp2_with (at_builtin;refine xS kW rfl d rfl F (g9 _) oM oM sO ?_;intro A' cap' w2 G a4 R)
   have a6:Below w1.heap.size w1 w2:=D.trans ((U.mono M).trans (a4.below (B:=w1.heap.size) sO λy hy=>(f.at_base hy).1));(go_wp2_with fail);go_roundw
   case rel=>exact⟨k+1,A',cap',oM,by go_num,rfl,by rw[a9.out];exact G,a6⟩
   case measure=>exact sZ
  ·have e:X.take k=X:=take_of_length_le oM;have N:k=X.length:=oM;rw[e]at f;obtain⟨S,hS⟩:=eX (X.map VQ)
   have a1:S.length=k:=by rw[<-hS];simp[N]
   have r:eQ X=kL jF (rP S):=by unfold eQ;rw[hS];exact nN wV λz=>(XE S).mem_iff.symm
   rw[hS]at f;have s:=dH r;have cs:=sort_pairs wr w1.heap.size A k cap S f oM;have b1:=dH N;have b0:k<=1000000:=oM;clear hS r e N;(go_wp2_with fail);refine cs.mono ?_;rintro e w2 ⟨rfl,d,Y⟩;have a0:Below w1.heap.size w1 w2:=D.trans (Y.below (B:=w1.heap.size) D.size λx hx=>(f.at_base hx).1);have m:=yM hb a0;have E:=hb.size;clear cs Y a0 D;rcases d.addr with rfl | ⟨q,rfl⟩
   ·have Z:k=0:=(d.cap_le.2 rfl).1;have a5:cap=0:=(d.cap_le.2 rfl).2;have a8:S = []:=eq_nil_of_length_eq_zero (a1.trans Z);subst a8;have T:eQ X = []:=by rw[s.out];simp[rP,kL]
    have a2:=dH T;subst Z;clear T a1 a5;have cn:=vh w2 cap;(go_wp2_with fail);refine cn.mono ?_;rintro e w3 ⟨rfl,rfl⟩;(go_wp2_with fail);go_ret;exact⟨none,cap,by rw[a2.out];rfl,by rw[a2.out];have:=d.mono E;simpa[rP]using this,m⟩
   ·have cc:=JR w2 w1.heap.size q k cap (rP S) d oM (psort_le S);(go_wp2_with fail);refine cc.mono ?_;rintro e w3 ⟨rfl,j,V⟩;have a7:=m.trans (V.below (B:=w.heap.size) m.size (by have:=(d.at_base (x:=q) (by simp[blk])).1;simp;omega));rw[<-s.out]at j |-;have I:=dH (j.mono (B':=w.heap.size) E);clear cc V d f j m;(go_wp2_with fail);go_ret;exact⟨_,cap,rfl,I.out,a7⟩
end
theorem QS(w:World)(g:Nat)(v:Value)(t:TypeId)(h:w.heap[g]?=some (.cells #[v] t (0,0))):w.cell? ⟨g,0,none⟩=some v:=by rw[cell_of_row w g 0 _ _ _ h];rfl
theorem frozen_of(w:World)(g j:Nat)(cs:Array Value)(t:TypeId)(h:w.heap[g]?=some (.cells cs t (0,0))):w.frozen? ⟨g,j,none⟩=false:=by simp[frozen?,h]
structure pR(w0:World)(gs go gd B:Nat)(g:Nat)(w:World)(P:List zS)(A:Option Addr)(cap:Nat):Prop where
 bel:Below w0.heap.size w0 w
 hgs:w.heap[gs]?=some (.cells #[.pointer (some ⟨g,0,none⟩)] 106 (0,0))
 hgo:w.heap[go]?=some (.cells #[.slice A P.length cap] 33 (0,0))
 hgd:w.heap[gd]?=some (.cells #[.func (.func 193) #[] #[.pointer (some ⟨gs,0,none⟩),.pointer (some ⟨go,0,none⟩),.pointer (some ⟨gd,0,none⟩)]] 270 (0,0))
 own:Own w B 23 32 A P.length cap ((P.map zS.id).map idC)
 B:B<=w.heap.size
theorem sqdown(w0:World)(M:List Nat)(g bn bb bg:Nat)(N:List zS)(G:List zA)(h:xE w0 M g bn bb bg N G)(hN:N.length<=100000)(gs go gd B:Nat)(h1:w0.heap.size<=gs)(h2:w0.heap.size<=go)(h3:w0.heap.size<=gd)(n1:gs≠go)(n2:gd≠go)(b1:gs<B)(b2:go<B)(b3:gd<B) :
  ∀(k:Nat) (r:zA) (P:List zS) (A:Option Addr) (cap:Nat) (w:World),Deep (v8 N) zS.id k r->pR w0 gs go gd B g w P A cap->P.length+(tP (v8 N) zS.id k r).length<=1000000 ->
  Calls prog 193 #[.agg (idC r),.pointer (some ⟨gs,0,none⟩),.pointer (some ⟨go,0,none⟩),.pointer (some ⟨gd,0,none⟩)] w λe w'=>e=.returned (.tuple #[])/\∃A' cap',pR w0 gs go gd B g w' (P++tP (v8 N) zS.id k r) A' cap':=by
 intro k;induction k with
 | zero=>intro r P A cap w hd;exact hd.elim
 | succ k ih =>
  intro r P A cap w hd hD D;obtain⟨BM,f6,f0,hb,c4,c6⟩:=h.behind;obtain⟨⟨As,sn,sc⟩,a9,e5,s⟩:=blook hb c4 c6 r;dsimp only at a9 e5 s;have b8:∀c∈v8 N r,Deep (v8 N) zS.id k c.id:=hd;have L:tP (v8 N) zS.id (k+1) r=(v8 N r).flatMap λc=>c :: tP (v8 N) zS.id k c.id:=rfl;have c8:=p8 N r;obtain⟨K,hK⟩:=eX (v8 N r)
  rw[hK]at a9 b8 L c8;rw[L]at D |-;have c7:K.length=sn:=by have:=a9.len;simpa using this
  have e4:sn<=100000:=oM;have U:=dH c7;have f2:=dH b8;clear hd b8 L hK c7 c8;obtain⟨f,hf⟩:∃f:zS->List zS,(λc=>c :: tP (v8 N) zS.id k c.id)=f:=⟨_,rfl⟩
  have d0:∀c,f c=c :: tP (v8 N) zS.id k c.id:=λc=>(by rw[<-hf]);rw[hf]at D |-;have e2:=dH d0;have c2:=dH D;clear hf d0 D;have Z:Below w.heap.size w (w.alloc (.cells (idC r) 23)):=bA;have b0:z9 (w.alloc (.cells (idC r) 23)) w.heap.size 0 32=some (idC r):=by simp[go_sem]
  have y:pR w0 gs go gd B g (w.alloc (.cells (idC r) 23)) P A cap:=by
   have hB:=hD.B;have hs:=Z.size;exact⟨yM hD.bel Z,(Z.block gs oM).trans hD.hgs,(Z.block go oM).trans hD.hgo,(Z.block gd oM).trans hD.hgd,hD.own.below Z,oM⟩
  go_enter func193,ntmps193
  go_upto_region 1 with fail
  obtain⟨W,hW⟩:=eR (w.alloc (.cells (idC r) 23))
  obtain⟨ga,c9⟩:=eX w.heap.size
  rw[c9]at b0 |-;rw[<-hW]at y b0 |-;clear hW c9 hD Z;have d1:W.cell? ⟨gs,0,none⟩=some (.pointer (some ⟨g,0,none⟩)):=by rw[cell_of_row W gs 0 _ _ _ y.hgs];rfl
  have d3:W.cell? ⟨g,1,none⟩=some (.map (some bb)):=(y.bel.cell (p:=⟨g,1,none⟩) h.ltg).trans h.cell1;have hk:∀x:Subtype (Bel W),(Instr.lookup 93 (.map (some bb)) (.agg (idC r)) false).run prog x.1=.ok (.slice As sn sc) x.1:=λx=>s x.1 ((hb.kept (z8.of_below y.bel) sI).kept (z8.of_below x.2) sI);refine lX W ?_;intro e6 hS;have b1:=zJ d1;have b2:=zJ d3;have b3:=zV b0;refine lZ ?_;refine zC ?_;intro hS;have d9:pR w0 gs go gd B g W.drew P A cap:=⟨y.bel.drew,y.hgs,y.hgo,y.hgd,y.own.kept (z8.drew W) sI,y.B⟩
  clear b1 b2 b3 e6 hS hk d1 d3 b0 y s hb c4 c6;obtain⟨W1,d4⟩:=eX W.drew
  rw[d4]at d9 |-;clear d4 hS;(go_wp2_with fail);go_loopw [14] (λiv wr=>∃(i:Nat) (A':Option Addr) (cap':Nat),i<=sn/\iv=.int .i64 i/\pR w0 gs go gd B g wr (P++(K.take i).flatMap f) A' cap') (λiv _=>sn-(intOf iv).toNat)
  case atStart=>exact⟨0,A,cap,zL,rfl,by simpa using d9⟩
  case round =>
   obtain⟨i,A',cap',hi,rfl,j⟩:=hrel;by_cases R:i<sn
   ·obtain⟨q,o,rfl,b6⟩:=(a9.below j.bel).rd.at_ R;rw[getElem_map,getElem_map]at b6;have O:K[i]'(by rw[U.out];exact R)∈K:=getElem_mem _;have J:K.flatMap f=(K.take i).flatMap f++f (K[i]'(by rw[U.out];exact R))++(K.drop (i+1)).flatMap f:=by
     rw[append_assoc,<-flatMap_cons,<-drop_eq_getElem_cons (show i<K.length by rw[U.out];exact R),<-flatMap_append,take_append_drop]
    have b5:(K.take (i+1)).flatMap f=(K.take i).flatMap f++f (K[i]'(by rw[U.out];exact R)):=by
     rw[take_add_one,getElem?_eq_getElem (by rw[U.out];exact R),Option.toList_some,flatMap_append];simp
    obtain⟨c,hc⟩:=eX (K[i]'(by rw[U.out];exact R))
    rw[hc]at b6 O J b5;have e8:=f2.out c O;have b7:(P++(K.take i).flatMap f).length+1+(tP (v8 N) zS.id k c.id).length<=1000000:=by
     have:=c2.out;rw[J,e2.out c]at this;simp only[length_append,length_cons]at this |-;omega
    obtain⟨Q,hQ⟩:=eX (P++(K.take i).flatMap f)
    have d5:P++(K.take (i+1)).flatMap f=Q ++ [c]++tP (v8 N) zS.id k c.id:=by rw[b5,e2.out c,<-hQ];simp
    rw[hQ]at j b7;have f3:=dH d5;have f1:=dH b7;have f5:Q.length+1<=1000000:=oM;clear hc J b5 hQ d5 O b7;have e0:=j.B;have t:Below wr.heap.size wr ((wr.alloc (.cells (idC c.id) 23)).alloc (.cells (idC c.id) 23)):=(bA).alloc sI _;have a7:Below wr.heap.size wr (wr.alloc (.cells (idC c.id) 23)):=bA;have c0:(wr.alloc (.cells (idC c.id) 23)).cell? ⟨go,0,none⟩=some (.slice A' Q.length cap'):=(a7.cell (p:=⟨go,0,none⟩) (oM:go<wr.heap.size)).trans (by rw[cell_of_row wr go 0 _ _ _ j.hgo];rfl);have I:=j.own.below t;have F:z9 ((wr.alloc (.cells (idC c.id) 23)).alloc (.cells (idC c.id) 23)) (wr.heap.size+1) 0 32=some (idC c.id):=by simp[go_sem]
    have a5:=(t.block go oM).trans j.hgo;have a2:go<((wr.alloc (.cells (idC c.id) 23)).alloc (.cells (idC c.id) 23)).heap.size:=oH t.size;have e1:B<=((wr.alloc (.cells (idC c.id) 23)).alloc (.cells (idC c.id) 23)).heap.size:=oH t.size;have a3:go∉blk A':=λhx=>(oH ((j.own.at_base hx).1));go_upto_region 5 with(at_builtin;refine xS yO rfl I rfl F (yN _) oM oM e1 ?_;intro A2 d w2 m V a0;have E:=(V.block go a2 a3).trans a5;have b9:=QS w2 go _ _ E;have e7:=frozen_of w2 go 0 _ _ E)
    have e9:w0.heap.size<=wr.heap.size:=j.bel.size;have Y:Below w0.heap.size w0 w2:=(yM j.bel t).trans (V.below (B:=w0.heap.size) (oH t.size) (λx hx=>oH ((j.own.at_base hx).1)));have T:=z8.setCell w2 ⟨go,0,none⟩ (.slice A2 (Q.length+1) d);have a6:Below w0.heap.size w0 (w2.setCell ⟨go,0,none⟩ (.slice A2 (Q.length+1) d)):=Y.trans (T.below (B:=w0.heap.size) Y.size (by simpa using h2));have e3:wr.heap.size+2<=w2.heap.size:=by have:=V.size;simpa using this
    have a1:=(T.block gs oM (by simpa using n1)).trans ((V.block gs (oH t.size) (λhx=>oH ((j.own.at_base hx).1))).trans ((t.block gs oM).trans j.hgs));have X:=(T.block gd oM (by simpa using n2)).trans ((V.block gd (oH t.size) (λhx=>oH ((j.own.at_base hx).1))).trans ((t.block gd oM).trans j.hgd));have a4:(w2.setCell ⟨go,0,none⟩ (.slice A2 (Q.length+1) d)).heap[go]?=some (.cells #[.slice A2 (Q.length+1) d] 33 (0,0)):=by rw[zE E];rfl
    have H:=m.kept T (λx hx hm=>by
     have e:x=go:=by simpa using hm
     have:=(m.at_base hx).1;omega)
    have b4:(Q ++ [c]).length=Q.length+1:=sI;have d8:pR w0 gs go gd B g (w2.setCell ⟨go,0,none⟩ (.slice A2 (Q.length+1) d)) (Q ++ [c]) A2 d :=
     ⟨a6,a1,by rw[b4];exact a4,X,by rw[b4];simpa using H,oH T.size⟩
    have c5:z9 (w2.setCell ⟨go,0,none⟩ (.slice A2 (Q.length+1) d)) wr.heap.size 0 32=some (idC c.id):=(T.row oM sO _ _).trans ((V.row sO (λhx=>oH ((j.own.at_base hx).2)) _ _).trans (by simp[go_sem]));have c1:=ih c.id (Q ++ [c]) A2 d _ e8 d8 (by rw[b4];exact f1.out);have d2:=QS _ gd _ _ X;have f7:Hid (B<=wr.heap.size):=e0;clear Y a6 T a1 X a4 H b4 d8 E b9 e7 m V a0 I F a5 a3 a2 e1 t a7 c0 b6 j e0;obtain⟨w5,c3⟩:=eX (w2.setCell ⟨go,0,none⟩ (.slice A2 (Q.length+1) d))
    rw[c3]at c5 c1 d2 |-;clear c3;(go_wp2_with fail);refine c1.mono ?_;rintro e w6 ⟨rfl,A6,a8,d7⟩;have d6:pR w0 gs go gd B g w6 (P++(K.take (i+1)).flatMap f) A6 a8:=by rw[f3.out];exact d7
    have f4:=dH d6;clear d7 d6 c1 c5 d2;(go_wp2_with fail);go_roundw
    case rel=>exact⟨i+1,A6,a8,oM,by go_num,f4.out⟩
    case measure=>exact sZ
   ·have e:i=sn:=oM;subst e;rw[take_of_length_le (by rw[U.out];exact lR)]at j;(go_wp2_with fail);go_end0;exact⟨rfl,A',cap',j⟩
theorem sqorder(w:World)(M:List Nat)(g bn bb bg:Nat)(N:List zS)(G:List zA)(h:xE w M g bn bb bg N G)(hl:N.length<=100000) :
  Calls prog 136 #[.pointer (some ⟨g,0,none⟩)] w λe w'=>∃A cap,e=.returned (.slice A (dE N).length cap)/\Own w' w.heap.size 23 32 A (dE N).length cap (((dE N).map zS.id).map idC)/\Below w.heap.size w w':=by
 have hf:aQ N:=⟨h.one,λa ha=>(XT (h.ok a ha)).1⟩
 have m:Below w.heap.size w (w.alloc (.cells #[.pointer (some ⟨g,0,none⟩)] 106)):=bA;have h0:=h.below m;have s:=fun (a:Addr) (c:Array Value) (w:World)=>run_store prog w a (.func (.func 193) #[] c) .plain rfl;have r:Below w.heap.size w (((w.alloc (.cells #[.pointer (some ⟨g,0,none⟩)] 106)).alloc (.cells #[.slice none 0 0] 33)).alloc (.cells #[.func (.func 193) #[] #[.pointer (some ⟨w.heap.size,0,none⟩),.pointer (some ⟨w.heap.size+1,0,none⟩),.pointer (some ⟨w.heap.size+1+1,0,none⟩)]] 270)):=((bA).alloc sI _).alloc sO _;have hD:pR w w.heap.size (w.heap.size+1) (w.heap.size+1+1) (w.heap.size+3) g (((w.alloc (.cells #[.pointer (some ⟨g,0,none⟩)] 106)).alloc (.cells #[.slice none 0 0] 33)).alloc (.cells #[.func (.func 193) #[] #[.pointer (some ⟨w.heap.size,0,none⟩),.pointer (some ⟨w.heap.size+1,0,none⟩),.pointer (some ⟨w.heap.size+1+1,0,none⟩)]] 270)) [] none 0:=by
  refine⟨r,?_,?_,?_,Own.nil _ _ _ _,sI⟩
  ·exact((z8.alloc _ _).block _ sO sI).trans (((z8.alloc _ _).block _ sI sI).trans (heap_alloc_new w _))
  ·have e:=heap_alloc_new (w.alloc (.cells #[.pointer (some ⟨g,0,none⟩)] 106 (0,0))) (.cells #[.slice none 0 0] 33 (0,0));have e1:(w.alloc (.cells #[.pointer (some ⟨g,0,none⟩)] 106 (0,0))).heap.size=w.heap.size+1:=sI;rw[e1]at e;exact((z8.alloc _ _).block _ sI sI).trans e
  ·have e:=heap_alloc_new ((w.alloc (.cells #[.pointer (some ⟨g,0,none⟩)] 106 (0,0))).alloc (.cells #[.slice none 0 0] 33 (0,0))) (.cells #[.func (.func 193) #[] #[.pointer (some ⟨w.heap.size,0,none⟩),.pointer (some ⟨w.heap.size+1,0,none⟩),.pointer (some ⟨w.heap.size+1+1,0,none⟩)]] 270 (0,0));have e1:((w.alloc (.cells #[.pointer (some ⟨g,0,none⟩)] 106 (0,0))).alloc (.cells #[.slice none 0 0] 33 (0,0))).heap.size=w.heap.size+1+1:=sI;rw[e1]at e;exact e
 have t:=rQ hf;have cd:=sqdown w M g bn bb bg N G h hl w.heap.size (w.heap.size+1) (w.heap.size+1+1) (w.heap.size+3) lR oM oM oM oM oM oM oM (N.length+1) id0 [] none 0 _ hf.deep hD (by show 0+(dE N).length<=_;omega);have e0:tP (v8 N) zS.id (N.length+1) id0=dE N:=rfl;rw[e0]at cd;simp only[nil_append]at cd;obtain⟨P,hP⟩:=eX (dE N)
 rw[hP]at cd |-;clear hP t hf hD r e0;go_enter func136,ntmps136
 (go_wp2_with fail);refine(nM _ g bn h0.cell0).mono ?_;rintro e w1 ⟨rfl,rfl⟩;clear h0 m;(go_wp2_with fail);refine cd.mono ?_;rintro e w2 ⟨rfl,A2,k,d⟩;have y:=QS _ _ _ _ d.hgo;have f:=d.own.mono (B':=w.heap.size) oM;have j:=d.bel;clear cd d s;(go_wp2_with fail);go_ret;exact⟨A2,k,rfl,f,j⟩
def Q2(N:List zS)(G:List zA):List jO:=(dO N G).map λv=>⟨⟨#[]⟩,v⟩
@[go_sem] theorem buildPair_v(v:ByteArray)(w:World):(bdS 179 #[(1,.string v)]).run prog w=.ok (.agg (yB ⟨⟨#[]⟩,v⟩)) w:=kR
def pS(T:List zS)(G:List zA):List jO:=((T.filter λn=>decide (n.id∉G)).map zS.val).map λv=>⟨⟨#[]⟩,v⟩
theorem pS_snoc(T:List zS)(G:List zA)(c:zS):pS (T ++ [c]) G=if c.id∈G then pS T G else pS T G ++ [⟨⟨#[]⟩,c.val⟩]:=by
 unfold pS;rw[filter_append];by_cases e:c.id∈G <;> simp[e]
theorem pS_len(T:List zS)(G:List zA):(pS T G).length<=T.length:=by
 unfold pS;rw[length_map,length_map];exact length_filter_le _ _
theorem sqlist(w:World)(M:List Nat)(g bn bb bg:Nat)(N:List zS)(G:List zA)(h:xE w M g bn bb bg N G)(hl:N.length<=100000) :
  Calls prog 68 #[.pointer (some ⟨g,0,none⟩)] w λe w'=>∃A cap,e=.returned (.slice A (Q2 N G).length cap)/\Own w' w.heap.size 179 2 A (Q2 N G).length cap ((Q2 N G).map yB)/\Below w.heap.size w w':=by
 have hf:aQ N:=⟨h.one,λa ha=>(XT (h.ok a ha)).1⟩
 have c1:=sqorder w M g bn bb bg N G h hl;have hN:=(mC hf).2;have c2:=rQ hf;have a7:Q2 N G=pS (dE N) G:=rfl;rw[a7];obtain⟨L,hL⟩:=eX (dE N)
 rw[hL]at c1 hN c2 |-;clear hL a7 hf;go_enter func68,ntmps68
 (go_wp2_with fail);refine c1.mono ?_;rintro e w1 ⟨RA,rc,rfl,r,hb⟩;have b9:=r.slr;have O:=r.addr;clear r c1;(go_wp2_with fail);go_loopw [3,9] (λout i wr=>∃(k:Nat) (A:Option Addr) (cap:Nat),k<=L.length/\i=.int .i64 k/\out=.slice A (pS (L.take k) G).length cap/\Own wr w1.heap.size 179 2 A (pS (L.take k) G).length cap ((pS (L.take k) G).map yB)/\Below w1.heap.size w1 wr) (λ_ i _=>L.length-(intOf i).toNat)
 case atStart=>exact⟨0,none,0,zL,rfl,rfl,Own.nil _ _ _ _,Below.refl _ _⟩
 case round =>
  obtain⟨k,A,cap,hk,rfl,rfl,f,B⟩:=hrel;by_cases t:k<L.length
  ·obtain⟨q,o,rfl,hr⟩:=(b9.below B).at_ t;obtain rfl:o=0:=by
    rcases O with e | ⟨g',e⟩
    ·cases e
    ·injection e with e;injection e
   rw[Nat.zero_add,getElem_map,getElem_map]at hr;have R:pS (L.take (k+1)) G=if(L[k]'t).id∈G then pS (L.take k) G else pS (L.take k) G ++ [⟨⟨#[]⟩,(L[k]'t).val⟩]:=by
    rw[take_add_one,getElem?_eq_getElem t,Option.toList_some,pS_snoc]
   have b3:=hN _ (getElem_mem t);have c0:(pS (L.take k) G).length+1<=1000000:=by have:=pS_len (L.take k) G;simp at this;omega
   obtain⟨c,hc⟩:=eX (L[k]'t)
   rw[hc]at hr R b3;obtain⟨T0,b6⟩:=eX (pS (L.take k) G)
   rw[b6]at R c0 f |-;have b7:=dH R;clear hc b6 R;have X:=B.size;have T:Below wr.heap.size wr (wr.alloc (.cells (idC c.id) 23)):=bA;have b5:Below w.heap.size w (wr.alloc (.cells (idC c.id) 23)):=(yM hb B).trans (T.mono (oH hb.size));have j:=f.below T;have s:Below w1.heap.size w1 (wr.alloc (.cells (idC c.id) 23)):=B.trans (T.mono X);have H:z9 (wr.alloc (.cells (idC c.id) 23)) wr.heap.size 0 32=some (idC c.id):=by simp[go_sem]
   have D:=h.below b5;go_upto_region 5 with fail
   obtain⟨W,hW⟩:=eX (wr.alloc (.cells (idC c.id) 23))
   obtain⟨gx,b0⟩:=eX wr.heap.size
   have a2:gx∉blk A:=λhx=>(oH ((f.at_base hx).2));rw[b0]at H |-;rw[hW]at j s H D |-;have b4:=D.cell2;have a8:∀y:Subtype (Bel W),(Instr.lookup 29 (.map (some bg)) (.agg (idC c.id)) false).run prog y.1=.ok (.bool (decide (c.id∈G))) y.1:=λy=>jg (D.gone.below y.2);obtain⟨rr,U⟩:=eX (decide (c.id∈G))
   rw[U]at a8;have b8:=dH U;clear hW b0 U hr f B T b5;refine lX W ?_;intro a0 hS;have b1:=zJ b4;have b2:=zV H;refine lZ ?_;refine zC ?_;intro hS;have Z:=D.below (qC W);have d:=j.kept (z8.drew W) sI;have m:Below w1.heap.size w1 W.drew:=s.drew;have F:z9 W.drew gx 0 32=some (idC c.id):=H;clear b1 b2 a0 hS a8 b4 H D j s;obtain⟨V,hV⟩:=eX W.drew
   rw[hV]at Z d m F |-;clear hV;cases rr with
   | true =>
    have e5:=b7.out;rw[if_pos (of_decide_eq_true b8.out)]at e5;have E5:=dH e5;clear e5;(go_wp2_with fail);go_roundw
    case rel=>exact⟨k+1,A,cap,oM,by go_num,by rw[E5.out],by rw[E5.out];exact d,m⟩
    case measure=>exact sZ
   | false =>
    have e5:=b7.out;rw[if_neg (of_decide_eq_false b8.out)]at e5;have E5:=dH e5;clear e5;have c5:=Z.cell0;obtain⟨es,c9,hn⟩:=Z.nodes;have c4:g∉blk A:=λhx=>(by have:=(d.at_base hx).1;have:=h.ltg;have:=hb.size;omega);have a3:bn∉blk A:=λhx=>(by have:=(d.at_base hx).1;have:=h.lt.1;have:=hb.size;omega);have c3:∀y:Subtype (Kp (blk A) V),(Instr.lookup 195 (.map (some bn)) (.agg (idC c.id)) false).run prog y.1=.ok (.agg (zO ⟨c.h,c.ref,c.val⟩)) y.1:=λy=>nlook (hn.kept y.2 a3) b3 false;go_upto_region 6 with fail
    refine kX (blk A) V ?_;intro a0 hS;have b1:=zF c5 c4;have b2:=zY F (S:=blk A) a2;refine lQ ?_;intro K hK;refine zH (z8.trans (z8.trans (z8.refl (blk A) V) (z8.drew _) sI) (z8.alloc _ _) sI) (λc8=>?_);refine hK _ _ ?_;clear hK K;have a1:z8 [] V (V.drew.alloc (.cells (yB ⟨⟨#[]⟩,c.val⟩) 179)):=z8.trans (z8.drew V) (z8.alloc _ _) sI;have I:=d.kept a1 sI;have E:z9 (V.drew.alloc (.cells (yB ⟨⟨#[]⟩,c.val⟩) 179)) V.heap.size 0 2=some (yB ⟨⟨#[]⟩,c.val⟩):=by simp[go_sem]
    have Y:=m.size;refine m5 kW rfl I rfl E (g9 _) oM oM sO ?_;intro A3 a4 w3 J a9 a6;refine zH (z8.trans (a1.mono (S':=blk A) sI) a9 iL) (λc7=>?_);refine lZ ?_;refine zC ?_;intro hS;have c6:Below w1.heap.size w1 w3:=m.trans ((z8.trans (a1.mono (S':=blk A) sI) a9 iL).below Y (λx hx=>(d.at_base hx).1));clear a0 hS c8 c7 b1 b2 c3;(go_wp2_with fail);go_roundw
    case rel=>exact⟨k+1,A3,a4,oM,by go_num,by rw[E5.out];simp,by rw[E5.out];simpa using J,c6⟩
    case measure=>exact sZ
  ·have e:L.take k=L:=take_of_length_le oM;rw[e]at f |-;have a5:=dH (f.mono (B':=w.heap.size) hb.size);have Hb:=dH (yM hb B);clear f e;(go_wp2_with fail);go_ret;exact⟨A,cap,rfl,a5.out,Hb.out⟩
inductive VSt where
 | t (n:Int)
 | b (L G:List xB)
 | l (L:List jC)
 | m (X:List qN) (O:List zA)
 | s (N:List zS) (G:List zA)
def kZ(w:World)(O M:List Nat)(v:Value):VSt->Prop
 | .t n=>∃g,v=.iface 101 (.pointer (some ⟨g,0,none⟩))/\xF w g n/\O = [g]
 | .b L G=>∃g bl bg,v=.iface 102 (.pointer (some ⟨g,0,none⟩))/\qQ w g bl bg L G/\O = [g,bl,bg]
 | .l L=>∃g b,v=.iface 104 (.pointer (some ⟨g,0,none⟩))/\xC w g b L/\O = [g,b]
 | .m X Ov=>∃g bl bo,v=.iface 105 (.pointer (some ⟨g,0,none⟩))/\xN w g bl bo X Ov/\O = [g,bl,bo]
 | .s N G=>∃g bn bb bg,v=.iface 106 (.pointer (some ⟨g,0,none⟩))/\xE w M g bn bb bg N G/\O = [g,bn,bb,bg]
def VSt.kind:VSt->Int
 | .t _=>1
 | .b ..=>2
 | .l _=>3
 | .m ..=>4
 | .s ..=>5
def VSt.len:VSt->Nat
 | .t _=>0
 | .b L _=>L.length
 | .l L=>L.length
 | .m X _=>X.length
 | .s N _=>N.length
def doS(m:j6)(o:OpV):VSt->VSt
 | .t n=>.t (wrap64 (n+o.n))
 | .b L G=>if o.k=2 then .b (J1 L G ⟨m.id,o.val⟩) G else .b (iN L o.val o.refs) (XC G o.val o.refs)
 | .l L=>.l (JG L o.key ⟨o.val,o.n,m.id⟩)
 | .m X Ov=>.m (setX X Ov ⟨m.id,o.key,o.val⟩ o.refs) (iO Ov o.refs)
 | .s N G=>if o.k=6 then .s (JT N ⟨m.id,m.h,o.ref,o.val⟩) G else .s N (jI yC G o.ref)
theorem doS_b2(m:j6)(o:OpV)(L G:List xB)(h:o.k=2):doS m o (.b L G)=.b (J1 L G ⟨m.id,o.val⟩) G:=if_pos h
theorem doS_b3(m:j6)(o:OpV)(L G:List xB)(h:¬o.k=2):doS m o (.b L G)=.b (iN L o.val o.refs) (XC G o.val o.refs):=if_neg h
theorem doS_s6(m:j6)(o:OpV)(N:List zS)(G:List zA)(h:o.k=6):doS m o (.s N G)=.s (JT N ⟨m.id,m.h,o.ref,o.val⟩) G:=if_pos h
theorem doS_s7(m:j6)(o:OpV)(N:List zS)(G:List zA)(h:¬o.k=6):doS m o (.s N G)=.s N (jI yC G o.ref):=if_neg h
theorem doS_kind(m:j6)(o:OpV)(s:VSt):(doS m o s).kind=s.kind:=by
 cases s <;> simp only[doS] <;> (try split) <;> rfl
theorem xm(v:ByteArray):∀(T:List zA) (L:List xB),(iN L v T).length<=L.length
 | [],L=>lR
 | t :: T,L=>Nat.le_trans (xm v T _) (length_filter_le _ _)
theorem doS_len(m:j6)(o:OpV)(s:VSt):(doS m o s).len<=s.len+1:=by
 cases s with
 | t n=>exact zL
 | b L G =>
  by_cases h:o.k=2
  ·rw[doS_b2 m o L G h];show(J1 L G ⟨m.id,o.val⟩).length<=L.length+1;unfold J1;have:=tE (c:=vJ) L ⟨m.id,o.val⟩
   repeat' split
   all_goals omega
  ·rw[doS_b3 m o L G h];show(iN L o.val o.refs).length<=L.length+1;have:=xm o.val o.refs L;omega
 | l L=>exact xa _ _ _
 | m X Ov =>
  show(setX X Ov ⟨m.id,o.key,o.val⟩ o.refs).length<=X.length+1;unfold setX lN;exact Nat.le_trans (length_filter_le _ _) (tE (c:=jU) X _)
 | s N G =>
  by_cases h:o.k=6
  ·rw[doS_s6 m o N G h];show(JT N ⟨m.id,m.h,o.ref,o.val⟩).length<=N.length+1;unfold JT;repeat' split
   all_goals simp
  ·rw[doS_s7 m o N G h];exact Nat.le_succ N.length
theorem kZ.kept{w w':World}{O M S:List Nat}{v:Value}{s:VSt}(h:kZ w O M v s)(k:z8 S w w')(hO:∀x∈O,x∉S)(hS:∀x∈S,x∈M\/w.heap.size<=x):kZ w' O M v s:=by
 cases s with
 | t n=>obtain⟨g,e,h1,rfl⟩:=h;exact⟨g,e,h1.kept k (hO g sI),rfl⟩
 | b L G=>obtain⟨g,bl,bg,e,h1,rfl⟩:=h;exact⟨g,bl,bg,e,h1.kept k (hO g sI) (hO bl sI) (hO bg sI),rfl⟩
 | l L=>obtain⟨g,b,e,h1,rfl⟩:=h;exact⟨g,b,e,h1.kept k (hO g sI) (hO b sI),rfl⟩
 | m X Ov=>obtain⟨g,bl,bo,e,h1,rfl⟩:=h;exact⟨g,bl,bo,e,h1.kept k (hO g sI) (hO bl sI) (hO bo sI),rfl⟩
 | s N G=>obtain⟨g,bn,bb,bg,e,h1,rfl⟩:=h;exact⟨g,bn,bb,bg,e,h1.kept k hS (hO g sI) (hO bn sI) (hO bb sI) (hO bg sI),rfl⟩
theorem kZ.below{M:List Nat}{s:VSt}(h:kZ w O M v s)(k:Below w.heap.size w w'):kZ w' O M v s:=h.kept (z8.of_below k) sI sI
structure OpFit(s:VSt)(o:OpV):Prop where
 kind:mU o.k=s.kind
 key:o.key.size<=16
 val:o.val.size<=16
 refs:o.refs.length<=8
 lo:-2147483648<=o.n
 hi:o.n<2147483648
theorem vdoes(m:j6)(o:OpV)(A:Option Addr)(c:Nat)(w:World)(g:Nat)(t:ByteArray)(b:Nat)(I:List zA)(v:Value)(O M:List Nat)(s:VSt)(h:yR w g t b I v)(hs:kZ w O M v s)(hM:∀x∈M,x<w.heap.size)(ho:OpFit s o)(hA:zW w A o.refs.length o.refs)(hl:s.len<=1000) :
  Calls prog 199 #[.pointer (some ⟨g,0,none⟩),.agg (y8 m),.agg (opC o A c)] w λe w'=>e=.returned (.tuple #[])/\kZ w' O M v (doS m o s)/\z8 O w w':=by
 cases s with
 | t n =>
  obtain⟨gt,rfl,h1,rfl⟩:=hs;refine(vdoes_t m o A c w g gt t b I n h h1 ho.lo ho.hi).mono ?_;rintro e w' ⟨rfl,h2,hk⟩;exact⟨rfl,⟨gt,rfl,h2,rfl⟩,hk⟩
 | b L G =>
  obtain⟨gt,bl,bg,rfl,h1,rfl⟩:=hs;by_cases h2:o.k=2
  ·refine(vdoes_b2 m o A c w g gt bl bg t b I L G h h1 h2 ho.val).mono ?_;rintro e w' ⟨rfl,h3,hk⟩;refine⟨rfl,?_,hk.mono sI⟩;rw[doS_b2 m o L G h2];exact⟨gt,bl,bg,rfl,h3,rfl⟩
  ·refine(vdoes_b3 m o A c w g gt bl bg t b I L G h h1 (by simpa using h2) ho.val hA ho.refs).mono ?_;rintro e w' ⟨rfl,h3,hk⟩;refine⟨rfl,?_,hk.mono (by intro x hx;simp at hx |-;omega)⟩;rw[doS_b3 m o L G h2];exact⟨gt,bl,bg,rfl,h3,rfl⟩
 | l L =>
  obtain⟨gt,bl,rfl,h1,rfl⟩:=hs;refine(vdoes_l m o A c w g gt bl t b I L h h1 ho.key ho.val).mono ?_;rintro e w' ⟨rfl,h3,hk⟩;exact⟨rfl,⟨gt,bl,rfl,h3,rfl⟩,hk.mono sI⟩
 | m X Ov =>
  obtain⟨gt,bl,bo,rfl,h1,rfl⟩:=hs;refine(vdoes_m m o A c w g gt bl bo t b I X Ov h h1 ho.key ho.val hA ho.refs (by have:X.length<=1000:=hl;omega)).mono ?_;rintro e w' ⟨rfl,h3,hk⟩;exact⟨rfl,⟨gt,bl,bo,rfl,h3,rfl⟩,hk.mono (by intro x hx;simp at hx |-;omega)⟩
 | s N G =>
  obtain⟨gt,bn,bb,bg,rfl,h1,rfl⟩:=hs;by_cases h2:o.k=6
  ·refine(vdoes_s6 m o A c w g gt bn bb bg t b I M N G h h1 hM h2 ho.val (by have:N.length<=1000:=hl;omega)).mono ?_;rintro e w' ⟨rfl,h3,hk⟩;refine⟨rfl,?_,hk.mono (by intro x hx;simp at hx |-;omega)⟩;rw[doS_s6 m o N G h2];exact⟨gt,bn,bb,bg,rfl,h3,rfl⟩
  ·refine(vdoes_s7 m o A c w g gt bn bb bg t b I M N G h h1 (by simpa using h2)).mono ?_;rintro e w' ⟨rfl,h3,hk⟩;refine⟨rfl,?_,hk.mono (by intro x hx;simp at hx |-;omega)⟩;rw[doS_s7 m o N G h2];exact⟨gt,bn,bb,bg,rfl,h3,rfl⟩
def VSt.num:VSt->Int
 | .t n=>n
 | _=>0
def VSt.pairs:VSt->List jO
 | .t _=>[]
 | .b L _=>(nZ L).map pairV
 | .l L=>L.map pairOf
 | .m X _=>eQ X
 | .s N G=>Q2 N G
theorem vvalue(w:World)(g:Nat)(t:ByteArray)(b:Nat)(I:List zA)(v:Value)(O M:List Nat)(s:VSt)(h:yR w g t b I v)(hs:kZ w O M v s)(ht:t.size<=9223372036854775807)(hk:yF t=s.kind)(hl:s.len<=1000) :
  Calls prog 27 #[.pointer (some ⟨g,0,none⟩)] w λe w'=>∃A cap,e=.returned (.agg (zI ⟨s.kind,s.num,.slice A s.pairs.length cap⟩))/\Own w' w.heap.size 179 2 A s.pairs.length cap (s.pairs.map yB)/\Below w.heap.size w w':=by
 cases s with
 | t n =>
  obtain⟨gt,rfl,h1,rfl⟩:=hs;refine(vvalue_t w g gt t b I n h h1 ht hk).mono ?_;rintro e w' ⟨rfl,hb⟩;exact⟨none,0,rfl,Own.nil _ _ _ _,hb⟩
 | b L G =>
  obtain⟨gt,bl,bg,rfl,h1,rfl⟩:=hs;refine(vvalue_b w g gt t b I h ht hk (nZ L).length ((nZ L).map λs=>yB (pairV s)) (λw' hb=>blist w' gt bl bg L G (h1.below hb) (by have:L.length<=1000:=hl;omega))).mono ?_;rintro e w' ⟨A,cap,rfl,ho,hb⟩;have e1:(VSt.b L G).pairs.length=(nZ L).length:=by simp[VSt.pairs]
  refine⟨A,cap,by rw[e1];rfl,?_,hb⟩;rw[e1];simpa[VSt.pairs,map_map,Function.comp_def]using ho
 | l L =>
  obtain⟨gt,bl,rfl,h1,rfl⟩:=hs;refine(vvalue_l w g gt t b I h ht hk L.length (VV L) (λw' hb=>llist w' gt bl L (h1.below hb) (by have:L.length<=1000:=hl;omega))).mono ?_;rintro e w' ⟨A,cap,rfl,ho,hb⟩;have e1:(VSt.l L).pairs.length=L.length:=by simp[VSt.pairs]
  refine⟨A,cap,by rw[e1];rfl,?_,hb⟩;rw[e1];simpa[VSt.pairs,VV,map_map,Function.comp_def]using ho
 | m X Ov =>
  obtain⟨gt,bl,bo,rfl,h1,rfl⟩:=hs;exact vvalue_m w g gt t b I h ht hk (eQ X).length ((eQ X).map yB) (λw' hb=>mlist w' gt bl bo X Ov (h1.below hb) (by have:X.length<=1000:=hl;omega))
 | s N G =>
  obtain⟨gt,bn,bb,bg,rfl,h1,rfl⟩:=hs;exact vvalue_s w g gt t b I h ht hk (Q2 N G).length ((Q2 N G).map yB) (λw' hb=>sqlist w' M gt bn bb bg N G (h1.below hb) (by have:N.length<=1000:=hl;omega))

structure VAt(w:World)(g:Nat)(t:ByteArray)(b:Nat)(O:List Nat)(I:List zA)(v:Value)(s:VSt):Prop where
 view:yR w g t b I v
 st:kZ w O (b :: O) v s
 gM:g∉b :: O
 bO:b∉O
 lt:∀x∈b :: O,x<w.heap.size
 b0:1∉b :: O
def VSt.new(k:Int):VSt:=if k=1 then .t 0 else if k=2 then .b [] []else if k=3 then .l []else if k=4 then .m [] []else .s [] []
theorem fE(t:ByteArray):yF t=0\/yF t=1\/yF t=2\/yF t=3\/yF t=4\/yF t=5:=by
 unfold yF ZE
 repeat' split
 all_goals simp
theorem nH{w2 w3:World}{g b:Nat}{t:ByteArray}{s:VSt}(hv:yR w' g t b [] v)(hs:kZ w3 O O v s)(hO:∀x∈O,w2.heap.size<=x/\x<w3.heap.size)(hb:Below w3.heap.size w3 w')(hg:g=w3.heap.size)(f:b<w2.heap.size)(d:1<b)(hm:kZ w3 O O v s->kZ w3 O (b :: O) v s):VAt w' g t b O [] v s:=by
 have h3:=(hm hs).below hb;refine⟨hv,h3,?_,?_,?_,?_⟩
 ·intro hx;rcases mem_cons.1 hx with h | h
  ·exact hv.ne h
  ·have:=(hO _ h).2;omega
 ·intro h;have:=(hO _ h).1;omega
 ·intro x hx;rcases mem_cons.1 hx with h | h
  ·rw[h];exact hv.ids.lt
  ·have:=(hO _ h).2;have:=hb.size;omega
 ·intro hx;rcases mem_cons.1 hx with h | h
  ·omega
  ·have:=(hO _ h).1;omega
theorem vnew_any(t:ByteArray)(w:World)(ht:t.size<=9223372036854775807)(A:yF t≠0)(hw:1<w.heap.size) :
  Calls prog 42 #[.string t] w λe w'=>∃g b O v,e=.returned (.tuple #[.pointer (some ⟨g,0,none⟩),.int .i64 0])/\VAt w' g t b O [] v (VSt.new (yF t))/\(∀x∈b :: O,w.heap.size<=x)/\w.heap.size<=g/\Below w.heap.size w w':=by
 rcases fE t with h | h | h | h | h | h
 ·exact absurd h A
 ·have hf:∀w,Calls prog 100 #[.int .i64 1] w λe w'=>∃gs,e=.returned (.iface 101 (.pointer (some ⟨gs,0,none⟩)))/\(xF w' gs 0/\w.heap.size<=gs)/\Below w.heap.size w w':=λw=>(zx w).mono λe w' ⟨h1,h2,h3⟩=>⟨_,h1,⟨h2,lR⟩,h3⟩;refine(JA t w ht 1 h oM _ _ hf).mono ?_;rintro e w' ⟨g,b,gs,w2,w3,rfl,hv,⟨hz,y⟩,d,f,hg,r,j,hB⟩;refine⟨g,b,[gs],.iface 101 (.pointer (some ⟨gs,0,none⟩)),rfl,?_,?_,?_,hB⟩
  ·rw[h];refine nH (s:=.t 0) (w2:=w2) hv ⟨gs,rfl,hz,rfl⟩ (λx hx=>?_) f hg j oM (λh=>?_)
   ·obtain rfl:x=gs:=by simpa using hx
    exact⟨y,hz.lt⟩
   ·obtain⟨g',e,h1,h2⟩:=h;exact⟨g',e,h1,h2⟩
  ·intro x hx;simp at hx;omega
  ·have:=d.size;omega
 ·refine(JA t w ht 2 h oM _ _ yb).mono ?_;rintro e w' ⟨g,b,gs,w2,w3,rfl,hv,⟨bl,bg,hz,z1,z2,z3⟩,d,f,hg,r,j,hB⟩;refine⟨g,b,[gs,bl,bg],.iface 102 (.pointer (some ⟨gs,0,none⟩)),rfl,?_,?_,?_,hB⟩
  ·rw[h];refine nH (s:=.b [] []) (w2:=w2) hv ⟨gs,bl,bg,rfl,hz,rfl⟩ (λx hx=>?_) f hg j oM (λh=>?_)
   ·have h1:=hz.lt.1;have h2:=hz.live.lt;have h3:=hz.gone.lt;simp at hx;rcases hx with rfl | rfl | rfl <;> omega
   ·exact h
  ·intro x hx;simp at hx;omega
  ·have:=d.size;omega
 ·refine(JA t w ht 3 h oM _ _ ya).mono ?_;rintro e w' ⟨g,b,gs,w2,w3,rfl,hv,⟨bl,hz,z1,z2⟩,d,f,hg,r,j,hB⟩;refine⟨g,b,[gs,bl],.iface 104 (.pointer (some ⟨gs,0,none⟩)),rfl,?_,?_,?_,hB⟩
  ·rw[h];refine nH (s:=.l []) (w2:=w2) hv ⟨gs,bl,rfl,hz,rfl⟩ (λx hx=>?_) f hg j oM (λh=>?_)
   ·have h1:=hz.lt;simp at hx;rcases hx with rfl | rfl <;> omega
   ·exact h
  ·intro x hx;simp at hx;omega
  ·have:=d.size;omega
 ·refine(JA t w ht 4 h oM _ _ zz).mono ?_;rintro e w' ⟨g,b,gs,w2,w3,rfl,hv,⟨bl,bg,hz,z1,z2,z3⟩,d,f,hg,r,j,hB⟩;refine⟨g,b,[gs,bl,bg],.iface 105 (.pointer (some ⟨gs,0,none⟩)),rfl,?_,?_,?_,hB⟩
  ·rw[h];refine nH (s:=.m [] []) (w2:=w2) hv ⟨gs,bl,bg,rfl,hz,rfl⟩ (λx hx=>?_) f hg j oM (λh=>?_)
   ·have h1:=hz.lt.1;have h2:=hz.live.lt;have h3:=hz.over.lt;simp at hx;rcases hx with rfl | rfl | rfl <;> omega
   ·exact h
  ·intro x hx;simp at hx;omega
  ·have:=d.size;omega
 ·refine(JA t w ht 5 h oM _ _ zy).mono ?_;rintro e w' ⟨g,b,gs,w2,w3,rfl,hv,⟨bn,bb,bg,hz,z1,z2,z3,z4⟩,d,f,hg,r,j,hB⟩;have k:=hz [bn,bb,bg] sI sI sI;have hm:xE w3 (b :: [gs,bn,bb,bg]) gs bn bb bg [] []:=hz _ sI sI sI;refine⟨g,b,[gs,bn,bb,bg],.iface 106 (.pointer (some ⟨gs,0,none⟩)),rfl,?_,?_,?_,hB⟩
  ·rw[h];refine nH (s:=.s [] []) (w2:=w2) hv ⟨gs,bn,bb,bg,rfl,hz _ sI sI sI,rfl⟩ (λx hx=>?_) f hg j oM (λ_=>⟨gs,bn,bb,bg,rfl,hm,rfl⟩);have h1:=k.ltg;obtain⟨_,_,hn⟩:=k.nodes;obtain⟨_,_,_,B,_⟩:=k.behind;have h4:=k.gone.lt;have h2:=hn.lt;have h3:=B.lt;simp at hx;rcases hx with rfl | rfl | rfl | rfl <;> omega
  ·intro x hx;simp at hx;omega
  ·have:=d.size;omega
theorem opO_lo(l:List UInt8)(h:opE l=0):-2147483648<=(opO l).n:=by
 have hn:=opO_ok l h;have hk:1<=yZ 1 l 0/\yZ 1 l 0<=7:=by
  unfold opE at h;split at h
  ·contradiction
  split at h
  ·cases h
  ·omega
 have h2:=qj (yZ 1 l 0) (zM 1 l 0) 0 hk.1 hk.2;have e:(qH (yZ 1 l 0) (zM 1 l 0) 0).o=opO l:=rfl;rw[e,decide_eq_true hn.2.2.2.2.2.2.2]at h2;unfold qk at h2;simp only[Bool.and_eq_true,decide_eq_true_eq]at h2;exact h2.2.2
def lT(t:ByteArray)(m:j6)(s:VSt):VSt:=if aC t m then doS m (opO m.body.data.toList) s else s
theorem foldS_kind(t:ByteArray)(m:j6)(s:VSt):(lT t m s).kind=s.kind:=by
 unfold lT;split
 ·exact doS_kind _ _ _
 ·rfl
theorem foldS_len(t:ByteArray)(m:j6)(s:VSt):(lT t m s).len<=s.len+1:=by
 unfold lT;split
 ·exact doS_len _ _ _
 ·omega
theorem getL_cons(a:jC)(l:List jC)(k:ByteArray):pD (a :: l) k=if a.1=k then some a.2 else pD l k:=by
 unfold pD;rw[find?_cons];by_cases h:a.1=k <;> simp[h]


structure Row where
 key:ByteArray
 val:ByteArray
 n:Int
 id:zA
def vK(x:Row):Array Value:=#[.string x.key] ++ #[.string x.val] ++ #[.int .i64 x.n]++idC x.id
@[simp] theorem rowC_size(x:Row):(vK x).size=35:=by simp[vK]
@[go_sem] theorem rowC_g1(x:Row):(vK x)[1]?=some (.string x.val):=by first | (simp[vK,Array.getElem?_append];done) | (rw[show vK x=(#[.string x.key]) ++ #[.string x.val]++(#[.int .i64 x.n]++idC x.id)from by apply Array.ext';simp[vK]];exact xJ _ _ _ _ sI)
@[go_sem] theorem rowC_gg1(x:Row)(h:1<(vK x).size):(vK x)[1]'h=.string x.val:=Option.some.inj ((Array.getElem?_eq_getElem h).symm.trans (rowC_g1 x))
@[go_sem] theorem rowC_g2(x:Row):(vK x)[2]?=some (.int .i64 x.n):=by first | (simp[vK,Array.getElem?_append];done) | (rw[show vK x=(#[.string x.key] ++ #[.string x.val]) ++ #[.int .i64 x.n]++(idC x.id)from by apply Array.ext';simp[vK]];exact xJ _ _ _ _ sI)
@[go_sem] theorem rowC_gg2(x:Row)(h:2<(vK x).size):(vK x)[2]'h=.int .i64 x.n:=Option.some.inj ((Array.getElem?_eq_getElem h).symm.trans (rowC_g2 x))
def xf:Row:=⟨⟨#[]⟩,⟨#[]⟩,0,id0⟩
theorem Row_ext{x y:Row}(h:x.key=y.key/\x.val=y.val/\x.n=y.n/\x.id=y.id):x=y:=by cases x;cases y;simp_all
instance:DecidableEq Row:=λx y=>if h:x.key=y.key/\x.val=y.val/\x.n=y.n/\x.id=y.id then isTrue (Row_ext h)else isFalse (λe=>h (by subst e;simp))
theorem K7{q o c:Nat}{d:zA}(h:z9 w q o 32=some (idC d)):(convert 127 9 (.slice (some ⟨q,o,none⟩) 32 c)).run prog w=.ok (.string ⟨d.l.toArray⟩) w:=by
 have:=run_convert_bytes_back (P:=prog) w 127 9 5 ⟨q,o,none⟩ c d.l underlying127 underlying5 underlying9 (λj hj=>by
  have f:(⟨q,o,none⟩:Addr).add j=⟨q,o+j,none⟩:=by unfold Addr.add;split <;> simp_all
  have hd:=d.h;rw[f,zB h oM];simp[idC,yG,hj])
 rwa [d.h]at this
def VA(p:jC):List UInt8:=beL 1 p.1.size++(p.1.data.toList++(beL 1 p.2.val.size++(p.2.val.data.toList++(beL 4 p.2.n.toNat++p.2.id.l))))
def xq(L:List jC):List UInt8:=beL 4 L.length++L.flatMap VA
def g7(x:Row):yV:=⟨x.val,x.n,x.id⟩
def wH(x:Row):jC:=(x.key,g7 x)

abbrev xK(w:World)(A:Option Addr)(n:Nat)(R:List xB):Prop:=SlR w A n 33 (R.map zZ)
theorem xK.len(h:xK w A n R):R.length=n:=by simpa using h.1
theorem xK.get(h:xK w A n R){i:Nat}(hi:i<n)(hR:i<R.length) :
  ∃g o,A=some ⟨g,o,none⟩/\z9 w g (o+i*33) 33=some (zZ R[i])/\z9 w g (o+i*33) 32=some (idC (R[i]).tag)/\w.cell? ⟨g,o+i*33+32,none⟩=some (.string (R[i]).val):=by
 obtain⟨g,o,e,hr⟩:=h.at_ hi;rw[getElem_map]at hr;refine⟨g,o,e,hr,?_,?_⟩
 ·have:=yD hr (j:=0) (m:=32) oM
  rwa [kb]at this
 ·have:=zB hr (j:=32) oM
  rwa [aN]at this


structure RV where
 tal:Int
 adds:List xB
 gone:List xB
 last:List Row
 mL:List qN
 mO:List zA
 sL:List zS
 sG:List zA
structure RNode where
 id:zA
 h:Int
 ref:zA
 val:ByteArray
theorem RNode_ext{x y:RNode}(h:x.id=y.id/\x.h=y.h/\x.ref=y.ref/\x.val=y.val):x=y:=by cases x;cases y;simp_all
instance:DecidableEq RNode:=λx y=>if h:x.id=y.id/\x.h=y.h/\x.ref=y.ref/\x.val=y.val then isTrue (RNode_ext h)else isFalse (λe=>h (by subst e;simp))
instance:Inhabited zS:=⟨⟨id0,0,id0,⟨#[]⟩⟩⟩
theorem tF{α β:Type}(f:α->List β)(k:Nat):∀l:List α,(∀a∈l,(f a).length<=k)->(l.flatMap f).length<=l.length*k
 | [],_=>by simp
 | a :: l,h=>by
  have h1:=h a sI;have h2:=tF f k l (λb hb=>h b (by simp[hb]));simp only[flatMap_cons,length_append,length_cons,Nat.add_mul];omega
section
open Go.RowKit Go.Sort Go.Shelf
def vT(x:qN):List UInt8:=x.id.l++(beL 1 x.key.size++(x.key.data.toList++(beL 1 x.val.size++x.val.data.toList)))
def idsB(O:List zA):List UInt8:=beL 4 O.length++O.flatMap zA.l
def putMB(X:List qN)(O:List zA):List UInt8:=beL 4 X.length++X.flatMap vT++idsB O
theorem V9(x:qN):(vT x).length=34+x.key.size+x.val.size:=by
 have e:x.val.data.toList.length=x.val.size:=Array.length_toList;have e2:x.key.data.toList.length=x.key.size:=Array.length_toList;simp only[vT,length_append,xA,x.id.h,e,e2];omega
end
def sortN(N:List zS):List zS:=kL vk N
def rS(n:zS):List UInt8:=n.id.l++(beL 4 n.h.toNat++(n.ref.l++(beL 1 n.val.size++n.val.data.toList)))
def putSB(N:List zS)(G:List zA):List UInt8:=beL 4 (sortN N).length++(sortN N).flatMap rS++idsB G
theorem VP(n:zS):(rS n).length=69+n.val.size:=by
 have e:n.val.data.toList.length=n.val.size:=Array.length_toList;simp only[rS,length_append,xA,n.id.h,n.ref.h,e];omega

@[go_sem ↓] theorem slId_rw(x:Value)(lo hi mx:Option Value):Instr.sliceAt 33 x lo hi mx=slS 33 x lo hi mx:=rfl








section
def RV.len(x:RV):Nat:=x.adds.length+x.gone.length+x.last.length+x.mL.length+x.mO.length+x.sL.length+x.sG.length
end


def sP(k:Nat):ByteArray:=if k=1 then⟨#[78]⟩ else if k=2 then⟨#[86]⟩ else if k=3 then⟨#[86,83]⟩ else if k=4 then⟨#[75,86,78]⟩ else if k=5 then⟨#[75,86,83]⟩ else if k=6 then⟨#[82,86]⟩ else if k=7 then⟨#[82]⟩ else⟨#[]⟩
theorem rop_has(k:Nat)(w:World)(hk:k<=9223372036854775807):Calls prog 112 #[.int .i64 k] w λe w'=>e=.returned (.string (sP k))/\w=w':=by
 by_cases h:k<=7
 ·have h8:k=0\/k=1\/k=2\/k=3\/k=4\/k=5\/k=6\/k=7:=oM;rcases h8 with rfl | rfl | rfl | rfl | rfl | rfl | rfl | rfl
  all_goals
   go_enter func112,ntmps112
   (go_wp2_with fail);go_ret;exact⟨rfl,rfl⟩
 ·have hs:sP k=⟨#[]⟩:=by unfold sP;rw[if_neg oM,if_neg oM,if_neg oM,if_neg oM,if_neg oM,if_neg oM,if_neg oM]
  have Hs:=dH hs;have h1:((k:Int)==1)=false:=sO;have h2:((k:Int)==2)=false:=sO;have h3:((k:Int)==3)=false:=sO;have h4:((k:Int)==4)=false:=sO;have h5:((k:Int)==5)=false:=sO;have h6:((k:Int)==6)=false:=sO;have h7:((k:Int)==7)=false:=sO;clear hs h;go_enter func112,ntmps112
  (go_wp2_with fail);go_ret;exact⟨by rw[Hs.out];rfl,rfl⟩
section
structure OfS where
 n:Int
 key:ByteArray
 val:ByteArray
 ref:zA
 refs:List zA
 l:List UInt8
 e:Int
def OfS.op(k:Nat)(s:OfS):OpR:=⟨⟨k,s.n,s.key,s.val,s.ref,s.refs⟩,s.l,s.e⟩
end
theorem rsame_ids(w:World)(A B:Option Addr)(n m cap cap':Nat)(X Y:List zA)(hx:zW w A n X)(hy:zW w B m Y)(hn:n<=1000000)(hm:m<=1000000) :
  Calls prog 234 #[.slice A n cap,.slice B m cap'] w λe w'=>e=.returned (.bool (decide (X=Y)))/\Below w.heap.size w w':=by
 have s:=hx.len;have r:=hy.len;have j:=dH s;have g:=dH r;by_cases G:n=m
 ·subst G;clear s r;go_enter func234,ntmps234
  (go_wp2_with fail);go_loopw [5] (λi wr=>∃k:Nat,k<=n/\i=.int .i64 k/\Hid (X.take k=Y.take k)/\Below w.heap.size w wr) (λi _=>n-(intOf i).toNat)
  case atStart=>exact⟨0,zL,rfl,rfl,Below.refl _ _⟩
  case round =>
   obtain⟨k,hk,rfl,H,hb⟩:=hrel;by_cases d:k<n
   ·obtain⟨q,o,rfl,hr⟩:=zW.get (SlR.below hx hb) d (by rw[j.out];exact d);obtain⟨q2,o2,rfl,F⟩:=zW.get (SlR.below hy hb) d (by rw[g.out];exact d);have hX:X.take (k+1)=X.take k ++ [X[k]'(by rw[j.out];exact d)]:=by rw[take_add_one,getElem?_eq_getElem (by rw[j.out];exact d)];rfl
    have hY:Y.take (k+1)=Y.take k ++ [Y[k]'(by rw[g.out];exact d)]:=by rw[take_add_one,getElem?_eq_getElem (by rw[g.out];exact d)];rfl
    obtain⟨x,D⟩:=eX (X[k]'(by rw[j.out];exact d))
    obtain⟨y,t⟩:=eX (Y[k]'(by rw[g.out];exact d))
    rw[D]at hr hX;rw[t]at F hY;have HX:=dH hX;have HY:=dH hY;clear hX hY;have O:=dH D;have N:=dH t;clear D t;go_upto_region 6 with fail
    refine lX wr ?_;intro f hS;have b1:=zV hr;have b2:=zV F;refine lZ ?_;refine zC ?_;intro hS;clear f hS b1 b2 hr F;have I:Below w.heap.size w wr.drew:=hb.drew;cases hpe:(x==y)with
    | true =>
     have e:=beq_iff_eq.1 hpe;have E:=dH e;clear e;(go_wp2_with fail);go_roundw
     case rel=>exact⟨k+1,oM,by go_num,(show X.take (k+1)=Y.take (k+1) by rw[HX.out,HY.out,H.out,E.out]),I⟩
     case measure=>exact sZ
    | false =>
     have f:X≠Y:=by
      intro e;subst e;have:x=y:=O.out.symm.trans N.out;rw[beq_iff_eq.2 this]at hpe;cases hpe
     have hd:=dH (decide_eq_false f);clear f;(go_wp2_with fail);go_ret;exact⟨yI (by rw[hd.out]),I⟩
   ·have M:k=n:=oM;have e:X=Y:=by
     have:=H.out
     rwa [take_of_length_le (by rw[j.out];omega),take_of_length_le (by rw[g.out];omega)]at this
    have E:=dH (decide_eq_true e);clear e M;(go_wp2_with fail);go_ret;exact⟨yI (by rw[E.out]),hb⟩
 ·have f:X≠Y:=by intro e;subst e;exact G (s.symm.trans r)
  have hd:=dH (decide_eq_false f);have L:(n==m)=false:=by simpa using G
  have J:((n:Int)==(m:Int))=false:=by rw[beq_eq_false_iff_ne];omega
  clear s r f;go_enter func234,ntmps234
  (go_wp2_with fail);go_ret;exact⟨yI (by rw[hd.out]),Below.refl _ _⟩

def inB(s:ByteArray)(c:Int):Bool:=s.data.toList.any λb=>((b.toNat:Int)==c)
theorem X6(s:ByteArray)(c:Int)(w:World)(hs:s.size<=9223372036854775807):Calls prog 177 #[.string s,.int .u8 c] w λe w'=>e=.returned (.bool (inB s c))/\w=w':=by
 have f:s.data.toList.length=s.size:=Array.length_toList;have j:inB s c=(s.data.toList.drop 0).any λb=>((b.toNat:Int)==c):=rfl;have m:=dH j;clear j;go_enter func177,ntmps177
 (go_wp2_with fail);go_loopw [5] (λi wr=>∃k:Nat,k<=s.size/\i=.int .i64 k/\wr=w/\Hid (inB s c=(s.data.toList.drop k).any λb=>((b.toNat:Int)==c))) (λi _=>s.size-(intOf i).toNat)
 case atStart=>exact⟨0,zL,rfl,rfl,m⟩
 case round =>
  obtain⟨k,hk,rfl,rfl,hd⟩:=hrel;by_cases g:k<s.size
  ·have hg:s.data.toList.drop k=s[k]'g :: s.data.toList.drop (k+1):=by
    rw[drop_eq_getElem_cons (show k<s.data.toList.length by rw[f];exact g)];rfl
   have d:=hd.out;rw[hg,any_cons]at d;obtain⟨b,hb⟩:=eX (s[k]'g)
   rw[hb]at d;cases hc:((b.toNat:Int)==c)with
   | true =>
    rw[hc,Bool.true_or]at d;have Hd:=dH d;clear hd d hg;(go_wp2_with fail);go_ret;exact⟨yI (by rw[Hd.out]),rfl⟩
   | false =>
    rw[hc,Bool.false_or]at d;have Hd:=dH d;clear hd d hg;(go_wp2_with fail);go_roundw
    case rel=>exact⟨k+1,oM,by go_num,trivial,Hd⟩
    case measure=>exact sZ
  ·have d:=hd.out;rw[drop_eq_nil_of_le (by rw[f];omega)]at d;have Hd:=dH d;clear hd d;(go_wp2_with fail);go_ret;exact⟨yI (by rw[Hd.out];rfl),rfl⟩
theorem emptyS:(⟨#[]⟩:ByteArray).size=0:=rfl

def lO:ByteArray:=⟨#[63,99,115,108,109,114]⟩
theorem ZD(w:World) :
  Calls prog 236 #[] w λe w'=>e=.returned (.string lO)/\w=w':=by
 go_enter func236,ntmps236
 (go_wp2_with fail);go_ret;exact⟨rfl,rfl⟩
theorem qx(h1:1<=k)(h2:k<6):∃h:k<lO.size,((lO[k]'h).toNat:Int)=bX k:=by
 have:k=1\/k=2\/k=3\/k=4\/k=5:=oM;rcases this with rfl | rfl | rfl | rfl | rfl <;> exact⟨by decide,by decide⟩
theorem eC(c:Int):kM c=true↔(97<=c/\c<=122)\/(48<=c/\c<=57)\/c=45:=by
 unfold kM;simp;omega
theorem xg(s:ByteArray)(w:World)(hs:s.size<=9223372036854775807)(h:¬(2<=s.size/\s.size<=12)) :
  Calls prog 179 #[.string s] w λe w'=>e=.returned (.int .i64 (yF s))/\Below w.heap.size w w':=by
 have H:Hid (yF s=0):=by show yF s=0;unfold yF;rw[rX s h];rfl
 by_cases h1:2<=s.size
 ·have h4:12<s.size:=oM;clear h;go_enter func179,ntmps179
  go_wp2_with fail
  all_goals
   go_ret;exact⟨y9 H.out.symm,Below.refl _ _⟩
 ·clear h;go_enter func179,ntmps179
  go_wp2_with fail
  all_goals
   go_ret;exact⟨y9 H.out.symm,Below.refl _ _⟩
theorem rkind_last(s:ByteArray)(w:World)(h:2<=s.size)(h1:s.size<=12)(h2:bt s (s.size-1)=45) :
  Calls prog 179 #[.string s] w λe w'=>e=.returned (.int .i64 (yF s))/\Below w.heap.size w w':=by
 have h3:(((s[s.size-1]'oM).toNat:Int)==45)=true:=by
  rw[beq_iff_eq];rw[pM oM];exact h2
 have H:Hid (yF s=0):=by show yF s=0;unfold yF;rw[i8 s h2];rfl
 clear h2;go_enter func179,ntmps179
 (go_wp2_with fail);go_ret;exact⟨y9 H.out.symm,Below.refl _ _⟩
theorem rkind_long(s:ByteArray)(w:World)(h:2<=s.size)(h1:s.size<=12)(h2:bt s (s.size-1)≠45) :
  Calls prog 179 #[.string s] w λe w'=>e=.returned (.int .i64 (yF s))/\Below w.heap.size w w':=by
 have h3:(((s[s.size-1]'oM).toNat:Int)==45)=false:=by
  rw[beq_eq_false_iff_ne];intro g;rw[pM oM]at g;exact h2 g
 have d:=i7 s h h1 h2;have H2:=dH d;clear h2 d;have h0:(0:Int)<s.size:=oM;have hg:((s[0]'oM).toNat:Int)=bt s 0:=pM oM;go_enter func179,ntmps179
 go_wp2_with fail
 go_loop [3] (λiv=>∃i:Nat,1<=i/\i<=s.size/\iv=.int .i64 i/\Hid (tY s i=tY s 1)) (λiv=>s.size-(intOf iv).toNat)
 case atStart=>exact⟨1,oM,oM,rfl,rfl⟩
 case round =>
  obtain⟨i,G,hi2,rfl,hc⟩:=hrel;by_cases hp:i<s.size
  ·have m:((s[i]'hp).toNat:Int)=bt s i:=pM hp;cases hb:kM (bt s i)with
   | true =>
    have t:=(eC _).1 hb;rw[<-m]at t;have Hb:=dH hb;clear hb m;go_wp2_with fail
    all_goals
     go_round
     case rel=>exact⟨i+1,oM,oM,by go_num,(JZ s _ Hb.out).trans hc.out⟩
     case measure=>exact sZ
   | false =>
    have t:¬((97<=bt s i/\bt s i<=122)\/(48<=bt s i/\bt s i<=57)\/bt s i=45):=λg=>(by rw[(eC _).2 g]at hb;cases hb);rw[<-m]at t;have I:(((s[i]'hp).toNat:Int) != 45)=true:=by rw[bne_iff_ne];omega
    have Hb:=dH hb;clear hb m;go_wp2_with fail
    all_goals
     go_ret;exact⟨y9 (by unfold yF;rw[H2.out,<-hc.out,yg s _ oM Hb.out];rfl),Below.refl _ _⟩
  ·have A:yF s=ZE (bt s 0):=by unfold yF;rw[H2.out,<-hc.out,V0 s _ oM];rfl
   have H:=dH A;clear A;(go_wp2_with fail);go_loopw [5] (λkv wr=>∃k:Nat,1<=k/\k<=6/\kv=.int .i64 k/\Below w.heap.size w wr/\Hid (∀j:Int,1<=j->j<k->bX j≠bt s 0)) (λkv _=>(6-intOf kv).toNat)
   case atStart=>exact⟨1,oM,oM,rfl,Below.refl _ _,λj h1 h2=>oM⟩
   case round =>
    obtain⟨k,E,F,rfl,r,hj⟩:=hrel;by_cases hk:k<6
    ·obtain⟨y,f⟩:=qx E hk;have D:(k:Int)<lO.size:=oM;by_cases hl:bX k=bt s 0
     ·have B:(((lO[k]'y).toNat:Int)==bt s 0)=true:=by rw[beq_iff_eq,f];exact hl
      have Hl:=dH hl;clear hl f;go_wp2_with fail
      go_quiet ((go_at_call 236;exact lF (ZD _)))
      (go_wp2_with fail);go_ret;exact⟨y9 (by rw[H.out,VX oM oM Hl.out]),d5 r _⟩
     ·have B:(((lO[k]'y).toNat:Int)==bt s 0)=false:=by rw[beq_eq_false_iff_ne,f];exact hl
      have Hl:=dH hl;clear hl f;go_wp2_with fail
      go_quiet ((go_at_call 236;exact lF (ZD _)))
      (go_wp2_with fail);go_roundw
      case rel =>
       refine⟨k+1,oM,oM,by go_num,d5 r _,λj h1 h2=>?_⟩;by_cases e:j=k
       ·subst e;exact Hl.out
       ·exact hj.out j h1 oM
      case measure=>exact sZ
    ·(go_wp2_with fail);go_ret;exact⟨y9 (by rw[H.out,Q6 (λj h1 h2=>hj.out j h1 oM)]),r⟩
theorem rkind_any(s:ByteArray)(w:World)(hs:s.size<=9223372036854775807) :
  Calls prog 179 #[.string s] w λe w'=>e=.returned (.int .i64 (yF s))/\Below w.heap.size w w':=by
 by_cases h:2<=s.size/\s.size<=12
 ·by_cases h2:bt s (s.size-1)=45
  ·exact rkind_last s w h.1 h.2 h2
  ·exact rkind_long s w h.1 h.2 h2
 ·exact xg s w hs h




def rowB(x:xB):List UInt8:=x.tag.l++(beL 1 x.val.size++x.val.data.toList)
def Z0(L:List xB):List UInt8:=beL 4 L.length++L.flatMap rowB
def putB(L G:List xB):List UInt8:=Z0 L++Z0 G
theorem rowB_len(x:xB):(rowB x).length=33+x.val.size:=by
 have e:x.val.data.toList.length=x.val.size:=Array.length_toList;simp[rowB,xA,x.tag.h];omega
section
open Go.RowKit Go.Sort Go.Shelf
theorem vids(wS:World)(g:Nat)(t:ByteArray)(b:Nat)(L:List zA)(sv:Value)(h:yR wS g t b L sv)(hr:Ris yC L)(hn:L.length<=1000000) :
  Calls prog 49 #[.pointer (some ⟨g,0,none⟩)] wS λe w'=>∃A cap,e=.returned (.slice A L.length cap)/\Own w' wS.heap.size 23 32 A L.length cap (L.map idC)/\Below wS.heap.size wS w':=by
 have a7:=h.ids.lt;have hc:=h.cell1;obtain⟨w0,f,hR,U,a5⟩:=yJ.range (P:=prog) (kv:=idV) (ok:=vL) h.ids underlying29;go_enter func49,ntmps49
 (go_wp2_with fail);refine(jW wS g b hc).mono ?_;rintro e w1 ⟨rfl,rfl⟩;(go_wp2_with fail);clear f hc h;go_loopw [3] (λout wr=>∃S A cap,out=.slice A S.length cap/\jV wr b wS.heap.size idV vL L S/\Own wr w0.heap.size 23 32 A S.length cap (S.map idC)/\Below wS.heap.size wS wr/\w0.heap.size<=wr.heap.size) (λ_ wr=>wr.rangeLeft b wS.heap.size)
 case atStart=>exact⟨[],none,0,rfl,hR,Own.nil _ _ _ _,U,lR⟩
 case round =>
  obtain⟨S,A,cap,rfl,hR,d,hb,a4⟩:=hrel;rcases hR.next (P:=prog) 0 with⟨hall,I,f⟩ | ⟨x,w1,hxL,hxS,f,hR1,hk1,hs1,hl1,hen⟩
  focus
   have hp:S.Perm L:=(perm_ext_iff_of_nodup I (hr.nodup vM)).2 hall;have V:=hp.length_eq;have a2:=dH hall;have a3:=dH V;clear hall V;have m:=iX wr A S.length cap S L d.slr hp hr (by rw[a3.out];omega) (λe=>(d.cap_le.2 e).2);(go_wp2_with fail);refine m.mono ?_;rintro e w2 ⟨A2,N,rfl,j,J⟩;clear m f;(go_wp2_with fail);go_ret;exact⟨A2,N,rfl,j.mono (oH hb.size),hb.trans (J.mono hb.size)⟩
  have a8:S.length+1<=1000000:=by
   obtain⟨M,Z,hZ,X,_,a0,I⟩:=hR1;have h1:=hZ.length;have h2:(Z.map (·.1)).length=(S ++ [x]).length:=by rw[a0]
   have h3:(M.map (·.1)).length<=L.length:=gA I (λy hy=>(X y).1 hy);simp at h2 h3;omega
  have s:Own w1 w0.heap.size 23 32 A S.length cap (S.map idC):=d.kept hk1 (λy hy=>oS ((d.at_base hy).1));have Y:Below wS.heap.size wS w1:=hb.trans (hk1.below (B:=wS.heap.size) oM sI);have E:Below w1.heap.size w1 ((w1.alloc (.cells (idC x) 23)).alloc (.cells (idC x) 23)):=(bA).alloc sI _;have j:=s.below E;have r:z9 ((w1.alloc (.cells (idC x) 23)).alloc (.cells (idC x) 23)) (w1.heap.size+1) 0 32=some (idC x):=by simp[go_sem]
  change (Instr.next _ _ _).run prog wr=.ok (.tuple #[.bool true,.agg (idC x),.bool true]) w1 at f;change (Instr.entry _).run prog w1=.ok (.tuple #[.agg (idC x),.bool true]) w1 at hen;have G:=dH hs1;clear hs1;go_wp2_with (at_builtin;refine xS yO rfl j rfl r (yN _) oM oM (by simp;have:=G.out;omega) ?_;intro A' cap' w2 D F O)
  have T:b∉blk A:=λhx=>(oH ((d.at_base hx).1));have R:wS.heap.size∉blk A:=λhx=>(oH ((d.at_base hx).1));have k:=hR1.kept (z8.of_below E) sI sI;have a1:=k.kept F T R;have a6:w2.rangeLeft b wS.heap.size=w1.rangeLeft b wS.heap.size :=
   (q8 F T R k.lt.2 k.lt.1).trans (q8 (z8.of_below E) sI sI hR1.lt.2 hR1.lt.1)
  have H:w0.heap.size<=w2.heap.size:=by
   have e1:=E.size;have e2:=F.size;have e3:=G.out;omega
  have J:Below wS.heap.size wS w2:=Y.trans ((E.mono (oH G.out)).trans (F.below (B:=wS.heap.size) (by simp;have:=G.out;omega) λy hy=>oH ((d.at_base hy).1)));clear f hen;(go_wp2_with fail);go_roundw
  case rel=>exact⟨S ++ [x],A',cap',sI,a1,by simpa using D,J,H⟩
  case measure=>omega
end
def VSt.ris:VSt->Prop
 | .s _ G=>Ris yC G
 | _=>True






@[go_sem] theorem buildValV_kn(k n:Int)(w:World):(bdS 39 #[(0,.int .i64 k),(1,.int .i64 n)]).run prog w=.ok (.agg (zI ⟨k,n,.slice none 0 0⟩)) w:=kR
@[go_sem] theorem buildValV_kl(k:Int)(A:Option Addr)(n c:Nat)(w:World):(bdS 39 #[(0,.int .i64 k),(2,.slice A n c)]).run prog w=.ok (.agg (zI ⟨k,0,.slice A n c⟩)) w:=kR
theorem iG(k n:Nat):beL (k+1) n=beL k (n / 256) ++ [UInt8.ofNat n]:=by
 induction k generalizing n with
 | zero=>simp[beL]
 | succ k ih =>
  have h1:=ih n;show UInt8.ofNat (n / 256 ^ (k+1)) :: beL (k+1) n=(UInt8.ofNat (n / 256 / 256 ^ k) :: beL k (n / 256)) ++ [UInt8.ofNat n];rw[h1,Nat.pow_succ,Nat.mul_comm,<-Nat.div_div_eq_div_mul];rfl
theorem mk1(w:World):(Instr.makeSlice 127 (.int .i64 1) (.int .i64 1)).run prog w=.ok (.slice (some ⟨w.heap.size,0,none⟩) 1 1) (w.alloc (.cells #[.int .u8 0] 5)):=kR
theorem mk4(w:World):(Instr.makeSlice 127 (.int .i64 4) (.int .i64 4)).run prog w=.ok (.slice (some ⟨w.heap.size,0,none⟩) 4 4) (w.alloc (.cells #[.int .u8 0,.int .u8 0,.int .u8 0,.int .u8 0] 5)):=kR
theorem mQ(w:World)(bs:List UInt8)(n:Nat)(hn:n=bs.length)(cs:Array Value)(hc:cs=(bs.map yG).toArray) :
  (convert 127 9 (.slice (some ⟨w.heap.size,0,none⟩) n n)).run prog (w.alloc (.cells cs 5))=.ok (.string ⟨bs.toArray⟩) (w.alloc (.cells cs 5)):=by
 subst hn;subst hc;exact run_convert_bytes_back (P:=prog) _ 127 9 5 ⟨w.heap.size,0,none⟩ bs.length bs underlying127 underlying5 underlying9 (λj hj=>by simp[go_sem,yG,hj])
theorem u8n(n:Nat):((n:Int) % 256)=((UInt8.ofNat n).toNat:Int):=sI
theorem rnum1(n:Nat)(w:World)(h:n<256) :
  Calls prog 111 #[.int .i64 n,.int .i64 1] w λe w'=>e=.returned (.tuple #[.string ⟨(beL 1 n).toArray⟩,.int .i64 0])/\Below w.heap.size w w':=by
 have k:decide ((n:Int)<0)=false:=sI;have j:decide (256<=(n:Int))=false:=sO;have f:=mQ w (beL 1 n) 1 rfl #[.int .u8 ((n:Int) % 256)] (by rw[u8n];simp[beL,yG]);obtain⟨bs,d⟩:=eX (beL 1 n)
 rw[d]at f |-;clear d;have g:=mk1;go_enter func111,ntmps111
 (go_wp2_with fail);refine wp_loop_rounds 1 ?_;rw[rounds_succ];(go_wp2_with fail);refine wp_loop_rounds 2 ?_;rw[rounds_succ];(go_wp2_with fail);rw[rounds_succ];(go_wp2_with fail);go_ret2;exact⟨rfl,bA⟩
theorem rnum4(n:Nat)(w:World)(h:n<4294967296) :
  Calls prog 111 #[.int .i64 n,.int .i64 4] w λe w'=>e=.returned (.tuple #[.string ⟨(beL 4 n).toArray⟩,.int .i64 0])/\Below w.heap.size w w':=by
 have k:decide ((n:Int)<0)=false:=sI;have j:decide (4294967296<=(n:Int))=false:=sO;have f:=mQ w (beL 4 n) 4 rfl #[.int .u8 ((n:Int) / 256 / 256 / 256 % 256),.int .u8 ((n:Int) / 256 / 256 % 256),.int .u8 ((n:Int) / 256 % 256),.int .u8 ((n:Int) % 256)] (by
  have e1:(n:Int) / 256=((n / 256:Nat):Int):=sI;have e2:((n / 256:Nat):Int) / 256=((n / 256 / 256:Nat):Int):=sI;have e3:((n / 256 / 256:Nat):Int) / 256=((n / 256 / 256 / 256:Nat):Int):=sI;rw[e1,e2,e3,u8n,u8n,u8n,u8n,iG,iG,iG];simp[beL,yG])
 obtain⟨bs,d⟩:=eX (beL 4 n)
 rw[d]at f |-;clear d;have g:=mk4;go_enter func111,ntmps111
 (go_wp2_with fail);refine wp_loop_rounds 4 ?_;rw[rounds_succ];(go_wp2_with fail);rw[rounds_succ];(go_wp2_with fail);rw[rounds_succ];(go_wp2_with fail);rw[rounds_succ];(go_wp2_with fail);refine wp_loop_rounds 5 ?_;rw[rounds_succ];(go_wp2_with fail);rw[rounds_succ];(go_wp2_with fail);rw[rounds_succ];(go_wp2_with fail);rw[rounds_succ];(go_wp2_with fail);rw[rounds_succ];(go_wp2_with fail);go_ret2;exact⟨rfl,bA⟩
theorem rnumP(n M:Nat)(w:World)(hM:M=1\/M=4)(h:n<256 ^ M) :
  Calls prog 111 #[.int .i64 n,.int .i64 M] w λe w'=>∃s:ByteArray,e=.returned (.tuple #[.string s,.int .i64 0])/\s.size=M/\s.data.toList=beL M n/\Below w.heap.size w w':=by
 have c:Calls prog 111 #[.int .i64 n,.int .i64 M] w λe w'=>e=.returned (.tuple #[.string ⟨(beL M n).toArray⟩,.int .i64 0])/\Below w.heap.size w w':=by
  rcases hM with rfl | rfl
  ·exact rnum1 n w h
  ·exact rnum4 n w h
 exact c.mono λ_ _ ⟨he,hb⟩=>⟨_,he,(by show(beL M n).toArray.size=M;simp[xA]),sI,hb⟩

theorem bs1_u8(w:World)(c:Int):(Instr.buildSlice 127 1 #[(0,.int .u8 c)]).run prog w=.ok (.slice (some ⟨w.heap.size,0,none⟩) 1 1) (w.alloc (.cells #[.int .u8 c] 5)):=by
 have h0:(bsS 127 1 #[(0,.agg #[.int .u8 c])]).run prog w=_:=gS qV oM w #[.int .u8 c] sI;exact h0










section
def Small(w:World)(x:Nat):Prop:=∀o k cs,32<=k->z9 w x o k=some cs->False
theorem yu{x:Nat}{t:TypeId}{f:Nat×Nat}(h:w.heap[x]?=some (.cells cs t f))(hs:cs.size<32):Small w x:=λo k c hk hr=>by
 unfold z9 at hr;rw[h]at hr;dsimp only at hr;rw[if_neg oM]at hr;cases hr
theorem SlR.kept_small{R:List (Array Value)}{S:List Nat}(h:SlR w A n k R)(hk:32<=k)(hw:z8 S w w')(hs:∀x∈S,Small w x):SlR w' A n k R:=by
 refine⟨h.1,λh0=>?_⟩;obtain⟨q,o,e,hc⟩:=h.2 h0;refine⟨q,o,e,λi hi=>?_⟩;have d:=zD (hc i hi);rw[hw.row d (λhm=>hs q hm _ _ _ hk (hc i hi)) _ _];exact hc i hi
section
variable {w w':World} {M S:List Nat}
theorem xE.kept_small{g bn bb bg:Nat}{N:List zS}{G:List zA}(h:xE w M g bn bb bg N G)(k:z8 S w w')(hS:∀x∈S,Small w x)(hg:g∉S)(h1:bn∉S)(h2:bb∉S)(h3:bg∉S):xE w' M g bn bb bg N G:=by
 obtain⟨es,r,hn⟩:=h.nodes;obtain⟨BM,m,d,hb,f,j⟩:=h.behind;refine⟨(k.block g h.ltg hg).trans h.blk,⟨es,r,hn.kept k h1⟩,⟨BM,m,d,hb.kept k h2,λp hp=>?_,j⟩,h.gone.kept k h3,h.inM,h.ne,h.one,h.ok⟩;obtain⟨s1,s2⟩:=f p hp;exact⟨⟨s1.rd.kept_small oM k hS,s1.le,s1.nil,s1.plain⟩,λx hx=>⟨(s2 x hx).1,Nat.lt_of_lt_of_le (s2 x hx).2 k.size⟩⟩
theorem kZ.kept_small{O:List Nat}{v:Value}{s:VSt}(h:kZ w O M v s)(k:z8 S w w')(hS:∀x∈S,Small w x)(hO:∀x∈O,x∉S):kZ w' O M v s:=by
 cases s with
 | t n=>obtain⟨g,e,h1,rfl⟩:=h;exact⟨g,e,h1.kept k (hO g sI),rfl⟩
 | b L G=>obtain⟨g,bl,bg,e,h1,rfl⟩:=h;exact⟨g,bl,bg,e,h1.kept k (hO g sI) (hO bl sI) (hO bg sI),rfl⟩
 | l L=>obtain⟨g,b,e,h1,rfl⟩:=h;exact⟨g,b,e,h1.kept k (hO g sI) (hO b sI),rfl⟩
 | m X Ov=>obtain⟨g,bl,bo,e,h1,rfl⟩:=h;exact⟨g,bl,bo,e,h1.kept k (hO g sI) (hO bl sI) (hO bo sI),rfl⟩
 | s N G=>obtain⟨g,bn,bb,bg,e,h1,rfl⟩:=h;exact⟨g,bn,bb,bg,e,h1.kept_small k hS (hO g sI) (hO bn sI) (hO bb sI) (hO bg sI),rfl⟩
end
end
end Go.Proofs.YtddopbhcpblpjaaGreatDoor
