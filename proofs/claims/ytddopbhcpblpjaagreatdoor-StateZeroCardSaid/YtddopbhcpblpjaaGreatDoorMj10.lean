/- Part 10 of the texts that lead to this claim: the walks of the functions and the plain law, in order. -/
import Derived.Test.YtddopbhcpblpjaaGreatDoorMj9
namespace Go.Proofs.YtddopbhcpblpjaaGreatDoor
open Go.RowKit
open List hiding and get max min or set
open Go.Proofs.Tryz
open World
set_option maxRecDepth 100000
set_option maxHeartbeats 8000000
variable {w:World}{A:Option Addr}{n:Nat}{R:List Row}{t:ByteArray}{c:Array Value}{y:HdV}
theorem qg{l:List UInt8}{e:Int}(h:XR l e=0):e=0/\VA (wH (nW l e))++XQ l e=l:=by
 obtain⟨h1,h2,h3⟩:=lE (show zN _ _ _=0 from h);obtain⟨h4,h5⟩:=dV h1;obtain⟨h6,h7⟩:=tW h4;obtain⟨h8,h9⟩:=tW h6;refine⟨h8,?_⟩;have e1:(xQ (yX 32 (zM 4 (txL (txL l e) (txE l e)) (txE (txL l e) (txE l e))) (zN 4 (txL (txL l e) (txE l e)) (txE (txL l e) (txE l e))))).l=yX 32 (zM 4 (txL (txL l e) (txE l e)) (txE (txL l e) (txE l e))) (zN 4 (txL (txL l e) (txE l e)) (txE (txL l e) (txE l e))):=by
  unfold xQ;rw[dif_pos h3]
 unfold VA wH nW g7 XQ;simp only[Int.toNat_natCast,e1,append_assoc];rw[h2,h5,h7,h9]
theorem eO:∀(k:Nat) (s:Rds),(jS k s).e=0->∃X:List Row,X.length=k/\(jS k s).rows=s.rows++X/\(X.map wH).flatMap VA++(jS k s).l=s.l
 | 0,s,_=>⟨[],rfl,by simp[jS],by simp[jS]⟩
 | k+1,s,h=>by
  by_cases he:s.e=0
  ·rw[mE k s he]at h |-;obtain⟨X,h1,h2,h3⟩:=eO k (wX s) h;have h4:XR s.l s.e=0:=by
    by_cases hc:(wX s).e=0
    ·exact hc
    ·rw[fO k _ hc]at h;exact h
   obtain⟨_,h5⟩:=qg h4;refine⟨nW s.l s.e :: X,by simp[h1],by rw[h2];simp[wX],?_⟩;rw[map_cons,flatMap_cons,append_assoc,h3];exact h5
  ·rw[fO _ _ he]at h;exact absurd h he
theorem BH{l:List UInt8}(h:(yQ l).e=0):xq ((yQ l).rows.map wH)++(yQ l).l=l:=by
 obtain⟨X,h1,h2,h3⟩:=eO _ _ h;have hE:zN 4 l 0=0:=by
  by_cases hc:zN 4 l 0=0
  ·exact hc
  ·have h':=h;unfold yQ at h';rw[fO _ _ (show(Rds.mk [] (zM 4 l 0) (zN 4 l 0)).e≠0 from hc)]at h';exact h'
 obtain⟨_,h5⟩:=dV hE;unfold yQ;rw[h2];unfold xq;simp only[nil_append,length_map,append_assoc];rw[h1,h3,h5]
theorem BQ{l:List UInt8}(h:nB l=0):(yQ l).e=0/\fQ (yQ l).rows=0/\kG (yQ l).rows=true/\(yQ l).l = []:=by
 unfold nB at h;split at h
 ·exact absurd h (by assumption)
 ·rename_i h1
  split at h
  ·exact absurd h (by assumption)
  ·rename_i h2
   split at h
   ·cases h
   ·rename_i h3
    split at h
    ·rename_i h4
     exact⟨oM,oM,by simpa using h3,h4⟩
    ·cases h
theorem load_put_l{l:List UInt8}(h:nB l=0):xq ((yQ l).rows.map wH)=l:=by
 obtain⟨h1,_,_,h4⟩:=BQ h;have:=BH h1
 rwa [h4,append_nil]at this
theorem jt:∀(R:List Row),fQ R=0↔∀p∈R.map wH,j4 p.1 p.2=0
 | []=>by simp[fQ]
 | x :: R=>by
  unfold fQ;have ih:=jt R;constructor
  ·intro h;split at h
   ·rename_i hx
    intro p hp;rcases mem_cons.1 hp with e | hp
    ·rw[e];exact hx
    ·exact ih.1 h p hp
   ·exact absurd h (by assumption)
  ·intro h;rw[if_pos (show j4 x.key (g7 x)=0 from h (wH x) sI)];exact ih.2 λp hp=>h p (by simp only[map_cons,mem_cons];exact .inr hp)
theorem X8:∀(R:List Row),kG R=true↔wU (R.map wH)
 | []=>by simp[kG,wU]
 | [x]=>by simp[kG,wU]
 | x :: y :: R=>by
  have ih:=X8 (y :: R);unfold kG;rw[Bool.and_eq_true,ih,vu,decide_eq_true_eq];constructor
  ·rintro⟨h1,h2⟩;refine⟨λz hz=>?_,h2⟩;rcases mem_cons.1 hz with e | hz
   ·rw[e];exact h1
   ·exact mR _ _ _ h1 (h2.1 z hz)
  ·rintro⟨h1,h2⟩;exact⟨h1 (wH y) sI,h2⟩

def tJ(w:World)(l:List UInt8)(e:Ending)(w':World):Prop :=
 ((nB l≠0/\e=.returned (.tuple #[.pointer none,.int .i64 (nB l)])) \/
  (nB l=0/\∃g b,e=.returned (.tuple #[.pointer (some ⟨g,0,none⟩),.int .i64 0])/\xC w' g b ((yQ l).rows.map wH)/\w.heap.size<=g/\w.heap.size<=b))/\Below w.heap.size w w'
theorem tJ.bad{w':World}{l:List UInt8}{E:Int}(h:nB l=E)(hE:E≠0)(hb:Below w.heap.size w w'):tJ w l (.returned (.tuple #[.pointer none,.int .i64 E])) w' :=
 ⟨.inl ⟨by rw[h];exact hE,by rw[h]⟩,hb⟩
theorem NmsIn.get(h:SlR w A n 35 (BO R)){i:Nat}(hi:i<n)(hR:i<R.length) :
  ∃g o,A=some ⟨g,o,none⟩/\z9 w g (o+i*35) 35=some (nmC ⟨(R[i]).key,g7 R[i]⟩)/\w.cell? ⟨g,o+i*35,none⟩=some (.string (R[i]).key):=by
 obtain⟨g,o,e,hr⟩:=h.at_ hi;have e2:(BO R)[i]'(by rw[h.1];exact hi)=nmC ⟨(R[i]).key,g7 R[i]⟩:=by unfold BO;rw[getElem_map];rfl
 rw[e2]at hr;refine⟨g,o,e,hr,?_⟩;have:=zB hr (j:=0) oM
 rwa [nmC_g0]at this
theorem VC:∀ {R:List Row},kG R=true->∀ {j:Nat} (hj:j+1<R.length),bltS (R[j]).key (R[j+1]).key=true
 | x :: y :: R,h,0,_=>by unfold kG at h;rw[Bool.and_eq_true]at h;exact h.1
 | x :: y :: R,h,j+1,hj=>by
  unfold kG at h;rw[Bool.and_eq_true]at h;have:=VC h.2 (j:=j) (by simpa using hj);simpa using this
 | [],_,_,hj=>by simp at hj
 | [x],_,_,hj=>by simp at hj
theorem aA:∀ {X:List jC} {k:ByteArray},(∀q∈X,qS q.1 k<0)->pD X k=none
 | [],_,_=>rfl
 | a :: X,k,h=>by
  have ha:=h a sI;rw[getL_cons,if_neg (λe=>by rw[e]at ha;exact iD ha)];exact aA λq hq=>h q (by simp[hq])
theorem Q9:∀ {X:List jC} {k:ByteArray} {x:yV},(∀q∈X,qS q.1 k<0)->dQ X k x=X ++ [(k,x)]
 | [],_,_,_=>rfl
 | a :: X,k,x,h=>by
  unfold dQ;rw[if_pos (h a sI),Q9 λq hq=>h q (by simp[hq])];rfl
theorem X7:∀ {X:List jC} {k:ByteArray},wU X->(∀q,X.getLast? = some q->qS q.1 k<0)->∀q∈X,qS q.1 k<0
 | [],_,_,_=>by simp
 | [a],k,_,h=>by intro q hq;simp at hq;subst hq;exact h q rfl
 | a :: b :: X,k,hr,h=>by
  have ih:=X7 (k:=k) hr.2 (λq hq=>h q (by rw[getLast?_cons_cons];exact hq));intro q hq;rcases mem_cons.1 hq with e | hq
  ·rw[e];exact mR _ _ _ (hr.1 b sI) (ih b sI)
  ·exact ih q hq
theorem take_last{j:Nat}(hj:j+1<=R.length):((R.take (j+1)).map wH).getLast? = some (wH (R[j]'oM)):=by
 rw[take_add_one,getElem?_eq_getElem oM,map_append,getLast?_append]
 simp
theorem take_more{j:Nat}(hj:j<R.length):(R.take (j+1)).map wH=(R.take j).map wH ++ [(R[j].key,g7 R[j])]:=by
 rw[take_add_one,getElem?_eq_getElem hj,map_append];rfl
theorem ZA:∀(k:Nat) (s:Rds),(jS k s).rows.length<=s.rows.length+k
 | 0,s=>by simp[jS]
 | k+1,s=>by
  by_cases he:s.e=0
  ·rw[mE k s he];have:=ZA k (wX s);simp only[wX,length_append,length_singleton]at this |-;omega
  ·rw[fO _ _ he];omega
theorem xo(l:List UInt8):(yQ l).rows.length<=4294967296:=by
 have:=ZA (yZ 4 l 0) ⟨[],zM 4 l 0,zN 4 l 0⟩;have:=xL 4 l 0;simp only[length_nil]at *;unfold yQ;omega
theorem lload(w:World)(s:ByteArray)(hs:s.size<=9223372036854775807):Calls prog 161 #[.string s] w (tJ w s.data.toList):=by
 obtain⟨l,hl⟩:=eX s.data.toList
 have i8:=xo l;rw[hl];have Hl:=dH hl;clear hl;go_enter func161,ntmps161
 (go_wp2_with fail);refine(dP s _ hs).mono ?_;rintro e w1 ⟨rfl,b9,f7⟩;rw[Hl.out]at b9;clear Hl;obtain⟨g0,f1⟩:=eX w.heap.size
 have i5:w.heap.size<=g0:=oM;rw[f1]at b9;have f0:g0<w1.heap.size:=b9.lt;have j6:=dH f1;(go_wp2_with fail);clear f1;refine(lread _ g0 l b9).mono ?_;rintro e w2 ⟨A,cap,rfl,V,b5,a0,f2⟩;have d7:Below w.heap.size w w2:=f7.trans (a0.below f7.size sO);have a2:nB l=if(yQ l).e≠0 then(yQ l).e else if fQ (yQ l).rows≠0 then fQ (yQ l).rows else if kG (yQ l).rows=false then 4 else if(yQ l).l = []then 0 else 4:=rfl;obtain⟨R,hR⟩:=eX ((yQ l).rows)
 obtain⟨l1,e6⟩:=eX ((yQ l).l)
 obtain⟨e1,f3⟩:=eX ((yQ l).e)
 rw[hR,e6,f3]at a2;rw[hR]at V f2 i8 |-;rw[e6,f3]at b5;have HR:=dH hR;have b8:=dH a2;have j1:=dH f2;have e3:SlR w2 A R.length 35 (BO R):=V.slr;have h6:∀x∈blk A,x<w2.heap.size:=λx hx=>(V.at_base hx).2;clear hR e6 f3 a2 V f2 f7 b9 a0;cases he:(e1==0)with
 | false =>
  have d4:e1≠0:=by simpa using he
  have j3:(e1 != 0)=true:=by simpa using d4
  have hE:nB l=e1:=by rw[b8.out,if_pos d4]
  have HE:=dH hE;have He:=dH d4;clear hE d4;(go_wp2_with fail);refine(xI _ g0 l1 e1 b5).mono ?_;rintro e w3 ⟨rfl,rfl⟩;(go_wp2_with fail);refine(xI _ g0 l1 e1 b5).mono ?_;rintro e w3 ⟨rfl,rfl⟩;(go_wp2_with fail);go_ret2;exact tJ.bad HE.out He.out d7
 | true =>
  obtain rfl:e1=0:=by simpa using he
  have a2:=b8.out;rw[if_neg sI]at a2;have b8:=dH a2;clear a2 he;(go_wp2_with fail);refine(xI _ g0 l1 0 b5).mono ?_;rintro e w3 ⟨rfl,rfl⟩;(go_wp2_with fail);obtain⟨wo,rfl⟩:∃wo:World,wo=w2:=⟨_,rfl⟩
  go_loopw [23] (λi wq=>∃j:Nat,j<=R.length/\i=.int .i64 j/\Hid (fQ R=fQ (R.drop j))/\Below wo.heap.size wo wq) (λi _=>R.length-(intOf i).toNat)
  case atStart=>exact⟨0,zL,rfl,(show _=_ from rfl),Below.refl _ _⟩
  case round =>
   obtain⟨j,hj,rfl,d3,M⟩:=hrel;by_cases k:j<R.length
   ·obtain⟨q,o,rfl,N,_⟩:=NmsIn.get (SlR.below e3 M) k k;have f4:R.drop j=R[j] :: R.drop (j+1):=drop_eq_getElem_cons k;have c3:=j1.out _ (getElem_mem k);obtain⟨x,hx⟩:=eX (R[j]'k)
    rw[hx]at N f4 c3;have a4:=d3.out;rw[f4]at a4;have c4:fQ R=if j4 x.key (g7 x)=0 then fQ (R.drop (j+1))else j4 x.key (g7 x):=a4;have g1:=dH c4;have i6:(g7 x).val.size<=9223372036854775807:=by have:=c3.2;show x.val.size<=_;omega
    clear d3 a4 c4 f4 hx;(go_wp2_with fail);refine(wO x.key (g7 x) _ oM i6).mono ?_;rintro e w4 ⟨rfl,a8⟩;have c7:=yM (M.alloc M.size (.cells (nmC ⟨x.key,g7 x⟩) 295)) a8;clear a8 N M;obtain⟨E,hE⟩:=eX (j4 x.key (g7 x))
    rw[hE]at g1 |-;clear hE;cases hE0:(E==0)with
    | true =>
     obtain rfl:E=0:=by simpa using hE0
     have H:=g1.out;rw[if_pos rfl]at H;have f9:=dH H;clear H;(go_wp2_with fail);go_roundw
     case rel=>exact⟨j+1,oM,by go_num,f9,c7⟩
     case measure=>exact sZ
    | false =>
     have d9:E≠0:=by simpa using hE0
     have j5:(E != 0)=true:=by simpa using hE0
     have H:=g1.out;rw[if_neg d9]at H;have G:=b8.out;rw[H,if_pos d9]at G;have U:=dH G;have j2:=dH d9;clear H G d9;(go_wp2_with fail);go_ret2;exact tJ.bad U.out j2.out (yM d7 c7)
   ·have a5:fQ R=0:=by rw[d3.out,drop_eq_nil_of_le oM];rfl
    have G:=b8.out;rw[if_neg (by rw[a5];simp)]at G;have U:=dH G;have d0:=dH a5;have g6:=SlR.below e3 M;have e4:=b5.below M;have d6:=yM d7 M;have h5:∀x∈blk A,x<wr.heap.size:=λx hx=>(by have:=h6 x hx;have:=M.size;omega);have i4:=e4.lt;clear a5 G d3 e3 b5 d7 M h6 b8 f0;have c2:=(jt R).1 d0.out;have j0:=dH c2;clear c2 d0;(go_wp2_with fail);refine(lnew _).mono ?_;rintro e w4 ⟨gm,bm,rfl,h3,h1,h2,a8⟩;have e2:=SlR.below g6 a8;have g9:=e4.below a8;have a7:=yM d6 a8;have h4:∀x∈blk A,x∉[bm]:=λx hx=>(oS (h5 x hx));have i3:g0∉[bm]:=sO;have i7:w.heap.size<=bm:=Nat.le_trans d6.size h2;have i2:w.heap.size<=gm:=Nat.le_trans d6.size h1;clear g6 e4 d6 h5 a8 h1 h2 i4;(go_wp2_with fail);obtain⟨wp,rfl⟩:∃wp:World,wp=w4:=⟨_,rfl⟩
    go_loopw [39] (λi wq=>∃j:Nat,j<=R.length/\i=.int .i64 j/\xC wq gm bm ((R.take j).map wH)/\z8 [bm] wp wq) (λi _=>R.length-(intOf i).toNat)
    case atStart=>exact⟨0,zL,rfl,h3,z8.refl _ _⟩
    case round =>
     clear h3;obtain⟨j,hj,rfl,hL,hk⟩:=hrel;have c8:Below w.heap.size w wr:=a7.trans (hk.below a7.size sO);by_cases k:j<R.length
     ·obtain⟨q,o,rfl,N,_⟩:=NmsIn.get (e2.kept hk h4) k k;have f5:j4 (R[j]'k).key (g7 (R[j]'k))=0:=j0.out (wH R[j]) (mem_map_of_mem (getElem_mem k));have e0:=take_more k;have D:∀m (hm:m+1=j),qS (R[m]'oM).key (R[j]'k).key<0->∀q∈(R.take j).map wH,qS q.1 (R[j]'k).key<0:=λm hm h=>X7 hL.rows.1 (λq hq=>by
       subst hm;rw[take_last oM]at hq;injection hq with hq
       rw[<-hq];exact h)
      have T:∀m (hm:m+1=j),bltS (R[m]'oM).key (R[j]'k).key=false->nB l=4:=λm hm h=>by
       subst hm;have d2:kG R=false:=by
        cases hr:kG R with
        | false=>rfl
        | true=>rw[VC hr k]at h;cases h
       rw[U.out,if_pos d2]
      have c1:∀m (hm:m+1=j),wr.cell? ⟨q,o+m*35,none⟩=some (.string (R[m]'oM).key):=λm hm=>by
       obtain⟨q',o',e5,_,e7⟩:=NmsIn.get (e2.kept hk h4) (oM:m<R.length) (oM:m<R.length);injection e5 with e5
       injection e5 with i1 i0
       rw[i1,i0];exact e7
      obtain⟨x,hx⟩:=eX (R[j]'k)
      rw[hx]at N f5 e0;simp only[hx]at D T;have h8:=dH f5;have h7:=dH e0;have b0:=dH D;have d1:=dH T;have f8:=dH c1;have b7:z8 [bm] wr (wr.alloc (.cells (nmC ⟨x.key,g7 x⟩) 295)):=(z8.alloc _ _).mono sI;have d8:=hL.kept (z8.alloc wr (.cells (nmC ⟨x.key,g7 x⟩) 295)) sI sI;have t:(wr.alloc (.cells (nmC ⟨x.key,g7 x⟩) 295)).cell? ⟨wr.heap.size,0,none⟩=some (.string x.key):=by simp[go_sem]
      have g:z9 (wr.alloc (.cells (nmC ⟨x.key,g7 x⟩) 295)) wr.heap.size 1 34=some (zK (g7 x)):=by simp[go_sem]
      have f6:bm<wr.heap.size:=hL.lt.2;clear f5 e0 D T c1 hx hL;go_upto_region 16 with fail
      obtain⟨bq,M⟩:=eX wr.heap.size
      rw[M]at t g f6 |-;clear N;by_cases h0:j=0
      ·subst h0;have r:∀q∈(R.take 0).map wH,qS q.1 x.key<0:=sI;clear M;generalize wr.alloc (.cells (nmC ⟨x.key,g7 x⟩) 295)=W at *;refine lX W ?_;intro X hS;have b2:=zJ t;refine lZ ?_;refine zC ?_;intro hS;clear b2 X hS;have B:=dH r;clear r;have Y:=d8.kept (z8.drew W) sI sI;have e8:z8 [bm] wr W.drew:=z8.trans b7 (z8.drew W) sI;have O:W.drew.cell? ⟨bq,0,none⟩=some (.string x.key):=t;have f:z9 W.drew bq 1 34=some (zK (g7 x)):=g;clear d8 b7 t g;generalize W.drew=Z at *;obtain⟨w2,a1,a9,a0⟩:=(Y.kept (z8.drew Z) sI sI).put h8.out (λh9 e=>by rw[aA B.out]at e;cases e);rw[Q9 B.out]at a9;rw[<-h7.out]at a9;have c6:=Y.cell;have a3:gm∉[bm]:=by simp;exact Y.ne
       have c0:bq∉[bm]:=sO;go_upto_region 18 with fail
       refine kX [bm] Z ?_;intro X hS;have b1:=zF c6 a3;have b2:=zF O c0;have b3:=zY f c0;refine lQ ?_;intro K hK;refine zH (yA hS a0 sI) (λhS=>?_);refine hK _ _ ?_;clear hK K;refine zC ?_;intro hS;have e9:z8 [bm] wp w2:=z8.trans hk (z8.trans e8 hS iL) iL;clear b1 b2 b3 X hS a1 a0 O f c6 Y;(go_wp2_with fail);go_roundw
       case rel=>exact⟨0+1,oM,by go_num,a9,e9⟩
       case measure=>exact sZ
      ·obtain⟨m,hm⟩:∃m,m+1=j:=⟨j-1,oM⟩
       have J:=f8.out m hm;have d:=b0.out m hm;have L:=d1.out m hm;obtain⟨y,hy⟩:=eX (R[m]'oM)
       rw[hy]at J;simp only[hy]at d L;have I:(wr.alloc (.cells (nmC ⟨x.key,g7 x⟩) 295)).cell? ⟨q,o+m*35,none⟩=some (.string y.key):=(cell?_alloc_lt wr _ _ (block_lt_of_cell? wr _ J)).trans J;have g4:IntKind.i64.wrap ((j:Int)-1)=(m:Int):=by rw[(oM:(j:Int)-1=m)];exact IntWalk.i64_in _ oM
       have t1:decide ((0:Int)<j)=true:=sO;have t2:(0:Int)<=(m:Int):=oM;have t3:(m:Int)<R.length:=oM;have t4:m<R.length:=oM;have t5:0<j:=oM;clear hy J h0 hm M;generalize wr.alloc (.cells (nmC ⟨x.key,g7 x⟩) 295)=W at *;cases hbl:bltS y.key x.key with
       | true =>
        have a6:Op.bytesLess y.key.toList x.key.toList=true:=hbl;have r:=d (by rw[vu]at hbl;exact of_decide_eq_true hbl);clear d L hbl;refine lX W ?_;intro X hS;have b1:=zJ I;have b2:=zJ t;refine lZ ?_;refine zC ?_;intro hS;clear b1 b2 X hS a6 g4 t1 I;have B:=dH r;clear r;have Y:=d8.kept (z8.drew W) sI sI;have e8:z8 [bm] wr W.drew:=z8.trans b7 (z8.drew W) sI;have O:W.drew.cell? ⟨bq,0,none⟩=some (.string x.key):=t;have f:z9 W.drew bq 1 34=some (zK (g7 x)):=g;clear d8 b7 t g;generalize W.drew=Z at *;obtain⟨w2,a1,a9,a0⟩:=(Y.kept (z8.drew Z) sI sI).put h8.out (λh9 e=>by rw[aA B.out]at e;cases e);rw[Q9 B.out]at a9;rw[<-h7.out]at a9;have c6:=Y.cell;have a3:gm∉[bm]:=by simp;exact Y.ne
        have c0:bq∉[bm]:=sO;go_upto_region 18 with fail
        refine kX [bm] Z ?_;intro X hS;have b1:=zF c6 a3;have b2:=zF O c0;have b3:=zY f c0;refine lQ ?_;intro K hK;refine zH (yA hS a0 sI) (λhS=>?_);refine hK _ _ ?_;clear hK K;refine zC ?_;intro hS;have e9:z8 [bm] wp w2:=z8.trans hk (z8.trans e8 hS iL) iL;clear b1 b2 b3 X hS a1 a0 O f c6 Y;(go_wp2_with fail);go_roundw
        case rel=>exact⟨j+1,oM,by go_num,a9,e9⟩
        case measure=>exact sZ
       | false =>
        have a6:Op.bytesLess y.key.toList x.key.toList=false:=hbl;have c9:=L hbl;have g3:=dH c9;clear d L hbl c9;refine lX W ?_;intro X hS;have b1:=zJ I;have b2:=zJ t;refine lZ ?_;refine zC ?_;intro hS;clear b1 b2 X a6 g4 t1 I;(go_wp2_with fail);go_ret2;exact tJ.bad g3.out oM ((c8.trans (b7.below c8.size sO)).trans (hS.mono (by have:=b7.size;have:=c8.size;omega)))
     ·have g5:R.take j=R:=take_of_length_le oM;rw[g5]at hL;have d2:kG R=true:=(X8 R).2 hL.rows.1;have F:=U.out;rw[if_neg (by rw[d2];simp)]at F;have g8:=g9.kept hk i3;clear g5 d2 g9 hk e2 a7;by_cases b6:l1 = []
      ·have c5:jE l1 0=0:=by unfold jE;rw[if_pos rfl,if_pos b6]
       rw[if_pos b6]at F;have b4:=dH F;have g2:=dH c5;clear F c5 b6;(go_wp2_with fail);refine(dD _ g0 l1 0 g8).mono ?_;rintro e w5 ⟨rfl,d5⟩;rw[g2.out];have i9:=hL.below d5;(go_wp2_with fail);go_ret2;exact⟨.inr ⟨b4.out,gm,bm,rfl,by rw[HR.out];exact i9,i2,i7⟩,yM c8 d5⟩
      ·have c5:jE l1 0=4:=by unfold jE;rw[if_pos rfl,if_neg b6]
       rw[if_neg b6]at F;have b4:=dH F;have g2:=dH c5;clear F c5 b6;(go_wp2_with fail);refine(dD _ g0 l1 0 g8).mono ?_;rintro e w5 ⟨rfl,d5⟩;rw[g2.out];(go_wp2_with fail);go_ret2;exact tJ.bad b4.out oM (yM c8 d5)
def ErrK(k:Int)(l:List UInt8)(E:Int):Prop :=
 if k=1 then E=loadT l else if k=2 then E=rW l else if k=3 then E=nB l else if k=4 then KR l E else E=BZ l
def stL(k:Int)(l:List UInt8):VSt :=
 if k=1 then .t (JL l)else if k=2 then .b (vV l).rows (jR l).rows else if k=3 then .l ((yQ l).rows.map wH)else if k=4 then .m (xT l).rows (q9 l).rows else .s (yP l).rows (xD l).rows
theorem vload1_t(w:World)(s:ByteArray)(Z:Option Addr->Int->World->Prop)(c:Calls prog 159 #[.string s] w λe w'=>∃P E,e=.returned (.tuple #[.pointer P,.int .i64 E])/\Z P E w') :
  Calls prog 98 #[.int .i64 1,.string s] w λe w'=>∃P E,e=.returned (.tuple #[.iface 101 (.pointer P),.int .i64 E])/\Z P E w':=by
 go_enter func98,ntmps98
 (go_wp2_with fail);refine c.mono ?_;rintro e w1 ⟨P,E,rfl,hz⟩;have Hz:=dH hz;clear hz c;(go_wp2_with fail);go_ret2;exact⟨P,E,rfl,Hz.out⟩
theorem vload1_b(w:World)(s:ByteArray)(Z:Option Addr->Int->World->Prop)(c:Calls prog 160 #[.string s] w λe w'=>∃P E,e=.returned (.tuple #[.pointer P,.int .i64 E])/\Z P E w') :
  Calls prog 98 #[.int .i64 2,.string s] w λe w'=>∃P E,e=.returned (.tuple #[.iface 102 (.pointer P),.int .i64 E])/\Z P E w':=by
 go_enter func98,ntmps98
 (go_wp2_with fail);refine c.mono ?_;rintro e w1 ⟨P,E,rfl,hz⟩;have Hz:=dH hz;clear hz c;(go_wp2_with fail);go_ret2;exact⟨P,E,rfl,Hz.out⟩
theorem vload1_l(w:World)(s:ByteArray)(Z:Option Addr->Int->World->Prop)(c:Calls prog 161 #[.string s] w λe w'=>∃P E,e=.returned (.tuple #[.pointer P,.int .i64 E])/\Z P E w') :
  Calls prog 98 #[.int .i64 3,.string s] w λe w'=>∃P E,e=.returned (.tuple #[.iface 104 (.pointer P),.int .i64 E])/\Z P E w':=by
 go_enter func98,ntmps98
 (go_wp2_with fail);refine c.mono ?_;rintro e w1 ⟨P,E,rfl,hz⟩;have Hz:=dH hz;clear hz c;(go_wp2_with fail);go_ret2;exact⟨P,E,rfl,Hz.out⟩
theorem vload1_m(w:World)(s:ByteArray)(Z:Option Addr->Int->World->Prop)(c:Calls prog 162 #[.string s] w λe w'=>∃P E,e=.returned (.tuple #[.pointer P,.int .i64 E])/\Z P E w') :
  Calls prog 98 #[.int .i64 4,.string s] w λe w'=>∃P E,e=.returned (.tuple #[.iface 105 (.pointer P),.int .i64 E])/\Z P E w':=by
 go_enter func98,ntmps98
 (go_wp2_with fail);refine c.mono ?_;rintro e w1 ⟨P,E,rfl,hz⟩;have Hz:=dH hz;clear hz c;(go_wp2_with fail);go_ret2;exact⟨P,E,rfl,Hz.out⟩
theorem vload1_s(w:World)(s:ByteArray)(Z:Option Addr->Int->World->Prop)(c:Calls prog 163 #[.string s] w λe w'=>∃P E,e=.returned (.tuple #[.pointer P,.int .i64 E])/\Z P E w') :
  Calls prog 98 #[.int .i64 5,.string s] w λe w'=>∃P E,e=.returned (.tuple #[.iface 106 (.pointer P),.int .i64 E])/\Z P E w':=by
 go_enter func98,ntmps98
 (go_wp2_with fail);refine c.mono ?_;rintro e w1 ⟨P,E,rfl,hz⟩;have Hz:=dH hz;clear hz c;(go_wp2_with fail);go_ret2;exact⟨P,E,rfl,Hz.out⟩
theorem vload_k(w:World)(s:ByteArray)(hs:s.size<=90000)(k:Int)(hk:1<=k/\k<=5)(M0:List Nat)(j:∀x∈M0,x<w.heap.size) :
  Calls prog 98 #[.int .i64 k,.string s] w λe w'=>∃v E,e=.returned (.tuple #[v,.int .i64 E])/\ErrK k s.data.toList E/\(E=0->∃O,kZ w' O (M0++O) v (stL k s.data.toList)/\∀x∈O,w.heap.size<=x/\x<w'.heap.size)/\Below w.heap.size w w':=by
 obtain⟨l,hl⟩:=eX s.data.toList
 have d:k=1\/k=2\/k=3\/k=4\/k=5:=oM;rcases d with rfl | rfl | rfl | rfl | rfl
 ·refine(vload1_t w s (λP E w'=>E=loadT l/\(E=0->∃g,P=some ⟨g,0,none⟩/\xF w' g (JL l)/\w.heap.size<=g)/\Below w.heap.size w w') ((tload w s oM).mono ?_)).mono ?_
  ·rintro e w' ⟨P,rfl,h1,_,hb⟩;rw[hl]at h1 |-;exact⟨P,_,rfl,rfl,h1,hb⟩
  ·rintro e w' ⟨P,E,rfl,h1,h2,hb⟩;refine⟨_,E,rfl,by rw[hl];exact h1,λh0=>?_,hb⟩;obtain⟨g,rfl,h4,h5⟩:=h2 h0;exact⟨[g],by rw[hl];exact⟨g,rfl,h4,rfl⟩,λx hx=>by rw[mem_singleton]at hx;subst hx;exact⟨h5,h4.lt⟩⟩
 ·refine(vload1_b w s (λP E w'=>E=rW l/\(E=0->∃g bl bg,P=some ⟨g,0,none⟩/\qQ w' g bl bg (vV l).rows (jR l).rows/\w.heap.size<=g/\w.heap.size<=bl/\w.heap.size<=bg)/\Below w.heap.size w w') ((bload w s oM).mono ?_)).mono ?_
  ·rintro e w' ⟨P,rfl,h1,_,hb⟩;rw[hl]at h1 |-;exact⟨P,_,rfl,rfl,h1,hb⟩
  ·rintro e w' ⟨P,E,rfl,h1,h2,hb⟩;refine⟨_,E,rfl,by rw[hl];exact h1,λh0=>?_,hb⟩;obtain⟨g,bl,bg,rfl,h5,k1,k2,k3⟩:=h2 h0;refine⟨[g,bl,bg],by rw[hl];exact⟨g,bl,bg,rfl,h5,rfl⟩,λx hx=>?_⟩;have:=h5.lt.1;have:=h5.live.lt;have:=h5.gone.lt;simp at hx;rcases hx with rfl | rfl | rfl <;> omega
 ·refine(vload1_l w s (λP E w'=>E=nB l/\(E=0->∃g b,P=some ⟨g,0,none⟩/\xC w' g b ((yQ l).rows.map wH)/\w.heap.size<=g/\w.heap.size<=b)/\Below w.heap.size w w') ((lload w s oM).mono ?_)).mono ?_
  ·unfold tJ;rw[hl];rintro e w' ⟨⟨h3,rfl⟩ | ⟨h3,g,b,rfl,h5,k1,k2⟩,hb⟩
   ·exact⟨_,_,rfl,rfl,λh=>absurd h h3,hb⟩
   ·exact⟨_,_,rfl,h3.symm,λ_=>⟨g,b,rfl,h5,k1,k2⟩,hb⟩
  ·rintro e w' ⟨P,E,rfl,h1,h2,hb⟩;refine⟨_,E,rfl,by rw[hl];exact h1,λh0=>?_,hb⟩;obtain⟨g,b,rfl,h5,k1,k2⟩:=h2 h0;obtain⟨M',es,r,hm,_⟩:=h5.map;refine⟨[g,b],by rw[hl];exact⟨g,b,rfl,h5,rfl⟩,λx hx=>?_⟩;have:=(aG h5.blk).1;have:=hm.lt;simp at hx;rcases hx with rfl | rfl <;> omega
 ·refine(vload1_m w s (λP E w'=>KR l E/\(E=0->∃g bl bo,P=some ⟨g,0,none⟩/\xN w' g bl bo (xT l).rows (q9 l).rows/\w.heap.size<=g/\w.heap.size<=bl/\w.heap.size<=bo)/\Below w.heap.size w w') ((mload w s oM).mono ?_)).mono ?_
  ·rintro e w' ⟨P,E,rfl,h4,h5,_,hb⟩;rw[hl]at h4 h5;exact⟨P,E,rfl,h4,h5,hb⟩
  ·rintro e w' ⟨P,E,rfl,h1,h2,hb⟩;refine⟨_,E,rfl,by rw[hl];exact h1,λh0=>?_,hb⟩;obtain⟨g,bl,bo,rfl,h5,k1,k2,k3⟩:=h2 h0;refine⟨[g,bl,bo],by rw[hl];exact⟨g,bl,bo,rfl,h5,rfl⟩,λx hx=>?_⟩;have:=h5.lt.1;have:=h5.live.lt;have:=h5.over.lt;simp at hx;rcases hx with rfl | rfl | rfl <;> omega
 ·refine(vload1_s w s (λP E w'=>E=BZ l/\(E=0->∃g bn bb bg,P=some ⟨g,0,none⟩/\xE w' (M0 ++ [g,bn,bb,bg]) g bn bb bg (yP l).rows (xD l).rows/\w.heap.size<=g/\w.heap.size<=bn/\w.heap.size<=bb/\w.heap.size<=bg)/\Below w.heap.size w w') ?_).mono ?_
  ·by_cases he:BZ l=0
   ·refine(sqload_ok w s hs (by rw[hl];exact KH he) M0 j).mono ?_;rintro e w' ⟨g,bn,bb,bg,rfl,h5,k1,k2,k3,k4,hb⟩;rw[hl]at h5;exact⟨_,0,rfl,he.symm,λ_=>⟨g,bn,bb,bg,rfl,h5,k1,k2,k3,k4⟩,hb⟩
   ·refine(sqload_bad w s hs (by rw[hl];exact he)).mono ?_;rintro e w' ⟨rfl,hb⟩;rw[hl];exact⟨_,_,rfl,rfl,λh=>absurd h he,hb⟩
  ·rintro e w' ⟨P,E,rfl,h1,h2,hb⟩;refine⟨_,E,rfl,by rw[hl];exact h1,λh0=>?_,hb⟩;obtain⟨g,bn,bb,bg,rfl,h5,k1,k2,k3,k4⟩:=h2 h0;obtain⟨es,r,hn⟩:=h5.nodes;obtain⟨BM,t,m,f,_⟩:=h5.behind;refine⟨[g,bn,bb,bg],by rw[hl];exact⟨g,bn,bb,bg,rfl,h5,rfl⟩,λx hx=>?_⟩;have:=h5.ltg;have:=hn.lt;have:=f.lt;have:=h5.gone.lt;simp at hx;rcases hx with rfl | rfl | rfl | rfl <;> omega
theorem kZ.iface{w:World}{O M:List Nat}{v:Value}{s:VSt}(h:kZ w O M v s):∃ty gs,v=.iface ty (.pointer (some ⟨gs,0,none⟩)):=by
 cases s with
 | t n=>obtain⟨g,e,_⟩:=h;exact⟨_,_,e⟩
 | b L G=>obtain⟨g,bl,bg,e,_⟩:=h;exact⟨_,_,e⟩
 | l L=>obtain⟨g,b,e,_⟩:=h;exact⟨_,_,e⟩
 | m X O=>obtain⟨g,bl,bo,e,_⟩:=h;exact⟨_,_,e⟩
 | s N G=>obtain⟨g,bn,bb,bg,e,_⟩:=h;exact⟨_,_,e⟩
theorem rd_left(w:World)(g:Nat)(l:List UInt8)(h:q7 w g l 0):Calls prog 99 #[.pointer (some ⟨g,0,none⟩)] w λen w'=>en=.returned (.int .i64 l.length)/\Below w.heap.size w w':=by
 have h0:=h;obtain⟨s,a,ha,hs,hg,hl⟩:=h;obtain⟨c0,c1,c2,c3,_⟩:=nR hg;have j:l.length=s.size-a:=by rw[hl,length_drop];congr 1
 have d:((s.size:Int)-(a:Int))=((s.size-a:Nat):Int):=oM;have k:=dH j;have HL:=dH hl;clear hl j h0;have f:=lD w g 0 c3 c2;rw[show(!((0:Int)==0))=false from rfl]at f;obtain⟨m,hm⟩:=eX (s.size-a)
 rw[hm]at d;have y:m<=9223372036854775807:=oM;have r:IntKind.i64.wrap (m:Int)=(m:Int):=IntWalk.i64_in _ oM;have Hm:=dH hm;clear hm;go_enter func99,ntmps99
 (go_wp2_with fail);refine f.mono ?_;rintro e w1 ⟨rfl,rfl⟩;go_upto_region 3 with fail
 refine lX w ?_;intro t hS;have b1:=zJ c0;have b2:=zJ c1;refine lZ ?_;refine zC ?_;intro hS;(go_wp2_with fail);go_ret;exact⟨y9 (by rw[k.out,Hm.out]),hS⟩
def pO(k:Int)(I:List zA)(l:List UInt8)(e E:Int):Prop :=
 if e≠0 then E=e else if kD I=false then E=4 else ErrK k l E
theorem kZ.sub{O M M':List Nat}{v:Value}{s:VSt}(h:kZ w O M v s)(hO:∀x∈O,x∈M')(hs:∀x∈M',x∈M):kZ w O M' v s:=by
 cases s with
 | s N G =>
  obtain⟨g,bn,bb,bg,e,h1,rfl⟩:=h;obtain⟨BM,k,f,hb,d,j⟩:=h1.behind;exact⟨g,bn,bb,bg,e,⟨h1.blk,h1.nodes,⟨BM,k,f,hb,λp hp=>⟨(d p hp).1,λx hx=>⟨λhm=>((d p hp).2 x hx).1 (hs x hm),((d p hp).2 x hx).2⟩⟩,j⟩,h1.gone,⟨hO _ sI,hO _ sI,hO _ sI⟩,h1.ne,h1.one,h1.ok⟩,rfl⟩
 | _=>exact h
theorem vload_in(t:ByteArray)(w:World)(s:ByteArray)(I0:List zA)(l0:List UInt8)(e0:Int)(M0:List Nat)(o3:∀x∈M0,x<w.heap.size)(hs:s.size<=90000)(ht:t.size<=9223372036854775807)(d9:yF t≠0)(hw:1<w.heap.size)(d5:j2 idP s.data.toList 0=⟨I0,l0,e0⟩) :
  Calls prog 41 #[.string t,.string s] w λe w'=>∃P E,e=.returned (.tuple #[.pointer P,.int .i64 E])/\pO (yF t) I0 l0 e0 E/\(E≠0->P=none)/\(E=0->∃g b O v,P=some ⟨g,0,none⟩/\VAt w' g t b O I0 v (stL (yF t) l0)/\kZ w' O (M0++g :: b :: O) v (stL (yF t) l0)/\(∀x∈b :: O,w.heap.size<=x)/\w.heap.size<=g)/\Below w.heap.size w w':=by
 obtain⟨l,hl⟩:=eX s.data.toList
 have p4:l.length<=90000:=by rw[<-hl];exact hs
 have c1:=vnew_any t w ht d9 hw;have c2:=λw=>dP s w oM;have f6:j2 idP l 0=⟨I0,l0,e0⟩:=by rw[<-hl];exact d5
 have k6:e0=0->l0.length<=90000/\I0.length<=90000:=λh=>by
  have h4:=jQ nC (show(j2 idP l 0).e=0 by rw[f6];exact h);rw[f6]at h4;have h5:I0.length+l0.length<=l.length:=h4;omega
 rw[hl]at c2;have hN:=xL 4 l 0;obtain⟨N,g4⟩:=eX (yZ 4 l 0)
 have d8:qF idP N ⟨[],zM 4 l 0,zN 4 l 0⟩=⟨I0,l0,e0⟩:=by rw[<-f6,<-g4];rfl
 rw[g4]at hN;have o9:=dH g4;have j7:=dH d8;clear hl f6 d5 g4 d8;go_enter func41,ntmps41
 (go_wp2_with fail);refine c1.mono ?_;rintro e w2 ⟨g,b,O0,v0,rfl,hV,c9,p7,j3⟩;(go_wp2_with fail);refine(c2 w2).mono ?_;rintro e w3 ⟨rfl,f7,e8⟩;obtain⟨gr,i7⟩:=eX w2.heap.size
 have q2:=dH i7;have l9:yR w3 g t b [] v0:=hV.view.below e8;have p8:g<gr/\b<gr:=by have h1:=hV.view.lt;have h2:=hV.view.ids.lt;omega
 have Z:=yM j3 e8;have p9:w.heap.size<=b:=c9 b sI;rw[i7]at f7 |-;have n2:w.heap.size<=gr:=oH j3.size;clear c1 c2 hV c9 j3 e8 i7;(go_wp2_with fail);refine(kH w3 gr l 0 f7).mono ?_;rintro e w4 ⟨rfl,k3,g0⟩;rw[o9.out];have k0:=g0.size;have n7:=f7.lt;clear f7;(go_wp2_with fail);go_loopw [9,11,12] (λout i _ wr=>∃(k:Nat) (G:List zA) (l2:List UInt8) (e2:Int) (B1:Option Addr) (U:Nat),k<=N/\i=.int .i64 k/\out=.slice B1 G.length U/\G.length=k/\Own wr w4.heap.size 23 32 B1 G.length U (G.map idC)/\q7 wr gr l2 e2/\Hid (qF idP N ⟨[],zM 4 l 0,zN 4 l 0⟩=qF idP (N-k) ⟨G,l2,e2⟩)/\z8 [gr] w4 wr) (λ_ i _ _=>N-(intOf i).toNat)
 case atStart=>exact⟨0,[],_,_,none,0,zL,rfl,rfl,rfl,Own.nil _ _ _ _,k3,(show _=_ from rfl),z8.refl _ _⟩
 case round =>
  clear k3;obtain⟨k,G,l2,e2,B1,U,p6,rfl,rfl,m3,j,hr,f9,hk⟩:=hrel;have p0:=dH m3;have q1:G.length<=N:=oM;clear m3;have p2:=hk.size;have M:Hid (¬(k<N/\e2=0)->⟨G,l2,e2⟩=(⟨I0,l0,e0⟩:mX zA)):=λhn=>by
   rw[<-j7.out,f9.out];by_cases he:e2=0
   ·rw[(oM:N-k=0)];rfl
   ·exact(jY _ _ he).symm
  by_cases hgo:k<N/\e2=0
  ·obtain⟨p3,rfl⟩:=hgo;have b7:=f9.out;rw[(oM:N-k=(N-(k+1))+1),jZ _ _ rfl]at b7;have j8:=dH b7;clear f9 b7 M;have i6:=hr.lt;have o0:gr∉blk B1:=λhx=>(oH ((j.at_base hx).1));have h8:=heap_alloc_new wr (.cells (idC id0) 23);have a1:=hr.kept (z8.alloc wr (.cells (idC id0) 23)) sI;have a3:z8 [] wr (wr.alloc (.cells (idC id0) 23)):=z8.alloc _ _;have R:(wr.alloc (.cells (idC id0) 23)).heap.size=wr.heap.size+1:=sI;(go_wp2_with fail);refine(xI _ gr l2 0 hr).mono ?_;rintro e w5 ⟨rfl,rfl⟩;go_upto_region 11 with fail
   obtain⟨g8,c8⟩:=eX wr.heap.size
   have o7:=dH c8;obtain⟨W,hW⟩:=eR (wr.alloc (.cells (idC id0) 23))
   rw[<-hW]at h8 a1 a3 R |-;rw[c8]at h8 i6 R |-;have i9:g8<W.heap.size:=oM;have i1:g8∉[gr]:=sO;have n4:gr∉[g8]:=sO;have o5:=dH R;clear hW c8 hr R;have c1:=wI W.drew gr l2 0 (a1.kept (z8.drew W) sI);refine kX [gr,g8] W ?_;intro i2 hS;refine lQ ?_;intro K hK;refine c1.mono ?_;rintro en w1 ⟨rfl,k4,i5⟩;replace hS:=yA hS i5 sI;have e3:w1.heap[g8]?=_:=(i5.block g8 (by show _<W.drew.heap.size;exact i9) i1).trans h8;refine⟨_,rfl,hS,hK _ _ ?_⟩;clear hK K c1;obtain⟨w5,m2,o1,c0,g1⟩:=pI (yX 32 l2 0) (m9 _ _) 3 32 e3;refine lH ?_;intro K hK;refine zH (yA hS g1 sI) (λm0=>?_);refine hK _ _ ?_;clear hK K;refine zC ?_;intro hS;have k9:z8 [gr,g8] W w5:=m0;have d6:=k4.kept g1 n4;have b5:gP idP ⟨G,l2,0⟩=⟨G ++ [xQ (yX 32 l2 0)],zM 32 l2 0,zN 32 l2 0⟩:=rfl;rw[b5]at j8;obtain⟨d,hd⟩:=eX (xQ (yX 32 l2 0))
   rw[hd]at c0 j8;clear hd b5 o1 hS m0 i2 i5 g1 k4 e3 h8 a1;have k8:z8 [gr,g8] wr w5:=z8.trans (a3.mono (S':=[gr,g8]) sI) k9 iL;have c7:z8 [gr] wr w5:=k8.narrow (λx hx=>by have:=o7.out;simp at hx |-;omega);have a2:=j.kept c7 (λx hx=>oS ((j.at_base hx).1));have d3:z9 w5 g8 0 32=some (idC d):=by unfold z9;rw[c0];simp[go_sem]
   have a5:Below w5.heap.size w5 (w5.alloc (.cells (idC d) 23)):=bA;have f:=a2.below a5;have D:z9 (w5.alloc (.cells (idC d) 23)) w5.heap.size 0 32=some (idC d):=by simp[go_sem]
   have n1:w4.heap.size<=w5.heap.size:=oH c7.size;clear j a2 c0 k9 k8 a3;go_wp2_with (at_builtin;refine xS yO rfl f rfl D (yN _) oM oM sO ?_;intro p1 f0 j9 F a4 a9)
   have d9:z8 (blk B1) w5 j9:=z8.trans ((z8.of_below a5).mono (S':=blk B1) sI) a4 iL;have j4:=d6.kept d9 o0;have n5:z8 [gr] w4 j9:=z8.trans (z8.trans hk c7 iL) d9 (λx hx=>.inr (oH ((f.at_base hx).1)));rw[(sI:G.map idC ++ [idC d]=(G ++ [d]).map idC)]at F;have I:(G ++ [d]).length=G.length+1:=sI;have m:=dH I;clear I d9 a4 a9 f D a5 d3 d6;(go_wp2_with fail);go_roundw
   case rel=>exact⟨k+1,G ++ [d],_,_,p1,f0,oM,by go_num,(by rw[m.out]),(by rw[m.out,p0.out]),(by rw[m.out];exact F),j4,j8,n5⟩
   case measure=>exact sZ
  ·have hf:=M.out hgo;have f1:G=I0:=congrArg mX.rows hf;have f2:l2=l0:=congrArg mX.l hf;have f3:e2=e0:=congrArg mX.e hf;subst f1;subst f2;subst f3;have a0:¬k<N\/(k<N/\(e2==0)=false):=by
    by_cases h1:k<N
    ·exact .inr ⟨h1,by simp;exact λh=>hgo ⟨h1,h⟩⟩
    ·exact .inl h1
   have a7:=dH a0;clear hf hgo M f9 a0;have l5:yR wr g t b [] v0:=l9.kept (z8.trans g0 hk iL) sO sO;have V:Below w.heap.size w wr:=(Z.trans (g0.below (oH Z.size) sO)).trans (hk.below (B:=w.heap.size) (oH Z.size) sO);have n6:gr<wr.heap.size:=hr.lt;clear l9 g0 hk Z;go_upto_region 8 with fail
   go_cut [35] (λv wx=>v=.bool false/\wr=wx)
   case first =>
    rcases a7.out with h1 | ⟨h1,h2⟩
    ·go_wp2_with fail
     go_meet
     exact⟨rfl,rfl⟩
    ·(go_wp2_with fail);refine(xI _ gr l2 e2 hr).mono ?_;rintro e w5 ⟨rfl,rfl⟩;go_wp2_with fail
     go_meet
     exact⟨rfl,rfl⟩
   case rest =>
   obtain⟨rfl,rfl⟩:=hcut;clear a7;(go_wp2_with fail);refine(xI _ gr l2 e2 hr).mono ?_;rintro e w5 ⟨rfl,rfl⟩;by_cases h3:e2≠0
   ·have e8:(e2 != 0)=true:=by simpa using h3
    have H3:=dH h3;clear h3;(go_wp2_with fail);refine(xI _ gr l2 e2 hr).mono ?_;rintro e w5 ⟨rfl,rfl⟩;(go_wp2_with fail);go_ret2;exact⟨none,e2,rfl,(if_pos H3.out).mpr rfl,λ_=>rfl,λh=>absurd h H3.out,V⟩
   have h3:e2=0:=Classical.not_not.1 h3;subst h3;obtain⟨p5,q0⟩:=k6 rfl;have ci:=iU wr B1 G.length U G j.slr oM;obtain⟨ri,h0⟩:=eX (kD G)
   rw[h0]at ci;have m7:=dH h0;clear h0 k6;(go_wp2_with fail);refine ci.mono ?_;rintro e w5 ⟨rfl,d0⟩;cases ri with
   | false =>
    have Y:=yM V d0;clear ci;(go_wp2_with fail);go_ret2;exact⟨none,4,rfl,by unfold pO;rw[if_neg sI,if_pos m7.out],λ_=>rfl,λh=>absurd h (by decide),Y⟩
   | true =>
   have l8:=l5.below d0;have d6:=hr.below d0;have d7:=j.below d0;have Y:=yM V d0;clear ci l5 hr j V d0;(go_wp2_with fail);refine(bQ t w5 ht).mono ?_;rintro e w6 ⟨rfl,e7⟩;have l7:=l8.below e7;have h6:=d6.below e7;have f8:=d7.below e7;have e9:=yM Y e7;clear l8 d6 d7 Y e7;(go_wp2_with fail);refine(rd_left w6 gr l2 h6).mono ?_;rintro e w7 ⟨rfl,e6⟩;have l6:=l7.below e6;have k1:=h6.below e6;have h9:=f8.below e6;have c4:=yM e9 e6;clear l7 h6 f8 e9 e6;(go_wp2_with fail);refine(dC w7 gr _ _ 0 k1 oM).mono ?_;rintro e w8 ⟨rfl,n3,a3⟩;have m6:yX l2.length l2 0=l2:=by unfold yX;rw[if_pos ⟨rfl,lR⟩];exact take_length
   rw[m6];have g3:=l6.kept a3 sO sO;have k5:=h9.kept a3 (λx hx=>oS ((h9.at_base hx).1));have X:Below w.heap.size w w8:=c4.trans (a3.below (B:=w.heap.size) (oH c4.size) sO);have n9:=g3.lt;have o2:=g3.ids.lt;have i3:1<=(yF t:Int)/\(yF t:Int)<=5:=oH (fE t);have cl:=vload_k w8 (mkB l2) (by rw[gV];omega) (yF t) i3 (M0 ++ [g,b]) (λx hx=>by rcases mem_append.1 hx with hx | hx;exact Nat.lt_of_lt_of_le (o3 x hx) X.size;simp at hx;omega);rw[show(mkB l2).data.toList=l2 from rfl]at cl;clear m6 l6 k1 h9 c4 n3 a3;(go_wp2_with fail);refine cl.mono ?_;rintro e w9 ⟨v,E,rfl,m4,b4,e5⟩;have m8:=dH (show pO (yF t) G l2 0 E by unfold pO;rw[if_neg sI,if_neg (by rw[m7.out];simp)];exact m4);by_cases c6:E≠0
   ·have e8:(E != 0)=true:=by simpa using c6
    have H3:=dH c6;have L:=yM X e5;clear c6 b4 cl;(go_wp2_with fail);go_ret2;exact⟨none,E,rfl,m8.out,λ_=>rfl,λh=>absurd h H3.out,L⟩
   have c6:E=0:=Classical.not_not.1 c6;obtain⟨O,b5,hO⟩:=b4 c6;subst c6;clear b4 m4;obtain⟨st,b3⟩:=eX (stL (yF t) l2)
   rw[b3]at b5;have f4:=dH b3;clear b3;obtain⟨ty,gs,rfl⟩:=b5.iface;have a6:=g3.below e5;have h7:=k5.below e5;have L:=yM X e5;have g2:=a6.ne;have f2:w9.frozen? ⟨g,2,none⟩=false:=by simp[frozen?,a6.blk]
   have x2:=a6.cell2;have b8:z8 [g] w9 (w9.setCell ⟨g,2,none⟩ (.iface ty (.pointer (some ⟨gs,0,none⟩)))):=z8.setCell w9 ⟨g,2,none⟩ (.iface ty (.pointer (some ⟨gs,0,none⟩)));have j5:=zE a6.blk 2 (.iface ty (.pointer (some ⟨gs,0,none⟩)));have A:=b5.kept_small b8 (λx hx=>by rw[mem_singleton]at hx;subst hx;exact yu a6.blk sI) (λx hx hm=>by rw[mem_singleton]at hm;have:=(hO x hx).1;omega);have J:jM _ b []:=a6.ids.kept b8 (by simpa using λe=>g2 e.symm);have b6:=h7.kept b8 (λx hx hm=>by rw[mem_singleton]at hm;have:=(h7.at_base hx).1;omega);have c3:Below w.heap.size w (w9.setCell ⟨g,2,none⟩ (.iface ty (.pointer (some ⟨gs,0,none⟩)))):=L.trans (b8.below (B:=w.heap.size) L.size sO);have c5:∀x∈O,w8.heap.size<=x/\x<(w9.setCell ⟨g,2,none⟩ (.iface ty (.pointer (some ⟨gs,0,none⟩)))).heap.size:=λx hx=>⟨(hO x hx).1,Nat.lt_of_lt_of_le (hO x hx).2 b8.size⟩;have n8:=a6.lt;have g7:=b8.size;clear cl g3 k5 X a6 h7 L b5 hO e5 b8;go_upto_region 21 with fail
   obtain⟨d1,a8⟩:=eX (w9.setCell ⟨g,2,none⟩ (.iface ty (.pointer (some ⟨gs,0,none⟩))))
   rw[a8]at j5 A J b6 c3 c5 g7;rw[a8];have o6:=dH A;have HO:=dH c5;have f5:=dH c3;have n0:=dH j5;have l1:b<d1.heap.size:=J.lt;clear a8 f2 x2 A c5 c3 j5;(go_wp2_with fail);go_loopw [75] (λi wr=>∃k:Nat,k<=G.length/\i=.int .i64 k/\jM wr b (G.take k)/\z8 [b] d1 wr) (λi _=>G.length-(intOf i).toNat)
   case atStart=>exact⟨0,zL,rfl,by simpa using J,z8.refl _ _⟩
   case round =>
    obtain⟨k2,g1,rfl,hid,b9⟩:=hrel;have e1:g<d1.heap.size:=(aG n0.out).1;have r:=(b9.block g e1 (by simpa using g2)).trans n0.out;have T:wr.cell? ⟨g,1,none⟩=some (.map (some b)):=by rw[cell_of_row wr g 1 _ _ _ r];rfl
    by_cases H:k2<G.length
    ·have m5:=b6.kept b9 (λx hx=>oS ((b6.at_base hx).1));obtain⟨q,o,rfl,d4⟩:=zW.get m5.slr H H;have g6:G.take (k2+1)=G.take k2 ++ [G[k2]'H]:=by rw[take_add_one,getElem?_eq_getElem H];rfl
     obtain⟨x,hx⟩:=eX (G[k2]'H)
     rw[hx]at d4 g6;have o4:=dH g6;have a5:Below wr.heap.size wr (wr.alloc (.cells (idC x) 23)):=bA;have i0:=yJ.below hid a5;have j0:=(a5.cell (p:=⟨g,1,none⟩) (block_lt_of_cell? wr _ T)).trans T;have a1:z9 (wr.alloc (.cells (idC x) 23)) wr.heap.size 0 32=some (idC x):=by simp[go_sem]
     have k7:z8 [b] d1 (wr.alloc (.cells (idC x) 23)):=z8.trans b9 (z8.of_below a5) sI;have j1:b<wr.heap.size:=hid.lt;clear hx g6 m5;go_upto_region 24 with fail
     obtain⟨g8,c8⟩:=eX wr.heap.size
     obtain⟨W1,l4⟩:=eR (wr.alloc (.cells (idC x) 23))
     rw[<-l4]at i0 j0 a1 k7 |-;rw[c8]at a1 j1 |-;clear l4 c8 d4 T a5 hid r;obtain⟨g5,g9,d7,c7⟩:=jb (x:=x) (i0.kept (z8.drew W1) sI);have i8:g∉[b]:=by simpa using g2
     refine kX [b] W1 ?_;intro i2 hS;have b1:=zF j0 i8;have b2:=zY a1 (S:=[b]) sO;refine lQ ?_;intro K hK;refine zH (yA hS c7 sI) (λhS=>?_);refine hK _ _ ?_;clear hK K;refine zC ?_;intro hS;have m1:z8 [b] W1 g5:=hS;have i4:z8 [b] d1 g5:=z8.trans k7 m1 iL;have f8:jM g5 b (G.take (k2+1)):=yJ.congr d7 (λy=>by rw[o4.out,mem_append,mem_singleton,mem_cons];exact Or.comm);clear b1 b2 i2 hS c7 g9 j0 a1 d7 m1 i0;(go_wp2_with fail);go_roundw
     case rel=>exact⟨k2+1,oM,by go_num,f8,i4⟩
     case measure=>exact sZ
    ·have e2:G.take k2=G:=take_of_length_le oM;rw[e2]at hid;have c9:b∉O:=λhx=>(oH ((HO.out b hx).1));have b0:kZ wr O (M0++g :: b :: O) (.iface ty (.pointer (some ⟨gs,0,none⟩))) st:=by
      have h1:=o6.out.kept b9 (λx hx hm=>by rw[mem_singleton]at hm;rw[hm]at hx;exact c9 hx) (λx hx=>.inl (by rw[mem_singleton]at hx;rw[hx];simp))
      rwa [(sI:(M0 ++ [g,b])++O=M0++g :: b :: O)]at h1
     have d2:kZ wr O (b :: O) (.iface ty (.pointer (some ⟨gs,0,none⟩))) st:=b0.sub (λx hx=>mem_cons_of_mem _ hx) (λx hx=>mem_append_right _ (mem_cons_of_mem _ hx));have j6:=dH b0;clear b0;have e4:VAt wr g t b O G (.iface ty (.pointer (some ⟨gs,0,none⟩))) st:=⟨⟨r,hid⟩,d2,λhx=>by
      rcases mem_cons.1 hx with h1 | h1
      ·exact g2 h1
      ·have:=(HO.out g h1).1;omega,c9,λx hx=>by
      have:=b9.size;rcases mem_cons.1 hx with h1 | h1
      ·omega
      ·have:=(HO.out x h1).2;omega,λhx=>by
      rcases mem_cons.1 hx with h1 | h1
      ·omega
      ·have:=(HO.out _ h1).1;omega⟩
     have l3:Below w.heap.size w wr:=f5.out.trans (b9.below (B:=w.heap.size) f5.out.size sO);have M:=dH e4;have o8:=dH l3;clear e2 hid b9 r T e4 l3 d2 c9;(go_wp2_with fail);go_ret2;exact⟨_,0,rfl,m8.out,λh=>absurd rfl h,λ_=>⟨g,b,O,_,rfl,by rw[f4.out];exact M.out,by rw[f4.out];exact j6.out,λx hx=>by
      rcases mem_cons.1 hx with h1 | h1
      ·omega
      ·have:=(HO.out x h1).1;omega,oM⟩,o8.out⟩
section
structure HdX where
 id:zA
 h:HdV
structure Pay where
 c:zA
 body:ByteArray
 pin:Bool
structure VwX where
 t:ByteArray
 I:List zA
 s:VSt
structure StX where
 q:Int
 D:List HdX
 O:List zA
 S:List Pay
 V:List VwX
section
variable (D:List HdX)
def kV(i:zA):Option HdV:=(D.find? λx=>decide (x.id=i)).map (·.h)
def qR:List zA:=D.map (·.id)
def htX(i:zA):Int:=match kV D i with | some h=>h.ht | none=>0
def s8(ps:List zA):List zA:=ps.filter λp=>decide (p∉qR D)
def topX(ps:List zA):Int:=ps.foldl (λm p=>max m (min (htX D p) 1073741824)) 0+1
def fZ(h:HdV):Int:=if hdE h≠0 then hdE h else if s8 D h.ps≠[]then 11 else if topX D h.ps≠h.ht then 12 else 0
def dF(f:zA->Int)(a b:zA):Int:=orC (fS (f a) (f b)) (yC a b)
def JN(x:HdX):List HdX:=D.takeWhile (λy=>bC y.h.ht y.id x.h.ht x.id)++x :: D.dropWhile (λy=>bC y.h.ht y.id x.h.ht x.id)
def vZ(h:HdV):List HdX:=if fZ D h=0/\hdI h∉qR D then JN D ⟨hdI h,h⟩ else D
def j8(t:ByteArray):List zA:=(D.filter λx=>decide (x.h.tp=t)).map (·.id)
def vA(c:zA):List zA:=(D.filter λx=>decide (x.h.cm=c)).map (·.id)
def JJ:List zA:=D.flatMap λx=>x.h.ps
end
section
variable (S:List Pay)
def jH(c:zA):Option Pay:=S.find? λp=>decide (p.c=c)
def xR:Nat:=(S.map λp=>p.body.size).sum
def qW:Nat:=((S.filter (·.pin)).map λp=>p.body.size).sum
def rZ(b:ByteArray):Int:=if b.size=0 then 4 else if 512<b.size then 3 else 0
def sD(q:Int)(b:ByteArray):Int:=if rZ b≠0 then rZ b else if qI b.data.toList∈S.map (·.c)then 0 else if q-xR S<b.size then 14 else 0
def lG(q:Int)(b:ByteArray):List Pay:=if sD S q b=0/\qI b.data.toList∉S.map (·.c)then S ++ [⟨qI b.data.toList,b,false⟩]else S
def bB(c:zA):List Pay:=S.map λp=>if p.c=c then { p with pin:=true } else p
def kN(c:zA):List Pay:=S.filter λp=>decide (p.c≠c)
end
def qE(D:List HdX)(S:List Pay)(i:zA):Option ByteArray :=
 match kV D i with
 | none=>none
 | some h=>match jH S h.cm with
  | none=>none
  | some p=>if(p.body.size:Int)=h.sz then some p.body else none
def wR(m:j6)(v:VwX):VwX:=if m.id∈v.I then v else⟨v.t,m.id :: v.I,lT v.t m v.s⟩
def jG(D:List HdX)(S:List Pay)(v:VwX)(i:zA):VwX :=
 match kV D i,qE D S i with
 | some h,some b=>if v.t=h.tp then wR ⟨i,h.ht,b⟩ v else v
 | _,_=>v
def hasT(V:List VwX)(t:ByteArray):Bool:=V.any λv=>decide (v.t=t)
theorem lS{V:List VwX}:hasT V t=true↔t∈V.map (·.t):=by unfold hasT;simp
section
variable (X:StX)
def qA(L:List zA):StX:={ X with V:=X.V.map λv=>L.foldl (jG X.D X.S) v }
def rT(c:zA):Bool:=(vA X.D c).any λi=>decide (i∈X.O)
def ZI(h:HdV)(own:Bool):StX :=
 if fZ X.D h≠0 then X
 else if own then qA ⟨X.q,vZ X.D h,hdI h :: X.O,bB X.S h.cm,X.V⟩ [hdI h]
 else qA ⟨X.q,vZ X.D h,X.O,X.S,X.V⟩ [hdI h]
def n8(b:ByteArray):StX :=
 if sD X.S X.q b≠0 then X
 else if rT X (qI b.data.toList)then qA ⟨X.q,X.D,X.O,bB (lG X.S X.q b) (qI b.data.toList),X.V⟩ (vA X.D (qI b.data.toList))
 else qA ⟨X.q,X.D,X.O,lG X.S X.q b,X.V⟩ (vA X.D (qI b.data.toList))
def pG(c:zA):Int:=if c∈X.S.map (·.c)then(if rT X c then 1 else 0)else 7
def pF(c:zA):StX:=if pG X c=0 then⟨X.q,X.D,X.O,kN X.S c,X.V⟩ else X
def lL(t:ByteArray):Int:=if hasT X.V t=true then 15 else if 8<=X.V.length then 6 else 0
def subX(v:VwX):StX:=qA ⟨X.q,X.D,X.O,X.S,X.V ++ [v]⟩ (j8 X.D v.t)
def YO(t:ByteArray):Int:=if hasT X.V t=true then 0 else 15
def wB(t:ByteArray):StX:=⟨X.q,X.D,X.O,X.S,X.V.filter λv=>decide (v.t≠t)⟩
def tB(v:VwX):List zA:=(j8 X.D v.t).filter λi=>decide (i∉v.I)
end
structure aR where
 k:Int
 t:ByteArray
 b:ByteArray
 c:zA
def bS(e:aR):Int :=
 if e.k<1\/7<e.k then 10
 else if(e.k<5/\e.t.size≠0)\/(e.k≠4/\e.c≠id0)\/(4<=e.k/\e.k<=6/\e.b.size≠0)then 4
 else if 5<=e.k/\j5 e.t≠0 then 9
 else if e.k<=3/\e.b.size=0 then 4
 else if(e.k<=2/\256<e.b.size)\/(e.k=3/\512<e.b.size)\/(e.k=7/\1048512<e.b.size)then 3 else 0
def gG(X:StX)(e:aR)(E:Int)(Y:StX):Prop :=
 if bS e≠0 then E=bS e/\Y=X
 else if e.k<=2 then
  if nE e.b.data.toList≠0 then E=nE e.b.data.toList/\Y=X
  else E=fZ X.D (BT e.b.data.toList)/\Y=ZI X (BT e.b.data.toList) (decide (e.k=1))
 else if e.k=3 then E=sD X.S X.q e.b/\Y=n8 X e.b
 else if e.k=4 then E=pG X e.c/\Y=pF X e.c
 else if e.k=6 then E=YO X e.t/\Y=wB X e.t
 else if lL X e.t≠0 then E=lL X e.t/\Y=X
 else if e.k=5 then E=0/\Y=subX X ⟨e.t,[],VSt.new (yF e.t)⟩
 else ∃I l er E0,j2 idP e.b.data.toList 0=⟨I,l,er⟩/\pO (yF e.t) I l er E0 /\
  if E0≠0 then E=E0/\Y=X
  else if(I.any λi=>decide (i∉j8 X.D e.t))=true then E=7/\Y=X
  else E=0/\Y=subX X ⟨e.t,I,stL (yF e.t) l⟩
end
section
theorem YS(f:zA->Int):qJ (dF f) :=
 (qJ.pair totI vM).of (λa:zA=>(f a,a)) (λx y h=>by simp only[Prod.mk.injEq]at h;exact h.2) (λ_ _=>rfl)
theorem J0(f:zA->Int)(a b:zA):bC (f a) a (f b) b=decide (dF f a b<0):=by
 unfold bC dF orC fS;by_cases e:f a=f b
 ·rw[if_pos e,if_pos (by rw[if_neg oM,if_neg oM])]
 ·rw[if_neg e,if_neg (by(repeat' split) <;> omega)];by_cases h1:f a<f b
  ·rw[if_pos h1];simp[h1]
  ·rw[if_neg h1,if_pos oM];simp[h1]
section
variable {D:List HdX} {x:HdX} {i:zA} {h:HdV}
theorem wP(hn:(qR D).Nodup)(hx:x∈D):kV D x.id=some x.h:=by
 unfold kV qR at *;induction D with
 | nil=>cases hx
 | cons y D ih =>
  rw[map_cons,nodup_cons]at hn;rw[find?_cons];rcases mem_cons.1 hx with e | hx
  ·subst e;rw[decide_eq_true rfl];rfl
  ·rw[decide_eq_false (λe:y.id=x.id=>hn.1 (by rw[e];exact mem_map_of_mem (f:=(·.id)) hx))];exact ih hn.2 hx
theorem pZ(e:kV D i=some h):∃x∈D,x.id=i/\x.h=h:=by
 unfold kV at e;obtain⟨x,hx,rfl⟩:=Option.map_eq_some_iff.1 e;exact⟨x,mem_of_find?_eq_some hx,by simpa using find?_some hx,rfl⟩
theorem iZ:kV D i=none↔i∉qR D:=by
 unfold kV qR;rw[Option.map_eq_none_iff,find?_eq_none];simp only[mem_map,not_exists,not_and,decide_eq_true_eq]
theorem YF(hn:(qR D).Nodup)(hx:x∈D):htX D x.id=x.h.ht:=by unfold htX;rw[wP hn hx]
theorem pW(D:List HdX)(x:HdX):(JN D x).Perm (x :: D):=by
 unfold JN;refine perm_middle.trans ?_;rw[takeWhile_append_dropWhile]
theorem lK{z:HdX}:z∈JN D x↔z=x\/z∈D:=by rw[(pW D x).mem_iff,mem_cons]
theorem QE:(qR (JN D x)).Perm (x.id :: qR D):=(pW D x).map _
def JW(D:List HdX):Prop:=Ris (λa b:HdX=>orC (fS a.h.ht b.h.ht) (yC a.id b.id)) D
theorem xj(hn:(qR D).Nodup)(hr:JW D):Ris (dF (htX D)) (qR D):=by
 unfold JW Ris qR at *;rw[pairwise_map];refine hr.imp_of_mem fun {a b} ha hb hab=>?_;unfold dF;rw[YF hn ha,YF hn hb];exact hab
theorem vm{a b d:HdX}(h1:orC (fS a.h.ht b.h.ht) (yC a.id b.id)<0)(h2:orC (fS b.h.ht d.h.ht) (yC b.id d.id)<0):orC (fS a.h.ht d.h.ht) (yC a.id d.id)<0 :=
 (qJ.pair totI vM).trans (a.h.ht,a.id) (b.h.ht,b.id) (d.h.ht,d.id) h1 h2
theorem rB(a:Int)(x:zA)(b:Int)(y:zA):bC a x b y=decide (orC (fS a b) (yC x y)<0):=by
 unfold bC orC fS;by_cases e:a=b
 ·rw[if_pos e,if_pos (by rw[if_neg oM,if_neg oM])]
 ·rw[if_neg e,if_neg (by(repeat' split) <;> omega)];by_cases h1:a<b
  ·rw[if_pos h1];simp[h1]
  ·rw[if_neg h1,if_pos oM];simp[h1]
theorem insX_ris(hr:JW D)(hx:x.id∉qR D):JW (JN D x):=by
 unfold JW Ris JN at *;induction D with
 | nil=>simp
 | cons y D ih =>
  have hy:=pairwise_cons.1 hr;have d:y.id≠x.id/\x.id∉qR D:=by
   unfold qR at hx |-;rw[map_cons,mem_cons,not_or]at hx;exact⟨λe=>hx.1 e.symm,hx.2⟩
  rw[takeWhile_cons,dropWhile_cons];by_cases h1:orC (fS y.h.ht x.h.ht) (yC y.id x.id)<0
  ·rw[if_pos (by rw[rB];exact decide_eq_true h1),if_pos (by rw[rB];exact decide_eq_true h1)];rw[cons_append,pairwise_cons];refine⟨λz hz=>?_,ih hy.2 d.2⟩;have:z∈JN D x:=hz;rcases lK.1 this with e | hz
   ·rw[e];exact h1
   ·exact hy.1 z hz
  ·rw[if_neg (by rw[rB];simpa using h1),if_neg (by rw[rB];simpa using h1)];have h2:orC (fS x.h.ht y.h.ht) (yC x.id y.id)<0:=(qJ.pair totI vM).flip (a:=(y.h.ht,y.id)) (b:=(x.h.ht,x.id)) h1 (λe=>d.1 (congrArg Prod.snd e));refine pairwise_cons.2 ⟨λz hz=>?_,hr⟩;rcases mem_cons.1 hz with e | hz
   ·rw[e];exact h2
   ·exact vm h2 (hy.1 z hz)
theorem tX{i:zA}:i∈j8 D t↔∃x∈D,x.h.tp=t/\x.id=i:=by
 unfold j8;simp only[mem_map,mem_filter,decide_eq_true_eq,and_assoc]
theorem QQ{c:zA}{i:zA}:i∈vA D c↔∃x∈D,x.h.cm=c/\x.id=i:=by
 unfold vA;simp only[mem_map,mem_filter,decide_eq_true_eq,and_assoc]
theorem YR(t:ByteArray):(j8 D t).length<=D.length:=by unfold j8;rw[length_map];exact length_filter_le _ _
theorem QR(c:zA):(vA D c).length<=D.length:=by unfold vA;rw[length_map];exact length_filter_le _ _
end
section
variable {S:List Pay} {c:zA}
theorem jP{p:Pay}(e:jH S c=some p):p∈S/\p.c=c:=⟨mem_of_find?_eq_some e,by simpa using find?_some e⟩
theorem dS:jH S c=none↔c∉S.map (·.c):=by
 unfold jH;rw[find?_eq_none];simp only[mem_map,not_exists,not_and,decide_eq_true_eq]
theorem XI{p:Pay}(hn:(S.map (·.c)).Nodup)(hp:p∈S):jH S p.c=some p:=by
 unfold jH;induction S with
 | nil=>cases hp
 | cons y S ih =>
  rw[map_cons,nodup_cons]at hn;rw[find?_cons];rcases mem_cons.1 hp with e | hp
  ·subst e;rw[decide_eq_true rfl]
  ·rw[decide_eq_false (λe:y.c=p.c=>hn.1 (by rw[e];exact mem_map_of_mem (f:=(·.c)) hp))];exact ih hn.2 hp
theorem BK(S:List Pay)(c:zA):(bB S c).map (·.c)=S.map (·.c):=by
 unfold bB;rw[map_map];apply map_congr_left;intro p _;show(if _ then _ else _:Pay).c=_;split <;> rfl
theorem mA(S:List Pay)(c:zA):xR (bB S c)=xR S:=by
 unfold xR bB;rw[map_map];congr 1;apply map_congr_left;intro p _;show(if _ then _ else _:Pay).body.size=_;split <;> rfl
theorem pinX_pay(S:List Pay)(c d:zA):(jH (bB S c) d).map (·.body)=(jH S d).map (·.body):=by
 unfold jH bB;rw[find?_map,Option.map_map];have e:((λp:Pay=>decide (p.c=d)) ∘ λp=>if p.c=c then { p with pin:=true } else p)=λp=>decide (p.c=d):=by
  funext p;show decide ((if _ then _ else _:Pay).c=d)=_;split <;> rfl
 rw[e];cases S.find? _ with
 | none=>rfl
 | some p=>show some (if _ then _ else _:Pay).body=_;split <;> rfl
theorem pX(S:List Pay):qW S<=xR S:=by
 unfold qW xR;induction S with
 | nil=>simp
 | cons p S ih =>
  rw[filter_cons];split
  ·simp only[map_cons,sum_cons];omega
  ·simp only[map_cons,sum_cons];omega
theorem drop_bytes(S:List Pay)(c:zA):xR (kN S c)<=xR S:=by
 unfold kN xR;induction S with
 | nil=>simp
 | cons p S ih =>
  rw[filter_cons];split
  ·simp only[map_cons,sum_cons];omega
  ·simp only[map_cons,sum_cons];omega
theorem QT(S:List Pay)(p:Pay):xR (S ++ [p])=xR S+p.body.size:=by unfold xR;simp
end
end
theorem YG{α:Type}(f:α->List UInt8)(k:Nat)(L:List α)(h:∀x∈L,k<=(f x).length):L.length*k<=(L.flatMap f).length:=by
 induction L with
 | nil=>simp
 | cons a L ih =>
  rw[flatMap_cons,length_append,length_cons,Nat.add_mul];have h1:=h a sI;have h2:=ih λx hx=>h x (by simp[hx]);omega
theorem loadM_back{l:List UInt8}(h:KR l 0):putMB (xT l).rows (q9 l).rows=l/\GoodM l/\¬J3 (xT l).rows:=by
 rcases h with⟨h1,h2⟩ | ⟨_,_,h2⟩ | ⟨h1,h2,⟨h3,_⟩ | ⟨_,h4⟩⟩
 ·exact absurd h2.symm h1
 ·exact absurd h2 (by decide)
 ·refine⟨?_,h3,h2⟩;have h4:=h3.1;rw[h1]at h4;have h5:=vc h4;obtain⟨h6,h7⟩:=vN nC (show(j2 idP (xT l).l (xT l).e).e=0 from h1);obtain⟨_,h8⟩:=vN mLaw (show(j2 mP l 0).e=0 from h6);have f:xt idP (q9 l).rows++(q9 l).l=(xT l).l:=h7;have d:xt mP (xT l).rows++(xT l).l=l:=h8;rw[h5,append_nil]at f;rw[<-f]at d;exact d
 ·exact absurd h4 (by decide)
theorem yq(k:Int)(l:List UInt8)(hk:1<=k/\k<=5):(stL k l).kind=k:=by
 have h5:k=1\/k=2\/k=3\/k=4\/k=5:=oM;rcases h5 with rfl | rfl | rfl | rfl | rfl <;> rfl
theorem stL_len{k:Int}{l:List UInt8}(hk:1<=k/\k<=5)(h0:ErrK k l 0)(hl:l.length<=3000):(stL k l).len<=100:=by
 have h5:k=1\/k=2\/k=3\/k=4\/k=5:=oM;rcases h5 with rfl | rfl | rfl | rfl | rfl
 ·exact zL
 ·have d:=load_put (l:=l) (Eq.symm h0);have n1:=YG rowB 33 (vV l).rows λx _=>(by rw[rowB_len];omega);have n3:(Z0 (vV l).rows++Z0 (jR l).rows).length=l.length:=congrArg List.length d;unfold Z0 at n3;simp only[length_append,xA]at n3;show(vV l).rows.length<=100;omega
 ·have d:=load_put_l (l:=l) (Eq.symm h0);have n1:=YG VA 32 ((yQ l).rows.map wH) λx hx=>by
   unfold VA;simp only[length_append,xA,x.2.id.h];omega
  have n3:(xq ((yQ l).rows.map wH)).length=l.length:=congrArg List.length d;unfold xq at n3;simp only[length_append,xA,length_map]at n3 n1;show((yQ l).rows.map wH).length<=100;rw[length_map];omega
 ·obtain⟨d,_,_⟩:=loadM_back h0;have n1:=YG vT 33 (xT l).rows λx _=>(by rw[V9];omega);have n3:(putMB (xT l).rows (q9 l).rows).length=l.length:=congrArg List.length d;unfold putMB idsB at n3;simp only[length_append,xA]at n3;show(xT l).rows.length<=100;omega
 ·have hg:=KH (l:=l) (Eq.symm h0);have d:=goodS_put hg;obtain⟨_,_,g1,g2,g3,g4⟩:=hg;have f:sortN (yP l).rows=(yP l).rows:=V6 totM g2;have n1:=YG rS 33 (yP l).rows λx _=>(by rw[VP];omega);have n3:(putSB (yP l).rows (xD l).rows).length=l.length:=congrArg List.length d;unfold putSB idsB at n3;rw[f]at n3;simp only[length_append,xA]at n3;show(yP l).rows.length<=100;omega
section
structure VOk(D:List HdX)(v:VwX):Prop where
 k0:yF v.t≠0
 kind:yF v.t=v.s.kind
 nd:v.I.Nodup
 mem:∀i∈v.I,i∈j8 D v.t
 len:v.s.len<=100+v.I.length
def FOk(D:List HdX)(S:List Pay)(v:VwX):Prop:=∀x∈D,x.h.tp=v.t->qE D S x.id≠none->x.id∈v.I
structure kK(n:Nat)(X:StX):Prop where
 q0:0<=X.q
 q1:X.q<=4096
 nd:(qR X.D).Nodup
 ris:JW X.D
 ok:∀x∈X.D,hdE x.h=0/\x.id=hdI x.h
 len:X.D.length<=n
 ns:(X.S.map (·.c)).Nodup
 body:∀p∈X.S,p.c=qI p.body.data.toList/\1<=p.body.size/\p.body.size<=512
 bytes:(xR X.S:Int)<=X.q
 nv:(X.V.map (·.t)).Nodup
 lv:X.V.length<=8
 vw:∀v∈X.V,VOk X.D v
 fold:∀v∈X.V,FOk X.D X.S v
 own:∀i∈X.O,i∈qR X.D
section
variable {D:List HdX} {S:List Pay} {v:VwX} {i j:zA}
theorem i9(D:List HdX)(S:List Pay)(v:VwX)(i:zA):(jG D S v i).t=v.t:=by
 unfold jG wR;(repeat' split) <;> rfl
def fitI(D:List HdX)(S:List Pay)(t:ByteArray)(i:zA):Prop:=∃h,kV D i=some h/\qE D S i≠none/\t=h.tp
theorem KE:j∈(jG D S v i).I↔j∈v.I\/(j=i/\fitI D S v.t i):=by
 unfold jG fitI;cases h1:kV D i with
 | none=>simp
 | some h =>
  cases h2:qE D S i with
  | none=>simp
  | some b =>
   simp only[];by_cases ht:v.t=h.tp
   ·rw[if_pos ht];unfold wR;by_cases hi:i∈v.I
    ·rw[if_pos hi];constructor
     ·exact .inl
     ·rintro(h | ⟨rfl,_⟩)
      ·exact h
      ·exact hi
    ·rw[if_neg hi];show j∈i :: v.I↔_;rw[mem_cons];constructor
     ·rintro(e | e)
      ·exact .inr ⟨e,h,rfl,sI,ht⟩
      ·exact .inl e
     ·rintro(e | ⟨e,_⟩)
      ·exact .inr e
      ·exact .inl e
   ·rw[if_neg ht];constructor
    ·exact .inl
    ·rintro(e | ⟨_,h',e,_,e2⟩)
     ·exact e
     ·injection e with e;subst e;exact absurd e2 ht
theorem foldI_ok(h:VOk D v)(i:zA)(S:List Pay):VOk D (jG D S v i):=by
 have d:∀j∈(jG D S v i).I,j∈j8 D (jG D S v i).t:=by
  intro j hj;rw[i9];rcases KE.1 hj with e | ⟨rfl,h',e,_,e2⟩
  ·exact h.mem j e
  ·obtain⟨x,hx,h1,h2⟩:=pZ e;exact tX.2 ⟨x,hx,by rw[h2,e2],h1⟩
 refine⟨by rw[i9];exact h.k0,?_,?_,d,?_⟩
 ·rw[i9,h.kind];unfold jG wR;(repeat' split) <;> first | rfl | exact(foldS_kind _ _ _).symm
 ·unfold jG wR;split
  ·split
   ·split
    ·exact h.nd
    ·rename_i hi;exact nodup_cons.2 ⟨hi,h.nd⟩
   ·exact h.nd
  ·exact h.nd
 ·unfold jG wR;split
  ·split
   ·split
    ·exact h.len
    ·rename_i z b _ _ _ _
     have h1:=foldS_len v.t ⟨i,z.ht,b⟩ v.s;have h2:=h.len;show(lT v.t ⟨i,z.ht,b⟩ v.s).len<=100+(v.I.length+1);omega
   ·exact h.len
  ·exact h.len
variable {L:List zA}
theorem BX(D:List HdX)(S:List Pay):∀(L:List zA) (v:VwX),(L.foldl (jG D S) v).t=v.t
 | [],_=>rfl
 | i :: L,v=>by rw[foldl_cons,BX D S L,i9]
theorem QK(S:List Pay):∀(L:List zA) {v:VwX},VOk D v->VOk D (L.foldl (jG D S) v)
 | [],_,h=>h
 | i :: L,v,h=>QK S L (foldI_ok h i S)
theorem KB:∀ {L:List zA} {v:VwX},j∈(L.foldl (jG D S) v).I↔j∈v.I\/(j∈L/\fitI D S v.t j)
 | [],v=>by simp
 | i :: L,v=>by
  rw[foldl_cons,KB,KE,i9,mem_cons];constructor
  ·rintro((h | ⟨rfl,h⟩) | ⟨h,h2⟩)
   ·exact .inl h
   ·exact .inr ⟨.inl rfl,h⟩
   ·exact .inr ⟨.inr h,h2⟩
  ·rintro(h | ⟨rfl | h,h2⟩)
   ·exact .inl (.inl h)
   ·exact .inl (.inr ⟨rfl,h2⟩)
   ·exact .inr ⟨h,h2⟩
theorem KC(X:StX)(L:List zA):(qA X L).V.map (·.t)=X.V.map (·.t):=by
 unfold qA;rw[map_map];exact map_congr_left λv _=>BX _ _ _ _
theorem VOk.grow{D':List HdX}(h:VOk D v)(hD:∀x∈D,x∈D'):VOk D' v :=
 ⟨h.k0,h.kind,h.nd,λi hi=>by
  obtain⟨x,hx,h1,h2⟩:=tX.1 (h.mem i hi);exact tX.2 ⟨x,hD x hx,h1,h2⟩,h.len⟩
end
theorem pE{X:StX}{L:List zA}(q0:0<=X.q)(q1:X.q<=4096)(nd:(qR X.D).Nodup)(ris:JW X.D)(ok:∀x∈X.D,hdE x.h=0/\x.id=hdI x.h)(len:X.D.length<=n)(ns:(X.S.map (·.c)).Nodup)
  (body:∀p∈X.S,p.c=qI p.body.data.toList/\1<=p.body.size/\p.body.size<=512)(bytes:(xR X.S:Int)<=X.q)(nv:(X.V.map (·.t)).Nodup)(lv:X.V.length<=8)(vw:∀v∈X.V,VOk X.D v)
  (hf:∀v∈X.V,∀x∈X.D,x.h.tp=v.t->qE X.D X.S x.id≠none->x.id∈v.I\/x.id∈L)(own:∀i∈X.O,i∈qR X.D):kK n (qA X L):=by
 refine⟨q0,q1,nd,ris,ok,len,ns,body,bytes,by rw[KC];exact nv,by unfold qA;simpa using lv,λv hv=>?_,λv hv x hx ht hp=>?_,own⟩
 ·obtain⟨u,hu,rfl⟩:=mem_map.1 hv;exact QK _ _ (vw u hu)
 ·obtain⟨u,hu,rfl⟩:=mem_map.1 hv;rw[BX]at ht;refine KB.2 ?_;rcases hf u hu x hx ht hp with h | h
  ·exact .inl h
  ·exact .inr ⟨h,x.h,wP nd hx,hp,ht.symm⟩
theorem VJ(D:List HdX)(S:List Pay)(c i:zA):qE D (bB S c) i=qE D S i:=by
 unfold qE;cases kV D i with
 | none=>rfl
 | some h =>
  have e:=pinX_pay S c h.cm;simp only[];cases h1:jH (bB S c) h.cm with
  | none =>
   rw[h1]at e;cases h2:jH S h.cm with
   | none=>rfl
   | some p=>rw[h2]at e;cases e
  | some p =>
   rw[h1]at e;cases h2:jH S h.cm with
   | none=>rw[h2]at e;cases e
   | some p' =>
    rw[h2]at e;have e:p.body=p'.body:=by simpa using e
    simp only[e]
theorem bW{D:List HdX}{h:HdV}{x:HdX}:x∈vZ D h↔x∈D\/(fZ D h=0/\hdI h∉qR D/\x=⟨hdI h,h⟩):=by
 unfold vZ;split
 ·rename_i hc
  rw[lK];constructor
  ·rintro(e | e)
   ·exact .inr ⟨hc.1,hc.2,e⟩
   ·exact .inl e
  ·rintro(e | ⟨_,_,e⟩)
   ·exact .inr e
   ·exact .inl e
 ·rename_i hc
  exact⟨.inl,λe=>e.elim id λe=>absurd ⟨e.1,e.2.1⟩ hc⟩
theorem verX_ok{D:List HdX}{h:HdV}(e:fZ D h=0):hdE h=0/\(∀p∈h.ps,p∈qR D)/\topX D h.ps=h.ht:=by
 unfold fZ at e;split at e
 ·contradiction
 rename_i h1
 split at e
 ·cases e
 rename_i h2
 split at e
 ·cases e
 rename_i h3
 refine⟨Classical.not_not.1 h1,λp hp=>?_,Classical.not_not.1 h3⟩;have h2:s8 D h.ps = []:=Classical.not_not.1 h2;unfold s8 at h2;rw[filter_eq_nil_iff]at h2;simpa using h2 p hp
section
variable {n:Nat} {X:StX}
theorem kK.mono(h:kK n X){m:Nat}(hm:n<=m):kK m X:=⟨h.q0,h.q1,h.nd,h.ris,h.ok,Nat.le_trans h.len hm,h.ns,h.body,h.bytes,h.nv,h.lv,h.vw,h.fold,h.own⟩
theorem kK.new(q:Int)(h0:0<=q)(h1:q<=4096):kK 0 ⟨q,[],[],[],[]⟩ :=
 ⟨h0,h1,nodup_nil,Pairwise.nil,sI,lR,sI,sI,by simpa[xR]using h0,sI,sI,sI,sI,sI⟩
theorem rC(h:kK n X)(hv:fZ X.D y=0):(qR (vZ X.D y)).Nodup/\JW (vZ X.D y)/\(∀x∈vZ X.D y,hdE x.h=0/\x.id=hdI x.h)/\(vZ X.D y).length<=n+1/\(∀i∈qR X.D,i∈qR (vZ X.D y))/\hdI y∈qR (vZ X.D y):=by
 by_cases hi:hdI y∈qR X.D
 ·have e:vZ X.D y=X.D:=if_neg λh=>h.2 hi;rw[e];exact⟨h.nd,h.ris,h.ok,oH h.len,λ_ h=>h,hi⟩
 ·have e:vZ X.D y=JN X.D ⟨hdI y,y⟩:=if_pos ⟨hv,hi⟩;rw[e];refine⟨QE.nodup_iff.2 (nodup_cons.2 ⟨hi,h.nd⟩),insX_ris h.ris hi,λx hx=>?_,?_,λi hm=>QE.mem_iff.2 (mem_cons_of_mem _ hm),QE.mem_iff.2 sI⟩
  ·rcases lK.1 hx with e | hx
   ·subst e;exact⟨(verX_ok hv).1,rfl⟩
   ·exact h.ok x hx
  ·have:=(pW X.D ⟨hdI y,y⟩).length_eq;have:=h.len;simp at *;omega
theorem hdOf_add(h:kK n X)(hv:fZ X.D y=0){i:zA}{z:HdV}(e:kV X.D i=some z):kV (vZ X.D y) i=some z:=by
 obtain⟨x,hx,rfl,rfl⟩:=pZ e;exact wP (rC h hv).1 (bW.2 (.inl hx))
theorem paidX_add(h:kK n X)(hv:fZ X.D y=0){x:HdX}(hx:x∈X.D)(S:List Pay):qE (vZ X.D y) S x.id=qE X.D S x.id:=by
 unfold qE;rw[hdOf_add h hv (wP h.nd hx),wP h.nd hx]
theorem headX_ok(h:kK n X)(y:HdV)(own:Bool):kK (n+1) (ZI X y own):=by
 unfold ZI;split
 ·exact h.mono oM
 rename_i hv
 have hv:fZ X.D y=0:=Classical.not_not.1 hv;obtain⟨a1,a2,a3,a4,a5,a6⟩:=rC h hv;have hf:∀S,(∀i,qE X.D S i=qE X.D X.S i)->∀v∈X.V,∀x∈vZ X.D y,x.h.tp=v.t->qE (vZ X.D y) S x.id≠none->x.id∈v.I\/x.id∈[hdI y]:=by
  intro S hS v d x hx ht hp;rcases bW.1 hx with hx | ⟨_,_,e⟩
  ·rw[paidX_add h hv hx,hS]at hp;exact .inl (h.fold v d x hx ht hp)
  ·subst e;exact .inr sI
 have hw:∀v∈X.V,VOk (vZ X.D y) v:=λv d=>(h.vw v d).grow λx hx=>bW.2 (.inl hx);split
 ·refine pE h.q0 h.q1 a1 a2 a3 a4 (by show((bB X.S y.cm).map _).Nodup;rw[BK];exact h.ns) ?_ (by show(xR (bB X.S y.cm):Int)<=_;rw[mA];exact h.bytes) h.nv h.lv hw (hf _ λi=>VJ _ _ _ _) ?_
  ·intro p hp;obtain⟨p',f,rfl⟩:=mem_map.1 hp;have:=h.body p' f;split <;> exact this
  ·intro i hi;rcases mem_cons.1 hi with e | hi
   ·rw[e];exact a6
   ·exact a5 i (h.own i hi)
 ·exact pE h.q0 h.q1 a1 a2 a3 a4 h.ns h.body h.bytes h.nv h.lv hw (hf _ λi=>rfl) λi hi=>a5 i (h.own i hi)
theorem qc{S:List Pay}{p:Pay}{d:zA}(h:d≠p.c):jH (S ++ [p]) d=jH S d:=by
 unfold jH;rw[find?_append];cases find? _ S with
 | some x=>rfl
 | none =>
  rw[Option.none_or,find?_cons,decide_eq_false (λe:p.c=d=>h e.symm)];rfl
theorem putX_ok(h:kK n X)(b:ByteArray)(he:sD X.S X.q b=0):((lG X.S X.q b).map (·.c)).Nodup/\(∀p∈lG X.S X.q b,p.c=qI p.body.data.toList/\1<=p.body.size/\p.body.size<=512)/\(xR (lG X.S X.q b):Int)<=X.q/\∀d,d≠qI b.data.toList->jH (lG X.S X.q b) d=jH X.S d:=by
 unfold lG;split
 ·rename_i hc
  have hb:¬rZ b≠0:=by
   intro hb;unfold sD at he;rw[if_pos hb]at he;exact hb he
  have hq:¬X.q-xR X.S<b.size:=by
   intro hq;unfold sD at he;rw[if_neg hb,if_neg hc.2,if_pos hq]at he;cases he
  have g:1<=b.size/\b.size<=512:=by
   unfold rZ at hb
   (repeat' split at hb) <;> first | (exfalso;exact hb (by decide)) | omega
  refine⟨?_,?_,?_,λd hd=>qc hd⟩
  ·rw[map_append];refine nodup_append.2 ⟨h.ns,sI,?_⟩;intro a ha c f e;simp at f;subst f;subst e;exact hc.2 ha
  ·intro p hp;rcases mem_append.1 hp with hp | hp
   ·exact h.body p hp
   ·simp at hp;subst hp;exact⟨rfl,g⟩
  ·rw[QT];show((xR X.S+b.size:Nat):Int)<=X.q;omega
 ·exact⟨h.ns,h.body,h.bytes,λ_ _=>rfl⟩
theorem paySX_ok(h:kK n X)(b:ByteArray):kK n (n8 X b):=by
 unfold n8;split
 ·exact h
 rename_i he
 have he:sD X.S X.q b=0:=Classical.not_not.1 he;obtain⟨a1,a2,a3,a4⟩:=putX_ok h b he;have hf:∀S,(∀i,qE X.D S i=qE X.D (lG X.S X.q b) i)->∀v∈X.V,∀x∈X.D,x.h.tp=v.t->qE X.D S x.id≠none->x.id∈v.I\/x.id∈vA X.D (qI b.data.toList):=by
  intro S hS v hv x hx ht hp;rw[hS]at hp;by_cases hc:x.h.cm=qI b.data.toList
  ·exact .inr (QQ.2 ⟨x,hx,hc,rfl⟩)
  ·refine .inl (h.fold v hv x hx ht ?_);unfold qE at hp |-;rw[wP h.nd hx]at hp |-;simp only[a4 _ hc]at hp |-;exact hp
 split
 ·refine pE h.q0 h.q1 h.nd h.ris h.ok h.len (by show((bB _ _).map _).Nodup;rw[BK];exact a1) ?_ (by show(xR (bB _ _):Int)<=_;rw[mA];exact a3) h.nv h.lv h.vw (hf _ λi=>VJ _ _ _ _) h.own;intro p hp;obtain⟨p',d,rfl⟩:=mem_map.1 hp;have:=a2 p' d;split <;> exact this
 ·exact pE h.q0 h.q1 h.nd h.ris h.ok h.len a1 a2 a3 h.nv h.lv h.vw (hf _ λi=>rfl) h.own
theorem paidX_drop{D:List HdX}{S:List Pay}(hn:(S.map (·.c)).Nodup){c i:zA}(h:qE D (kN S c) i≠none):qE D S i≠none:=by
 unfold qE at h |-;cases e:kV D i with
 | none=>rw[e]at h;exact h
 | some y =>
  rw[e]at h;simp only[]at h |-;cases e2:jH (kN S c) y.cm with
  | none=>rw[e2]at h;exact absurd rfl h
  | some p =>
   rw[e2]at h;obtain⟨h1,h2⟩:=jP e2;have h3:=XI hn (mem_filter.1 h1).1;rw[h2]at h3;rw[h3];exact h
theorem evictX_ok(h:kK n X)(c:zA):kK n (pF X c):=by
 unfold pF;split
 ·refine⟨h.q0,h.q1,h.nd,h.ris,h.ok,h.len,h.ns.sublist (Sublist.map _ filter_sublist),λp hp=>h.body p (mem_filter.1 hp).1,?_,h.nv,h.lv,h.vw,λv hv x hx ht hp=>h.fold v hv x hx ht (paidX_drop h.ns hp),h.own⟩;have:=drop_bytes X.S c;have:=h.bytes;show(xR (kN X.S c):Int)<=X.q;omega
 ·exact h
theorem subX_ok(h:kK n X)(v:VwX)(hv:VOk X.D v)(hm:lL X v.t=0):kK n (subX X v):=by
 have h1:v.t∉X.V.map (·.t):=λhc=>(by unfold lL at hm;rw[if_pos (lS.2 hc)]at hm;cases hm);have h2:¬8<=X.V.length:=λhc=>(by unfold lL at hm;rw[if_neg (λh=>h1 (lS.1 h)),if_pos hc]at hm;cases hm);refine pE h.q0 h.q1 h.nd h.ris h.ok h.len h.ns h.body h.bytes ?_ (by show(X.V ++ [v]).length<=8;simp;omega) ?_ ?_ h.own
 ·show((X.V ++ [v]).map _).Nodup;rw[map_append];refine nodup_append.2 ⟨h.nv,sI,?_⟩;intro a ha c d e;simp at d;subst d;subst e;exact h1 ha
 ·intro u hu;rcases mem_append.1 hu with hu | hu
  ·exact h.vw u hu
  ·simp at hu;subst hu;exact hv
 ·intro u hu x hx ht hp;rcases mem_append.1 hu with hu | hu
  ·exact .inl (h.fold u hu x hx ht hp)
  ·simp at hu;subst hu;exact .inr (tX.2 ⟨x,hx,ht,rfl⟩)
theorem unsubX_ok(h:kK n X)(t:ByteArray):kK n (wB X t) :=
 ⟨h.q0,h.q1,h.nd,h.ris,h.ok,h.len,h.ns,h.body,h.bytes,h.nv.sublist (Sublist.map _ filter_sublist),Nat.le_trans (length_filter_le _ _) h.lv,λv hv=>h.vw v (mem_filter.1 hv).1,λv hv=>h.fold v (mem_filter.1 hv).1,h.own⟩
end
theorem VSt.new_kind{k:Int}(hk:1<=k/\k<=5):(VSt.new k).kind=k:=by
 have h5:k=1\/k=2\/k=3\/k=4\/k=5:=oM;rcases h5 with rfl | rfl | rfl | rfl | rfl <;> rfl
theorem VSt.new_len(k:Int):(VSt.new k).len=0:=by unfold VSt.new;(repeat' split) <;> rfl
theorem zo{X Y:StX}{e:aR}{E:Int}(h:kK n X)(a:gG X e E Y)(hb:e.b.size<=3000):kK (n+1) Y:=by
 have h':=h.mono (oM:n<=n+1);unfold gG at a;split at a
 ·rw[a.2];exact h'
 rename_i he
 split at a
 ·split at a
  ·rw[a.2];exact h'
  ·rw[a.2];exact headX_ok h _ _
 rename_i hk2
 split at a
 ·rw[a.2];exact paySX_ok h' _
 rename_i hk3
 split at a
 ·rw[a.2];exact evictX_ok h' _
 rename_i hk4
 split at a
 ·rw[a.2];exact unsubX_ok h' _
 split at a
 ·rw[a.2];exact h'
 rename_i hm
 have hm:lL X e.t=0:=Classical.not_not.1 hm;have hc:yF e.t≠0:=by
  intro hc;have h9:j5 e.t≠0:=by unfold j5;rw[if_pos hc];decide
  have:bS e≠0:=by
   unfold bS;split
   ·decide
   ·split
    ·decide
    ·rw[if_pos ⟨oM,h9⟩];decide
  exact absurd (Classical.not_not.1 he) this
 have g:1<=yF e.t/\yF e.t<=5:=oH (fE e.t);split at a
 ·rw[a.2];exact(subX_ok h ⟨e.t,[],VSt.new (yF e.t)⟩ ⟨hc,(VSt.new_kind g).symm,nodup_nil,sI,by rw[VSt.new_len];omega⟩ hm).mono oM
 obtain⟨I,l,er,E0,hr,hE,a⟩:=a;split at a
 ·rw[a.2];exact h'
 rename_i j
 split at a
 ·rw[a.2];exact h'
 rename_i hI
 rw[a.2];have j:E0=0:=Classical.not_not.1 j;subst j;unfold pO at hE;split at hE
 ·rename_i h0;exact absurd hE.symm h0
 rename_i her
 split at hE
 ·cases hE
 rename_i d
 have d:Ris yC I:=(YC _).1 (by simpa using d);have f:l.length<=3000:=by
  have h4:=jQ nC (show(j2 idP e.b.data.toList 0).e=0 by rw[hr];exact Classical.not_not.1 her);rw[hr]at h4;have h5:I.length+l.length<=e.b.data.toList.length:=h4;have h6:e.b.data.toList.length=e.b.size:=rfl;omega
 refine(subX_ok h ⟨e.t,I,stL (yF e.t) l⟩ ⟨hc,(yq _ _ g).symm,d.nodup vM,λi hi=>?_,?_⟩ hm).mono oM
 ·refine Classical.byContradiction λhn=>hI ?_;exact any_eq_true.2 ⟨i,hi,decide_eq_true hn⟩
 ·have:=stL_len g hE f;show(stL (yF e.t) l).len<=100+I.length;omega
end
theorem unsubX_no{X:StX}(h:t∉X.V.map (·.t)):wB X t=X:=by
 unfold wB;have e:(X.V.filter λv=>decide (v.t≠t))=X.V:=filter_eq_self.2 λv hv=>decide_eq_true λe=>h (e ▸ mem_map_of_mem hv);rw[e]
def awT:ByteArray:=⟨#[99,97]⟩
def awH(c:zA):HdV:=⟨[],1,awT,0,1,5,c⟩
theorem rset_nil(w:World):Calls prog 235 #[.slice none 0 0] w λe w'=>e=.returned (.slice none 0 0)/\Below w.heap.size w w':=by
 go_enter func235,ntmps235
 (go_wp2_with fail);refine wp_loop_rounds 1 ?_;rw[rounds_succ];(go_wp2_with fail);go_ret;exact⟨rfl,Below.refl _ _⟩
theorem xk(w:World):Calls prog 178 #[.slice none 0 0] w λe w'=>e=.returned (.bool true)/\Below w.heap.size w w':=by
 have c1:=rset_nil w;have c2:=λw1=>rsame_ids w1 none none 0 0 0 0 [] [] SlR.nil_ SlR.nil_ oM oM;go_enter func178,ntmps178
 (go_wp2_with fail);refine c1.mono ?_;rintro e w1 ⟨rfl,f⟩;(go_wp2_with fail);refine(c2 w1).mono ?_;rintro e w2 ⟨rfl,d⟩;(go_wp2_with fail);go_ret;exact⟨rfl,yM f d⟩
theorem rop_check2(n:Nat)(w:World)(hn:n=2):Calls prog 110 #[.agg (zP ⟨1,n,⟨#[]⟩,⟨#[]⟩,id0,.slice none 0 0⟩)] w λe w'=>e=.returned (.int .i64 0)/\Below w.heap.size w w':=by
 subst hn;have hB:Below w.heap.size w (w.alloc (.cells (zP ⟨1,2,⟨#[]⟩,⟨#[]⟩,id0,.slice none 0 0⟩) 84)):=bA;have hr:z9 (w.alloc (.cells (zP ⟨1,2,⟨#[]⟩,⟨#[]⟩,id0,.slice none 0 0⟩) 84)) w.heap.size 0 37=some (zP ⟨1,2,⟨#[]⟩,⟨#[]⟩,id0,.slice none 0 0⟩):=by simp[go_sem]
 have x0:=zB hr (j:=0) oM;have x1:=zB hr (j:=1) oM;have x2:=zB hr (j:=2) oM;have x3:=zB hr (j:=3) oM;have x5:=zB hr (j:=36) oM;have x4:=yD hr (j:=4) (m:=32) oM;simp only[kI,fN,gJ,gI,bL,t9,Nat.zero_add]at x0 x1 x2 x3 x4 x5;have c1:=rop_has 1 (w.alloc (.cells (zP ⟨1,2,⟨#[]⟩,⟨#[]⟩,id0,.slice none 0 0⟩) 84)) oM;have i1:=X6 (sP 1) 78 (w.alloc (.cells (zP ⟨1,2,⟨#[]⟩,⟨#[]⟩,id0,.slice none 0 0⟩) 84)) (by decide);have i2:=X6 (sP 1) 75 (w.alloc (.cells (zP ⟨1,2,⟨#[]⟩,⟨#[]⟩,id0,.slice none 0 0⟩) 84)) (by decide);have i3:=X6 (sP 1) 86 (w.alloc (.cells (zP ⟨1,2,⟨#[]⟩,⟨#[]⟩,id0,.slice none 0 0⟩) 84)) (by decide);have i4:=X6 (sP 1) 82 (w.alloc (.cells (zP ⟨1,2,⟨#[]⟩,⟨#[]⟩,id0,.slice none 0 0⟩) 84)) (by decide);have i5:=X6 (sP 1) 83 (w.alloc (.cells (zP ⟨1,2,⟨#[]⟩,⟨#[]⟩,id0,.slice none 0 0⟩) 84)) (by decide);rw[show inB (sP 1) 78=true by decide +kernel]at i1;rw[show inB (sP 1) 75=false by decide +kernel]at i2;rw[show inB (sP 1) 86=false by decide +kernel]at i3;rw[show inB (sP 1) 82=false by decide +kernel]at i4;rw[show inB (sP 1) 83=false by decide +kernel]at i5;rw[show sP 1=⟨#[78]⟩ from rfl]at c1 i1 i2 i3 i4 i5;clear hr;go_enter func110,ntmps110
 go_upto_region 1 with fail
 obtain⟨ga,d⟩:=eX w.heap.size
 have r:=dH d;rw[d]at x0 x1 x2 x3 x4 x5 hB |-;obtain⟨W,hW⟩:=eR (w.alloc (.cells (zP ⟨1,2,⟨#[]⟩,⟨#[]⟩,id0,.slice none 0 0⟩) 84))
 rw[<-hW]at x0 x1 x2 x3 x4 x5 hB c1 i1 i2 i3 i4 i5 |-;clear hW d;(go_wp2_with fail);refine c1.mono ?_;rintro e w1 ⟨rfl,rfl⟩;(go_wp2_with fail);refine i1.mono ?_;rintro e w1 ⟨rfl,rfl⟩;(go_wp2_with fail);refine i2.mono ?_;rintro e w1 ⟨rfl,rfl⟩;(go_wp2_with fail);refine i3.mono ?_;rintro e w1 ⟨rfl,rfl⟩;(go_wp2_with fail);refine i4.mono ?_;rintro e w1 ⟨rfl,rfl⟩;(go_wp2_with fail);refine i5.mono ?_;rintro e w1 ⟨rfl,rfl⟩;clear c1 i1 i2 i3 i4 i5;have g:=xk W;rw[<-r.out]at hB;(go_wp2_with fail);refine g.mono ?_;rintro e w2 ⟨rfl,f⟩;have k:=yM hB f;clear g x0 x1 x2 x3 x4 x5 f;(go_wp2_with fail);go_ret;exact⟨rfl,k⟩
def JO(n:Nat):List UInt8:=beL 1 1++beL 4 (n+2147483648)
theorem inc2_e:opE (JO 2)=0:=by decide +kernel
theorem inc2_k:(opO (JO 2)).k=1:=by decide +kernel
theorem inc2_n:(opO (JO 2)).n=2:=by decide +kernel
theorem VB(n:Nat)(w:World)(hn:n=2) :
  Calls prog 55 #[.agg (zP ⟨1,n,⟨#[]⟩,⟨#[]⟩,id0,.slice none 0 0⟩)] w λe w'=>∃s:ByteArray,e=.returned (.tuple #[.string s,.int .i64 0])/\s.data.toList=JO n/\Below w.heap.size w w':=by
 have hB:Below w.heap.size w (w.alloc (.cells (zP ⟨1,n,⟨#[]⟩,⟨#[]⟩,id0,.slice none 0 0⟩) 84)):=bA;have hr:z9 (w.alloc (.cells (zP ⟨1,n,⟨#[]⟩,⟨#[]⟩,id0,.slice none 0 0⟩) 84)) w.heap.size 0 37=some (zP ⟨1,n,⟨#[]⟩,⟨#[]⟩,id0,.slice none 0 0⟩):=by simp[go_sem]
 have g:=rop_check2 n (w.alloc (.cells (zP ⟨1,n,⟨#[]⟩,⟨#[]⟩,id0,.slice none 0 0⟩) 84)) hn;replace hn:n<1000:=oM;change Calls prog _ #[.agg (zP ⟨1,n,⟨#[]⟩,⟨#[]⟩,id0,.slice none 0 0⟩)] _ _ at g;go_enter func55,ntmps55
 go_upto_region 1 with fail
 obtain⟨ga,k⟩:=eX w.heap.size
 have D:=dH k;rw[k]at hr hB |-;obtain⟨W,hW⟩:=eR (w.alloc (.cells (zP ⟨1,n,⟨#[]⟩,⟨#[]⟩,id0,.slice none 0 0⟩) 84))
 rw[<-hW]at hr hB g |-;clear hW k;(go_wp2_with fail);refine g.mono ?_;rintro e w1 ⟨rfl,r⟩;have d:z9 w1 ga 0 37=some (zP ⟨1,n,⟨#[]⟩,⟨#[]⟩,id0,.slice none 0 0⟩):=(zG (r.block ga (zD hr)) _ _).trans hr;have B:Below ga w w1:=hB.trans (r.mono (by have:=hB.size;have:=D.out;omega));have x0:=zB d (j:=0) oM;rw[kI,Nat.zero_add]at x0;clear hr hB g r;(go_wp2_with fail);refine(rnumP 1 1 _ (.inl rfl) oM).mono ?_;rintro e w2 ⟨s1,rfl,E,y,m⟩;have f:z9 w2 ga 0 37=some (zP ⟨1,n,⟨#[]⟩,⟨#[]⟩,id0,.slice none 0 0⟩):=(zG (m.block ga (zD d)) _ _).trans d;have G:Below ga w w2:=B.trans (m.mono (oH (zD d)));clear d B m x0;have x0:=zB f (j:=0) oM;have x1:=zB f (j:=1) oM;rw[kI,Nat.zero_add]at x0;rw[fN,Nat.zero_add]at x1;have I:=dH y;have T:=dH E;clear y;have ch:=rop_has 1 w2 oM;rw[show sP 1=⟨#[78]⟩ from rfl]at ch;(go_wp2_with fail);refine ch.mono ?_;rintro e w3 ⟨rfl,rfl⟩;have R:(((⟨#[78]⟩:ByteArray)[0]'(by decide)).toNat:Int)=78:=rfl;have cn:=rnumP (n+2147483648) 4 w2 (.inr rfl) oM;rw[show((n+2147483648:Nat):Int)=(n:Int)+2147483648 from by omega]at cn;have J:((n:Int)+2147483648+9223372036854775808) % 18446744073709551616-9223372036854775808=(n:Int)+2147483648:=oM;have O:(((⟨#[78]⟩:ByteArray).size:Nat):Int)=1:=rfl;(go_wp2_with fail);refine wp_loop_rounds 2 ?_;rw[rounds_succ];(go_wp2_with fail);refine cn.mono ?_;rintro e w4 ⟨s2,rfl,N,t,A⟩;have F:Below ga w w4:=G.trans (A.mono (oH (zD f)));have L:(s1++s2).size<=9223372036854775807:=by rw[ByteArray.size_append];omega
 have M:¬9223372036854775807<s1.size+s2.size:=oM;have H:=dH t;clear A f x0 x1 t cn;(go_wp2_with fail);rw[rounds_succ];(go_wp2_with fail);go_ret2;refine⟨s1++s2,rfl,?_,by rw[D.out];exact F⟩;rw[ByteArray.data_append,Array.toList_append,I.out,H.out];rfl
section
def Ln(nx pv:Nat->Nat):Nat->List Nat->Nat->Prop
 | x,[],z=>nx x=z/\pv z=x
 | x,y :: l,z=>nx x=y/\pv y=x/\Ln nx pv y l z
def up(f:Nat->Nat)(a b:Nat):Nat->Nat:=λx=>if x=a then b else f x
theorem tV(f:Nat->Nat)(a b:Nat):up f a b a=b:=if_pos rfl
theorem fV{f:Nat->Nat}{a b x:Nat}(h:x≠a):up f a b x=f x:=if_neg h
section
variable {nx pv nx' pv':Nat->Nat}
theorem iH:∀ {A:List Nat} {x c z:Nat} {C:List Nat},Ln nx pv x (A++c :: C) z->Ln nx pv x A c/\Ln nx pv c C z
 | [],_,_,_,_,h=>⟨⟨h.1,h.2.1⟩,h.2.2⟩
 | _ :: _,_,_,_,_,h=>⟨⟨h.1,h.2.1,(iH h.2.2).1⟩,(iH h.2.2).2⟩
theorem zp:∀ {A:List Nat} {x c z:Nat} {C:List Nat},Ln nx pv x A c->Ln nx pv c C z->Ln nx pv x (A++c :: C) z
 | [],_,_,_,_,h,k=>⟨h.1,h.2,k⟩
 | _ :: _,_,_,_,_,h,k=>⟨h.1,h.2.1,zp h.2.2 k⟩
theorem kq:∀ {l:List Nat} {x z:Nat},Ln nx pv x l z->(∀y∈x :: l,nx' y=nx y)->(∀y∈l ++ [z],pv' y=pv y)->Ln nx' pv' x l z
 | [],x,z,h,hn,hp=>⟨(hn x sI).trans h.1,(hp z sI).trans h.2⟩
 | y :: l,x,z,h,hn,hp=>⟨(hn x sI).trans h.1,(hp y sI).trans h.2.1,kq h.2.2 (λq hq=>hn q (mem_cons_of_mem _ hq)) (λq hq=>hp q (by simp at hq |-;exact .inr hq))⟩
theorem YJ:∀ {l:List Nat} {x c d:Nat},Ln nx pv x l c->(x :: l).Nodup->d∉l->(∀y∈x :: l,y≠pv c->nx' y=nx y)->nx' (pv c)=d->(∀y∈l,pv' y=pv y)->pv' d=pv c->Ln nx' pv' x l d
 | [],x,c,d,h,_,_,_,h2,_,h4=>⟨by rw[<-h2,h.2],by rw[h4,h.2]⟩
 | y :: l,x,c,d,h,hn,hd,h1,h2,h3,h4=>by
  rw[nodup_cons]at hn;have f:∀ {l:List Nat} {y:Nat},Ln nx pv y l c->pv c∈y :: l:=by
   intro l;induction l with
   | nil=>intro y h;rw[h.2];simp
   | cons a l ih=>intro y h;exact mem_cons_of_mem _ (ih h.2.2)
  have hx:x≠pv c:=λe=>hn.1 (e ▸ f h.2.2);exact⟨(h1 x sI hx).trans h.1,(h3 y sI).trans h.2.1,YJ h.2.2 hn.2 (λhm=>hd (mem_cons_of_mem _ hm)) (λq hq=>h1 q (mem_cons_of_mem _ hq)) h2 (λq hq=>h3 q (mem_cons_of_mem _ hq)) h4⟩
theorem rD:∀ {l:List Nat} {x z:Nat},Ln nx pv x l z->pv z∈x :: l
 | [],_,_,h=>by rw[h.2];simp
 | _ :: _,_,_,h=>mem_cons_of_mem _ (rD h.2.2)
theorem Ln_first:∀ {l:List Nat} {x z:Nat},Ln nx pv x l z->nx x∈l ++ [z]
 | [],_,_,h=>by rw[h.1];simp
 | y :: l,_,_,h=>by rw[h.1];simp
theorem Ln_cut{r c:Nat}{A C:List Nat}(h:Ln nx pv r (A++c :: C) r)(hn:(r :: (A++c :: C)).Nodup):Ln (up nx (pv c) (nx c)) (up pv (nx c) (pv c)) r (A++C) r:=by
 obtain⟨h1,h2⟩:=iH h;have g:(r :: A).Nodup:=hn.sublist (Sublist.cons_cons _ (sublist_append_left _ _));have hA:=rD h1;simp only[nodup_cons,nodup_append,mem_append,mem_cons]at hn;obtain⟨hr,j,⟨hc,hC⟩,f⟩:=hn;cases C with
 | nil =>
  have hd:nx c=r:=h2.1;rw[append_nil,hd];refine YJ h1 g (λhm=>hr (.inl hm)) (λy _ hy=>fV hy) (tV _ _ _) (λy hy=>fV λe=>?_) (tV _ _ _);exact hr (.inl (e ▸ hy))
 | cons d C =>
  have hd:nx c=d:=h2.1;rw[hd];refine zp (YJ h1 g (λhm=>f _ hm _ (.inr sI) rfl) (λy _ hy=>fV hy) (tV _ _ _) (λy hy=>fV λe=>?_) (tV _ _ _)) (kq h2.2.2 (λy hy=>fV λe=>?_) (λy hy=>fV λe=>?_))
  ·subst e;exact f _ hy _ (.inr sI) rfl
  ·subst e;rcases mem_cons.1 hA with e | e
   ·rw[e]at hy;exact hr (.inr (.inr hy))
   ·exact f _ e _ (.inr hy) rfl
  ·subst e;rw[nodup_cons]at hC;rcases mem_append.1 hy with e | e
   ·exact hC.1 e
   ·have e:y=r:=by simpa using e
    exact hr (.inr (.inr (by rw[e];simp)))
theorem Ln_hang{r:Nat}{L:List Nat}(h:Ln nx pv r L r)(hn:(r :: L).Nodup)(hf:n∉r :: L):Ln (up (up nx (pv r) n) n r) (up (up pv n (pv r)) r n) r (L ++ [n]) r:=by
 have hl:=rD h;have f:pv r≠n:=λe=>hf (e ▸ hl);have d:n≠r:=λe=>hf (by simp[e]);have hr:r∉L:=(nodup_cons.1 hn).1;refine zp (YJ h hn (λhm=>hf (mem_cons_of_mem _ hm)) (λy hy h1=>?_) ?_ (λy hy=>?_) ?_) ⟨tV _ _ _,tV _ _ _⟩
 ·rw[fV (λe:y=n=>hf (e ▸ hy)),fV h1]
 ·rw[fV f,tV]
 ·rw[fV (λe:y=r=>hr (e ▸ hy)),fV (λe:y=n=>hf (e ▸ mem_cons_of_mem _ hy))]
 ·rw[fV d,tV]
end
end
theorem vQ{g:Nat}{T:TypeId}{fr:Nat×Nat}(h:w.heap[g]?=some (.cells c T fr))(j:Nat)(u:Value):(w.setCell ⟨g,j,none⟩ u).heap[g]?=some (.cells (c.setIfInBounds j u) T fr):=by
 obtain⟨d,hg⟩:=aG h;show(w.heap.modify g _)[g]?=_;rw[Array.getElem?_modify];simp[h]
section
structure J4 where
 p:Option Addr
 n:Option Addr
def xU(x:J4):Array Value:=#[.pointer x.p] ++ #[.pointer x.n]
@[simp] theorem lLinkC_size(x:J4):(xU x).size=2:=by simp[xU]
theorem lLinkC_one(x:J4):∀u∈(xU x).toList,u.oneCell'=true:=by
 intro u hu;simp only[xU,Array.toList_append,mem_append]at hu;rcases hu with hu | hu
 ·simp at hu;subst hu;rfl
 ·simp at hu;subst hu;rfl
def dG:J4:=⟨none,none⟩
theorem LLink_ext{x y:J4}(h:x.p=y.p/\x.n=y.n):x=y:=by cases x;cases y;simp_all
instance:DecidableEq J4:=λx y=>if h:x.p=y.p/\x.n=y.n then isTrue (LLink_ext h)else isFalse (λe=>h (by subst e;simp))
theorem K4:(prog.info? 213).map (·.size)=some 2:=kR
@[go_sem ↓] theorem rI(w:World):(zeroValue 213).run prog w=.ok (.agg (xU dG)) w:=by
 have h:(prog.info? 213).bind (·.zero)=some (.agg (xU dG)):=kR;cases hi:prog.info? 213 with
 | none=>rw[hi]at h;cases h
 | some i =>
  rw[hi]at h;have hz:i.zero=some (.agg (xU dG)):=h;simp[zeroValue,typeInfo,hi,hz]
@[go_sem ↓] theorem loadLLink_rw(a:Addr):loadVar 213 a=ldS 213 a:=rfl
@[go_sem ↓] theorem storeLLink_rw(a:Addr)(v:Value):storeVar 213 a v=stS 213 a v:=rfl
@[go_sem] theorem loadLLink_run(w:World)(g o:Nat):(ldS 213 ⟨g,o,none⟩).run prog w=match z9 w g o 2 with | some cs=>.ok (.agg cs) w | none=>(loadVar 213 ⟨g,o,none⟩).run prog w :=
 jD underlying213 rfl K4 w g o
theorem ZM:prog.underlying 213=some (.struct (prog.fieldsOf 213)):=kR
theorem Z8(w:World):((prog.fieldsOf 213).mapM fun (f:Field)=>do pure (f.offset,<-sizeOf f.type)).run prog w=.ok #[(0,1),(1,1)] w:=kR
@[go_sem ↓] theorem buildLLink_rw(parts:Array (Nat×Value)):Instr.build 213 parts=bdS 213 parts:=rfl
@[go_sem] theorem buildLLink(a0:Option Addr)(a1:Option Addr)(w:World):(bdS 213 #[(0,.pointer a0),(1,.pointer a1)]).run prog w=.ok (.agg (xU ⟨a0,a1⟩)) w:=by
 refine qO w ZM _ (rI w) _ (Z8 w) [(0,.pointer a0),(1,.pointer a1)] _ ?_;rw[show xU dG=(#[]:Array Value) ++ #[.pointer none]++(#[.pointer none])from by first | (simp[xU,dG,Array.append_assoc];done) | (apply Array.ext';simp[xU,dG])];rw[yW (off:=0) (size:=1) rfl sI sI (by simp[Value.cells])];rw[show(#[]:Array Value)++(Value.pointer a0).cells++(#[.pointer none])=(#[.pointer a0]) ++ #[.pointer none]++(#[]:Array Value)from by first | (simp[Value.cells,Array.append_assoc];done) | (apply Array.ext';simp[Value.cells];done) | (apply Array.ext';simp only[Array.toList_append];simp[Value.cells])];rw[yW (off:=1) (size:=1) rfl sI sI (by simp[Value.cells])];first | (simp[Instr.fill,xU,Array.append_assoc,Value.cells];done) | (simp only[Instr.fill,xU];congr 1;apply Array.ext';simp[Value.cells];done) | (simp only[Instr.fill,xU];congr 1;done) | (simp only[Instr.fill,xU];done)
structure KS where
 id:zA
 lk:J4
def xO(x:KS):Array Value:=idC x.id++xU x.lk
@[simp] theorem lNodeC_size(x:KS):(xO x).size=34:=by simp[xO]
@[go_sem] theorem lNodeC_e32(x:KS):(xO x).extract 32 34=xU x.lk:=by
 have h:xO x=(idC x.id)++xU x.lk++((#[]:Array Value)):=by first | (simp[xO,Array.append_assoc];done) | (apply Array.ext';simp[xO];done)
 rw[h];exact bZ _ _ _ _ _ sI sI
def sM:KS:=⟨id0,dG⟩
theorem LNode_ext{x y:KS}(h:x.id=y.id/\x.lk=y.lk):x=y:=by cases x;cases y;simp_all
instance:DecidableEq KS:=λx y=>if h:x.id=y.id/\x.lk=y.lk then isTrue (LNode_ext h)else isFalse (λe=>h (by subst e;simp))
@[go_sem ↓] theorem rH(w:World):(zeroValue 215).run prog w=.ok (.agg (xO sM)) w:=by
 have h:(prog.info? 215).bind (·.zero)=some (.agg (xO sM)):=kR;cases hi:prog.info? 215 with
 | none=>rw[hi]at h;cases h
 | some i =>
  rw[hi]at h;have hz:i.zero=some (.agg (xO sM)):=h;simp[zeroValue,typeInfo,hi,hz]
@[go_sem ↓] theorem loadLNode_rw(a:Addr):loadVar 215 a=ldS 215 a:=rfl
@[go_sem ↓] theorem storeLNode_rw(a:Addr)(v:Value):storeVar 215 a v=stS 215 a v:=rfl
theorem ZL:prog.underlying 215=some (.struct (prog.fieldsOf 215)):=kR
theorem Z7(w:World):((prog.fieldsOf 215).mapM fun (f:Field)=>do pure (f.offset,<-sizeOf f.type)).run prog w=.ok #[(0,32),(32,2)] w:=kR
@[go_sem ↓] theorem buildLNode_rw(parts:Array (Nat×Value)):Instr.build 215 parts=bdS 215 parts:=rfl
@[go_sem] theorem buildLNode_0(a0:zA)(w:World):(bdS 215 #[(0,.agg (idC a0))]).run prog w=.ok (.agg (xO ⟨a0,dG⟩)) w:=by
 refine qO w ZL _ (rH w) _ (Z7 w) [(0,.agg (idC a0))] _ ?_;rw[show xO sM=(#[]:Array Value)++idC id0++(xU dG)from by first | (simp[xO,sM,Array.append_assoc];done) | (apply Array.ext';simp[xO,sM])];rw[yW (off:=0) (size:=32) rfl sI sI (by simp[Value.cells])];first | (simp[Instr.fill,xO,Array.append_assoc,Value.cells];done) | (simp only[Instr.fill,xO];congr 1;apply Array.ext';simp[Value.cells];done) | (simp only[Instr.fill,xO];congr 1;done) | (simp only[Instr.fill,xO];done)
def at0(x:Nat):Option Addr:=some ⟨x,0,none⟩
structure qG(w:World)(x:Nat)(d:zA)(p n:Option Addr):Prop where
 heap:w.heap[x]?=some (.cells (xO ⟨d,⟨p,n⟩⟩) 215 (0,0))
theorem lNode_32(d:zA)(p n:Option Addr):(xO ⟨d,⟨p,n⟩⟩)[32]?=some (.pointer p):=by simp[xO,xU,Array.getElem?_append]
theorem lNode_33(d:zA)(p n:Option Addr):(xO ⟨d,⟨p,n⟩⟩)[33]?=some (.pointer n):=by simp[xO,xU,Array.getElem?_append]
theorem qz(d:zA)(p n q:Option Addr):(xO ⟨d,⟨p,n⟩⟩).setIfInBounds 32 (.pointer q)=xO ⟨d,⟨q,n⟩⟩:=by
 apply Array.ext';simp[xO,xU,set_append]
theorem qy(d:zA)(p n q:Option Addr):(xO ⟨d,⟨p,n⟩⟩).setIfInBounds 33 (.pointer q)=xO ⟨d,⟨p,q⟩⟩:=by
 apply Array.ext';simp[xO,xU,set_append]
section
variable {w w':World} {x:Nat} {d:zA} {p n:Option Addr}
theorem qG.lt(h:qG w x d p n):x<w.heap.size:=(aG h.heap).1
theorem qG.c32(h:qG w x d p n):w.cell? ⟨x,32,none⟩=some (.pointer p):=by rw[cell_of_row w x 32 _ _ _ h.heap];exact lNode_32 d p n
theorem qG.c33(h:qG w x d p n):w.cell? ⟨x,33,none⟩=some (.pointer n):=by rw[cell_of_row w x 33 _ _ _ h.heap];exact lNode_33 d p n
theorem qG.fro(h:qG w x d p n)(j:Nat):w.frozen? ⟨x,j,none⟩=false:=by simp[frozen?,h.heap]
theorem qG.rlk(h:qG w x d p n):z9 w x 32 2=some (xU ⟨p,n⟩):=by unfold z9;rw[h.heap];simp[go_sem]
theorem qG.kept{S:List Nat}(h:qG w x d p n)(k:z8 S w w')(hx:x∉S):qG w' x d p n:=⟨(k.block x h.lt hx).trans h.heap⟩
theorem qG.setp(h:qG w x d p n)(q:Option Addr):qG (w.setCell ⟨x,32,none⟩ (.pointer q)) x d q n:=⟨by rw[vQ h.heap,qz]⟩
theorem qG.setn(h:qG w x d p n)(q:Option Addr):qG (w.setCell ⟨x,33,none⟩ (.pointer q)) x d p q:=⟨by rw[vQ h.heap,qy]⟩
theorem qG.setl(h:qG w x d p n)(a b:Option Addr):∃w',(stS 213 ⟨x,32,none⟩ (.agg (xU ⟨a,b⟩))).run prog w=.ok () w'/\qG w' x d a b/\z8 [x] w w':=by
 have f:=run_storeCells_at prog x 32 215 (xU ⟨a,b⟩).toList 0 (xO ⟨d,⟨p,n⟩⟩) w h.heap sI (lLinkC_one _);refine⟨w.setRow x (xO ⟨d,⟨a,b⟩⟩),?_,⟨?_⟩,?_⟩
 ·unfold stS storeVar;have hi:=K4;cases hinfo:prog.info? 213 with
  | none=>rw[hinfo]at hi;cases hi
  | some i =>
   rw[hinfo]at hi;have hk:i.size=2:=by simpa using hi
   have hE:((xO ⟨d,⟨p,n⟩⟩).toList.take (32+0)++(xU ⟨a,b⟩).toList++(xO ⟨d,⟨p,n⟩⟩).toList.drop (32+0+(xU ⟨a,b⟩).toList.length)).toArray=xO ⟨d,⟨a,b⟩⟩:=by
    apply Array.ext';simp[xO,xU]
   rw[hE]at f;simp[Value.cells,sizeOf,typeInfo,hinfo,hk];exact f
 ·exact setRow_heap w x _ _ _ _ h.heap
 ·exact⟨rfl,rfl,rfl,by simp[setRow],λy _ hy=>setRow_other w x y _ (by simpa using hy)⟩
end
def jN(w:World)(nx pv:Nat->Nat)(P:List (zA×Nat)):Prop:=∀q∈P,qG w q.2 q.1 (at0 (pv q.2)) (at0 (nx q.2))
section
variable {w w':World} {nx pv:Nat->Nat} {P:List (zA×Nat)} {d:zA} {x:Nat}
theorem jN.kept{S:List Nat}(h:jN w nx pv P)(k:z8 S w w')(hn:∀q∈P,q.2∉S):jN w' nx pv P:=λq hq=>(h q hq).kept k (hn q hq)
theorem snd_inj{P:List (zA×Nat)}(hn:(P.map (·.2)).Nodup){a b:zA×Nat}(ha:a∈P)(hb:b∈P)(e:a.2=b.2):a=b:=by
 induction P with
 | nil=>cases ha
 | cons c P ih =>
  rw[map_cons,nodup_cons]at hn;rcases mem_cons.1 ha with h1 | h1 <;> rcases mem_cons.1 hb with h2 | h2
  ·rw[h1,h2]
  ·subst h1;exact absurd (e ▸ mem_map_of_mem (f:=(·.2)) h2) hn.1
  ·subst h2;exact absurd (e ▸ mem_map_of_mem (f:=(·.2)) h1) hn.1
  ·exact ih hn.2 h1 h2
theorem jN.setn(h:jN w nx pv P)(hn:(P.map (·.2)).Nodup)(hx:(d,x)∈P)(m:Nat):jN (w.setCell ⟨x,33,none⟩ (.pointer (some ⟨m,0,none⟩))) (up nx x m) pv P:=by
 intro q hq;by_cases e:q.2=x
 ·have:=snd_inj hn hq hx e;subst this;rw[tV];exact(h _ hq).setn _
 ·rw[fV e];exact(h q hq).kept (z8.setCell w ⟨x,33,none⟩ _) (by simpa using e)
theorem jN.setp(h:jN w nx pv P)(hn:(P.map (·.2)).Nodup)(hx:(d,x)∈P)(m:Nat):jN (w.setCell ⟨x,32,none⟩ (.pointer (some ⟨m,0,none⟩))) nx (up pv x m) P:=by
 intro q hq;by_cases e:q.2=x
 ·have:=snd_inj hn hq hx e;subst this;rw[tV];exact(h _ hq).setp _
 ·rw[fV e];exact(h q hq).kept (z8.setCell w ⟨x,32,none⟩ _) (by simpa using e)
end
abbrev fA(x:Nat):Value:=.pointer (some ⟨x,0,none⟩)
def dL(w:World)(g:Nat)(F:List Nat)(L:List zA):Prop :=
 ∃(r b:Nat) (N:List (zA×Nat)) (nx pv:Nat->Nat),N.map (·.1)=L/\F=g :: b :: r :: N.map (·.2) /\
  w.heap[g]?=some (.cells #[.pointer (some ⟨r,0,none⟩),.map (some b)] 204 (0,0)) /\
  (∃M es clk,yK w b idV fA vL M es clk/\M.Perm N) /\
  Ln nx pv r (N.map (·.2)) r/\jN w nx pv ((id0,r) :: N)/\(r :: N.map (·.2)).Nodup/\L.Nodup
theorem dL.kept{w w':World}{S:List Nat}{g:Nat}{F:List Nat}{L:List zA}(h:dL w g F L)(k:z8 S w w')(hF:∀x∈F,x∉S):dL w' g F L:=by
 obtain⟨r,b,N,nx,pv,h1,h2,h3,⟨M,es,d,hm,hp⟩,h5,h6,h7,h8⟩:=h;subst h2;refine⟨r,b,N,nx,pv,h1,rfl,(k.block g (aG h3).1 (hF g sI)).trans h3,⟨M,es,d,hm.kept k (hF b sI),hp⟩,h5,h6.kept k λq hq=>hF _ ?_,h7,h8⟩;rcases mem_cons.1 hq with e | e
 ·subst e;simp
 ·exact mem_cons_of_mem _ (mem_cons_of_mem _ (mem_cons_of_mem _ (mem_map_of_mem e)))
theorem dL.lt{w:World}{g:Nat}{F:List Nat}{L:List zA}(h:dL w g F L):∀x∈F,x<w.heap.size:=by
 obtain⟨r,b,N,nx,pv,h1,h2,h3,⟨M,es,d,hm,hp⟩,h5,h6,h7,h8⟩:=h;subst h2;intro x hx;rcases mem_cons.1 hx with e | hx
 ·rw[e];exact(aG h3).1
 rcases mem_cons.1 hx with e | hx
 ·rw[e];exact hm.lt
 rcases mem_cons.1 hx with e | hx
 ·rw[e];exact(h6 (id0,r) sI).lt
 ·obtain⟨q,hq,rfl⟩:=mem_map.1 hx;exact(h6 q (mem_cons_of_mem _ hq)).lt
end
end Go.Proofs.YtddopbhcpblpjaaGreatDoor
