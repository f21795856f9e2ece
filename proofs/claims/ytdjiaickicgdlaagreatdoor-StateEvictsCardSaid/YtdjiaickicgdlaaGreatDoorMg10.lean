/- Part 10 of the texts that lead to this claim: the walks of the functions and the plain law, in order. -/
import Derived.Test.YtdjiaickicgdlaaGreatDoorMg9
namespace Go.Proofs.YtdjiaickicgdlaaGreatDoor
open Go.RowKit
open List hiding and get max min or set
open Go.Proofs.Tryz
open World
set_option maxRecDepth 100000
set_option maxHeartbeats 8000000
variable {w:World}{n:Nat}{A:Option Addr}{R:List Row}{t:ByteArray}{y:HdV}
structure Nm where
 key:ByteArray
 set:yW
def nmC(x:Nm):Array Value:=#[.string x.key]++zM x.set
@[simp] theorem iE(x:Nm):(nmC x).size=35:=by simp[nmC]
@[go_sem] theorem nmC_g0(x:Nm):(nmC x)[0]?=some (.string x.key):=by first | (simp[nmC,Array.getElem?_append];done) | (rw[show nmC x=((#[]:Array Value)) ++ #[.string x.key]++(zM x.set)from by apply Array.ext';simp[nmC]];exact xM _ _ _ _ sI)
@[go_sem] theorem nmC_gg0(x:Nm)(h:0<(nmC x).size):(nmC x)[0]'h=.string x.key:=Option.some.inj ((Array.getElem?_eq_getElem h).symm.trans (nmC_g0 x))
@[go_sem] theorem nmC_e1(x:Nm):(nmC x).extract 1 35=zM x.set:=by
 have h:nmC x=(#[.string x.key])++zM x.set++((#[]:Array Value)):=by first | (simp[nmC,Array.append_assoc];done) | (apply Array.ext';simp[nmC];done)
 rw[h];exact bC _ _ _ _ _ sI sI
@[go_sem] theorem nmC_all(x:Nm):(nmC x).extract 0 35=nmC x:=by have:=Array.extract_size (xs:=nmC x);rwa [iE]at this
theorem nmC_one(x:Nm):∀u∈(nmC x).toList,u.oneCell'=true:=by
 intro u hu;simp only[nmC,Array.toList_append,mem_append]at hu;rcases hu with hu | hu
 ·simp at hu;subst hu;rfl
 ·exact eZ _ u hu
def nm0:Nm:=⟨⟨#[]⟩,vX⟩
theorem Nm_ext{x y:Nm}(h:x.key=y.key/\x.set=y.set):x=y:=by cases x;cases y;simp_all
instance:DecidableEq Nm:=λx y=>if h:x.key=y.key/\x.set=y.set then isTrue (Nm_ext h)else isFalse (λe=>h (by subst e;simp))
theorem infoNm:(prog.info? 275).map (·.size)=some 35:=kR
@[go_sem ↓] theorem zeroNm_run(w:World):(zeroValue 275).run prog w=.ok (.agg (nmC nm0)) w:=by
 have h:(prog.info? 275).bind (·.zero)=some (.agg (nmC nm0)):=kR;cases hi:prog.info? 275 with
 | none=>rw[hi]at h;cases h
 | some i =>
  rw[hi]at h;have hz:i.zero=some (.agg (nmC nm0)):=h;simp[zeroValue,typeInfo,hi,hz]
@[go_sem ↓] theorem loadNm_rw(a:Addr):loadVar 275 a=ldS 275 a:=rfl
@[go_sem ↓] theorem storeNm_rw(a:Addr)(v:Value):storeVar 275 a v=stS 275 a v:=rfl
@[go_sem] theorem loadNm_run(w:World)(g o:Nat):(ldS 275 ⟨g,o,none⟩).run prog w=match zA w g o 35 with | some cs=>.ok (.agg cs) w | none=>(loadVar 275 ⟨g,o,none⟩).run prog w :=
 jK underlying275 rfl infoNm w g o
@[go_sem] theorem storeNm_run(w:World)(g:Nat)(hg:g=w.heap.size)(z:Array Value)(hz:z.size=35)(x:Nm)(e:TypeId):(stS 275 ⟨g,0,none⟩ (.agg (nmC x))).run prog (w.alloc (.cells z e))=.ok () (w.alloc (.cells (nmC x) e)) :=
 hg ▸ xZ infoNm w z (nmC x) hz (iE x) (nmC_one x)
@[go_sem ↓] theorem buildNm_rw(parts:Array (Nat×Value)):Instr.build 275 parts=bdS 275 parts:=rfl
def jw(x:Row):Nm:=⟨x.key,gE x⟩
theorem einfoNm:yR prog 272 275 35 72 :=
 .of (z:=.agg (nmC nm0)) underlying272 kR kR kR (iE _) oM
@[go_sem ↓] theorem bsNm_rw(n:Nat)(parts:Array (Nat×Value)):Instr.buildSlice 272 n parts=bsS 272 n parts:=rfl
@[go_sem] theorem bsNm_run(w:World)(x:Nm):(bsS 272 1 #[(0,.agg (nmC x))]).run prog w=.ok (.slice (some ⟨w.heap.size,0,none⟩) 1 1) (w.alloc (.cells (nmC x) 275)) :=
 fK einfoNm oM w (nmC x) (iE x)
theorem nm_row(x:Row):nmC (jw x)=vM x:=by
 unfold nmC jw vM gE zM;apply Array.ext';simp
theorem rowC_set0(k k' v:ByteArray)(n:Int)(d:zB):(vM ⟨k,v,n,d⟩).setIfInBounds 0 (.string k')=vM ⟨k',v,n,d⟩:=by
 apply Array.ext';simp[vM]
theorem copy_id_l{g:Nat}{k v:ByteArray}{n:Int}(b:List UInt8)(hb:b.length=32\/b = [])(ty:TypeId)(c:Nat)(h:w.heap[g]?=some (.cells (vM ⟨k,v,n,id0⟩) 275 (0,0))) :
  ∃w' m,(Builtin.copy_ #[128,9] ty #[.slice (some ⟨g,3,none⟩) 32 c,.string (mkB b)]).run prog w=.ok m w'/\w'.heap[g]?=some (.cells (vM ⟨k,v,n,xV b⟩) 275 (0,0))/\z9 [g] w w':=by
 rcases hb with hb | hb
 ·have hs:(mkB b).size=32:=by rw[dC,hb]
  have h1:=Go.Lib.run_copy_row_string (P:=prog) w 128 9 ty 5 g 3 32 c (mkB b) _ _ underlying128 kR h oM (by rw[hs];simp);refine⟨_,_,h1,?_,⟨rfl,rfl,rfl,by simp[setRow],λx _ hx=>setRow_other w g x _ (by simpa using hx)⟩⟩;rw[setRow_heap w g _ _ _ _ h];have e3:=rowC_set3 k v n id0 (xV b);have e:(xV b).l=b:=by unfold xV;rw[dif_pos hb]
  have e2:(idC (xV b)).toList=Go.Lib.byteCells (mkB b).data.toList:=by unfold idC;rw[e];rfl
  rw[e2]at e3;have e4:(Go.Lib.byteCells (mkB b).data.toList).length=32:=by rw[<-e2];simp
  rw[e4]at e3;rw[hs];simp only[Nat.add_zero]at e3;rw[e3]
 ·subst hb;have h1:=Go.Lib.run_copy_empty_string (P:=prog) w 128 9 ty 5 (some ⟨g,3,none⟩) 32 c (mkB []) underlying128 kR rfl;exact⟨_,_,h1,h,z9.refl _ _⟩
def zx(R:List Row):List (Array Value):=R.map λx=>nmC (jw x)
theorem lread(w:World)(g:Nat)(l:List UInt8)(c1:q9 w g l 0) :
  Calls prog 187 #[.pointer (some ⟨g,0,none⟩)] w λe w'=>∃A cap,e=.returned (.slice A (yS l).rows.length cap)/\Own w' w.heap.size 275 35 A (yS l).rows.length cap (zx (yS l).rows)/\q9 w' g (yS l).l (yS l).e/\z9 [g] w w'/\FitsL (yS l).rows:=by
 have c0:=kM _ _ l 0 c1;have hN:=xP 4 l 0;obtain⟨N,d8⟩:=eX (xB 4 l 0)
 have f6:Hid (yS l=jX N ⟨[],zN 4 l 0,zO 4 l 0⟩):=by show _=_;rw[<-d8];rfl
 rw[d8]at c0 hN;clear d8;have k0:=c1.lt;go_enter func187,ntmps187
 (go_wp2_with fail);refine c0.mono ?_;rintro e w1 ⟨rfl,g1,c8⟩;have h5:=dH c8;have Z:=c8.size;clear c0 c1 c8;(go_wp2_with fail);go_loopw [3,5] (λout i wr=>∃(k:Nat) (R:List Row) (l1:List UInt8) (e1:Int) (A1:Option Addr) (F:Nat),k<=N/\i=.int .i64 k/\out=.slice A1 R.length F/\R.length=k/\Own wr w1.heap.size 275 35 A1 R.length F (zx R)/\q9 wr g l1 e1/\Hid (jX N ⟨[],zN 4 l 0,zO 4 l 0⟩=jX (N-k) ⟨R,l1,e1⟩)/\Hid (FitsL R)/\z9 [g] w1 wr) (λ_ i _=>N-(intOf i).toNat)
 case atStart=>exact⟨0,[],_,_,none,0,zL,rfl,rfl,rfl,Own.nil _ _ _ _,g1,(show _=_ from rfl),(show FitsL [] by intro x hx;cases hx),z9.refl _ _⟩
 case round =>
  clear g1;obtain⟨k,R,l1,e1,A1,F,j8,rfl,rfl,g7,m,hr,b1,b2,hk⟩:=hrel;have j4:=dH g7;have k3:R.length<=N:=oM;clear g7;have j7:=hk.size;by_cases hgo:k<N/\e1=0
  ·obtain⟨i2,rfl⟩:=hgo;have M:=b1.out;rw[(oM:N-k=(N-(k+1))+1),mR _ _ rfl]at M;have j1:=dH M;have a5:=ki b2.out l1 0;have h6:=dH a5;clear b1 M b2 a5;have j9:=hr.lt;have i4:g∉blk A1:=λhx=>(oH ((m.at_base hx).1));have h8:=heap_alloc_new wr (.cells (vM qr) 275);have f9:=hr.kept (z9.alloc wr (.cells (vM qr) 275)) sI;have g4:z9 [] wr (wr.alloc (.cells (vM qr) 275)):=z9.alloc _ _;have c3:nmC nm0=vM qr:=nm_row qr;(go_wp2_with fail);refine(xI _ g l1 0 hr).mono ?_;rintro e w5 ⟨rfl,rfl⟩;go_upto_region 7 with fail
   obtain⟨g8,d4⟩:=eX wr.heap.size
   rw[d4]at h8 |-;have k1:g<g8:=oM;have j3:=dH d4;clear d4 hr c3;generalize wr.alloc (.cells (vM qr) 275)=W at *;have d0:g8<W.heap.size:=(aG h8).1;have G:g8∉[g]:=sO;have b0:g∉[g8]:=sO;(go_wp2_with fail);refine(fO _ g l1 0 f9).mono ?_;rintro e w2 ⟨rfl,g0,g5⟩;have i1:=xP 1 l1 0;(go_wp2_with fail);refine(dO _ g _ _ _ g0 oM).mono ?_;rintro e w3 ⟨rfl,U,a0⟩;have e0:q9 w3 g (txL l1 0) (txE l1 0):=U;have T:z9 [g] W w3:=z9.trans g5 a0 iL;have b7:=(T.block g8 d0 G).trans h8;obtain⟨kv,c6⟩:=eX (mkB (yY (xB 1 l1 0) (zN 1 l1 0) (zO 1 l1 0)))
   have j2:=dH (show txV l1 0=kv from c6);rw[c6];obtain⟨l2,c5⟩:=eX (txL l1 0)
   obtain⟨e2,d6⟩:=eX (txE l1 0)
   rw[c5,d6]at e0;have e8:=dH c5;have f3:=dH d6;have x0:w3.cell? ⟨g8,0,none⟩=some (.string ⟨#[]⟩):=by rw[cell_of_row w3 g8 _ _ _ _ b7];simp[vM,qr]
   have f0:w3.frozen? ⟨g8,0,none⟩=false:=by simp[frozen?,b7]
   have b6:=zF b7 0 (.string kv);rw[show qr=⟨⟨#[]⟩,⟨#[]⟩,0,id0⟩ from rfl,rowC_set0]at b6;have D:=z9.setCell w3 ⟨g8,0,none⟩ (.string kv);have h2:=e0.kept D b0;have a3:z9 [g,g8] W (w3.setCell ⟨g8,0,none⟩ (.string kv)):=z9.trans (T.mono (S':=[g,g8]) sI) (D.mono (S':=[g,g8]) sI) iL;clear g0 f9 U g5 a0 c6 c5 d6 e0 i1 b7 D T h8;go_upto_region 8 with fail
   generalize w3.setCell ⟨g8,0,none⟩ (.string kv)=W4 at *;clear x0 f0;have d3:g8<W4.heap.size:=(aG b6).1;(go_wp2_with fail);refine(fO _ g l2 e2 h2).mono ?_;rintro e w5 ⟨rfl,f8,g3⟩;have i0:=xP 1 l2 e2;(go_wp2_with fail);refine(dO _ g _ _ _ f8 oM).mono ?_;rintro e w6 ⟨rfl,f7,g2⟩;have d9:q9 w6 g (txL l2 e2) (txE l2 e2):=f7;have O:z9 [g] W4 w6:=z9.trans g3 g2 iL;have b5:=(O.block g8 d3 G).trans b6;obtain⟨vv,b9⟩:=eX (mkB (yY (xB 1 l2 e2) (zN 1 l2 e2) (zO 1 l2 e2)))
   have i9:=dH (show txV l2 e2=vv from b9);rw[b9];obtain⟨l3,c4⟩:=eX (txL l2 e2)
   obtain⟨e3,d5⟩:=eX (txE l2 e2)
   rw[c4,d5]at d9;have e7:=dH c4;have e9:=dH d5;have x1:w6.cell? ⟨g8,1,none⟩=some (.string ⟨#[]⟩):=by rw[cell_of_row w6 g8 _ _ _ _ b5];simp[go_sem]
   have f1:w6.frozen? ⟨g8,1,none⟩=false:=by simp[frozen?,b5]
   have b4:=zF b5 1 (.string vv);rw[rowC_set1]at b4;have D:=z9.setCell w6 ⟨g8,1,none⟩ (.string vv);have h1:=d9.kept D b0;have a2:z9 [g,g8] W (w6.setCell ⟨g8,1,none⟩ (.string vv)):=z9.trans (z9.trans a3 (O.mono (S':=[g,g8]) sI) iL) (D.mono (S':=[g,g8]) sI) iL;clear f8 f7 g3 g2 b9 c4 d5 d9 h2 i0 O b5 b6 D a3;go_upto_region 9 with fail
   generalize w6.setCell ⟨g8,1,none⟩ (.string vv)=W7 at *;clear x1 f1;have d2:g8<W7.heap.size:=(aG b4).1;(go_wp2_with fail);refine(kM _ g l3 e3 h1).mono ?_;rintro e w8 ⟨rfl,h0,c7⟩;have b3:=(c7.block g8 d2 G).trans b4;have x2:w8.cell? ⟨g8,2,none⟩=some (.int .i64 0):=by rw[cell_of_row w8 g8 _ _ _ _ b3];simp[go_sem]
   have f2:w8.frozen? ⟨g8,2,none⟩=false:=by simp[frozen?,b3]
   obtain⟨nv,c2⟩:=eX (xB 4 l3 e3)
   have j0:=dH c2;rw[c2];have e5:=zF b3 2 (.int .i64 nv);rw[rowC_set2]at e5;have D:=z9.setCell w8 ⟨g8,2,none⟩ (.int .i64 nv);have i7:=h0.kept D b0;have a1:z9 [g,g8] W (w8.setCell ⟨g8,2,none⟩ (.int .i64 nv)):=z9.trans (z9.trans a2 (c7.mono (S':=[g,g8]) sI) iL) (D.mono (S':=[g,g8]) sI) iL;clear h0 c7 c2 D a2 b3 b4 h1;go_upto_region 10 with fail
   generalize w8.setCell ⟨g8,2,none⟩ (.int .i64 nv)=W9 at *;clear x2 f2;have d1:g8<W9.heap.size:=(aG e5).1;have h4:=wT W9.drew g _ _ (i7.kept (z9.drew W9) sI);refine kX [g,g8] W9 ?_;intro h9 hS;refine lQ ?_;intro K hK;refine h4.mono ?_;rintro e h7 ⟨rfl,a7,X⟩;replace hS:=yC hS X sI;have e6:h7.heap[g8]?=_:=(X.block g8 d1 G).trans e5;refine⟨_,rfl,hS,hK _ _ ?_⟩;clear hK K h4;obtain⟨r,j6,i6,E,V⟩:=copy_id_l (yY 32 (zN 4 l3 e3) (zO 4 l3 e3)) (mK _ _) 3 32 e6;refine lH ?_;intro K hK;refine zI (yC hS V sI) (λg6=>?_);refine hK _ _ ?_;clear hK K;refine zD ?_;intro hS;have H:z9 [g,g8] W9 r:=g6;have Y:=a7.kept V b0;have i5:=j3.out;have j:z9 [g,g8] wr r:=z9.trans (g4.mono (S':=[g,g8]) sI) (z9.trans a1 H iL) iL;have h3:∀x∈blk A1,x∉[g,g8]:=λx hx=>(oS (m.at_base hx));have y:=m.kept j h3;have a4:z9 [g] wr r:=j.mono (by intro x hx;simp at hx;rcases hx with rfl | rfl <;> simp;omega);have hx:pD l1 0=⟨kv,vv,(nv:Int),xV (yY 32 (zN 4 l3 e3) (zO 4 l3 e3))⟩:=by unfold pD;rw[j2.out,e8.out,f3.out,i9.out,e7.out,e9.out,j0.out]
   have hL:QC l1 0=zN 32 (zN 4 l3 e3) (zO 4 l3 e3):=by unfold QC;rw[e8.out,f3.out,e7.out,e9.out]
   have g9:QD l1 0=zO 32 (zN 4 l3 e3) (zO 4 l3 e3):=by unfold QD;rw[e8.out,f3.out,e7.out,e9.out]
   rw[<-hL,<-g9]at Y;rw[<-hx]at E;obtain⟨xx,b8⟩:=eX (pD l1 0)
   rw[b8]at E h6;have i8:=dH b8;rw[<-nm_row]at E;clear b8 hx hL g9 m h3 h9 hS g6 i6 a7 X V H;have L:zA r g8 0 35=some (nmC (jw xx)):=by unfold zA;rw[E];simp[go_sem]
   have d7:Below r.heap.size r (r.alloc (.cells (nmC (jw xx)) 275)):=bA;have d:=y.below d7;have s:zA (r.alloc (.cells (nmC (jw xx)) 275)) r.heap.size 0 35=some (nmC (jw xx)):=by simp[go_sem]
   have f5:w1.heap.size<=r.heap.size:=oH j.size;clear y E j a1 g4;go_wp2_with (at_builtin;refine xN einfoNm rfl d rfl s (nmC_one _) oM oM sO ?_;intro j5 a8 f4 t I J)
   have c9:z9 (blk A1) r f4:=z9.trans ((z9.of_below d7).mono (S':=blk A1) sI) I iL;have e4:=Y.kept c9 i4;have i3:z9 [g] w1 f4:=z9.trans (z9.trans hk a4 iL) c9 (λx hx=>.inr (oH ((d.at_base hx).1)));rw[show zx R ++ [nmC (jw xx)]=zx (R ++ [xx]) by simp[zx]]at t;have B:(R ++ [xx]).length=R.length+1:=sI;have f:=dH B;clear B c9 I J d s d7 L Y;(go_wp2_with fail);go_roundw
   case rel=>exact⟨k+1,R ++ [xx],_,_,j5,a8,oM,by go_num,(by rw[f.out]),(by rw[f.out,j4.out]),(by rw[f.out];exact t),e4,(show _=_ by rw[j1.out];unfold tG;rw[i8.out]),h6,i3⟩
   case measure=>exact sZ
  ·have a6:yS l=⟨R,l1,e1⟩:=by
    rw[f6.out,b1.out];by_cases he:e1=0
    ·rw[(oM:N-k=0)];rfl
    ·exact fR _ _ he
   have a9:=dH a6;clear a6 b1 f6;by_cases i2:k<N
   ·have he:e1≠0:=oM;have k2:(e1==0)=false:=by simpa using he
    clear hgo he;(go_wp2_with fail);refine(xI _ g l1 e1 hr).mono ?_;rintro e w5 ⟨rfl,rfl⟩;(go_wp2_with fail);go_ret;rw[a9.out];exact⟨A1,F,rfl,m.mono Z,hr,z9.trans h5.out hk iL,b2.out⟩
   ·clear hgo;(go_wp2_with fail);go_ret;rw[a9.out];exact⟨A1,F,rfl,m.mono Z,hr,z9.trans h5.out hk iL,b2.out⟩
theorem jn{l:List UInt8}{e:Int}(h:QD l e=0):e=0/\VX (wR (pD l e))++QC l e=l:=by
 obtain⟨h1,h2,h3⟩:=lS (show zO _ _ _=0 from h);obtain⟨h4,h5⟩:=wJ h1;obtain⟨h6,h7⟩:=lJ h4;obtain⟨h8,h9⟩:=lJ h6;refine⟨h8,?_⟩;have e1:(xV (yY 32 (zN 4 (txL (txL l e) (txE l e)) (txE (txL l e) (txE l e))) (zO 4 (txL (txL l e) (txE l e)) (txE (txL l e) (txE l e))))).l=yY 32 (zN 4 (txL (txL l e) (txE l e)) (txE (txL l e) (txE l e))) (zO 4 (txL (txL l e) (txE l e)) (txE (txL l e) (txE l e))):=by
  unfold xV;rw[dif_pos h3]
 unfold VX wR pD gE QC;simp only[Int.toNat_natCast,e1,append_assoc];rw[h2,h5,h7,h9]
theorem iH:∀(k:Nat) (s:Rds),(jX k s).e=0->∃X:List Row,X.length=k/\(jX k s).rows=s.rows++X/\(X.map wR).flatMap VX++(jX k s).l=s.l
 | 0,s,_=>⟨[],rfl,by simp[jX],by simp[jX]⟩
 | k+1,s,h=>by
  by_cases he:s.e=0
  ·rw[mR k s he]at h |-;obtain⟨X,h1,h2,h3⟩:=iH k (tG s) h;have h4:QD s.l s.e=0:=by
    by_cases hc:(tG s).e=0
    ·exact hc
    ·rw[fR k _ hc]at h;exact h
   obtain⟨_,h5⟩:=jn h4;refine⟨pD s.l s.e :: X,by simp[h1],by rw[h2];simp[tG],?_⟩;rw[map_cons,flatMap_cons,append_assoc,h3];exact h5
  ·rw[fR _ _ he]at h;exact absurd h he
theorem zp{l:List UInt8}(h:(yS l).e=0):jb ((yS l).rows.map wR)++(yS l).l=l:=by
 obtain⟨X,h1,h2,h3⟩:=iH _ _ h;have hE:zO 4 l 0=0:=by
  by_cases hc:zO 4 l 0=0
  ·exact hc
  ·have h':=h;unfold yS at h';rw[fR _ _ (show(Rds.mk [] (zN 4 l 0) (zO 4 l 0)).e≠0 from hc)]at h';exact h'
 obtain⟨_,h5⟩:=wJ hE;unfold yS;rw[h2];unfold jb;simp only[nil_append,length_map,append_assoc];rw[h1,h3,h5]
theorem zz{l:List UInt8}(h:nK l=0):(yS l).e=0/\fT (yS l).rows=0/\kL (yS l).rows=true/\(yS l).l = []:=by
 unfold nK at h;split at h
 ·exact absurd h (by assumption)
 ·rename_i h1
  split at h
  ·exact absurd h (by assumption)
  ·rename_i h2
   split at h
   ·cases h
   ·rename_i h3
    split at h
    ·rename_i h4
     exact⟨oM,oM,by simpa using h3,h4⟩
    ·cases h
theorem load_put_l{l:List UInt8}(h:nK l=0):jb ((yS l).rows.map wR)=l:=by
 obtain⟨h1,_,_,h4⟩:=zz h;have:=zp h1
 rwa [h4,append_nil]at this
theorem kj:∀(R:List Row),fT R=0↔∀p∈R.map wR,j7 p.1 p.2=0
 | []=>by simp[fT]
 | x :: R=>by
  unfold fT;have ih:=kj R;constructor
  ·intro h;split at h
   ·rename_i hx
    intro p hp;rcases mem_cons.1 hp with e | hp
    ·rw[e];exact hx
    ·exact ih.1 h p hp
   ·exact absurd h (by assumption)
  ·intro h;rw[if_pos (show j7 x.key (gE x)=0 from h (wR x) sI)];exact ih.2 λp hp=>h p (by simp only[map_cons,mem_cons];exact .inr hp)
theorem XU:∀(R:List Row),kL R=true↔tC (R.map wR)
 | []=>by simp[kL,tC]
 | [x]=>by simp[kL,tC]
 | x :: y :: R=>by
  have ih:=XU (y :: R);unfold kL;rw[Bool.and_eq_true,ih,bltS_cmp,decide_eq_true_eq];constructor
  ·rintro⟨h1,h2⟩;refine⟨λz hz=>?_,h2⟩;rcases mem_cons.1 hz with e | hz
   ·rw[e];exact h1
   ·exact mZ _ _ _ h1 (h2.1 z hz)
  ·rintro⟨h1,h2⟩;exact⟨h1 (wR y) sI,h2⟩

def tU(w:World)(l:List UInt8)(e:Ending)(w':World):Prop :=
 ((nK l≠0/\e=.returned (.tuple #[.pointer none,.int .i64 (nK l)])) \/
  (nK l=0/\∃g b,e=.returned (.tuple #[.pointer (some ⟨g,0,none⟩),.int .i64 0])/\xD w' g b ((yS l).rows.map wR)/\w.heap.size<=g/\w.heap.size<=b))/\Below w.heap.size w w'
theorem tU.bad{w':World}{l:List UInt8}{E:Int}(h:nK l=E)(hE:E≠0)(hb:Below w.heap.size w w'):tU w l (.returned (.tuple #[.pointer none,.int .i64 E])) w' :=
 ⟨.inl ⟨by rw[h];exact hE,by rw[h]⟩,hb⟩
theorem NmsIn.get(h:SlR w A n 35 (zx R)){i:Nat}(hi:i<n)(hR:i<R.length) :
  ∃g o,A=some ⟨g,o,none⟩/\zA w g (o+i*35) 35=some (nmC ⟨(R[i]).key,gE R[i]⟩)/\w.cell? ⟨g,o+i*35,none⟩=some (.string (R[i]).key):=by
 obtain⟨g,o,e,hr⟩:=h.at_ hi;have e2:(zx R)[i]'(by rw[h.1];exact hi)=nmC ⟨(R[i]).key,gE R[i]⟩:=by unfold zx;rw[getElem_map];rfl
 rw[e2]at hr;refine⟨g,o,e,hr,?_⟩;have:=zC hr (j:=0) oM
 rwa [nmC_g0]at this
theorem VZ:∀ {R:List Row},kL R=true->∀ {j:Nat} (hj:j+1<R.length),bltS (R[j]).key (R[j+1]).key=true
 | x :: y :: R,h,0,_=>by unfold kL at h;rw[Bool.and_eq_true]at h;exact h.1
 | x :: y :: R,h,j+1,hj=>by
  unfold kL at h;rw[Bool.and_eq_true]at h;have:=VZ h.2 (j:=j) (by simpa using hj);simpa using this
 | [],_,_,hj=>by simp at hj
 | [x],_,_,hj=>by simp at hj
theorem aZ:∀ {X:List jJ} {k:ByteArray},(∀q∈X,qV q.1 k<0)->pN X k=none
 | [],_,_=>rfl
 | a :: X,k,h=>by
  have ha:=h a sI;rw[getL_cons,if_neg (λe=>by rw[e]at ha;exact iY ha)];exact aZ λq hq=>h q (by simp[hq])
theorem QX:∀ {X:List jJ} {k:ByteArray} {x:yW},(∀q∈X,qV q.1 k<0)->wF X k x=X ++ [(k,x)]
 | [],_,_,_=>rfl
 | a :: X,k,x,h=>by
  unfold wF;rw[if_pos (h a sI),QX λq hq=>h q (by simp[hq])];rfl
theorem XT:∀ {X:List jJ} {k:ByteArray},tC X->(∀q,X.getLast? = some q->qV q.1 k<0)->∀q∈X,qV q.1 k<0
 | [],_,_,_=>by simp
 | [a],k,_,h=>by intro q hq;simp at hq;subst hq;exact h q rfl
 | a :: b :: X,k,hr,h=>by
  have ih:=XT (k:=k) hr.2 (λq hq=>h q (by rw[getLast?_cons_cons];exact hq));intro q hq;rcases mem_cons.1 hq with e | hq
  ·rw[e];exact mZ _ _ _ (hr.1 b sI) (ih b sI)
  ·exact ih q hq
theorem take_last{j:Nat}(hj:j+1<=R.length):((R.take (j+1)).map wR).getLast? = some (wR (R[j]'oM)):=by
 rw[take_add_one,getElem?_eq_getElem oM,map_append,getLast?_append]
 simp
theorem take_more{j:Nat}(hj:j<R.length):(R.take (j+1)).map wR=(R.take j).map wR ++ [(R[j].key,gE R[j])]:=by
 rw[take_add_one,getElem?_eq_getElem hj,map_append];rfl
theorem Y2:∀(k:Nat) (s:Rds),(jX k s).rows.length<=s.rows.length+k
 | 0,s=>by simp[jX]
 | k+1,s=>by
  by_cases he:s.e=0
  ·rw[mR k s he];have:=Y2 k (tG s);simp only[tG,length_append,length_singleton]at this |-;omega
  ·rw[fR _ _ he];omega
theorem qy(l:List UInt8):(yS l).rows.length<=4294967296:=by
 have:=Y2 (xB 4 l 0) ⟨[],zN 4 l 0,zO 4 l 0⟩;have:=xP 4 l 0;simp only[length_nil]at *;unfold yS;omega
theorem lload(w:World)(s:ByteArray)(hs:s.size<=9223372036854775807):Calls prog 134 #[.string s] w (tU w s.data.toList):=by
 obtain⟨l,hl⟩:=eX s.data.toList
 have i7:=qy l;rw[hl];have Hl:=dH hl;clear hl;go_enter func134,ntmps134
 (go_wp2_with fail);refine(dZ s _ hs).mono ?_;rintro e w1 ⟨rfl,b9,f7⟩;rw[Hl.out]at b9;clear Hl;obtain⟨g0,f1⟩:=eX w.heap.size
 have i4:w.heap.size<=g0:=oM;rw[f1]at b9;have f0:g0<w1.heap.size:=b9.lt;have j4:=dH f1;(go_wp2_with fail);clear f1;refine(lread _ g0 l b9).mono ?_;rintro e w2 ⟨A,cap,rfl,V,b5,a0,f2⟩;have d7:Below w.heap.size w w2:=f7.trans (a0.below f7.size sO);have a2:nK l=if(yS l).e≠0 then(yS l).e else if fT (yS l).rows≠0 then fT (yS l).rows else if kL (yS l).rows=false then 4 else if(yS l).l = []then 0 else 4:=rfl;obtain⟨R,hR⟩:=eX ((yS l).rows)
 obtain⟨l1,e6⟩:=eX ((yS l).l)
 obtain⟨e1,f3⟩:=eX ((yS l).e)
 rw[hR,e6,f3]at a2;rw[hR]at V f2 i7 |-;rw[e6,f3]at b5;have HR:=dH hR;have b8:=dH a2;have j0:=dH f2;have e3:SlR w2 A R.length 35 (zx R):=V.slr;have h5:∀x∈blk A,x<w2.heap.size:=λx hx=>(V.at_base hx).2;clear hR e6 f3 a2 V f2 f7 b9 a0;cases he:(e1==0)with
 | false =>
  have d4:e1≠0:=by simpa using he
  have j2:(e1 != 0)=true:=by simpa using d4
  have hE:nK l=e1:=by rw[b8.out,if_pos d4]
  have HE:=dH hE;have He:=dH d4;clear hE d4;(go_wp2_with fail);refine(xI _ g0 l1 e1 b5).mono ?_;rintro e w3 ⟨rfl,rfl⟩;(go_wp2_with fail);refine(xI _ g0 l1 e1 b5).mono ?_;rintro e w3 ⟨rfl,rfl⟩;(go_wp2_with fail);go_ret2;exact tU.bad HE.out He.out d7
 | true =>
  obtain rfl:e1=0:=by simpa using he
  have a2:=b8.out;rw[if_neg sI]at a2;have b8:=dH a2;clear a2 he;(go_wp2_with fail);refine(xI _ g0 l1 0 b5).mono ?_;rintro e w3 ⟨rfl,rfl⟩;(go_wp2_with fail);obtain⟨wo,rfl⟩:∃wo:World,wo=w2:=⟨_,rfl⟩
  go_loopw [23] (λi wq=>∃j:Nat,j<=R.length/\i=.int .i64 j/\Hid (fT R=fT (R.drop j))/\Below wo.heap.size wo wq) (λi _=>R.length-(intOf i).toNat)
  case atStart=>exact⟨0,zL,rfl,(show _=_ from rfl),Below.refl _ _⟩
  case round =>
   obtain⟨j,hj,rfl,d3,M⟩:=hrel;by_cases k:j<R.length
   ·obtain⟨q,o,rfl,N,_⟩:=NmsIn.get (SlR.below e3 M) k k;have f4:R.drop j=R[j] :: R.drop (j+1):=drop_eq_getElem_cons k;have c3:=j0.out _ (getElem_mem k);obtain⟨x,hx⟩:=eX (R[j]'k)
    rw[hx]at N f4 c3;have a4:=d3.out;rw[f4]at a4;have c4:fT R=if j7 x.key (gE x)=0 then fT (R.drop (j+1))else j7 x.key (gE x):=a4;have g1:=dH c4;have i5:(gE x).val.size<=9223372036854775807:=by have:=c3.2;show x.val.size<=_;omega
    clear d3 a4 c4 f4 hx;(go_wp2_with fail);refine(wZ x.key (gE x) _ oM i5).mono ?_;rintro e w4 ⟨rfl,a8⟩;have c7:=yK (M.alloc M.size (.cells (nmC ⟨x.key,gE x⟩) 275)) a8;clear a8 N M;obtain⟨E,hE⟩:=eX (j7 x.key (gE x))
    rw[hE]at g1 |-;clear hE;cases hE0:(E==0)with
    | true =>
     obtain rfl:E=0:=by simpa using hE0
     have H:=g1.out;rw[if_pos rfl]at H;have f9:=dH H;clear H;(go_wp2_with fail);go_roundw
     case rel=>exact⟨j+1,oM,by go_num,f9,c7⟩
     case measure=>exact sZ
    | false =>
     have d9:E≠0:=by simpa using hE0
     have j3:(E != 0)=true:=by simpa using hE0
     have H:=g1.out;rw[if_neg d9]at H;have G:=b8.out;rw[H,if_pos d9]at G;have U:=dH G;have j1:=dH d9;clear H G d9;(go_wp2_with fail);go_ret2;exact tU.bad U.out j1.out (yK d7 c7)
   ·have a5:fT R=0:=by rw[d3.out,drop_eq_nil_of_le oM];rfl
    have G:=b8.out;rw[if_neg (by rw[a5];simp)]at G;have U:=dH G;have d0:=dH a5;have g6:=SlR.below e3 M;have e4:=b5.below M;have d6:=yK d7 M;have h4:∀x∈blk A,x<wr.heap.size:=λx hx=>(by have:=h5 x hx;have:=M.size;omega);have i3:=e4.lt;clear a5 G d3 e3 b5 d7 M h5 b8 f0;have c2:=(kj R).1 d0.out;have i9:=dH c2;clear c2 d0;(go_wp2_with fail);refine(lnew _).mono ?_;rintro e w4 ⟨gm,bm,rfl,h2,h0,h1,a8⟩;have e2:=SlR.below g6 a8;have g8:=e4.below a8;have a7:=yK d6 a8;have h3:∀x∈blk A,x∉[bm]:=λx hx=>(oS (h4 x hx));have i2:g0∉[bm]:=sO;have i6:w.heap.size<=bm:=Nat.le_trans d6.size h1;have i1:w.heap.size<=gm:=Nat.le_trans d6.size h0;clear g6 e4 d6 h4 a8 h0 h1 i3;(go_wp2_with fail);obtain⟨wp,rfl⟩:∃wp:World,wp=w4:=⟨_,rfl⟩
    go_loopw [39] (λi wq=>∃j:Nat,j<=R.length/\i=.int .i64 j/\xD wq gm bm ((R.take j).map wR)/\z9 [bm] wp wq) (λi _=>R.length-(intOf i).toNat)
    case atStart=>exact⟨0,zL,rfl,h2,z9.refl _ _⟩
    case round =>
     clear h2;obtain⟨j,hj,rfl,hL,hk⟩:=hrel;have c8:Below w.heap.size w wr:=a7.trans (hk.below a7.size sO);by_cases k:j<R.length
     ·obtain⟨q,o,rfl,N,_⟩:=NmsIn.get (e2.kept hk h3) k k;have f5:j7 (R[j]'k).key (gE (R[j]'k))=0:=i9.out (wR R[j]) (mem_map_of_mem (getElem_mem k));have e0:=take_more k;have D:∀m (hm:m+1=j),qV (R[m]'oM).key (R[j]'k).key<0->∀q∈(R.take j).map wR,qV q.1 (R[j]'k).key<0:=λm hm h=>XT hL.rows.1 (λq hq=>by
       subst hm;rw[take_last oM]at hq;injection hq with hq
       rw[<-hq];exact h)
      have T:∀m (hm:m+1=j),bltS (R[m]'oM).key (R[j]'k).key=false->nK l=4:=λm hm h=>by
       subst hm;have d2:kL R=false:=by
        cases hr:kL R with
        | false=>rfl
        | true=>rw[VZ hr k]at h;cases h
       rw[U.out,if_pos d2]
      have c1:∀m (hm:m+1=j),wr.cell? ⟨q,o+m*35,none⟩=some (.string (R[m]'oM).key):=λm hm=>by
       obtain⟨q',o',e5,_,e7⟩:=NmsIn.get (e2.kept hk h3) (oM:m<R.length) (oM:m<R.length);injection e5 with e5
       injection e5 with i0 h9
       rw[i0,h9];exact e7
      obtain⟨x,hx⟩:=eX (R[j]'k)
      rw[hx]at N f5 e0;simp only[hx]at D T;have h7:=dH f5;have h6:=dH e0;have b0:=dH D;have d1:=dH T;have f8:=dH c1;have b7:z9 [bm] wr (wr.alloc (.cells (nmC ⟨x.key,gE x⟩) 275)):=(z9.alloc _ _).mono sI;have d8:=hL.kept (z9.alloc wr (.cells (nmC ⟨x.key,gE x⟩) 275)) sI sI;have t:(wr.alloc (.cells (nmC ⟨x.key,gE x⟩) 275)).cell? ⟨wr.heap.size,0,none⟩=some (.string x.key):=by simp[go_sem]
      have g:zA (wr.alloc (.cells (nmC ⟨x.key,gE x⟩) 275)) wr.heap.size 1 34=some (zM (gE x)):=by simp[go_sem]
      have f6:bm<wr.heap.size:=hL.lt.2;clear f5 e0 D T c1 hx hL;go_upto_region 16 with fail
      obtain⟨bq,M⟩:=eX wr.heap.size
      rw[M]at t g f6 |-;clear N;by_cases g9:j=0
      ·subst g9;have r:∀q∈(R.take 0).map wR,qV q.1 x.key<0:=sI;clear M;generalize wr.alloc (.cells (nmC ⟨x.key,gE x⟩) 275)=W at *;refine lX W ?_;intro X hS;have b2:=zK t;refine lZ ?_;refine zD ?_;intro hS;clear b2 X hS;have B:=dH r;clear r;have Y:=d8.kept (z9.drew W) sI sI;have e8:z9 [bm] wr W.drew:=z9.trans b7 (z9.drew W) sI;have O:W.drew.cell? ⟨bq,0,none⟩=some (.string x.key):=t;have f:zA W.drew bq 1 34=some (zM (gE x)):=g;clear d8 b7 t g;generalize W.drew=Z at *;obtain⟨w2,a1,a9,a0⟩:=(Y.kept (z9.drew Z) sI sI).put h7.out (λh8 e=>by rw[aZ B.out]at e;cases e);rw[QX B.out]at a9;rw[<-h6.out]at a9;have c6:=Y.cell;have a3:gm∉[bm]:=by simp;exact Y.ne
       have c0:bq∉[bm]:=sO;go_upto_region 18 with fail
       refine kX [bm] Z ?_;intro X hS;have b1:=zG c6 a3;have b2:=zG O c0;have b3:=zY f c0;refine lQ ?_;intro K hK;refine zI (yC hS a0 sI) (λhS=>?_);refine hK _ _ ?_;clear hK K;refine zD ?_;intro hS;have e9:z9 [bm] wp w2:=z9.trans hk (z9.trans e8 hS iL) iL;clear b1 b2 b3 X hS a1 a0 O f c6 Y;(go_wp2_with fail);go_roundw
       case rel=>exact⟨0+1,oM,by go_num,a9,e9⟩
       case measure=>exact sZ
      ·obtain⟨m,hm⟩:∃m,m+1=j:=⟨j-1,oM⟩
       have J:=f8.out m hm;have d:=b0.out m hm;have L:=d1.out m hm;obtain⟨y,hy⟩:=eX (R[m]'oM)
       rw[hy]at J;simp only[hy]at d L;have I:(wr.alloc (.cells (nmC ⟨x.key,gE x⟩) 275)).cell? ⟨q,o+m*35,none⟩=some (.string y.key):=(cell?_alloc_lt wr _ _ (block_lt_of_cell? wr _ J)).trans J;have g4:IntKind.i64.wrap ((j:Int)-1)=(m:Int):=by rw[(oM:(j:Int)-1=m)];exact IntWalk.i64_in _ oM
       have t1:decide ((0:Int)<j)=true:=sO;have t2:(0:Int)<=(m:Int):=oM;have t3:(m:Int)<R.length:=oM;have t4:m<R.length:=oM;have t5:0<j:=oM;clear hy J g9 hm M;generalize wr.alloc (.cells (nmC ⟨x.key,gE x⟩) 275)=W at *;cases hbl:bltS y.key x.key with
       | true =>
        have a6:Op.bytesLess y.key.toList x.key.toList=true:=hbl;have r:=d (by rw[bltS_cmp]at hbl;exact of_decide_eq_true hbl);clear d L hbl;refine lX W ?_;intro X hS;have b1:=zK I;have b2:=zK t;refine lZ ?_;refine zD ?_;intro hS;clear b1 b2 X hS a6 g4 t1 I;have B:=dH r;clear r;have Y:=d8.kept (z9.drew W) sI sI;have e8:z9 [bm] wr W.drew:=z9.trans b7 (z9.drew W) sI;have O:W.drew.cell? ⟨bq,0,none⟩=some (.string x.key):=t;have f:zA W.drew bq 1 34=some (zM (gE x)):=g;clear d8 b7 t g;generalize W.drew=Z at *;obtain⟨w2,a1,a9,a0⟩:=(Y.kept (z9.drew Z) sI sI).put h7.out (λh8 e=>by rw[aZ B.out]at e;cases e);rw[QX B.out]at a9;rw[<-h6.out]at a9;have c6:=Y.cell;have a3:gm∉[bm]:=by simp;exact Y.ne
        have c0:bq∉[bm]:=sO;go_upto_region 18 with fail
        refine kX [bm] Z ?_;intro X hS;have b1:=zG c6 a3;have b2:=zG O c0;have b3:=zY f c0;refine lQ ?_;intro K hK;refine zI (yC hS a0 sI) (λhS=>?_);refine hK _ _ ?_;clear hK K;refine zD ?_;intro hS;have e9:z9 [bm] wp w2:=z9.trans hk (z9.trans e8 hS iL) iL;clear b1 b2 b3 X hS a1 a0 O f c6 Y;(go_wp2_with fail);go_roundw
        case rel=>exact⟨j+1,oM,by go_num,a9,e9⟩
        case measure=>exact sZ
       | false =>
        have a6:Op.bytesLess y.key.toList x.key.toList=false:=hbl;have c9:=L hbl;have g3:=dH c9;clear d L hbl c9;refine lX W ?_;intro X hS;have b1:=zK I;have b2:=zK t;refine lZ ?_;refine zD ?_;intro hS;clear b1 b2 X a6 g4 t1 I;(go_wp2_with fail);go_ret2;exact tU.bad g3.out oM ((c8.trans (b7.below c8.size sO)).trans (hS.mono (by have:=b7.size;have:=c8.size;omega)))
     ·have g5:R.take j=R:=take_of_length_le oM;rw[g5]at hL;have d2:kL R=true:=(XU R).2 hL.rows.1;have F:=U.out;rw[if_neg (by rw[d2];simp)]at F;have g7:=g8.kept hk i2;clear g5 d2 g8 hk e2 a7;by_cases b6:l1 = []
      ·have c5:jL l1 0=0:=by unfold jL;rw[if_pos rfl,if_pos b6]
       rw[if_pos b6]at F;have b4:=dH F;have g2:=dH c5;clear F c5 b6;(go_wp2_with fail);refine(dP _ g0 l1 0 g7).mono ?_;rintro e w5 ⟨rfl,d5⟩;rw[g2.out];have i8:=hL.below d5;(go_wp2_with fail);go_ret2;exact⟨.inr ⟨b4.out,gm,bm,rfl,by rw[HR.out];exact i8,i1,i6⟩,yK c8 d5⟩
      ·have c5:jL l1 0=4:=by unfold jL;rw[if_pos rfl,if_neg b6]
       rw[if_neg b6]at F;have b4:=dH F;have g2:=dH c5;clear F c5 b6;(go_wp2_with fail);refine(dP _ g0 l1 0 g7).mono ?_;rintro e w5 ⟨rfl,d5⟩;rw[g2.out];(go_wp2_with fail);go_ret2;exact tU.bad b4.out oM (yK c8 d5)
def ErrK(k:Int)(l:List UInt8)(E:Int):Prop :=
 if k=1 then E=loadT l else if k=2 then E=s8 l else if k=3 then E=nK l else if k=4 then BQ l E else E=yj l
def stL(k:Int)(l:List UInt8):VSt :=
 if k=1 then .t (V9 l)else if k=2 then .b (k6 l).rows (jW l).rows else if k=3 then .l ((yS l).rows.map wR)else if k=4 then .m (xW l).rows (qE l).rows else .s (yQ l).rows (xE l).rows
theorem vload1_t(w:World)(s:ByteArray)(Z:Option Addr->Int->World->Prop)(c:Calls prog 132 #[.string s] w λe w'=>∃P E,e=.returned (.tuple #[.pointer P,.int .i64 E])/\Z P E w') :
  Calls prog 82 #[.int .i64 1,.string s] w λe w'=>∃P E,e=.returned (.tuple #[.iface 140 (.pointer P),.int .i64 E])/\Z P E w':=by
 go_enter func82,ntmps82
 (go_wp2_with fail);refine c.mono ?_;rintro e w1 ⟨P,E,rfl,hz⟩;have Hz:=dH hz;clear hz c;(go_wp2_with fail);go_ret2;exact⟨P,E,rfl,Hz.out⟩
theorem vload1_b(w:World)(s:ByteArray)(Z:Option Addr->Int->World->Prop)(c:Calls prog 133 #[.string s] w λe w'=>∃P E,e=.returned (.tuple #[.pointer P,.int .i64 E])/\Z P E w') :
  Calls prog 82 #[.int .i64 2,.string s] w λe w'=>∃P E,e=.returned (.tuple #[.iface 141 (.pointer P),.int .i64 E])/\Z P E w':=by
 go_enter func82,ntmps82
 (go_wp2_with fail);refine c.mono ?_;rintro e w1 ⟨P,E,rfl,hz⟩;have Hz:=dH hz;clear hz c;(go_wp2_with fail);go_ret2;exact⟨P,E,rfl,Hz.out⟩
theorem vload1_l(w:World)(s:ByteArray)(Z:Option Addr->Int->World->Prop)(c:Calls prog 134 #[.string s] w λe w'=>∃P E,e=.returned (.tuple #[.pointer P,.int .i64 E])/\Z P E w') :
  Calls prog 82 #[.int .i64 3,.string s] w λe w'=>∃P E,e=.returned (.tuple #[.iface 143 (.pointer P),.int .i64 E])/\Z P E w':=by
 go_enter func82,ntmps82
 (go_wp2_with fail);refine c.mono ?_;rintro e w1 ⟨P,E,rfl,hz⟩;have Hz:=dH hz;clear hz c;(go_wp2_with fail);go_ret2;exact⟨P,E,rfl,Hz.out⟩
theorem vload1_m(w:World)(s:ByteArray)(Z:Option Addr->Int->World->Prop)(c:Calls prog 135 #[.string s] w λe w'=>∃P E,e=.returned (.tuple #[.pointer P,.int .i64 E])/\Z P E w') :
  Calls prog 82 #[.int .i64 4,.string s] w λe w'=>∃P E,e=.returned (.tuple #[.iface 144 (.pointer P),.int .i64 E])/\Z P E w':=by
 go_enter func82,ntmps82
 (go_wp2_with fail);refine c.mono ?_;rintro e w1 ⟨P,E,rfl,hz⟩;have Hz:=dH hz;clear hz c;(go_wp2_with fail);go_ret2;exact⟨P,E,rfl,Hz.out⟩
theorem vload1_s(w:World)(s:ByteArray)(Z:Option Addr->Int->World->Prop)(c:Calls prog 136 #[.string s] w λe w'=>∃P E,e=.returned (.tuple #[.pointer P,.int .i64 E])/\Z P E w') :
  Calls prog 82 #[.int .i64 5,.string s] w λe w'=>∃P E,e=.returned (.tuple #[.iface 145 (.pointer P),.int .i64 E])/\Z P E w':=by
 go_enter func82,ntmps82
 (go_wp2_with fail);refine c.mono ?_;rintro e w1 ⟨P,E,rfl,hz⟩;have Hz:=dH hz;clear hz c;(go_wp2_with fail);go_ret2;exact⟨P,E,rfl,Hz.out⟩
theorem vload_k(w:World)(s:ByteArray)(hs:s.size<=90000)(k:Int)(hk:1<=k/\k<=5)(M0:List Nat)(j:∀x∈M0,x<w.heap.size) :
  Calls prog 82 #[.int .i64 k,.string s] w λe w'=>∃v E,e=.returned (.tuple #[v,.int .i64 E])/\ErrK k s.data.toList E/\(E=0->∃O,kQ w' O (M0++O) v (stL k s.data.toList)/\∀x∈O,w.heap.size<=x/\x<w'.heap.size)/\Below w.heap.size w w':=by
 obtain⟨l,hl⟩:=eX s.data.toList
 have d:k=1\/k=2\/k=3\/k=4\/k=5:=oM;rcases d with rfl | rfl | rfl | rfl | rfl
 ·refine(vload1_t w s (λP E w'=>E=loadT l/\(E=0->∃g,P=some ⟨g,0,none⟩/\xG w' g (V9 l)/\w.heap.size<=g)/\Below w.heap.size w w') ((tload w s oM).mono ?_)).mono ?_
  ·rintro e w' ⟨P,rfl,h1,_,hb⟩;rw[hl]at h1 |-;exact⟨P,_,rfl,rfl,h1,hb⟩
  ·rintro e w' ⟨P,E,rfl,h1,h2,hb⟩;refine⟨_,E,rfl,by rw[hl];exact h1,λh0=>?_,hb⟩;obtain⟨g,rfl,h4,h5⟩:=h2 h0;exact⟨[g],by rw[hl];exact⟨g,rfl,h4,rfl⟩,λx hx=>by rw[mem_singleton]at hx;subst hx;exact⟨h5,h4.lt⟩⟩
 ·refine(vload1_b w s (λP E w'=>E=s8 l/\(E=0->∃g bl bg,P=some ⟨g,0,none⟩/\qS w' g bl bg (k6 l).rows (jW l).rows/\w.heap.size<=g/\w.heap.size<=bl/\w.heap.size<=bg)/\Below w.heap.size w w') ((bload w s oM).mono ?_)).mono ?_
  ·rintro e w' ⟨P,rfl,h1,_,hb⟩;rw[hl]at h1 |-;exact⟨P,_,rfl,rfl,h1,hb⟩
  ·rintro e w' ⟨P,E,rfl,h1,h2,hb⟩;refine⟨_,E,rfl,by rw[hl];exact h1,λh0=>?_,hb⟩;obtain⟨g,bl,bg,rfl,h5,k1,k2,k3⟩:=h2 h0;refine⟨[g,bl,bg],by rw[hl];exact⟨g,bl,bg,rfl,h5,rfl⟩,λx hx=>?_⟩;have:=h5.lt.1;have:=h5.live.lt;have:=h5.gone.lt;simp at hx;rcases hx with rfl | rfl | rfl <;> omega
 ·refine(vload1_l w s (λP E w'=>E=nK l/\(E=0->∃g b,P=some ⟨g,0,none⟩/\xD w' g b ((yS l).rows.map wR)/\w.heap.size<=g/\w.heap.size<=b)/\Below w.heap.size w w') ((lload w s oM).mono ?_)).mono ?_
  ·unfold tU;rw[hl];rintro e w' ⟨⟨h3,rfl⟩ | ⟨h3,g,b,rfl,h5,k1,k2⟩,hb⟩
   ·exact⟨_,_,rfl,rfl,λh=>absurd h h3,hb⟩
   ·exact⟨_,_,rfl,h3.symm,λ_=>⟨g,b,rfl,h5,k1,k2⟩,hb⟩
  ·rintro e w' ⟨P,E,rfl,h1,h2,hb⟩;refine⟨_,E,rfl,by rw[hl];exact h1,λh0=>?_,hb⟩;obtain⟨g,b,rfl,h5,k1,k2⟩:=h2 h0;obtain⟨M',es,r,hm,_⟩:=h5.map;refine⟨[g,b],by rw[hl];exact⟨g,b,rfl,h5,rfl⟩,λx hx=>?_⟩;have:=(aG h5.blk).1;have:=hm.lt;simp at hx;rcases hx with rfl | rfl <;> omega
 ·refine(vload1_m w s (λP E w'=>BQ l E/\(E=0->∃g bl bo,P=some ⟨g,0,none⟩/\xS w' g bl bo (xW l).rows (qE l).rows/\w.heap.size<=g/\w.heap.size<=bl/\w.heap.size<=bo)/\Below w.heap.size w w') ((mload w s oM).mono ?_)).mono ?_
  ·rintro e w' ⟨P,E,rfl,h4,h5,_,hb⟩;rw[hl]at h4 h5;exact⟨P,E,rfl,h4,h5,hb⟩
  ·rintro e w' ⟨P,E,rfl,h1,h2,hb⟩;refine⟨_,E,rfl,by rw[hl];exact h1,λh0=>?_,hb⟩;obtain⟨g,bl,bo,rfl,h5,k1,k2,k3⟩:=h2 h0;refine⟨[g,bl,bo],by rw[hl];exact⟨g,bl,bo,rfl,h5,rfl⟩,λx hx=>?_⟩;have:=h5.lt.1;have:=h5.live.lt;have:=h5.over.lt;simp at hx;rcases hx with rfl | rfl | rfl <;> omega
 ·refine(vload1_s w s (λP E w'=>E=yj l/\(E=0->∃g bn bb bg,P=some ⟨g,0,none⟩/\xF w' (M0 ++ [g,bn,bb,bg]) g bn bb bg (yQ l).rows (xE l).rows/\w.heap.size<=g/\w.heap.size<=bn/\w.heap.size<=bb/\w.heap.size<=bg)/\Below w.heap.size w w') ?_).mono ?_
  ·by_cases he:yj l=0
   ·refine(sqload_ok w s hs (by rw[hl];exact BE he) M0 j).mono ?_;rintro e w' ⟨g,bn,bb,bg,rfl,h5,k1,k2,k3,k4,hb⟩;rw[hl]at h5;exact⟨_,0,rfl,he.symm,λ_=>⟨g,bn,bb,bg,rfl,h5,k1,k2,k3,k4⟩,hb⟩
   ·refine(sqload_bad w s hs (by rw[hl];exact he)).mono ?_;rintro e w' ⟨rfl,hb⟩;rw[hl];exact⟨_,_,rfl,rfl,λh=>absurd h he,hb⟩
  ·rintro e w' ⟨P,E,rfl,h1,h2,hb⟩;refine⟨_,E,rfl,by rw[hl];exact h1,λh0=>?_,hb⟩;obtain⟨g,bn,bb,bg,rfl,h5,k1,k2,k3,k4⟩:=h2 h0;obtain⟨es,r,hn⟩:=h5.nodes;obtain⟨BM,t,m,f,_⟩:=h5.behind;refine⟨[g,bn,bb,bg],by rw[hl];exact⟨g,bn,bb,bg,rfl,h5,rfl⟩,λx hx=>?_⟩;have:=h5.ltg;have:=hn.lt;have:=f.lt;have:=h5.gone.lt;simp at hx;rcases hx with rfl | rfl | rfl | rfl <;> omega
theorem kQ.iface{w:World}{O M:List Nat}{v:Value}{s:VSt}(h:kQ w O M v s):∃ty gs,v=.iface ty (.pointer (some ⟨gs,0,none⟩)):=by
 cases s with
 | t n=>obtain⟨g,e,_⟩:=h;exact⟨_,_,e⟩
 | b L G=>obtain⟨g,bl,bg,e,_⟩:=h;exact⟨_,_,e⟩
 | l L=>obtain⟨g,b,e,_⟩:=h;exact⟨_,_,e⟩
 | m X O=>obtain⟨g,bl,bo,e,_⟩:=h;exact⟨_,_,e⟩
 | s N G=>obtain⟨g,bn,bb,bg,e,_⟩:=h;exact⟨_,_,e⟩
theorem rd_left(w:World)(g:Nat)(l:List UInt8)(h:q9 w g l 0):Calls prog 84 #[.pointer (some ⟨g,0,none⟩)] w λen w'=>en=.returned (.int .i64 l.length)/\Below w.heap.size w w':=by
 have h0:=h;obtain⟨s,a,ha,hs,hg,hl⟩:=h;obtain⟨c0,c1,c2,c3,_⟩:=p9 hg;have j:l.length=s.size-a:=by rw[hl,length_drop];congr 1
 have d:((s.size:Int)-(a:Int))=((s.size-a:Nat):Int):=oM;have k:=dH j;have HL:=dH hl;clear hl j h0;have f:=lP w g 0 c3 c2;rw[show(!((0:Int)==0))=false from rfl]at f;obtain⟨m,hm⟩:=eX (s.size-a)
 rw[hm]at d;have y:m<=9223372036854775807:=oM;have r:IntKind.i64.wrap (m:Int)=(m:Int):=IntWalk.i64_in _ oM;have Hm:=dH hm;clear hm;go_enter func84,ntmps84
 (go_wp2_with fail);refine f.mono ?_;rintro e w1 ⟨rfl,rfl⟩;go_upto_region 3 with fail
 refine lX w ?_;intro t hS;have b1:=zK c0;have b2:=zK c1;refine lZ ?_;refine zD ?_;intro hS;(go_wp2_with fail);go_ret;exact⟨yA (by rw[k.out,Hm.out]),hS⟩
def pX(k:Int)(I:List zB)(l:List UInt8)(e E:Int):Prop :=
 if e≠0 then E=e else if kI I=false then E=4 else ErrK k l E
theorem kQ.sub{O M M':List Nat}{v:Value}{s:VSt}(h:kQ w O M v s)(hO:∀x∈O,x∈M')(hs:∀x∈M',x∈M):kQ w O M' v s:=by
 cases s with
 | s N G =>
  obtain⟨g,bn,bb,bg,e,h1,rfl⟩:=h;obtain⟨BM,k,f,hb,d,j⟩:=h1.behind;exact⟨g,bn,bb,bg,e,⟨h1.blk,h1.nodes,⟨BM,k,f,hb,λp hp=>⟨(d p hp).1,λx hx=>⟨λhm=>((d p hp).2 x hx).1 (hs x hm),((d p hp).2 x hx).2⟩⟩,j⟩,h1.gone,⟨hO _ sI,hO _ sI,hO _ sI⟩,h1.ne,h1.one,h1.ok⟩,rfl⟩
 | _=>exact h
theorem vload_in(t:ByteArray)(w:World)(s:ByteArray)(I0:List zB)(l0:List UInt8)(e0:Int)(M0:List Nat)(o3:∀x∈M0,x<w.heap.size)(hs:s.size<=90000)(ht:t.size<=9223372036854775807)(e1:yH t≠0)(hw:1<w.heap.size)(d6:j5 idP s.data.toList 0=⟨I0,l0,e0⟩) :
  Calls prog 37 #[.string t,.string s] w λe w'=>∃P E,e=.returned (.tuple #[.pointer P,.int .i64 E])/\pX (yH t) I0 l0 e0 E/\(E≠0->P=none)/\(E=0->∃g b O v,P=some ⟨g,0,none⟩/\VAt w' g t b O I0 v (stL (yH t) l0)/\kQ w' O (M0++g :: b :: O) v (stL (yH t) l0)/\(∀x∈b :: O,w.heap.size<=x)/\w.heap.size<=g)/\Below w.heap.size w w':=by
 obtain⟨l,hl⟩:=eX s.data.toList
 have p4:l.length<=90000:=by rw[<-hl];exact hs
 have c1:=vnew_any t w ht e1 hw;have c2:=λw=>dZ s w oM;have f7:j5 idP l 0=⟨I0,l0,e0⟩:=by rw[<-hl];exact d6
 have k7:e0=0->l0.length<=90000/\I0.length<=90000:=λh=>by
  have h4:=jV nM (show(j5 idP l 0).e=0 by rw[f7];exact h);rw[f7]at h4;have h5:I0.length+l0.length<=l.length:=h4;omega
 rw[hl]at c2;have hN:=xP 4 l 0;obtain⟨N,g5⟩:=eX (xB 4 l 0)
 have d9:qJ idP N ⟨[],zN 4 l 0,zO 4 l 0⟩=⟨I0,l0,e0⟩:=by rw[<-f7,<-g5];rfl
 rw[g5]at hN;have o9:=dH g5;have j8:=dH d9;clear hl f7 d6 g5 d9;go_enter func37,ntmps37
 (go_wp2_with fail);refine c1.mono ?_;rintro e w2 ⟨g,b,O0,v0,rfl,hV,c9,p7,j3⟩;(go_wp2_with fail);refine(c2 w2).mono ?_;rintro e w3 ⟨rfl,f8,e9⟩;obtain⟨gr,i8⟩:=eX w2.heap.size
 have q2:=dH i8;have m0:yU w3 g t b [] v0:=hV.view.below e9;have p8:g<gr/\b<gr:=by have h1:=hV.view.lt;have h2:=hV.view.ids.lt;omega
 have Z:=yK j3 e9;have p9:w.heap.size<=b:=c9 b sI;rw[i8]at f8 |-;have n2:w.heap.size<=gr:=oH j3.size;clear c1 c2 hV c9 j3 e9 i8;(go_wp2_with fail);refine(kM w3 gr l 0 f8).mono ?_;rintro e w4 ⟨rfl,k4,g1⟩;rw[o9.out];have k1:=g1.size;have n7:=f8.lt;clear f8;(go_wp2_with fail);go_loopw [9,11,12] (λout i _ wr=>∃(k:Nat) (G:List zB) (l2:List UInt8) (e2:Int) (B1:Option Addr) (U:Nat),k<=N/\i=.int .i64 k/\out=.slice B1 G.length U/\G.length=k/\Own wr w4.heap.size 31 32 B1 G.length U (G.map idC)/\q9 wr gr l2 e2/\Hid (qJ idP N ⟨[],zN 4 l 0,zO 4 l 0⟩=qJ idP (N-k) ⟨G,l2,e2⟩)/\z9 [gr] w4 wr) (λ_ i _ _=>N-(intOf i).toNat)
 case atStart=>exact⟨0,[],_,_,none,0,zL,rfl,rfl,rfl,Own.nil _ _ _ _,k4,(show _=_ from rfl),z9.refl _ _⟩
 case round =>
  clear k4;obtain⟨k,G,l2,e2,B1,U,p6,rfl,rfl,m4,j,hr,g0,hk⟩:=hrel;have p0:=dH m4;have q1:G.length<=N:=oM;clear m4;have p2:=hk.size;have M:Hid (¬(k<N/\e2=0)->⟨G,l2,e2⟩=(⟨I0,l0,e0⟩:nD zB)):=λhn=>by
   rw[<-j8.out,g0.out];by_cases he:e2=0
   ·rw[(oM:N-k=0)];rfl
   ·exact(v8 _ _ he).symm
  by_cases hgo:k<N/\e2=0
  ·obtain⟨p3,rfl⟩:=hgo;have b7:=g0.out;rw[(oM:N-k=(N-(k+1))+1),vA _ _ rfl]at b7;have j9:=dH b7;clear g0 b7 M;have i7:=hr.lt;have o0:gr∉blk B1:=λhx=>(oH ((j.at_base hx).1));have h8:=heap_alloc_new wr (.cells (idC id0) 31);have a1:=hr.kept (z9.alloc wr (.cells (idC id0) 31)) sI;have a3:z9 [] wr (wr.alloc (.cells (idC id0) 31)):=z9.alloc _ _;have R:(wr.alloc (.cells (idC id0) 31)).heap.size=wr.heap.size+1:=sI;(go_wp2_with fail);refine(xI _ gr l2 0 hr).mono ?_;rintro e w5 ⟨rfl,rfl⟩;go_upto_region 11 with fail
   obtain⟨g8,c8⟩:=eX wr.heap.size
   have o7:=dH c8;obtain⟨W,hW⟩:=eR (wr.alloc (.cells (idC id0) 31))
   rw[<-hW]at h8 a1 a3 R |-;rw[c8]at h8 i7 R |-;have j0:g8<W.heap.size:=oM;have i2:g8∉[gr]:=sO;have n4:gr∉[g8]:=sO;have o5:=dH R;clear hW c8 hr R;have c1:=wT W.drew gr l2 0 (a1.kept (z9.drew W) sI);refine kX [gr,g8] W ?_;intro i3 hS;refine lQ ?_;intro K hK;refine c1.mono ?_;rintro en w1 ⟨rfl,k5,i6⟩;replace hS:=yC hS i6 sI;have e4:w1.heap[g8]?=_:=(i6.block g8 (by show _<W.drew.heap.size;exact j0) i2).trans h8;refine⟨_,rfl,hS,hK _ _ ?_⟩;clear hK K c1;obtain⟨w5,m2,o1,c0,g2⟩:=pQ (yY 32 l2 0) (mK _ _) 3 32 e4;refine lH ?_;intro K hK;refine zI (yC hS g2 sI) (λm1=>?_);refine hK _ _ ?_;clear hK K;refine zD ?_;intro hS;have l1:z9 [gr,g8] W w5:=m1;have d7:=k5.kept g2 n4;have b5:d5 idP ⟨G,l2,0⟩=⟨G ++ [xV (yY 32 l2 0)],zN 32 l2 0,zO 32 l2 0⟩:=rfl;rw[b5]at j9;obtain⟨d,hd⟩:=eX (xV (yY 32 l2 0))
   rw[hd]at c0 j9;clear hd b5 o1 hS m1 i3 i6 g2 k5 e4 h8 a1;have k9:z9 [gr,g8] wr w5:=z9.trans (a3.mono (S':=[gr,g8]) sI) l1 iL;have c7:z9 [gr] wr w5:=k9.narrow (λx hx=>by have:=o7.out;simp at hx |-;omega);have a2:=j.kept c7 (λx hx=>oS ((j.at_base hx).1));have d3:zA w5 g8 0 32=some (idC d):=by unfold zA;rw[c0];simp[go_sem]
   have a5:Below w5.heap.size w5 (w5.alloc (.cells (idC d) 31)):=bA;have f:=a2.below a5;have D:zA (w5.alloc (.cells (idC d) 31)) w5.heap.size 0 32=some (idC d):=by simp[go_sem]
   have n1:w4.heap.size<=w5.heap.size:=oH c7.size;clear j a2 c0 l1 k9 a3;go_wp2_with (at_builtin;refine xN yP rfl f rfl D (yN _) oM oM sO ?_;intro p1 f4 k0 F a4 a9)
   have e1:z9 (blk B1) w5 k0:=z9.trans ((z9.of_below a5).mono (S':=blk B1) sI) a4 iL;have j4:=d7.kept e1 o0;have n5:z9 [gr] w4 k0:=z9.trans (z9.trans hk c7 iL) e1 (λx hx=>.inr (oH ((f.at_base hx).1)));rw[(sI:G.map idC ++ [idC d]=(G ++ [d]).map idC)]at F;have I:(G ++ [d]).length=G.length+1:=sI;have m:=dH I;clear I e1 a4 a9 f D a5 d3 d7;(go_wp2_with fail);go_roundw
   case rel=>exact⟨k+1,G ++ [d],_,_,p1,f4,oM,by go_num,(by rw[m.out]),(by rw[m.out,p0.out]),(by rw[m.out];exact F),j4,j9,n5⟩
   case measure=>exact sZ
  ·have hf:=M.out hgo;have f1:G=I0:=congrArg nD.rows hf;have f2:l2=l0:=congrArg nD.l hf;have f3:e2=e0:=congrArg nD.e hf;subst f1;subst f2;subst f3;have a0:¬k<N\/(k<N/\(e2==0)=false):=by
    by_cases h1:k<N
    ·exact .inr ⟨h1,by simp;exact λh=>hgo ⟨h1,h⟩⟩
    ·exact .inl h1
   have a7:=dH a0;clear hf hgo M g0 a0;have l6:yU wr g t b [] v0:=m0.kept (z9.trans g1 hk iL) sO sO;have V:Below w.heap.size w wr:=(Z.trans (g1.below (oH Z.size) sO)).trans (hk.below (B:=w.heap.size) (oH Z.size) sO);have n6:gr<wr.heap.size:=hr.lt;clear m0 g1 hk Z;go_upto_region 8 with fail
   go_cut [35] (λv wx=>v=.bool false/\wr=wx)
   case first =>
    rcases a7.out with h1 | ⟨h1,h2⟩
    ·go_wp2_with fail
     go_meet
     exact⟨rfl,rfl⟩
    ·(go_wp2_with fail);refine(xI _ gr l2 e2 hr).mono ?_;rintro e w5 ⟨rfl,rfl⟩;go_wp2_with fail
     go_meet
     exact⟨rfl,rfl⟩
   case rest =>
   obtain⟨rfl,rfl⟩:=hcut;clear a7;(go_wp2_with fail);refine(xI _ gr l2 e2 hr).mono ?_;rintro e w5 ⟨rfl,rfl⟩;by_cases h3:e2≠0
   ·have e9:(e2 != 0)=true:=by simpa using h3
    have H3:=dH h3;clear h3;(go_wp2_with fail);refine(xI _ gr l2 e2 hr).mono ?_;rintro e w5 ⟨rfl,rfl⟩;(go_wp2_with fail);go_ret2;exact⟨none,e2,rfl,(if_pos H3.out).mpr rfl,λ_=>rfl,λh=>absurd h H3.out,V⟩
   have h3:e2=0:=Classical.not_not.1 h3;subst h3;obtain⟨p5,q0⟩:=k7 rfl;have ci:=aS wr B1 G.length U G j.slr oM;obtain⟨ri,h6⟩:=eX (kI G)
   rw[h6]at ci;have m8:=dH h6;clear h6 k7;(go_wp2_with fail);refine ci.mono ?_;rintro e w5 ⟨rfl,d0⟩;cases ri with
   | false =>
    have Y:=yK V d0;clear ci;(go_wp2_with fail);go_ret2;exact⟨none,4,rfl,by unfold pX;rw[if_neg sI,if_pos m8.out],λ_=>rfl,λh=>absurd h (by decide),Y⟩
   | true =>
   have l9:=l6.below d0;have d7:=hr.below d0;have d8:=j.below d0;have Y:=yK V d0;clear ci l6 hr j V d0;(go_wp2_with fail);refine(bY t w5 ht).mono ?_;rintro e w6 ⟨rfl,e8⟩;have l8:=l9.below e8;have h7:=d7.below e8;have f9:=d8.below e8;have f0:=yK Y e8;clear l9 d7 d8 Y e8;(go_wp2_with fail);refine(rd_left w6 gr l2 h7).mono ?_;rintro e w7 ⟨rfl,e7⟩;have l7:=l8.below e7;have k3:=h7.below e7;have i0:=f9.below e7;have c4:=yK f0 e7;clear l8 h7 f9 f0 e7;(go_wp2_with fail);refine(dO w7 gr _ _ 0 k3 oM).mono ?_;rintro e w8 ⟨rfl,n3,a3⟩;have m7:yY l2.length l2 0=l2:=by unfold yY;rw[if_pos ⟨rfl,lR⟩];exact take_length
   rw[m7];have g4:=l7.kept a3 sO sO;have k6:=i0.kept a3 (λx hx=>oS ((i0.at_base hx).1));have X:Below w.heap.size w w8:=c4.trans (a3.below (B:=w.heap.size) (oH c4.size) sO);have n9:=g4.lt;have o2:=g4.ids.lt;have i4:1<=(yH t:Int)/\(yH t:Int)<=5:=oH (fG t);have cl:=vload_k w8 (mkB l2) (by rw[dC];omega) (yH t) i4 (M0 ++ [g,b]) (λx hx=>by rcases mem_append.1 hx with hx | hx;exact Nat.lt_of_lt_of_le (o3 x hx) X.size;simp at hx;omega);rw[show(mkB l2).data.toList=l2 from rfl]at cl;clear m7 l7 k3 i0 c4 n3 a3;(go_wp2_with fail);refine cl.mono ?_;rintro e w9 ⟨v,E,rfl,m5,b4,e6⟩;have m9:=dH (show pX (yH t) G l2 0 E by unfold pX;rw[if_neg sI,if_neg (by rw[m8.out];simp)];exact m5);by_cases c6:E≠0
   ·have e9:(E != 0)=true:=by simpa using c6
    have H3:=dH c6;have L:=yK X e6;clear c6 b4 cl;(go_wp2_with fail);go_ret2;exact⟨none,E,rfl,m9.out,λ_=>rfl,λh=>absurd h H3.out,L⟩
   have c6:E=0:=Classical.not_not.1 c6;obtain⟨O,b5,hO⟩:=b4 c6;subst c6;clear b4 m5;obtain⟨st,b3⟩:=eX (stL (yH t) l2)
   rw[b3]at b5;have f5:=dH b3;clear b3;obtain⟨ty,gs,rfl⟩:=b5.iface;have a6:=g4.below e6;have h9:=k6.below e6;have L:=yK X e6;have g3:=a6.ne;have f2:w9.frozen? ⟨g,2,none⟩=false:=by simp[frozen?,a6.blk]
   have x2:=a6.cell2;have b8:z9 [g] w9 (w9.setCell ⟨g,2,none⟩ (.iface ty (.pointer (some ⟨gs,0,none⟩)))):=z9.setCell w9 ⟨g,2,none⟩ (.iface ty (.pointer (some ⟨gs,0,none⟩)));have j6:=zF a6.blk 2 (.iface ty (.pointer (some ⟨gs,0,none⟩)));have A:=b5.kept_small b8 (λx hx=>by rw[mem_singleton]at hx;subst hx;exact qg a6.blk sI) (λx hx hm=>by rw[mem_singleton]at hm;have:=(hO x hx).1;omega);have J:jS _ b []:=a6.ids.kept b8 (by simpa using λe=>g3 e.symm);have b6:=h9.kept b8 (λx hx hm=>by rw[mem_singleton]at hm;have:=(h9.at_base hx).1;omega);have c3:Below w.heap.size w (w9.setCell ⟨g,2,none⟩ (.iface ty (.pointer (some ⟨gs,0,none⟩)))):=L.trans (b8.below (B:=w.heap.size) L.size sO);have c5:∀x∈O,w8.heap.size<=x/\x<(w9.setCell ⟨g,2,none⟩ (.iface ty (.pointer (some ⟨gs,0,none⟩)))).heap.size:=λx hx=>⟨(hO x hx).1,Nat.lt_of_lt_of_le (hO x hx).2 b8.size⟩;have n8:=a6.lt;have g9:=b8.size;clear cl g4 k6 X a6 h9 L b5 hO e6 b8;go_upto_region 21 with fail
   obtain⟨d1,a8⟩:=eX (w9.setCell ⟨g,2,none⟩ (.iface ty (.pointer (some ⟨gs,0,none⟩))))
   rw[a8]at j6 A J b6 c3 c5 g9;rw[a8];have o6:=dH A;have HO:=dH c5;have f6:=dH c3;have n0:=dH j6;have l3:b<d1.heap.size:=J.lt;clear a8 f2 x2 A c5 c3 j6;(go_wp2_with fail);go_loopw [75] (λi wr=>∃k:Nat,k<=G.length/\i=.int .i64 k/\jS wr b (G.take k)/\z9 [b] d1 wr) (λi _=>G.length-(intOf i).toNat)
   case atStart=>exact⟨0,zL,rfl,by simpa using J,z9.refl _ _⟩
   case round =>
    obtain⟨k2,g2,rfl,hid,b9⟩:=hrel;have e3:g<d1.heap.size:=(aG n0.out).1;have r:=(b9.block g e3 (by simpa using g3)).trans n0.out;have T:wr.cell? ⟨g,1,none⟩=some (.map (some b)):=by rw[cell_of_row wr g 1 _ _ _ r];rfl
    by_cases H:k2<G.length
    ·have m6:=b6.kept b9 (λx hx=>oS ((b6.at_base hx).1));obtain⟨q,o,rfl,d4⟩:=zX.get m6.slr H H;have g7:G.take (k2+1)=G.take k2 ++ [G[k2]'H]:=by rw[take_add_one,getElem?_eq_getElem H];rfl
     obtain⟨x,hx⟩:=eX (G[k2]'H)
     rw[hx]at d4 g7;have o4:=dH g7;have a5:Below wr.heap.size wr (wr.alloc (.cells (idC x) 31)):=bA;have i1:=yM.below hid a5;have j1:=(a5.cell (p:=⟨g,1,none⟩) (block_lt_of_cell? wr _ T)).trans T;have a1:zA (wr.alloc (.cells (idC x) 31)) wr.heap.size 0 32=some (idC x):=by simp[go_sem]
     have k8:z9 [b] d1 (wr.alloc (.cells (idC x) 31)):=z9.trans b9 (z9.of_below a5) sI;have j2:b<wr.heap.size:=hid.lt;clear hx g7 m6;go_upto_region 24 with fail
     obtain⟨g8,c8⟩:=eX wr.heap.size
     obtain⟨W1,l5⟩:=eR (wr.alloc (.cells (idC x) 31))
     rw[<-l5]at i1 j1 a1 k8 |-;rw[c8]at a1 j2 |-;clear l5 c8 d4 T a5 hid r;obtain⟨g6,h0,d8,c7⟩:=vl (x:=x) (i1.kept (z9.drew W1) sI);have i9:g∉[b]:=by simpa using g3
     refine kX [b] W1 ?_;intro i3 hS;have b1:=zG j1 i9;have b2:=zY a1 (S:=[b]) sO;refine lQ ?_;intro K hK;refine zI (yC hS c7 sI) (λhS=>?_);refine hK _ _ ?_;clear hK K;refine zD ?_;intro hS;have m3:z9 [b] W1 g6:=hS;have i5:z9 [b] d1 g6:=z9.trans k8 m3 iL;have f9:jS g6 b (G.take (k2+1)):=yM.congr d8 (λy=>by rw[o4.out,mem_append,mem_singleton,mem_cons];exact Or.comm);clear b1 b2 i3 hS c7 h0 j1 a1 d8 m3 i1;(go_wp2_with fail);go_roundw
     case rel=>exact⟨k2+1,oM,by go_num,f9,i5⟩
     case measure=>exact sZ
    ·have e2:G.take k2=G:=take_of_length_le oM;rw[e2]at hid;have c9:b∉O:=λhx=>(oH ((HO.out b hx).1));have b0:kQ wr O (M0++g :: b :: O) (.iface ty (.pointer (some ⟨gs,0,none⟩))) st:=by
      have h1:=o6.out.kept b9 (λx hx hm=>by rw[mem_singleton]at hm;rw[hm]at hx;exact c9 hx) (λx hx=>.inl (by rw[mem_singleton]at hx;rw[hx];simp))
      rwa [(sI:(M0 ++ [g,b])++O=M0++g :: b :: O)]at h1
     have d2:kQ wr O (b :: O) (.iface ty (.pointer (some ⟨gs,0,none⟩))) st:=b0.sub (λx hx=>mem_cons_of_mem _ hx) (λx hx=>mem_append_right _ (mem_cons_of_mem _ hx));have j7:=dH b0;clear b0;have e5:VAt wr g t b O G (.iface ty (.pointer (some ⟨gs,0,none⟩))) st:=⟨⟨r,hid⟩,d2,λhx=>by
      rcases mem_cons.1 hx with h1 | h1
      ·exact g3 h1
      ·have:=(HO.out g h1).1;omega,c9,λx hx=>by
      have:=b9.size;rcases mem_cons.1 hx with h1 | h1
      ·omega
      ·have:=(HO.out x h1).2;omega,λhx=>by
      rcases mem_cons.1 hx with h1 | h1
      ·omega
      ·have:=(HO.out _ h1).1;omega⟩
     have l4:Below w.heap.size w wr:=f6.out.trans (b9.below (B:=w.heap.size) f6.out.size sO);have M:=dH e5;have o8:=dH l4;clear e2 hid b9 r T e5 l4 d2 c9;(go_wp2_with fail);go_ret2;exact⟨_,0,rfl,m9.out,λh=>absurd rfl h,λ_=>⟨g,b,O,_,rfl,by rw[f5.out];exact M.out,by rw[f5.out];exact j7.out,λx hx=>by
      rcases mem_cons.1 hx with h1 | h1
      ·omega
      ·have:=(HO.out x h1).1;omega,oM⟩,o8.out⟩
section
structure HdX where
 id:zB
 h:HdV
structure Pay where
 c:zB
 body:ByteArray
 pin:Bool
structure VwX where
 t:ByteArray
 I:List zB
 s:VSt
structure StX where
 q:Int
 D:List HdX
 O:List zB
 S:List Pay
 V:List VwX
section
variable (D:List HdX)
def kZ(i:zB):Option HdV:=(D.find? λx=>decide (x.id=i)).map (·.h)
def qT:List zB:=D.map (·.id)
def htX(i:zB):Int:=match kZ D i with | some h=>h.ht | none=>0
def sF(ps:List zB):List zB:=ps.filter λp=>decide (p∉qT D)
def topX(ps:List zB):Int:=ps.foldl (λm p=>max m (min (htX D p) 1073741824)) 0+1
def gD(h:HdV):Int:=if hdE h≠0 then hdE h else if sF D h.ps≠[]then 11 else if topX D h.ps≠h.ht then 12 else 0
def dR(f:zB->Int)(a b:zB):Int:=orC (fX (f a) (f b)) (yE a b)
def VB(x:HdX):List HdX:=D.takeWhile (λy=>bG y.h.ht y.id x.h.ht x.id)++x :: D.dropWhile (λy=>bG y.h.ht y.id x.h.ht x.id)
def kA(h:HdV):List HdX:=if gD D h=0/\hdI h∉qT D then VB D ⟨hdI h,h⟩ else D
def jC(t:ByteArray):List zB:=(D.filter λx=>decide (x.h.tp=t)).map (·.id)
def vD(c:zB):List zB:=(D.filter λx=>decide (x.h.cm=c)).map (·.id)
def V7:List zB:=D.flatMap λx=>x.h.ps
end
section
variable (S:List Pay)
def jN(c:zB):Option Pay:=S.find? λp=>decide (p.c=c)
def xK:Nat:=(S.map λp=>p.body.size).sum
def qY:Nat:=((S.filter (·.pin)).map λp=>p.body.size).sum
def sB(b:ByteArray):Int:=if b.size=0 then 4 else if 512<b.size then 3 else 0
def sQ(q:Int)(b:ByteArray):Int:=if sB b≠0 then sB b else if qM b.data.toList∈S.map (·.c)then 0 else if q-xK S<b.size then 14 else 0
def lV(q:Int)(b:ByteArray):List Pay:=if sQ S q b=0/\qM b.data.toList∉S.map (·.c)then S ++ [⟨qM b.data.toList,b,false⟩]else S
def bF(c:zB):List Pay:=S.map λp=>if p.c=c then { p with pin:=true } else p
def vU(c:zB):List Pay:=S.filter λp=>decide (p.c≠c)
end
def qI(D:List HdX)(S:List Pay)(i:zB):Option ByteArray :=
 match kZ D i with
 | none=>none
 | some h=>match jN S h.cm with
  | none=>none
  | some p=>if(p.body.size:Int)=h.sz then some p.body else none
def t9(m:j9)(v:VwX):VwX:=if m.id∈v.I then v else⟨v.t,m.id :: v.I,mA v.t m v.s⟩
def jM(D:List HdX)(S:List Pay)(v:VwX)(i:zB):VwX :=
 match kZ D i,qI D S i with
 | some h,some b=>if v.t=h.tp then t9 ⟨i,h.ht,b⟩ v else v
 | _,_=>v
def hasT(V:List VwX)(t:ByteArray):Bool:=V.any λv=>decide (v.t=t)
theorem m9{V:List VwX}:hasT V t=true↔t∈V.map (·.t):=by unfold hasT;simp
section
variable (X:StX)
def vwOf(t:ByteArray):Option VwX:=X.V.find? λv=>decide (v.t=t)
def qF(L:List zB):StX:={ X with V:=X.V.map λv=>L.foldl (jM X.D X.S) v }
def nJ(c:zB):Bool:=(vD X.D c).any λi=>decide (i∈X.O)
def Y9(h:HdV)(own:Bool):StX :=
 if gD X.D h≠0 then X
 else if own then qF ⟨X.q,kA X.D h,hdI h :: X.O,bF X.S h.cm,X.V⟩ [hdI h]
 else qF ⟨X.q,kA X.D h,X.O,X.S,X.V⟩ [hdI h]
def nH(b:ByteArray):StX :=
 if sQ X.S X.q b≠0 then X
 else if nJ X (qM b.data.toList)then qF ⟨X.q,X.D,X.O,bF (lV X.S X.q b) (qM b.data.toList),X.V⟩ (vD X.D (qM b.data.toList))
 else qF ⟨X.q,X.D,X.O,lV X.S X.q b,X.V⟩ (vD X.D (qM b.data.toList))
def gK(c:zB):Int:=if c∈X.S.map (·.c)then(if nJ X c then 1 else 0)else 7
def qU(c:zB):StX:=if gK X c=0 then⟨X.q,X.D,X.O,vU X.S c,X.V⟩ else X
def m5(t:ByteArray):Int:=if hasT X.V t=true then 15 else if 8<=X.V.length then 6 else 0
def subX(v:VwX):StX:=qF ⟨X.q,X.D,X.O,X.S,X.V ++ [v]⟩ (jC X.D v.t)
def XG(t:ByteArray):Int:=if hasT X.V t=true then 0 else 15
def wO(t:ByteArray):StX:=⟨X.q,X.D,X.O,X.S,X.V.filter λv=>decide (v.t≠t)⟩
def dD(v:VwX):List zB:=(jC X.D v.t).filter λi=>decide (i∉v.I)
end
structure rO where
 k:Int
 t:ByteArray
 b:ByteArray
 c:zB
def b9(e:rO):Int :=
 if e.k<1\/7<e.k then 10
 else if(e.k<5/\e.t.size≠0)\/(e.k≠4/\e.c≠id0)\/(4<=e.k/\e.k<=6/\e.b.size≠0)then 4
 else if 5<=e.k/\j8 e.t≠0 then 9
 else if e.k<=3/\e.b.size=0 then 4
 else if(e.k<=2/\256<e.b.size)\/(e.k=3/\512<e.b.size)\/(e.k=7/\1048512<e.b.size)then 3 else 0
def fW(X:StX)(e:rO)(E:Int)(Y:StX):Prop :=
 if b9 e≠0 then E=b9 e/\Y=X
 else if e.k<=2 then
  if nO e.b.data.toList≠0 then E=nO e.b.data.toList/\Y=X
  else E=gD X.D (yc e.b.data.toList)/\Y=Y9 X (yc e.b.data.toList) (decide (e.k=1))
 else if e.k=3 then E=sQ X.S X.q e.b/\Y=nH X e.b
 else if e.k=4 then E=gK X e.c/\Y=qU X e.c
 else if e.k=6 then E=XG X e.t/\Y=wO X e.t
 else if m5 X e.t≠0 then E=m5 X e.t/\Y=X
 else if e.k=5 then E=0/\Y=subX X ⟨e.t,[],VSt.new (yH e.t)⟩
 else ∃I l er E0,j5 idP e.b.data.toList 0=⟨I,l,er⟩/\pX (yH e.t) I l er E0 /\
  if E0≠0 then E=E0/\Y=X
  else if(I.any λi=>decide (i∉jC X.D e.t))=true then E=7/\Y=X
  else E=0/\Y=subX X ⟨e.t,I,stL (yH e.t) l⟩
end
section
theorem XI(f:zB->Int):qN (dR f) :=
 (qN.pair totI vQ).of (λa:zB=>(f a,a)) (λx y h=>by simp only[Prod.mk.injEq]at h;exact h.2) (λ_ _=>rfl)
theorem JO(f:zB->Int)(a b:zB):bG (f a) a (f b) b=decide (dR f a b<0):=by
 unfold bG dR orC fX;by_cases e:f a=f b
 ·rw[if_pos e,if_pos (by rw[if_neg oM,if_neg oM])]
 ·rw[if_neg e,if_neg (by(repeat' split) <;> omega)];by_cases h1:f a<f b
  ·rw[if_pos h1];simp[h1]
  ·rw[if_neg h1,if_pos oM];simp[h1]
section
variable {D:List HdX} {x:HdX} {i:zB} {h:HdV}
theorem t7(hn:(qT D).Nodup)(hx:x∈D):kZ D x.id=some x.h:=by
 unfold kZ qT at *;induction D with
 | nil=>cases hx
 | cons y D ih =>
  rw[map_cons,nodup_cons]at hn;rw[find?_cons];rcases mem_cons.1 hx with e | hx
  ·subst e;rw[decide_eq_true rfl];rfl
  ·rw[decide_eq_false (λe:y.id=x.id=>hn.1 (by rw[e];exact mem_map_of_mem (f:=(·.id)) hx))];exact ih hn.2 hx
theorem rB(e:kZ D i=some h):∃x∈D,x.id=i/\x.h=h:=by
 unfold kZ at e;obtain⟨x,hx,rfl⟩:=Option.map_eq_some_iff.1 e;exact⟨x,mem_of_find?_eq_some hx,by simpa using find?_some hx,rfl⟩
theorem aX:kZ D i=none↔i∉qT D:=by
 unfold kZ qT;rw[Option.map_eq_none_iff,find?_eq_none];simp only[mem_map,not_exists,not_and,decide_eq_true_eq]
theorem X6(hn:(qT D).Nodup)(hx:x∈D):htX D x.id=x.h.ht:=by unfold htX;rw[t7 hn hx]
theorem r8(D:List HdX)(x:HdX):(VB D x).Perm (x :: D):=by
 unfold VB;refine perm_middle.trans ?_;rw[takeWhile_append_dropWhile]
theorem m0{z:HdX}:z∈VB D x↔z=x\/z∈D:=by rw[(r8 D x).mem_iff,mem_cons]
theorem J1:(qT (VB D x)).Perm (x.id :: qT D):=(r8 D x).map _
def VK(D:List HdX):Prop:=Ris (λa b:HdX=>orC (fX a.h.ht b.h.ht) (yE a.id b.id)) D
theorem qu(hn:(qT D).Nodup)(hr:VK D):Ris (dR (htX D)) (qT D):=by
 unfold VK Ris qT at *;rw[pairwise_map];refine hr.imp_of_mem fun {a b} ha hb hab=>?_;unfold dR;rw[X6 hn ha,X6 hn hb];exact hab
theorem cmpHI_trans{a b d:HdX}(h1:orC (fX a.h.ht b.h.ht) (yE a.id b.id)<0)(h2:orC (fX b.h.ht d.h.ht) (yE b.id d.id)<0):orC (fX a.h.ht d.h.ht) (yE a.id d.id)<0 :=
 (qN.pair totI vQ).trans (a.h.ht,a.id) (b.h.ht,b.id) (d.h.ht,d.id) h1 h2
theorem rI(a:Int)(x:zB)(b:Int)(y:zB):bG a x b y=decide (orC (fX a b) (yE x y)<0):=by
 unfold bG orC fX;by_cases e:a=b
 ·rw[if_pos e,if_pos (by rw[if_neg oM,if_neg oM])]
 ·rw[if_neg e,if_neg (by(repeat' split) <;> omega)];by_cases h1:a<b
  ·rw[if_pos h1];simp[h1]
  ·rw[if_neg h1,if_pos oM];simp[h1]
theorem insX_ris(hr:VK D)(hx:x.id∉qT D):VK (VB D x):=by
 unfold VK Ris VB at *;induction D with
 | nil=>simp
 | cons y D ih =>
  have hy:=pairwise_cons.1 hr;have d:y.id≠x.id/\x.id∉qT D:=by
   unfold qT at hx |-;rw[map_cons,mem_cons,not_or]at hx;exact⟨λe=>hx.1 e.symm,hx.2⟩
  rw[takeWhile_cons,dropWhile_cons];by_cases h1:orC (fX y.h.ht x.h.ht) (yE y.id x.id)<0
  ·rw[if_pos (by rw[rI];exact decide_eq_true h1),if_pos (by rw[rI];exact decide_eq_true h1)];rw[cons_append,pairwise_cons];refine⟨λz hz=>?_,ih hy.2 d.2⟩;have:z∈VB D x:=hz;rcases m0.1 this with e | hz
   ·rw[e];exact h1
   ·exact hy.1 z hz
  ·rw[if_neg (by rw[rI];simpa using h1),if_neg (by rw[rI];simpa using h1)];have h2:orC (fX x.h.ht y.h.ht) (yE x.id y.id)<0:=(qN.pair totI vQ).flip (a:=(y.h.ht,y.id)) (b:=(x.h.ht,x.id)) h1 (λe=>d.1 (congrArg Prod.snd e));refine pairwise_cons.2 ⟨λz hz=>?_,hr⟩;rcases mem_cons.1 hz with e | hz
   ·rw[e];exact h2
   ·exact cmpHI_trans h2 (hy.1 z hz)
theorem lK{i:zB}:i∈jC D t↔∃x∈D,x.h.tp=t/\x.id=i:=by
 unfold jC;simp only[mem_map,mem_filter,decide_eq_true_eq,and_assoc]
theorem JE{c:zB}{i:zB}:i∈vD D c↔∃x∈D,x.h.cm=c/\x.id=i:=by
 unfold vD;simp only[mem_map,mem_filter,decide_eq_true_eq,and_assoc]
theorem eO(t:ByteArray):(jC D t).length<=D.length:=by unfold jC;rw[length_map];exact length_filter_le _ _
theorem JF(c:zB):(vD D c).length<=D.length:=by unfold vD;rw[length_map];exact length_filter_le _ _
end
section
variable {S:List Pay} {c:zB}
theorem jU{p:Pay}(e:jN S c=some p):p∈S/\p.c=c:=⟨mem_of_find?_eq_some e,by simpa using find?_some e⟩
theorem wH:jN S c=none↔c∉S.map (·.c):=by
 unfold jN;rw[find?_eq_none];simp only[mem_map,not_exists,not_and,decide_eq_true_eq]
theorem Q4{p:Pay}(hn:(S.map (·.c)).Nodup)(hp:p∈S):jN S p.c=some p:=by
 unfold jN;induction S with
 | nil=>cases hp
 | cons y S ih =>
  rw[map_cons,nodup_cons]at hn;rw[find?_cons];rcases mem_cons.1 hp with e | hp
  ·subst e;rw[decide_eq_true rfl]
  ·rw[decide_eq_false (λe:y.c=p.c=>hn.1 (by rw[e];exact mem_map_of_mem (f:=(·.c)) hp))];exact ih hn.2 hp
theorem zt(S:List Pay)(c:zB):(bF S c).map (·.c)=S.map (·.c):=by
 unfold bF;rw[map_map];apply map_congr_left;intro p _;show(if _ then _ else _:Pay).c=_;split <;> rfl
theorem mM(S:List Pay)(c:zB):xK (bF S c)=xK S:=by
 unfold xK bF;rw[map_map];congr 1;apply map_congr_left;intro p _;show(if _ then _ else _:Pay).body.size=_;split <;> rfl
theorem pinX_pay(S:List Pay)(c d:zB):(jN (bF S c) d).map (·.body)=(jN S d).map (·.body):=by
 unfold jN bF;rw[find?_map,Option.map_map];have e:((λp:Pay=>decide (p.c=d)) ∘ λp=>if p.c=c then { p with pin:=true } else p)=λp=>decide (p.c=d):=by
  funext p;show decide ((if _ then _ else _:Pay).c=d)=_;split <;> rfl
 rw[e];cases S.find? _ with
 | none=>rfl
 | some p=>show some (if _ then _ else _:Pay).body=_;split <;> rfl
theorem r9(S:List Pay):qY S<=xK S:=by
 unfold qY xK;induction S with
 | nil=>simp
 | cons p S ih =>
  rw[filter_cons];split
  ·simp only[map_cons,sum_cons];omega
  ·simp only[map_cons,sum_cons];omega
theorem drop_bytes(S:List Pay)(c:zB):xK (vU S c)<=xK S:=by
 unfold vU xK;induction S with
 | nil=>simp
 | cons p S ih =>
  rw[filter_cons];split
  ·simp only[map_cons,sum_cons];omega
  ·simp only[map_cons,sum_cons];omega
theorem JH(S:List Pay)(p:Pay):xK (S ++ [p])=xK S+p.body.size:=by unfold xK;simp
end
end
theorem X7{α:Type}(f:α->List UInt8)(k:Nat)(L:List α)(h:∀x∈L,k<=(f x).length):L.length*k<=(L.flatMap f).length:=by
 induction L with
 | nil=>simp
 | cons a L ih =>
  rw[flatMap_cons,length_append,length_cons,Nat.add_mul];have h1:=h a sI;have h2:=ih λx hx=>h x (by simp[hx]);omega
theorem loadM_back{l:List UInt8}(h:BQ l 0):putMB (xW l).rows (qE l).rows=l/\GoodM l/\¬JQ (xW l).rows:=by
 rcases h with⟨h1,h2⟩ | ⟨_,_,h2⟩ | ⟨h1,h2,⟨h3,_⟩ | ⟨_,h4⟩⟩
 ·exact absurd h2.symm h1
 ·exact absurd h2 (by decide)
 ·refine⟨?_,h3,h2⟩;have h4:=h3.1;rw[h1]at h4;have h5:=kt h4;obtain⟨h6,h7⟩:=vR nM (show(j5 idP (xW l).l (xW l).e).e=0 from h1);obtain⟨_,h8⟩:=vR mLaw (show(j5 mP l 0).e=0 from h6);have f:jc idP (qE l).rows++(qE l).l=(xW l).l:=h7;have d:jc mP (xW l).rows++(xW l).l=l:=h8;rw[h5,append_nil]at f;rw[<-f]at d;exact d
 ·exact absurd h4 (by decide)
theorem qd(k:Int)(l:List UInt8)(hk:1<=k/\k<=5):(stL k l).kind=k:=by
 have h5:k=1\/k=2\/k=3\/k=4\/k=5:=oM;rcases h5 with rfl | rfl | rfl | rfl | rfl <;> rfl
theorem stL_len{k:Int}{l:List UInt8}(hk:1<=k/\k<=5)(h0:ErrK k l 0)(hl:l.length<=3000):(stL k l).len<=100:=by
 have h5:k=1\/k=2\/k=3\/k=4\/k=5:=oM;rcases h5 with rfl | rfl | rfl | rfl | rfl
 ·exact zL
 ·have d:=load_put (l:=l) (Eq.symm h0);have n1:=X7 rowB 33 (k6 l).rows λx _=>(by rw[rowB_len];omega);have n3:(ZX (k6 l).rows++ZX (jW l).rows).length=l.length:=congrArg List.length d;unfold ZX at n3;simp only[length_append,xA]at n3;show(k6 l).rows.length<=100;omega
 ·have d:=load_put_l (l:=l) (Eq.symm h0);have n1:=X7 VX 32 ((yS l).rows.map wR) λx hx=>by
   unfold VX;simp only[length_append,xA,x.2.id.h];omega
  have n3:(jb ((yS l).rows.map wR)).length=l.length:=congrArg List.length d;unfold jb at n3;simp only[length_append,xA,length_map]at n3 n1;show((yS l).rows.map wR).length<=100;rw[length_map];omega
 ·obtain⟨d,_,_⟩:=loadM_back h0;have n1:=X7 vY 33 (xW l).rows λx _=>(by rw[VW];omega);have n3:(putMB (xW l).rows (qE l).rows).length=l.length:=congrArg List.length d;unfold putMB idsB at n3;simp only[length_append,xA]at n3;show(xW l).rows.length<=100;omega
 ·have hg:=BE (l:=l) (Eq.symm h0);have d:=goodS_put hg;obtain⟨_,_,g1,g2,g3,g4⟩:=hg;have f:sortN (yQ l).rows=(yQ l).rows:=VS totM g2;have n1:=X7 s4 33 (yQ l).rows λx _=>(by rw[KH];omega);have n3:(putSB (yQ l).rows (xE l).rows).length=l.length:=congrArg List.length d;unfold putSB idsB at n3;rw[f]at n3;simp only[length_append,xA]at n3;show(yQ l).rows.length<=100;omega
section
structure VOk(D:List HdX)(v:VwX):Prop where
 k0:yH v.t≠0
 kind:yH v.t=v.s.kind
 nd:v.I.Nodup
 mem:∀i∈v.I,i∈jC D v.t
 len:v.s.len<=100+v.I.length
def FOk(D:List HdX)(S:List Pay)(v:VwX):Prop:=∀x∈D,x.h.tp=v.t->qI D S x.id≠none->x.id∈v.I
structure vP(n:Nat)(X:StX):Prop where
 q0:0<=X.q
 q1:X.q<=4096
 nd:(qT X.D).Nodup
 ris:VK X.D
 ok:∀x∈X.D,hdE x.h=0/\x.id=hdI x.h
 len:X.D.length<=n
 ns:(X.S.map (·.c)).Nodup
 body:∀p∈X.S,p.c=qM p.body.data.toList/\1<=p.body.size/\p.body.size<=512
 bytes:(xK X.S:Int)<=X.q
 nv:(X.V.map (·.t)).Nodup
 lv:X.V.length<=8
 vw:∀v∈X.V,VOk X.D v
 fold:∀v∈X.V,FOk X.D X.S v
 own:∀i∈X.O,i∈qT X.D
section
variable {D:List HdX} {S:List Pay} {v:VwX} {i j:zB}
theorem iV(D:List HdX)(S:List Pay)(v:VwX)(i:zB):(jM D S v i).t=v.t:=by
 unfold jM t9;(repeat' split) <;> rfl
def fitI(D:List HdX)(S:List Pay)(t:ByteArray)(i:zB):Prop:=∃h,kZ D i=some h/\qI D S i≠none/\t=h.tp
theorem BB:j∈(jM D S v i).I↔j∈v.I\/(j=i/\fitI D S v.t i):=by
 unfold jM fitI;cases h1:kZ D i with
 | none=>simp
 | some h =>
  cases h2:qI D S i with
  | none=>simp
  | some b =>
   simp only[];by_cases ht:v.t=h.tp
   ·rw[if_pos ht];unfold t9;by_cases hi:i∈v.I
    ·rw[if_pos hi];constructor
     ·exact .inl
     ·rintro(h | ⟨rfl,_⟩)
      ·exact h
      ·exact hi
    ·rw[if_neg hi];show j∈i :: v.I↔_;rw[mem_cons];constructor
     ·rintro(e | e)
      ·exact .inr ⟨e,h,rfl,sI,ht⟩
      ·exact .inl e
     ·rintro(e | ⟨e,_⟩)
      ·exact .inr e
      ·exact .inl e
   ·rw[if_neg ht];constructor
    ·exact .inl
    ·rintro(e | ⟨_,h',e,_,e2⟩)
     ·exact e
     ·injection e with e;subst e;exact absurd e2 ht
theorem foldI_ok(h:VOk D v)(i:zB)(S:List Pay):VOk D (jM D S v i):=by
 have d:∀j∈(jM D S v i).I,j∈jC D (jM D S v i).t:=by
  intro j hj;rw[iV];rcases BB.1 hj with e | ⟨rfl,h',e,_,e2⟩
  ·exact h.mem j e
  ·obtain⟨x,hx,h1,h2⟩:=rB e;exact lK.2 ⟨x,hx,by rw[h2,e2],h1⟩
 refine⟨by rw[iV];exact h.k0,?_,?_,d,?_⟩
 ·rw[iV,h.kind];unfold jM t9;(repeat' split) <;> first | rfl | exact(foldS_kind _ _ _).symm
 ·unfold jM t9;split
  ·split
   ·split
    ·exact h.nd
    ·rename_i hi;exact nodup_cons.2 ⟨hi,h.nd⟩
   ·exact h.nd
  ·exact h.nd
 ·unfold jM t9;split
  ·split
   ·split
    ·exact h.len
    ·rename_i z b _ _ _ _
     have h1:=foldS_len v.t ⟨i,z.ht,b⟩ v.s;have h2:=h.len;show(mA v.t ⟨i,z.ht,b⟩ v.s).len<=100+(v.I.length+1);omega
   ·exact h.len
  ·exact h.len
variable {L:List zB}
theorem yg(D:List HdX)(S:List Pay):∀(L:List zB) (v:VwX),(L.foldl (jM D S) v).t=v.t
 | [],_=>rfl
 | i :: L,v=>by rw[foldl_cons,yg D S L,iV]
theorem J7(S:List Pay):∀(L:List zB) {v:VwX},VOk D v->VOk D (L.foldl (jM D S) v)
 | [],_,h=>h
 | i :: L,v,h=>J7 S L (foldI_ok h i S)
theorem B6:∀ {L:List zB} {v:VwX},j∈(L.foldl (jM D S) v).I↔j∈v.I\/(j∈L/\fitI D S v.t j)
 | [],v=>by simp
 | i :: L,v=>by
  rw[foldl_cons,B6,BB,iV,mem_cons];constructor
  ·rintro((h | ⟨rfl,h⟩) | ⟨h,h2⟩)
   ·exact .inl h
   ·exact .inr ⟨.inl rfl,h⟩
   ·exact .inr ⟨.inr h,h2⟩
  ·rintro(h | ⟨rfl | h,h2⟩)
   ·exact .inl (.inl h)
   ·exact .inl (.inr ⟨rfl,h2⟩)
   ·exact .inr ⟨h,h2⟩
theorem B8(X:StX)(L:List zB):(qF X L).V.map (·.t)=X.V.map (·.t):=by
 unfold qF;rw[map_map];exact map_congr_left λv _=>yg _ _ _ _
theorem VOk.grow{D':List HdX}(h:VOk D v)(hD:∀x∈D,x∈D'):VOk D' v :=
 ⟨h.k0,h.kind,h.nd,λi hi=>by
  obtain⟨x,hx,h1,h2⟩:=lK.1 (h.mem i hi);exact lK.2 ⟨x,hD x hx,h1,h2⟩,h.len⟩
end
theorem pO{X:StX}{L:List zB}(q0:0<=X.q)(q1:X.q<=4096)(nd:(qT X.D).Nodup)(ris:VK X.D)(ok:∀x∈X.D,hdE x.h=0/\x.id=hdI x.h)(len:X.D.length<=n)(ns:(X.S.map (·.c)).Nodup)
  (body:∀p∈X.S,p.c=qM p.body.data.toList/\1<=p.body.size/\p.body.size<=512)(bytes:(xK X.S:Int)<=X.q)(nv:(X.V.map (·.t)).Nodup)(lv:X.V.length<=8)(vw:∀v∈X.V,VOk X.D v)
  (hf:∀v∈X.V,∀x∈X.D,x.h.tp=v.t->qI X.D X.S x.id≠none->x.id∈v.I\/x.id∈L)(own:∀i∈X.O,i∈qT X.D):vP n (qF X L):=by
 refine⟨q0,q1,nd,ris,ok,len,ns,body,bytes,by rw[B8];exact nv,by unfold qF;simpa using lv,λv hv=>?_,λv hv x hx ht hp=>?_,own⟩
 ·obtain⟨u,hu,rfl⟩:=mem_map.1 hv;exact J7 _ _ (vw u hu)
 ·obtain⟨u,hu,rfl⟩:=mem_map.1 hv;rw[yg]at ht;refine B6.2 ?_;rcases hf u hu x hx ht hp with h | h
  ·exact .inl h
  ·exact .inr ⟨h,x.h,t7 nd hx,hp,ht.symm⟩
theorem KB(D:List HdX)(S:List Pay)(c i:zB):qI D (bF S c) i=qI D S i:=by
 unfold qI;cases kZ D i with
 | none=>rfl
 | some h =>
  have e:=pinX_pay S c h.cm;simp only[];cases h1:jN (bF S c) h.cm with
  | none =>
   rw[h1]at e;cases h2:jN S h.cm with
   | none=>rfl
   | some p=>rw[h2]at e;cases e
  | some p =>
   rw[h1]at e;cases h2:jN S h.cm with
   | none=>rw[h2]at e;cases e
   | some p' =>
    rw[h2]at e;have e:p.body=p'.body:=by simpa using e
    simp only[e]
theorem fB{D:List HdX}{h:HdV}{x:HdX}:x∈kA D h↔x∈D\/(gD D h=0/\hdI h∉qT D/\x=⟨hdI h,h⟩):=by
 unfold kA;split
 ·rename_i hc
  rw[m0];constructor
  ·rintro(e | e)
   ·exact .inr ⟨hc.1,hc.2,e⟩
   ·exact .inl e
  ·rintro(e | ⟨_,_,e⟩)
   ·exact .inr e
   ·exact .inl e
 ·rename_i hc
  exact⟨.inl,λe=>e.elim id λe=>absurd ⟨e.1,e.2.1⟩ hc⟩
theorem verX_ok{D:List HdX}{h:HdV}(e:gD D h=0):hdE h=0/\(∀p∈h.ps,p∈qT D)/\topX D h.ps=h.ht:=by
 unfold gD at e;split at e
 ·contradiction
 rename_i h1
 split at e
 ·cases e
 rename_i h2
 split at e
 ·cases e
 rename_i h3
 refine⟨Classical.not_not.1 h1,λp hp=>?_,Classical.not_not.1 h3⟩;have h2:sF D h.ps = []:=Classical.not_not.1 h2;unfold sF at h2;rw[filter_eq_nil_iff]at h2;simpa using h2 p hp
section
variable {n:Nat} {X:StX}
theorem vP.mono(h:vP n X){m:Nat}(hm:n<=m):vP m X:=⟨h.q0,h.q1,h.nd,h.ris,h.ok,Nat.le_trans h.len hm,h.ns,h.body,h.bytes,h.nv,h.lv,h.vw,h.fold,h.own⟩
theorem vP.new(q:Int)(h0:0<=q)(h1:q<=4096):vP 0 ⟨q,[],[],[],[]⟩ :=
 ⟨h0,h1,nodup_nil,Pairwise.nil,sI,lR,sI,sI,by simpa[xK]using h0,sI,sI,sI,sI,sI⟩
theorem rJ(h:vP n X)(hv:gD X.D y=0):(qT (kA X.D y)).Nodup/\VK (kA X.D y)/\(∀x∈kA X.D y,hdE x.h=0/\x.id=hdI x.h)/\(kA X.D y).length<=n+1/\(∀i∈qT X.D,i∈qT (kA X.D y))/\hdI y∈qT (kA X.D y):=by
 by_cases hi:hdI y∈qT X.D
 ·have e:kA X.D y=X.D:=if_neg λh=>h.2 hi;rw[e];exact⟨h.nd,h.ris,h.ok,oH h.len,λ_ h=>h,hi⟩
 ·have e:kA X.D y=VB X.D ⟨hdI y,y⟩:=if_pos ⟨hv,hi⟩;rw[e];refine⟨J1.nodup_iff.2 (nodup_cons.2 ⟨hi,h.nd⟩),insX_ris h.ris hi,λx hx=>?_,?_,λi hm=>J1.mem_iff.2 (mem_cons_of_mem _ hm),J1.mem_iff.2 sI⟩
  ·rcases m0.1 hx with e | hx
   ·subst e;exact⟨(verX_ok hv).1,rfl⟩
   ·exact h.ok x hx
  ·have:=(r8 X.D ⟨hdI y,y⟩).length_eq;have:=h.len;simp at *;omega
theorem hdOf_add(h:vP n X)(hv:gD X.D y=0){i:zB}{z:HdV}(e:kZ X.D i=some z):kZ (kA X.D y) i=some z:=by
 obtain⟨x,hx,rfl,rfl⟩:=rB e;exact t7 (rJ h hv).1 (fB.2 (.inl hx))
theorem paidX_add(h:vP n X)(hv:gD X.D y=0){x:HdX}(hx:x∈X.D)(S:List Pay):qI (kA X.D y) S x.id=qI X.D S x.id:=by
 unfold qI;rw[hdOf_add h hv (t7 h.nd hx),t7 h.nd hx]
theorem headX_ok(h:vP n X)(y:HdV)(own:Bool):vP (n+1) (Y9 X y own):=by
 unfold Y9;split
 ·exact h.mono oM
 rename_i hv
 have hv:gD X.D y=0:=Classical.not_not.1 hv;obtain⟨a1,a2,a3,a4,a5,a6⟩:=rJ h hv;have hf:∀S,(∀i,qI X.D S i=qI X.D X.S i)->∀v∈X.V,∀x∈kA X.D y,x.h.tp=v.t->qI (kA X.D y) S x.id≠none->x.id∈v.I\/x.id∈[hdI y]:=by
  intro S hS v d x hx ht hp;rcases fB.1 hx with hx | ⟨_,_,e⟩
  ·rw[paidX_add h hv hx,hS]at hp;exact .inl (h.fold v d x hx ht hp)
  ·subst e;exact .inr sI
 have hw:∀v∈X.V,VOk (kA X.D y) v:=λv d=>(h.vw v d).grow λx hx=>fB.2 (.inl hx);split
 ·refine pO h.q0 h.q1 a1 a2 a3 a4 (by show((bF X.S y.cm).map _).Nodup;rw[zt];exact h.ns) ?_ (by show(xK (bF X.S y.cm):Int)<=_;rw[mM];exact h.bytes) h.nv h.lv hw (hf _ λi=>KB _ _ _ _) ?_
  ·intro p hp;obtain⟨p',f,rfl⟩:=mem_map.1 hp;have:=h.body p' f;split <;> exact this
  ·intro i hi;rcases mem_cons.1 hi with e | hi
   ·rw[e];exact a6
   ·exact a5 i (h.own i hi)
 ·exact pO h.q0 h.q1 a1 a2 a3 a4 h.ns h.body h.bytes h.nv h.lv hw (hf _ λi=>rfl) λi hi=>a5 i (h.own i hi)
theorem ji{S:List Pay}{p:Pay}{d:zB}(h:d≠p.c):jN (S ++ [p]) d=jN S d:=by
 unfold jN;rw[find?_append];cases find? _ S with
 | some x=>rfl
 | none =>
  rw[Option.none_or,find?_cons,decide_eq_false (λe:p.c=d=>h e.symm)];rfl
theorem putX_ok(h:vP n X)(b:ByteArray)(he:sQ X.S X.q b=0):((lV X.S X.q b).map (·.c)).Nodup/\(∀p∈lV X.S X.q b,p.c=qM p.body.data.toList/\1<=p.body.size/\p.body.size<=512)/\(xK (lV X.S X.q b):Int)<=X.q/\∀d,d≠qM b.data.toList->jN (lV X.S X.q b) d=jN X.S d:=by
 unfold lV;split
 ·rename_i hc
  have hb:¬sB b≠0:=by
   intro hb;unfold sQ at he;rw[if_pos hb]at he;exact hb he
  have hq:¬X.q-xK X.S<b.size:=by
   intro hq;unfold sQ at he;rw[if_neg hb,if_neg hc.2,if_pos hq]at he;cases he
  have g:1<=b.size/\b.size<=512:=by
   unfold sB at hb
   (repeat' split at hb) <;> first | (exfalso;exact hb (by decide)) | omega
  refine⟨?_,?_,?_,λd hd=>ji hd⟩
  ·rw[map_append];refine nodup_append.2 ⟨h.ns,sI,?_⟩;intro a ha c f e;simp at f;subst f;subst e;exact hc.2 ha
  ·intro p hp;rcases mem_append.1 hp with hp | hp
   ·exact h.body p hp
   ·simp at hp;subst hp;exact⟨rfl,g⟩
  ·rw[JH];show((xK X.S+b.size:Nat):Int)<=X.q;omega
 ·exact⟨h.ns,h.body,h.bytes,λ_ _=>rfl⟩
theorem paySX_ok(h:vP n X)(b:ByteArray):vP n (nH X b):=by
 unfold nH;split
 ·exact h
 rename_i he
 have he:sQ X.S X.q b=0:=Classical.not_not.1 he;obtain⟨a1,a2,a3,a4⟩:=putX_ok h b he;have hf:∀S,(∀i,qI X.D S i=qI X.D (lV X.S X.q b) i)->∀v∈X.V,∀x∈X.D,x.h.tp=v.t->qI X.D S x.id≠none->x.id∈v.I\/x.id∈vD X.D (qM b.data.toList):=by
  intro S hS v hv x hx ht hp;rw[hS]at hp;by_cases hc:x.h.cm=qM b.data.toList
  ·exact .inr (JE.2 ⟨x,hx,hc,rfl⟩)
  ·refine .inl (h.fold v hv x hx ht ?_);unfold qI at hp |-;rw[t7 h.nd hx]at hp |-;simp only[a4 _ hc]at hp |-;exact hp
 split
 ·refine pO h.q0 h.q1 h.nd h.ris h.ok h.len (by show((bF _ _).map _).Nodup;rw[zt];exact a1) ?_ (by show(xK (bF _ _):Int)<=_;rw[mM];exact a3) h.nv h.lv h.vw (hf _ λi=>KB _ _ _ _) h.own;intro p hp;obtain⟨p',d,rfl⟩:=mem_map.1 hp;have:=a2 p' d;split <;> exact this
 ·exact pO h.q0 h.q1 h.nd h.ris h.ok h.len a1 a2 a3 h.nv h.lv h.vw (hf _ λi=>rfl) h.own
theorem paidX_drop{D:List HdX}{S:List Pay}(hn:(S.map (·.c)).Nodup){c i:zB}(h:qI D (vU S c) i≠none):qI D S i≠none:=by
 unfold qI at h |-;cases e:kZ D i with
 | none=>rw[e]at h;exact h
 | some y =>
  rw[e]at h;simp only[]at h |-;cases e2:jN (vU S c) y.cm with
  | none=>rw[e2]at h;exact absurd rfl h
  | some p =>
   rw[e2]at h;obtain⟨h1,h2⟩:=jU e2;have h3:=Q4 hn (mem_filter.1 h1).1;rw[h2]at h3;rw[h3];exact h
theorem evictX_ok(h:vP n X)(c:zB):vP n (qU X c):=by
 unfold qU;split
 ·refine⟨h.q0,h.q1,h.nd,h.ris,h.ok,h.len,h.ns.sublist (Sublist.map _ filter_sublist),λp hp=>h.body p (mem_filter.1 hp).1,?_,h.nv,h.lv,h.vw,λv hv x hx ht hp=>h.fold v hv x hx ht (paidX_drop h.ns hp),h.own⟩;have:=drop_bytes X.S c;have:=h.bytes;show(xK (vU X.S c):Int)<=X.q;omega
 ·exact h
theorem subX_ok(h:vP n X)(v:VwX)(hv:VOk X.D v)(hm:m5 X v.t=0):vP n (subX X v):=by
 have h1:v.t∉X.V.map (·.t):=λhc=>(by unfold m5 at hm;rw[if_pos (m9.2 hc)]at hm;cases hm);have h2:¬8<=X.V.length:=λhc=>(by unfold m5 at hm;rw[if_neg (λh=>h1 (m9.1 h)),if_pos hc]at hm;cases hm);refine pO h.q0 h.q1 h.nd h.ris h.ok h.len h.ns h.body h.bytes ?_ (by show(X.V ++ [v]).length<=8;simp;omega) ?_ ?_ h.own
 ·show((X.V ++ [v]).map _).Nodup;rw[map_append];refine nodup_append.2 ⟨h.nv,sI,?_⟩;intro a ha c d e;simp at d;subst d;subst e;exact h1 ha
 ·intro u hu;rcases mem_append.1 hu with hu | hu
  ·exact h.vw u hu
  ·simp at hu;subst hu;exact hv
 ·intro u hu x hx ht hp;rcases mem_append.1 hu with hu | hu
  ·exact .inl (h.fold u hu x hx ht hp)
  ·simp at hu;subst hu;exact .inr (lK.2 ⟨x,hx,ht,rfl⟩)
theorem unsubX_ok(h:vP n X)(t:ByteArray):vP n (wO X t) :=
 ⟨h.q0,h.q1,h.nd,h.ris,h.ok,h.len,h.ns,h.body,h.bytes,h.nv.sublist (Sublist.map _ filter_sublist),Nat.le_trans (length_filter_le _ _) h.lv,λv hv=>h.vw v (mem_filter.1 hv).1,λv hv=>h.fold v (mem_filter.1 hv).1,h.own⟩
end
theorem VSt.new_kind{k:Int}(hk:1<=k/\k<=5):(VSt.new k).kind=k:=by
 have h5:k=1\/k=2\/k=3\/k=4\/k=5:=oM;rcases h5 with rfl | rfl | rfl | rfl | rfl <;> rfl
theorem VSt.new_len(k:Int):(VSt.new k).len=0:=by unfold VSt.new;(repeat' split) <;> rfl
theorem aB{X Y:StX}{e:rO}{E:Int}(h:vP n X)(a:fW X e E Y)(hb:e.b.size<=3000):vP (n+1) Y:=by
 have h':=h.mono (oM:n<=n+1);unfold fW at a;split at a
 ·rw[a.2];exact h'
 rename_i he
 split at a
 ·split at a
  ·rw[a.2];exact h'
  ·rw[a.2];exact headX_ok h _ _
 rename_i hk2
 split at a
 ·rw[a.2];exact paySX_ok h' _
 rename_i hk3
 split at a
 ·rw[a.2];exact evictX_ok h' _
 rename_i hk4
 split at a
 ·rw[a.2];exact unsubX_ok h' _
 split at a
 ·rw[a.2];exact h'
 rename_i hm
 have hm:m5 X e.t=0:=Classical.not_not.1 hm;have hc:yH e.t≠0:=by
  intro hc;have h9:j8 e.t≠0:=by unfold j8;rw[if_pos hc];decide
  have:b9 e≠0:=by
   unfold b9;split
   ·decide
   ·split
    ·decide
    ·rw[if_pos ⟨oM,h9⟩];decide
  exact absurd (Classical.not_not.1 he) this
 have g:1<=yH e.t/\yH e.t<=5:=oH (fG e.t);split at a
 ·rw[a.2];exact(subX_ok h ⟨e.t,[],VSt.new (yH e.t)⟩ ⟨hc,(VSt.new_kind g).symm,nodup_nil,sI,by rw[VSt.new_len];omega⟩ hm).mono oM
 obtain⟨I,l,er,E0,hr,hE,a⟩:=a;split at a
 ·rw[a.2];exact h'
 rename_i j
 split at a
 ·rw[a.2];exact h'
 rename_i hI
 rw[a.2];have j:E0=0:=Classical.not_not.1 j;subst j;unfold pX at hE;split at hE
 ·rename_i h0;exact absurd hE.symm h0
 rename_i her
 split at hE
 ·cases hE
 rename_i d
 have d:Ris yE I:=(X3 _).1 (by simpa using d);have f:l.length<=3000:=by
  have h4:=jV nM (show(j5 idP e.b.data.toList 0).e=0 by rw[hr];exact Classical.not_not.1 her);rw[hr]at h4;have h5:I.length+l.length<=e.b.data.toList.length:=h4;have h6:e.b.data.toList.length=e.b.size:=rfl;omega
 refine(subX_ok h ⟨e.t,I,stL (yH e.t) l⟩ ⟨hc,(qd _ _ g).symm,d.nodup vQ,λi hi=>?_,?_⟩ hm).mono oM
 ·refine Classical.byContradiction λhn=>hI ?_;exact any_eq_true.2 ⟨i,hi,decide_eq_true hn⟩
 ·have:=stL_len g hE f;show(stL (yH e.t) l).len<=100+I.length;omega
end
theorem unsubX_no{X:StX}(h:t∉X.V.map (·.t)):wO X t=X:=by
 unfold wO;have e:(X.V.filter λv=>decide (v.t≠t))=X.V:=filter_eq_self.2 λv hv=>decide_eq_true λe=>h (e ▸ mem_map_of_mem hv);rw[e]
def awT:ByteArray:=⟨#[99,97]⟩
def awH(c:zB):HdV:=⟨[],1,awT,0,1,5,c⟩
theorem rset_nil(w:World):Calls prog 164 #[.slice none 0 0] w λe w'=>e=.returned (.slice none 0 0)/\Below w.heap.size w w':=by
 go_enter func164,ntmps164
 (go_wp2_with fail);refine wp_loop_rounds 1 ?_;rw[rounds_succ];(go_wp2_with fail);go_ret;exact⟨rfl,Below.refl _ _⟩
theorem qv(w:World):Calls prog 106 #[.slice none 0 0] w λe w'=>e=.returned (.bool true)/\Below w.heap.size w w':=by
 have c1:=rset_nil w;have c2:=λw1=>VV w1 none none 0 0 0 0 [] [] SlR.nil_ SlR.nil_ oM oM;go_enter func106,ntmps106
 (go_wp2_with fail);refine c1.mono ?_;rintro e w1 ⟨rfl,f⟩;(go_wp2_with fail);refine(c2 w1).mono ?_;rintro e w2 ⟨rfl,d⟩;(go_wp2_with fail);go_ret;exact⟨rfl,yK f d⟩
theorem rop_check2(n:Nat)(w:World)(hn:n=2):Calls prog 54 #[.agg (zQ ⟨1,n,⟨#[]⟩,⟨#[]⟩,id0,.slice none 0 0⟩)] w λe w'=>e=.returned (.int .i64 0)/\Below w.heap.size w w':=by
 subst hn;have hB:Below w.heap.size w (w.alloc (.cells (zQ ⟨1,2,⟨#[]⟩,⟨#[]⟩,id0,.slice none 0 0⟩) 73)):=bA;have hr:zA (w.alloc (.cells (zQ ⟨1,2,⟨#[]⟩,⟨#[]⟩,id0,.slice none 0 0⟩) 73)) w.heap.size 0 37=some (zQ ⟨1,2,⟨#[]⟩,⟨#[]⟩,id0,.slice none 0 0⟩):=by simp[go_sem]
 have x0:=zC hr (j:=0) oM;have x1:=zC hr (j:=1) oM;have x2:=zC hr (j:=2) oM;have x3:=zC hr (j:=3) oM;have x5:=zC hr (j:=36) oM;have x4:=yF hr (j:=4) (m:=32) oM;simp only[kN,fQ,gU,gT,bT,tL,Nat.zero_add]at x0 x1 x2 x3 x4 x5;have c1:=rop_has 1 (w.alloc (.cells (zQ ⟨1,2,⟨#[]⟩,⟨#[]⟩,id0,.slice none 0 0⟩) 73)) oM;have i1:=XS (cJ 1) 78 (w.alloc (.cells (zQ ⟨1,2,⟨#[]⟩,⟨#[]⟩,id0,.slice none 0 0⟩) 73)) (by decide);have i2:=XS (cJ 1) 75 (w.alloc (.cells (zQ ⟨1,2,⟨#[]⟩,⟨#[]⟩,id0,.slice none 0 0⟩) 73)) (by decide);have i3:=XS (cJ 1) 86 (w.alloc (.cells (zQ ⟨1,2,⟨#[]⟩,⟨#[]⟩,id0,.slice none 0 0⟩) 73)) (by decide);have i4:=XS (cJ 1) 82 (w.alloc (.cells (zQ ⟨1,2,⟨#[]⟩,⟨#[]⟩,id0,.slice none 0 0⟩) 73)) (by decide);have i5:=XS (cJ 1) 83 (w.alloc (.cells (zQ ⟨1,2,⟨#[]⟩,⟨#[]⟩,id0,.slice none 0 0⟩) 73)) (by decide);rw[show inB (cJ 1) 78=true by decide +kernel]at i1;rw[show inB (cJ 1) 75=false by decide +kernel]at i2;rw[show inB (cJ 1) 86=false by decide +kernel]at i3;rw[show inB (cJ 1) 82=false by decide +kernel]at i4;rw[show inB (cJ 1) 83=false by decide +kernel]at i5;rw[show cJ 1=⟨#[78]⟩ from rfl]at c1 i1 i2 i3 i4 i5;clear hr;go_enter func54,ntmps54
 go_upto_region 1 with fail
 obtain⟨ga,d⟩:=eX w.heap.size
 have r:=dH d;rw[d]at x0 x1 x2 x3 x4 x5 hB |-;obtain⟨W,hW⟩:=eR (w.alloc (.cells (zQ ⟨1,2,⟨#[]⟩,⟨#[]⟩,id0,.slice none 0 0⟩) 73))
 rw[<-hW]at x0 x1 x2 x3 x4 x5 hB c1 i1 i2 i3 i4 i5 |-;clear hW d;(go_wp2_with fail);refine c1.mono ?_;rintro e w1 ⟨rfl,rfl⟩;(go_wp2_with fail);refine i1.mono ?_;rintro e w1 ⟨rfl,rfl⟩;(go_wp2_with fail);refine i2.mono ?_;rintro e w1 ⟨rfl,rfl⟩;(go_wp2_with fail);refine i3.mono ?_;rintro e w1 ⟨rfl,rfl⟩;(go_wp2_with fail);refine i4.mono ?_;rintro e w1 ⟨rfl,rfl⟩;(go_wp2_with fail);refine i5.mono ?_;rintro e w1 ⟨rfl,rfl⟩;clear c1 i1 i2 i3 i4 i5;have g:=qv W;rw[<-r.out]at hB;(go_wp2_with fail);refine g.mono ?_;rintro e w2 ⟨rfl,f⟩;have k:=yK hB f;clear g x0 x1 x2 x3 x4 x5 f;(go_wp2_with fail);go_ret;exact⟨rfl,k⟩
def VC(n:Nat):List UInt8:=beL 1 1++beL 4 (n+2147483648)
theorem inc2_e:opE (VC 2)=0:=by decide +kernel
theorem inc2_k:(opO (VC 2)).k=1:=by decide +kernel
theorem inc2_n:(opO (VC 2)).n=2:=by decide +kernel
theorem VY(n:Nat)(w:World)(hn:n=2) :
  Calls prog 26 #[.agg (zQ ⟨1,n,⟨#[]⟩,⟨#[]⟩,id0,.slice none 0 0⟩)] w λe w'=>∃s:ByteArray,e=.returned (.tuple #[.string s,.int .i64 0])/\s.data.toList=VC n/\Below w.heap.size w w':=by
 have hB:Below w.heap.size w (w.alloc (.cells (zQ ⟨1,n,⟨#[]⟩,⟨#[]⟩,id0,.slice none 0 0⟩) 73)):=bA;have hr:zA (w.alloc (.cells (zQ ⟨1,n,⟨#[]⟩,⟨#[]⟩,id0,.slice none 0 0⟩) 73)) w.heap.size 0 37=some (zQ ⟨1,n,⟨#[]⟩,⟨#[]⟩,id0,.slice none 0 0⟩):=by simp[go_sem]
 have g:=rop_check2 n (w.alloc (.cells (zQ ⟨1,n,⟨#[]⟩,⟨#[]⟩,id0,.slice none 0 0⟩) 73)) hn;replace hn:n<1000:=oM;change Calls prog _ #[.agg (zQ ⟨1,n,⟨#[]⟩,⟨#[]⟩,id0,.slice none 0 0⟩)] _ _ at g;go_enter func26,ntmps26
 go_upto_region 1 with fail
 obtain⟨ga,k⟩:=eX w.heap.size
 have D:=dH k;rw[k]at hr hB |-;obtain⟨W,hW⟩:=eR (w.alloc (.cells (zQ ⟨1,n,⟨#[]⟩,⟨#[]⟩,id0,.slice none 0 0⟩) 73))
 rw[<-hW]at hr hB g |-;clear hW k;(go_wp2_with fail);refine g.mono ?_;rintro e w1 ⟨rfl,r⟩;have d:zA w1 ga 0 37=some (zQ ⟨1,n,⟨#[]⟩,⟨#[]⟩,id0,.slice none 0 0⟩):=(zH (r.block ga (zE hr)) _ _).trans hr;have B:Below ga w w1:=hB.trans (r.mono (by have:=hB.size;have:=D.out;omega));have x0:=zC d (j:=0) oM;rw[kN,Nat.zero_add]at x0;clear hr hB g r;(go_wp2_with fail);refine(rnumP 1 1 _ (.inl rfl) oM).mono ?_;rintro e w2 ⟨s1,rfl,E,y,m⟩;have f:zA w2 ga 0 37=some (zQ ⟨1,n,⟨#[]⟩,⟨#[]⟩,id0,.slice none 0 0⟩):=(zH (m.block ga (zE d)) _ _).trans d;have G:Below ga w w2:=B.trans (m.mono (oH (zE d)));clear d B m x0;have x0:=zC f (j:=0) oM;have x1:=zC f (j:=1) oM;rw[kN,Nat.zero_add]at x0;rw[fQ,Nat.zero_add]at x1;have I:=dH y;have T:=dH E;clear y;have ch:=rop_has 1 w2 oM;rw[show cJ 1=⟨#[78]⟩ from rfl]at ch;(go_wp2_with fail);refine ch.mono ?_;rintro e w3 ⟨rfl,rfl⟩;have R:(((⟨#[78]⟩:ByteArray)[0]'(by decide)).toNat:Int)=78:=rfl;have cn:=rnumP (n+2147483648) 4 w2 (.inr rfl) oM;rw[show((n+2147483648:Nat):Int)=(n:Int)+2147483648 from by omega]at cn;have J:((n:Int)+2147483648+9223372036854775808) % 18446744073709551616-9223372036854775808=(n:Int)+2147483648:=oM;have O:(((⟨#[78]⟩:ByteArray).size:Nat):Int)=1:=rfl;(go_wp2_with fail);refine wp_loop_rounds 2 ?_;rw[rounds_succ];(go_wp2_with fail);refine cn.mono ?_;rintro e w4 ⟨s2,rfl,N,t,A⟩;have F:Below ga w w4:=G.trans (A.mono (oH (zE f)));have L:(s1++s2).size<=9223372036854775807:=by rw[ByteArray.size_append];omega
 have M:¬9223372036854775807<s1.size+s2.size:=oM;have H:=dH t;clear A f x0 x1 t cn;(go_wp2_with fail);rw[rounds_succ];(go_wp2_with fail);go_ret2;refine⟨s1++s2,rfl,?_,by rw[D.out];exact F⟩;rw[ByteArray.data_append,Array.toList_append,I.out,H.out];rfl
end Go.Proofs.YtdjiaickicgdlaaGreatDoor
