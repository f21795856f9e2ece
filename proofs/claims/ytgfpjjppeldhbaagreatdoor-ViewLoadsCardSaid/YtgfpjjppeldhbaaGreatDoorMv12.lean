/- Part 12 of the texts that lead to this claim: the walks of the functions and the plain law, in order. -/
import Derived.Test.YtgfpjjppeldhbaaGreatDoorMv11
import Derived.Laws.Bits64b
namespace Go.Proofs.YtgfpjjppeldhbaaGreatDoor
open Go.RowKit
set_option maxRecDepth 100000
set_option maxHeartbeats 8000000
def tU:ByteArray:=⟨#[63,99,115,108,109,114]⟩
theorem cU(w:World) :
  Calls Tryz.prog 71 #[] w λe w'=>e=.returned (.string tU)/\w=w':=by
 go_enter Tryz.func71,Tryz.ntmps71
 (go_wp2_with fail);go_ret;exact⟨rfl,rfl⟩
theorem V6{k:Nat}(h1:1<=k)(h2:k<6):∃h:k<tU.size,((tU[k]'h).toNat:Int)=bM k:=by
 have:k=1\/k=2\/k=3\/k=4\/k=5:=oM;rcases this with rfl | rfl | rfl | rfl | rfl <;> exact⟨by decide,by decide⟩
theorem rB(c:Int):kO c=true↔(97<=c/\c<=122)\/(48<=c/\c<=57)\/c=45:=by
 unfold kO;simp;omega
theorem JD(s:ByteArray)(w:World)(hs:s.size<=9223372036854775807)(h:¬(2<=s.size/\s.size<=12)) :
  Calls Tryz.prog 29 #[.string s] w λe w'=>e=.returned (.int .i64 (yC s))/\Below w.heap.size w w':=by
 have H:Hid (yC s=0):=by show yC s=0;unfold yC;rw[pA s h];rfl
 by_cases h1:2<=s.size
 ·have h4:12<s.size:=oM;clear h;go_enter Tryz.func29,Tryz.ntmps29
  go_wp2_with fail
  all_goals
   go_ret;exact⟨yA H.out.symm,Below.refl _ _⟩
 ·clear h;go_enter Tryz.func29,Tryz.ntmps29
  go_wp2_with fail
  all_goals
   go_ret;exact⟨yA H.out.symm,Below.refl _ _⟩
theorem KZ(s:ByteArray)(w:World)(h:2<=s.size)(h1:s.size<=12)(h2:bt s (s.size-1)=45) :
  Calls Tryz.prog 29 #[.string s] w λe w'=>e=.returned (.int .i64 (yC s))/\Below w.heap.size w w':=by
 have h3:(((s[s.size-1]'oM).toNat:Int)==45)=true:=by
  rw[beq_iff_eq];rw[mR oM];exact h2
 have H:Hid (yC s=0):=by show yC s=0;unfold yC;rw[rU s h2];rfl
 clear h2;go_enter Tryz.func29,Tryz.ntmps29
 (go_wp2_with fail);go_ret;exact⟨yA H.out.symm,Below.refl _ _⟩
theorem KY(s:ByteArray)(w:World)(h:2<=s.size)(h1:s.size<=12)(h2:bt s (s.size-1)≠45) :
  Calls Tryz.prog 29 #[.string s] w λe w'=>e=.returned (.int .i64 (yC s))/\Below w.heap.size w w':=by
 have h3:(((s[s.size-1]'oM).toNat:Int)==45)=false:=by
  rw[beq_eq_false_iff_ne];intro g;rw[mR oM]at g;exact h2 g
 have d:=rT s h h1 h2;have H2:=dH d;clear h2 d;have h0:(0:Int)<s.size:=oM;have hg:((s[0]'oM).toNat:Int)=bt s 0:=mR oM;go_enter Tryz.func29,Tryz.ntmps29
 go_wp2_with fail
 go_loop [3] (λiv=>∃i:Nat,1<=i/\i<=s.size/\iv=.int .i64 i/\Hid (tM s i=tM s 1)) (λiv=>s.size-(intOf iv).toNat)
 case atStart=>exact⟨1,oM,oM,rfl,rfl⟩
 case round =>
  obtain⟨i,I,G,rfl,hc⟩:=hrel;by_cases hp:i<s.size
  ·have m:((s[i]'hp).toNat:Int)=bt s i:=mR hp;cases hb:kO (bt s i)with
   | true =>
    have t:=(rB _).1 hb;rw[<-m]at t;have Hb:=dH hb;clear hb m;go_wp2_with fail
    all_goals
     go_round
     case rel=>exact⟨i+1,oM,oM,by go_num,(Y7 s _ Hb.out).trans hc.out⟩
     case measure=>exact sZ
   | false =>
    have t:¬((97<=bt s i/\bt s i<=122)\/(48<=bt s i/\bt s i<=57)\/bt s i=45):=λg=>(by rw[(rB _).2 g]at hb;cases hb);rw[<-m]at t;have J:(((s[i]'hp).toNat:Int) != 45)=true:=by rw[bne_iff_ne];omega
    have Hb:=dH hb;clear hb m;go_wp2_with fail
    all_goals
     go_ret;exact⟨yA (by unfold yC;rw[H2.out,<-hc.out,J0 s _ oM Hb.out];rfl),Below.refl _ _⟩
  ·have A:yC s=cV (bt s 0):=by unfold yC;rw[H2.out,<-hc.out,Y8 s _ oM];rfl
   have H:=dH A;clear A;(go_wp2_with fail);go_loopw [5] (λkv wr=>∃k:Nat,1<=k/\k<=6/\kv=.int .i64 k/\Below w.heap.size w wr/\Hid (∀j:Int,1<=j->j<k->bM j≠bt s 0)) (λkv _=>(6-intOf kv).toNat)
   case atStart=>exact⟨1,oM,oM,rfl,Below.refl _ _,λj h1 h2=>oM⟩
   case round =>
    obtain⟨k,E,F,rfl,r,hj⟩:=hrel;by_cases hk:k<6
    ·obtain⟨y,f⟩:=V6 E hk;have D:(k:Int)<tU.size:=oM;by_cases hl:bM k=bt s 0
     ·have B:(((tU[k]'y).toNat:Int)==bt s 0)=true:=by rw[beq_iff_eq,f];exact hl
      have Hl:=dH hl;clear hl f;go_wp2_with fail
      go_quiet ((go_at_call 71;exact tS (cU _)))
      (go_wp2_with fail);go_ret;exact⟨yA (by rw[H.out,YW oM oM Hl.out]),d5 r _⟩
     ·have B:(((tU[k]'y).toNat:Int)==bt s 0)=false:=by rw[beq_eq_false_iff_ne,f];exact hl
      have Hl:=dH hl;clear hl f;go_wp2_with fail
      go_quiet ((go_at_call 71;exact tS (cU _)))
      (go_wp2_with fail);go_roundw
      case rel =>
       refine⟨k+1,oM,oM,by go_num,d5 r _,λj h1 h2=>?_⟩;by_cases e:j=k
       ·subst e;exact Hl.out
       ·exact hj.out j h1 oM
      case measure=>exact sZ
    ·(go_wp2_with fail);go_ret;exact⟨yA (by rw[H.out,aB (λj h1 h2=>hj.out j h1 oM)]),r⟩
theorem v8(s:ByteArray)(w:World)(hs:s.size<=9223372036854775807) :
  Calls Tryz.prog 29 #[.string s] w λe w'=>e=.returned (.int .i64 (yC s))/\Below w.heap.size w w':=by
 by_cases h:2<=s.size/\s.size<=12
 ·by_cases h2:bt s (s.size-1)=45
  ·exact KZ s w h.1 h.2 h2
  ·exact KY s w h.1 h.2 h2
 ·exact JD s w hs h
section
open Go.RowKit
end
theorem rvdoes(m:yW)(o:OpV)(A:Option Addr)(c:Nat)(w:World)(g:Nat)(t:ByteArray)(I:List zE)(x:RV)(h:qV w g t I x)(h1:1<=o.k)(h7:o.k<=7)(j:o.key.size<=16)(f:o.val.size<=16)(d:o.refs.length<=8)(s:-2147483648<=o.n)(y:o.n<2147483648)(hA:zY w A o.refs.length o.refs)(B:g∉blk A)(r:mV x)(hl:x.len<=10000) :
  Calls Tryz.prog 73 #[.pointer (some ⟨g,0,none⟩),.agg (zN m),.agg (opC o A c)] w λe w'=>e=.returned (.tuple #[])/\qV w' g t I (wR m o x)/\z6 [g] w w':=by
 have hc:o.k=1\/o.k=2\/o.k=3\/o.k=4\/o.k=5\/o.k=6\/o.k=7:=oM;rcases hc with e | e | e | e | e | e | e
 ·exact rvdoes_1 m o A c w g t I x h e j f d s y hA B r hl
 ·exact rvdoes_2 m o A c w g t I x h e j f d s y hA B r hl
 ·exact rvdoes_3 m o A c w g t I x h e j f d s y hA B r hl
 ·exact rvdoes_4 m o A c w g t I x h e j f d s y hA B r hl
 ·exact rvdoes_5 m o A c w g t I x h e j f d s y hA B r hl
 ·exact rvdoes_6 m o A c w g t I x h e j f d s y hA B r hl
 ·exact rvdoes_7 m o A c w g t I x h e j f d s y hA B r hl
theorem KW(m:yW)(w:World)(g:Nat)(t:ByteArray)(I:List zE)(x:RV)(h:qV w g t I x)(hm:m.id∈I)(hI:I.length<=1000) :
  Calls Tryz.prog 30 #[.pointer (some ⟨g,0,none⟩),.agg (zN m)] w λe w'=>e=.returned (.bool false)/\Below w.heap.size w w':=by
 obtain⟨si,sa,sg,sl,sm,so,ss,sd,h⟩:=h;have hB:Below w.heap.size w (w.alloc (.cells (zN m) 41)):=bA;have h1:=h.below hB;have hr:z7 (w.alloc (.cells (zN m) 41)) w.heap.size 0 32=some (idC m.id):=by simp[go_sem]
 have j:I.length=si.n:=by simpa using h.ids.1.len
 go_enter Tryz.func30,Tryz.ntmps30
 go_upto_region 1 with fail
 obtain⟨ga,d⟩:=eX w.heap.size
 rw[d]at hr hB |-;obtain⟨W,hW⟩:=eR (w.alloc (.cells (zN m) 41))
 rw[<-hW]at h1 hr hB |-;have hc:W.cell? ⟨g,1,none⟩=some (.slice si.A si.n si.c):=h1.cell 1 rfl;have c1:=YI W.drew si.A si.n si.c I m.id (SlR.below h1.ids.1.rd (yZ W)) oM;rw[decide_eq_true hm]at c1;clear hW h h1;rw[<-d]at hB;clear d;refine lX W ?_;intro f hS;have b1:=zJ hc;have b2:=zU hr;refine lZ ?_;refine lC (c1) ?_;clear hS;intro w' hS;refine lZ ?_;refine zC ?_;intro hS;clear b1 b2 f hc hr;(go_wp2_with fail);go_ret;exact⟨rfl,yE hB hS⟩
theorem KX(m:yW)(w:World)(g:Nat)(t:ByteArray)(I:List zE)(x:RV)(h:qV w g t I x)(hm:m.id∉I)(f1:Ris zI I)(hI:I.length<=1000)(hs:m.body.size<=9223372036854775807)(ht:t.size<=9223372036854775807)(f2:mV x)(hl:x.len<=10000) :
  Calls Tryz.prog 30 #[.pointer (some ⟨g,0,none⟩),.agg (zN m)] w λe w'=>e=.returned (.bool true)/\qV w' g t (xS zI I m.id) (fW t m x)/\z6 [g] w w':=by
 obtain⟨si,sa,sg,sl,sm,so,ss,sd,h⟩:=h;have hB:Below w.heap.size w (w.alloc (.cells (zN m) 41)):=bA;have h1:=h.below hB;have d9:=h.lt;have a0:z7 (w.alloc (.cells (zN m) 41)) w.heap.size 0 34=some (zN m):=by simp[go_sem]
 have d8:I.length=si.n:=by simpa using h.ids.1.len
 go_enter Tryz.func30,Tryz.ntmps30
 go_upto_region 1 with fail
 obtain⟨ga,c5⟩:=eX w.heap.size
 have d3:=dH c5;rw[c5]at a0 hB d9 |-;obtain⟨W,hW⟩:=eR (w.alloc (.cells (zN m) 41))
 rw[<-hW]at h1 a0 hB |-;have hr:z7 W ga 0 32=some (idC m.id):=by have:=zX a0 (j:=0) (m:=32) oM;rwa [qZ]at this
 have hc:W.cell? ⟨g,1,none⟩=some (.slice si.A si.n si.c):=h1.cell 1 rfl;have c1:=YI W.drew si.A si.n si.c I m.id (SlR.below h1.ids.1.rd (yZ W)) oM;rw[decide_eq_false hm]at c1;have g1:=dH d8;clear hW h c5 d8;refine lX W ?_;intro a1 hS;have b1:=zJ hc;have b2:=zU hr;refine lZ ?_;refine lC (c1) ?_;clear hS;intro w' hS;refine lZ ?_;refine zC ?_;intro hS;clear b1 b2 a1 hc hr c1;have b6:Below W.heap.size W w':=hS;obtain⟨W1,rfl⟩:∃W1,W1=w':=⟨w',rfl⟩
 have h2:=h1.below b6;have F:z7 W1 ga 0 34=some (zN m):=(z9 (b6.block ga (zD a0)) _ _).trans a0;have e6:Below ga w W1:=hB.trans (b6.mono (by have:=hB.size;have:=d3.out;omega));clear h1 a0 hB hS b6;go_upto_region 3 with fail
 have d6:z7 W1 ga 0 32=some (idC m.id):=by have:=zX F (j:=0) (m:=32) oM;rwa [qZ]at this
 have e1:W1.cell? ⟨g,1,none⟩=some (.slice si.A si.n si.c):=h2.cell 1 rfl;have c2:=zh W1.drew si.A si.n si.c I m.id (h2.ids.1.below (yZ W1)) (oH g1.out) f1;have a6:g<W1.heap.size:=h2.lt;have a5:W1.heap[g]?=some (.cells (rvC t si x.tal sa sg sl sm so ss sd) 69 (0,0)):=h2.hp;have c4:ga<W1.heap.size:=zD F;refine kF [] W1 ?_;intro a1 hS;have b1:=y9 d6 (S:=[]) sI;have b2:=zP e1 (S:=[]) sI;refine lZ ?_;refine lH ?_;intro K hK;refine c2.mono ?_;rintro e w3 ⟨A',cap',rfl,e5,a4,e3⟩;have O:Below W1.heap.size W1 w3:=vC (yZ W1) e3;refine⟨_,rfl,(z6.of_below O),hK _ _ ?_⟩;clear hK K;have b3:w3.heap[g]?=some (.cells (rvC t si x.tal sa sg sl sm so ss sd) 69 (0,0)):=(O.block g a6).trans a5;have f6:w3.cell? ⟨g,1,none⟩=some (.slice si.A si.n si.c):=by rw[cell_of_row w3 g 1 _ _ _ b3];rfl
 have f5:w3.frozen? ⟨g,1,none⟩=false:=by simp[World.frozen?,b3]
 refine lZ ?_;refine vI ?_ ?_;(focus(simp only[yO];done));intro K hK;go_simp;refine hK _ _ ?_;clear hK K;have a7:=zA b3 1 (.slice A' (xS zI I m.id).length cap');have c3:=z6.setCell w3 ⟨g,1,none⟩ (.slice A' (xS zI I m.id).length cap');have Z:g∉blk A':=λhx=>by
  rcases a4 g hx with h3 | h3
  ·exact h2.ids.2 h3
  ·have h4:W1.drew.heap.size=W1.heap.size:=rfl;omega
 have d:z6 [g] W1 (w3.setCell ⟨g,1,none⟩ (.slice A' (xS zI I m.id).length cap')):=z6.trans ((z6.of_below O).mono (S':=[g]) sI) c3 iL;have e4:ZC (w3.setCell ⟨g,1,none⟩ (.slice A' (xS zI I m.id).length cap')) A' (xS zI I m.id).length cap' (xS zI I m.id):=e5.kept c3 (λx hx hm=>Z (by simp at hm;rw[<-hm];exact hx));have c8:qV (w3.setCell ⟨g,1,none⟩ (.slice A' (xS zI I m.id).length cap')) g t (xS zI I m.id) x :=
  ⟨⟨A',(xS zI I m.id).length,cap'⟩,sa,sg,sl,sm,so,ss,sd,a7,⟨e4,Z⟩,h2.adds.keep d,h2.gone.keep d,h2.last.keep d,h2.mL.keep d,h2.mO.keep d,h2.sL.keep d,h2.sG.keep d⟩
 have D:z7 (w3.setCell ⟨g,1,none⟩ (.slice A' (xS zI I m.id).length cap')) ga 0 34=some (zN m):=(d.row c4 sO _ _).trans F;have b9:z6 [g] w (w3.setCell ⟨g,1,none⟩ (.slice A' (xS zI I m.id).length cap')):=z6.trans ((z6.of_below (e6.mono (by rw[d3.out];exact lR))).mono (S':=[g]) sI) d iL;obtain⟨w2,a3⟩:=eX (w3.setCell ⟨g,1,none⟩ (.slice A' (xS zI I m.id).length cap'))
 obtain⟨J,hJ⟩:=eX (xS zI I m.id)
 have HJ:=dH hJ;rw[hJ]at a3 |-;rw[hJ,a3]at c8;rw[hJ,a3]at D b9;rw[a3];clear e4 Z c3 a7 f5 f6 b3 O e3 e5 d a3 b1 b2 a1 hS a5 a6 c2 e1 d6 h2 F e6 hJ;have c7:w2.cell? ⟨ga,33,none⟩=some (.string m.body):=by have:=z8 D (j:=33) oM;rwa [pQ,Nat.zero_add]at this
 have d2:=rop_of m.body w2 hs;obtain⟨l,hl⟩:=eX m.body.data.toList
 have Hl:=dH hl;have L:wT t m↔opE l=0/\kL (opO l).k=yC t:=by unfold wT;rw[hl]
 have e0:fW t m x=if wT t m then wR m (opO l) x else x:=by unfold fW;rw[zn];unfold oOf;rw[hl]
 have e7:=dH e0;rw[hl]at d2;obtain⟨E,hE⟩:=eX (opE l)
 clear hl e0;(go_wp2_with fail);refine d2.mono ?_;rintro en w4 ⟨V,rfl,H,M,b4⟩;rw[hE]at H M |-;have b5:=c8.below b4;have Y:z7 w4 ga 0 34=some (zN m):=(z9 (b4.block ga (zD D)) _ _).trans D;have b8:z6 [g] w w4:=z6.trans b9 (z6.of_below b4) sI;have g2:=b9.size;clear d2 b4 c8 D c7 b9;by_cases h0:E=0
 ·subst h0;obtain⟨A,c,rfl,G⟩:=H rfl;have y:=lM l hE;have c0:=opO_lo l hE;have f4:g∉blk A:=λhx=>(by have:=(G.at_base hx).1;have:=d9;have:=d3.out;omega);have s:wT t m↔kL (opO l).k=yC t:=by rw[L];exact⟨λh=>h.2,λh=>⟨hE,h⟩⟩
  obtain⟨o,ho⟩:=eX (opO l)
  have U:=e7.out;rw[ho]at y G s c0 U |-;have a9:=dH U;clear U;have f3:o.k<=9223372036854775807:=oH y.2.2.1;have f8:=dH y;have f9:=dH c0;clear H M L hE ho y c0;have N:Below w4.heap.size w4 (w4.alloc (.cells (opC o A c) 52)):=bA;have h5:=b5.below N;have B:z7 (w4.alloc (.cells (opC o A c) 52)) ga 0 34=some (zN m):=(z9 (N.block ga (zD Y)) _ _).trans Y;have r:=G.below N;have f:z7 (w4.alloc (.cells (opC o A c) 52)) w4.heap.size 0 37=some (opC o A c):=by simp[go_sem]
  have X:z6 [g] w (w4.alloc (.cells (opC o A c) 52)):=z6.trans b8 (z6.of_below N) sI;clear N b5 Y G b8;unfold opC at h5 B r f X |-;go_upto_region 5 with fail
  obtain⟨go,hgo⟩:=eX w4.heap.size
  obtain⟨W4,a8⟩:=eR (w4.alloc (.cells (zB ⟨o.k,o.n,o.key,o.val,o.ref,.slice A o.refs.length c⟩) 52))
  rw[<-a8]at h5 B r f X |-;rw[hgo]at f |-;clear a8 hgo;have c6:=z8 f (j:=0) oM;rw[qK,Nat.zero_add]at c6;obtain⟨e8,sa',sg',sl',sm',so',ss',sd',d1⟩:=h5;have e2:W4.cell? ⟨g,0,none⟩=some (.string t):=d1.cell 0 rfl;have h5:qV W4 g t J x:=⟨e8,sa',sg',sl',sm',so',ss',sd',d1⟩
  clear d1;have cb:=J9 o.k W4.drew f3;have ck:=v8 t W4.drew ht;obtain⟨B1,d0⟩:=eX (kL o.k)
  obtain⟨K1,c9⟩:=eX (yC t)
  rw[d0,c9]at s;rw[d0]at cb;rw[c9]at ck;have b0:=dH s;clear d0 c9 s;refine lX W4 ?_;intro a1 hS;have b1:=zJ c6;have b2:=zJ e2;refine lZ ?_;refine lH ?_;intro K hK;refine(cb).mono ?_;rintro e w' ⟨rfl,rfl⟩;refine⟨_,rfl,hS,hK _ _ ?_⟩;clear hK K;refine lZ ?_;refine lC (ck) ?_;clear hS;intro w' hS;refine lZ ?_;refine zC ?_;intro hS;have a2:Below W4.heap.size W4 w':=hS;have h6:=h5.below a2;have f0:z7 w' ga 0 34=some (zN m):=(z9 (a2.block ga (zD B)) _ _).trans B;have e9:z7 w' go 0 37=some (zB ⟨o.k,o.n,o.key,o.val,o.ref,.slice A o.refs.length c⟩):=(z9 (a2.block go (zD f)) _ _).trans f;have R:=r.below a2;have b7:z6 [g] w w':=z6.trans X (z6.of_below a2) sI;clear b1 b2 a1 hS cb ck c6 e2 h5 B f r X a2;obtain⟨W5,rfl⟩:∃W5,W5=w':=⟨w',rfl⟩
  cases hbb:(B1==K1)with
  | true =>
   have hf:wT t m:=b0.out.2 (by simpa using hbb);have y:=f8.out;have hd:=rvdoes m o A c W5 g t J x h6 y.2.1 y.2.2.1 y.2.2.2.1 y.2.2.2.2.1 y.2.2.2.2.2.1 f9.out y.2.2.2.2.2.2.2 R.slr f4 f2 hl;unfold opC at hd;have T:wR m o x=fW t m x:=by rw[a9.out,if_pos hf]
   rw[T]at hd;have d5:=dH b7;clear hf hbb y h6 R b7 T;go_upto_region 6 with fail
   (go_wp2_with fail);refine hd.mono ?_;rintro e w6 ⟨rfl,hq,d7⟩;have Hq:=dH hq;have g0:=dH (z6.trans d5.out d7 iL);clear hq hd d7;(go_wp2_with fail);go_ret;exact⟨rfl,HJ.out ▸ Hq.out,g0.out⟩
  | false =>
   have hf:¬wT t m:=λh=>(by have:=b0.out.1 h;rw[beq_eq_false_iff_ne]at hbb;exact hbb this);have T:x=fW t m x:=by rw[a9.out,if_neg hf]
   have d4:=dH T;have Hq:=dH h6;have d5:=dH b7;clear hf h6 b7 T;(go_wp2_with fail);go_ret;exact⟨rfl,by rw[HJ.out,<-d4.out];exact Hq.out,d5.out⟩
 ·have hf:¬wT t m:=λh=>h0 (by rw[<-hE];exact(L.1 h).1);have f7:=M h0;subst f7;have T:x=fW t m x:=by rw[e7.out,if_neg hf]
  have d4:=dH T;clear T;have N:Below w4.heap.size w4 (w4.alloc (.cells (zB yT) 52)):=bA;have h5:=b5.below N;have X:z6 [g] w (w4.alloc (.cells (zB yT) 52)):=z6.trans b8 (z6.of_below N) sI;have g3:(E==0)=false:=by simpa using h0
  clear H M L hE h0 N b5 b8 hf;go_upto_region 5 with fail
  obtain⟨W4,a8⟩:=eR (w4.alloc (.cells (zB yT) 52))
  rw[<-a8]at h5 X |-;clear a8;have Hq:=dH (h5.below (yZ W4));have Hk:=dH (z6.trans X (z6.of_below (yZ W4)) sI);clear h5 X;refine lX W4 ?_;intro a1 hS;refine lZ ?_;refine lH ?_;intro K hK;refine hK _ _ ?_;clear hK K;refine lZ ?_;refine lH ?_;intro K hK;refine hK _ _ ?_;clear hK K;refine lZ ?_;refine zC ?_;intro hS;(go_wp2_with fail);go_ret;exact⟨rfl,by rw[HJ.out,<-d4.out];exact Hq.out,Hk.out⟩
theorem sqput(w:World)(M:List Nat)(g bn bb bg:Nat)(N:List zO)(G:List zE)(h:q7 w M g bn bb bg N G)(hr:Ris zI G)(hN:N.length<=1000000)(hG:G.length<=1000000) :
  Calls Tryz.prog 346 #[.pointer (some ⟨g,0,none⟩)] w λe w'=>e=.returned (.string ⟨(nU N G).toArray⟩)/\Below w.heap.size w w':=by
 have hc:=h.cell0;have i9:=Nat.le_trans (lA N) hN;have f7:∀n∈bB N,n∈N/\qX n=0:=λn hn=>⟨tT.1 hn,h.ok n (tT.1 hn)⟩;have c1:=λw' (h':q7 w' M g bn bb bg N G)=>sqids w' M g bn bb bg N G h' hN;have d3:Hid (nU N G=beL 4 (bB N).length++(bB N).flatMap kK++tW G):=rfl;obtain⟨X,hX⟩:=eX (bB N)
 rw[hX]at i9 f7 c1 d3;have i7:=dH f7;clear hX f7;go_enter Tryz.func346,Tryz.ntmps346
 (go_wp2_with fail);refine(wU w g bn hc).mono ?_;rintro e w' ⟨rfl,rfl⟩;(go_wp2_with fail);refine(c1 w h).mono ?_;rintro e w1 ⟨XA,xc,rfl,g3,a4⟩;have h1:=h.below a4;clear c1;(go_wp2_with fail);refine(xj w1 M g bn bb bg N G h1 hr hG).mono ?_;rintro e w2 ⟨IA,ic,rfl,g4,c4⟩;have i4:SlR w2 XA X.length 32 ((X.map zO.id).map idC):=(g3.below c4).slr;have c8:∀x∈blk XA,x<w2.heap.size:=λx hx=>(by have:=(g3.at_base hx).2;have:=c4.size;omega);have i5:SlR w2 IA G.length 32 (G.map idC):=g4.slr;have e8:∀x∈blk IA,x<w2.heap.size:=λx hx=>(g4.at_base hx).2;have c5:=yE a4 c4;have h2:=h1.below c4;clear hc h1 g3 g4 a4 c4 h;(go_wp2_with fail);refine(ZL w2).mono ?_;rintro e w3 ⟨rfl,d6,e7⟩;have c7:=i4.below e7;have d2:=i5.below e7;obtain⟨gw,e0⟩:=eX w2.heap.size
 have h0:=dH e0;have a3:Below gw w2 w3:=by rw[<-e0];exact e7
 rw[e0]at d6 c8 e8 |-;have j5:=d6.lt;have f0:w.heap.size<=gw:=oH c5.size;clear i4 i5 e7 e0;(go_wp2_with fail);refine(t9 _ _ _ _ _ _ d6 X.length 4 oM oM sI).mono ?_;rintro e w4 ⟨rfl,A2,g7,d7,d9,b6⟩;simp only[List.nil_append]at d7;have c6:=c7.kept d9 (λx hx=>by have:=c8 x hx;simp[blk];omega);have d1:=d2.kept d9 (λx hx=>by have:=e8 x hx;simp[blk];omega);have a2:Below gw w2 w4:=a3.trans (d9.below (by have:=a3.size;have:=h0.out;omega) (by simp[blk]));have g5:∀x∈blk A2,gw<x:=λx hx=>(oH ((d7.own.at_base hx).1));clear d6 c7 d2 a3 d9 b6 j5;(go_wp2_with fail);have i1:∀x∈blk XA,x∉gw :: blk A2:=λx hx hm=>by
  have:=c8 x hx;rcases List.mem_cons.1 hm with e | hm
  ·omega
  ·have:=g5 x hm;omega
 have k0:=dH i1;have i8:=dH g5;have k5:=dH c8;have h3:=dH e8;clear i1 g5 c8 e8;go_loopw [25] (λi wr=>∃k:Nat,k<=X.length/\i=.int .i64 (k:Nat)/\kM w4 (gw+1) gw A2 (beL 4 X.length++(X.take k).flatMap kK) wr) (λi _=>X.length-(intOf i).toNat)
 case atStart=>exact⟨0,zL,rfl,A2,g7,by simpa using d7,z6.refl _ _,λx hx=>.inl hx⟩
 case round =>
  obtain⟨k,hk,rfl,A4,a8,t,I,A⟩:=hrel;have a1:=xU kK 85 (X.take k) (λx hx=>by rw[nA];have:=gQ (i7.out x (List.mem_of_mem_take hx)).2;omega);have b0:(X.take k).length=k:=sO;rw[b0]at a1;have e6:Below gw w2 wr:=a2.trans (I.below (by have:=a2.size;have:=h0.out;omega) (λx hx=>by
   rcases List.mem_cons.1 hx with rfl | hx
   ·omega
   ·have:=i8.out x hx;omega))
  have U:Below w2.heap.size w2 wr:=by rw[h0.out];exact e6
  have f1:=h2.below U;by_cases O:k<X.length
  ·have c9:=c6.kept I k0.out;obtain⟨q,o,rfl,hr⟩:=c9.at_ O;rw[List.getElem_map,List.getElem_map]at hr;have e2:=i7.out X[k] (List.getElem_mem O);have T:(X.take (k+1)).flatMap kK=(X.take k).flatMap kK++kK X[k]:=by rw[List.take_add_one,List.getElem?_eq_getElem O,List.flatMap_append];simp only[Option.toList_some,List.flatMap_cons,List.flatMap_nil,List.append_nil]
   obtain⟨x,hx⟩:=eX (X[k]'O)
   rw[hx]at hr T e2;have g8:=dH T;have j0:=gQ e2.2;have j6:=e2.1;obtain⟨_,j1,k3,k2⟩:=j0;obtain⟨hh,j4⟩:∃hh:Nat,x.h=hh:=⟨x.h.toNat,oM⟩
   clear hx T c9 e2;have a0:(beL 4 X.length++(X.take k).flatMap kK).length<=200000000:=by rw[List.length_append,y6];omega
   obtain⟨e9,D⟩:=eX (beL 4 X.length++(X.take k).flatMap kK)
   have a9:=dH D;rw[D]at t a0;clear D a1 b0;have a4:Below wr.heap.size wr (wr.alloc (.cells (idC x.id) 39)):=bA;have L:=f1.below a4;have J:=t.below a4;have b3:z7 (wr.alloc (.cells (idC x.id) 39)) wr.heap.size 0 32=some (idC x.id):=by simp[go_sem]
   have h9:wr.heap.size∉gw :: blk A4:=by
    simp only[List.mem_cons,not_or];exact⟨oH t.lt,λhx=>oH ((t.own.at_base hx).2)⟩
   have b4:z6 [] wr (wr.alloc (.cells (idC x.id) 39)):=z6.alloc _ _;go_upto_region 8 with fail
   obtain⟨W,hW⟩:=eX (wr.alloc (.cells (idC x.id) 39))
   obtain⟨gx,b9⟩:=eX wr.heap.size
   rw[hW]at L J b3 b4;rw[hW];rw[b9]at b3 h9 |-;have c0:gx<W.heap.size:=zD b3;have i2:=L.cell0;obtain⟨es,k4,h8⟩:=L.nodes;have j3:∀y:Subtype (Kp [] W),(Instr.lookup 188 (.map (some bn)) (.agg (idC x.id)) false).run Tryz.prog y.1=.ok (.agg (zW ⟨x.h,x.ref,x.val⟩)) y.1:=λy=>zx (h8.kept y.2 sI) j6 false;clear hW b9 f1 e6 U a4;refine kF [] W ?_;intro f8 hS;have b1:=zP i2 (S:=[]) sI;have b2:=y9 b3 (S:=[]) sI;refine lZ ?_;refine lH ?_;intro K hK;refine zG (z6.trans (z6.trans (z6.refl [] W) (z6.drew _) sI) (z6.alloc _ _) sI) (λj7=>?_);refine hK _ _ ?_;clear hK K;refine lZ ?_;have r:(stS 193 ⟨W.heap.size,0,none⟩ (.agg (zW ⟨hh,x.ref,x.val⟩))).run Tryz.prog (W.alloc (.cells (zW j8) 193)).drew=.ok () (W.alloc (.cells (zW ⟨hh,x.ref,x.val⟩) 193)).drew:=dX W.drew W.heap.size rfl (zW j8) (m9 _) ⟨hh,x.ref,x.val⟩ 193;refine vI ?_ ?_;(focus(simp only[yO];done));intro K hK;go_simp;refine hK _ _ ?_;clear hK K r;have d8:z6 [] W (W.alloc (.cells (zW ⟨hh,x.ref,x.val⟩) 193)).drew:=z6.trans (z6.alloc _ _) (z6.drew _) sI;have h7:=J.kept d8 sI sI;have b7:z7 (W.alloc (.cells (zW ⟨hh,x.ref,x.val⟩) 193)).drew gx 0 32=some (idC x.id):=(d8.row c0 sI 0 32).trans b3;have B:z7 (W.alloc (.cells (zW ⟨hh,x.ref,x.val⟩) 193)).drew W.heap.size 0 34=some (zW ⟨hh,x.ref,x.val⟩):=by
    show z7 (W.alloc (.cells (zW ⟨hh,x.ref,x.val⟩) 193)) W.heap.size 0 34=_;simp[go_sem]
   have g0:=z6.trans b4 d8 sI;have e1:W.heap.size∉gw :: blk A4:=by
    simp only[List.mem_cons,not_or];exact⟨oH J.lt,λhx=>oH ((J.own.at_base hx).2)⟩
   clear hS j7 f8 b1 b2 j3 h8 i2 L J b3 b4 d8;generalize (W.alloc (.cells (zW ⟨hh,x.ref,x.val⟩) 193)).drew=V at *;obtain⟨gn,c2⟩:=eX W.heap.size
   rw[c2]at B e1 |-;clear c2 c0;have h6:V.cell? ⟨gn,0,none⟩=some (.int .i64 hh):=by have:=z8 B (j:=0) oM;rwa [n0,Nat.zero_add]at this
   have h5:z7 V gn 1 32=some (idC x.ref):=by have:=zX B (j:=1) (m:=32) oM;rwa [fU,Nat.zero_add]at this
   have h4:V.cell? ⟨gn,33,none⟩=some (.string x.val):=by have:=z8 B (j:=33) oM;rwa [iC,Nat.zero_add]at this
   have H:∀(y:Subtype (Kp (gw :: blk A4) V)) c,(convert 37 9 (.slice (some ⟨gx,0,none⟩) 32 c)).run Tryz.prog y.1=.ok (.string ⟨x.id.l.toArray⟩) y.1:=λy c=>vH (y9 b7 h9 y);have Z:∀(y:Subtype (Kp (gw :: blk A4) V)) c,(convert 37 9 (.slice (some ⟨gn,1,none⟩) 32 c)).run Tryz.prog y.1=.ok (.string ⟨x.ref.l.toArray⟩) y.1:=λy c=>vH (y9 h5 e1 y);have r:kM V (gw+1) gw A4 e9 V.drew:=⟨A4,a8,h7.kept (z6.drew V) sI sI,(z6.drew V).mono sI,λx hx=>.inl hx⟩
   have e3:(⟨x.id.l.toArray⟩:ByteArray).size=32:=by show x.id.l.toArray.size=32;simp[x.id.h]
   have e4:(⟨x.id.l.toArray⟩:ByteArray).data.toList=x.id.l:=sI;have e5:x.id.l.length=32:=x.id.h;have f3:(⟨x.ref.l.toArray⟩:ByteArray).size=32:=by show x.ref.l.toArray.size=32;simp[x.ref.h]
   have f4:(⟨x.ref.l.toArray⟩:ByteArray).data.toList=x.ref.l:=sI;have f5:x.ref.l.length=32:=x.ref.h;have E3:=dH e3;have E4:=dH e4;have E5:=dH e5;have F3:=dH f3;have F4:=dH f4;have F5:=dH f5;clear e3 e4 e5 f3 f4 f5;go_upto_region 9 with fail
   refine kX (gw :: blk A4) V ?_;intro f8 hS;have b1:=zP h6 e1;have b2:=zP h4 e1;clear h6 h5 h4 B hr b7;refine lZ ?_;refine lH ?_;intro K hK;obtain⟨Ai,R,s,E,d⟩:=r;refine(dS _ _ _ _ _ _ s ⟨x.id.l.toArray⟩ (by rw[E3.out];omega)).mono ?_;rintro e w' ⟨rfl,f⟩;replace r:=zZ s E d f;have hS:=r.choose_spec.choose_spec.2.1;refine⟨_,rfl,hS,hK _ _ ?_⟩;clear hK K s E d f;refine lZ ?_;refine lH ?_;intro K hK;obtain⟨Ai,R,s,E,d⟩:=r;refine(t9 _ _ _ _ _ _ s hh 4 oM oM (by rw[E4.out,List.length_append,E5.out];omega)).mono ?_;rintro e w' ⟨rfl,f⟩;replace r:=zZ s E d f;have hS:=r.choose_spec.choose_spec.2.1;refine⟨_,rfl,hS,hK _ _ ?_⟩;clear hK K s E d f;refine lZ ?_;refine lH ?_;intro K hK;obtain⟨Ai,R,s,E,d⟩:=r;refine(dS _ _ _ _ _ _ s ⟨x.ref.l.toArray⟩ (by rw[F3.out,E4.out,List.length_append,List.length_append,E5.out,y6];omega)).mono ?_;rintro e w' ⟨rfl,f⟩;replace r:=zZ s E d f;have hS:=r.choose_spec.choose_spec.2.1;refine⟨_,rfl,hS,hK _ _ ?_⟩;clear hK K s E d f;refine lZ ?_;refine lH ?_;intro K hK;obtain⟨Ai,R,s,E,d⟩:=r;refine(t9 _ _ _ _ _ _ s x.val.size 1 oM oM (by rw[E4.out,F4.out,List.length_append,List.length_append,List.length_append,E5.out,y6,F5.out];omega)).mono ?_;rintro e w' ⟨rfl,f⟩;replace r:=zZ s E d f;have hS:=r.choose_spec.choose_spec.2.1;refine⟨_,rfl,hS,hK _ _ ?_⟩;clear hK K s E d f;refine lZ ?_;refine lH ?_;intro K hK;obtain⟨Ai,R,s,E,d⟩:=r;refine(dS _ _ _ _ _ _ s x.val (by rw[E4.out,F4.out,List.length_append,List.length_append,List.length_append,List.length_append,E5.out,y6,y6,F5.out];omega)).mono ?_;rintro e w' ⟨rfl,f⟩;replace r:=zZ s E d f;have hS:=r.choose_spec.choose_spec.2.1;refine⟨_,rfl,hS,hK _ _ ?_⟩;clear hK K s E d f;refine lZ ?_;refine zC ?_;intro hS;have i0:e9++(⟨x.id.l.toArray⟩:ByteArray).data.toList++beL 4 hh++(⟨x.ref.l.toArray⟩:ByteArray).data.toList++beL 1 x.val.size++x.val.data.toList=beL 4 X.length++(X.take (k+1)).flatMap kK:=by
    rw[g8.out,E4.out,F4.out,<-List.append_assoc (beL 4 X.length),a9.out];simp[kK,List.append_assoc,j4]
   rw[i0]at r;have F:=zZ t I A (zZ h7 (g0.mono (S':=gw :: blk A4) sI) iL r);have g9:=dH F;clear r F i0 H Z f8 b1 b2 hS;(go_wp2_with fail);go_roundw
   case rel=>exact⟨k+1,oM,by go_num,g9.out⟩
   case measure=>exact sZ
  ·have b8:X.take k=X:=List.take_of_length_le oM;rw[b8]at t a1;clear b8 b0 f1 U;have d0:=d1.kept I (λx hx hm=>by
    have:=h3.out x hx;rcases List.mem_cons.1 hm with e | hm
    ·omega
    ·have:=i8.out x hm;omega)
   have a5:Below w.heap.size w wr:=c5.trans (e6.mono f0);have j2:(beL 4 X.length++X.flatMap kK).length<=100000000:=by rw[List.length_append,y6];omega
   obtain⟨p0,f6⟩:=eX (beL 4 X.length++X.flatMap kK)
   have j9:=dH f6;rw[f6]at t j2;clear f6 a1;have cw:=t9 _ _ _ _ _ _ t G.length 4 oM oM oM;(go_wp2_with fail);refine cw.mono ?_;rintro e W3 ⟨rfl,AW,g6,d5,f9,b5⟩;have a7:∀x∈blk A4,gw<x:=λx hx=>(oH ((t.own.at_base hx).1));have hid:SlR W3 IA G.length 32 (G.map idC):=d0.kept f9 (λx hx hm=>by
    have:=h3.out x hx;rcases List.mem_cons.1 hm with e | hm
    ·omega
    ·have:=a7 x hm;omega)
   have g2:Below w.heap.size w W3:=a5.trans (f9.below (oH a5.size) (λx hx=>by
    rcases List.mem_cons.1 hx with rfl | hx
    ·omega
    ·have:=a7 x hx;omega))
   have a6:∀x∈blk AW,gw<x:=λx hx=>(oH ((d5.own.at_base hx).1));have g1:∀x∈blk IA,x∉gw :: blk AW:=λx hx hm=>by
    have:=h3.out x hx;rcases List.mem_cons.1 hm with e | hm
    ·omega
    ·have:=a6 x hm;omega
   have c3:∀w',z6 (gw :: blk AW) W3 w'->Below w.heap.size w w':=λw' hk=>g2.trans (hk.below (oH g2.size) (λx hx=>by
    rcases List.mem_cons.1 hx with rfl | hx
    ·omega
    ·have:=a6 x hx;omega))
   have k1:=dH c3;have f2:(p0++beL 4 G.length).length<=200000000:=by rw[List.length_append,y6];omega
   obtain⟨pre,Y⟩:=eX (p0++beL 4 G.length)
   have d4:Hid (beL 4 X.length++X.flatMap kK++beL 4 G.length=pre):=(show _=_ by rw[j9.out,Y])
   rw[Y]at d5 f2;obtain⟨S,hS⟩:=eR G
   obtain⟨Bw,i6⟩:=eR (gw+1)
   rw[<-hS]at hid hG d4 |-;rw[<-i6]at d5;have HS:=dH hS;clear Y g2 c3 hS i6 d0 a5 t f9 b5 a7 a6 I A cw d7 c6 d1 a2 e6 h2;(go_wp2_with fail);go_loopw [60] (λi wr=>∃k:Nat,k<=S.length/\i=.int .i64 (k:Nat)/\kM W3 Bw gw AW (pre++(S.take k).flatMap zE.l) wr) (λi _=>S.length-(intOf i).toNat)
   case atStart=>exact⟨0,zL,rfl,AW,g6,by simpa using d5,z6.refl _ _,λx hx=>.inl hx⟩
   case round =>
    obtain⟨k,hk,rfl,A4,a8,t,I,A⟩:=hrel;by_cases O:k<S.length
    ·have c9:=(show SlR W3 IA S.length 32 (S.map idC)from hid).kept I g1;obtain⟨q,o,rfl,hr⟩:=zY.get c9 O O;have T:(S.take (k+1)).flatMap zE.l=(S.take k).flatMap zE.l++(S[k]).l:=by rw[List.take_add_one,List.getElem?_eq_getElem O,List.flatMap_append];simp only[Option.toList_some,List.flatMap_cons,List.flatMap_nil,List.append_nil]
     have a1:=xU zE.l 32 (S.take k) (λx hx=>by rw[x.h];exact lR);have b0:(S.take k).length=k:=sO;rw[b0]at a1;obtain⟨x,hx⟩:=eX (S[k]'O)
     rw[hx]at hr T;have g8:=dH T;clear hx T c9 b0;have a0:(pre++(S.take k).flatMap zE.l).length<=300000000:=by rw[List.length_append];omega
     obtain⟨e9,D⟩:=eX (pre++(S.take k).flatMap zE.l)
     have a9:=dH D;rw[D]at t a0;clear D a1;have i3:Below wr.heap.size wr (wr.alloc (.cells (idC x) 39)):=bA;have J:=t.below i3;have b4:z6 [] wr (wr.alloc (.cells (idC x) 39)):=z6.alloc _ _;have B:z7 (wr.alloc (.cells (idC x) 39)) wr.heap.size 0 32=some (idC x):=by simp[go_sem]
     have H:∀c,(convert 37 9 (.slice (some ⟨wr.heap.size,0,none⟩) 32 c)).run Tryz.prog (wr.alloc (.cells (idC x) 39))=.ok (.string ⟨x.l.toArray⟩) (wr.alloc (.cells (idC x) 39)):=λc=>vH B;have e3:(⟨x.l.toArray⟩:ByteArray).size=32:=by show x.l.toArray.size=32;simp[x.h]
     have e4:(⟨x.l.toArray⟩:ByteArray).data.toList=x.l:=sI;have cw:=dS _ Bw gw A4 a8 e9 J ⟨x.l.toArray⟩ (by rw[e3];omega);rw[e4]at cw;clear e3 e4 B;(go_wp2_with fail);refine cw.mono ?_;rintro e w6 ⟨rfl,r⟩;have F:=zZ t I A (zZ J (b4.mono (S':=gw :: blk A4) sI) iL r);rw[<-a9.out,List.append_assoc,<-g8.out]at F;have g9:=dH F;clear r F H cw i3 J b4 t I A;(go_wp2_with fail);go_roundw
     case rel=>exact⟨k+1,oM,by go_num,g9.out⟩
     case measure=>exact sZ
    ·have b8:S.take k=S:=List.take_of_length_le oM;rw[b8]at t;clear b8;(go_wp2_with fail);refine(nN _ _ _ _ _ _ t).mono ?_;rintro e w' ⟨rfl,rfl⟩;(go_wp2_with fail);go_ret;exact⟨gL (by rw[d3.out,<-d4.out,HS.out];simp[tW,List.append_assoc]),k1.out _ I⟩
def eG(n:Int):Nat:=(n % 18446744073709551616).toNat
def cM(n:Int):List UInt8:=beL 4 (eG n / 4294967296)++beL 4 (eG n % 4294967296)
theorem zd(n:Int):eG n<18446744073709551616:=by unfold eG;omega
theorem low_and(x:Nat)(hx:x<18446744073709551616):bits .and .u64 (x:Int) 4294967295=((x % 4294967296:Nat):Int):=by
 have h:=bits_and_u64_nat x 4294967295 hx oM;have e:x &&& 4294967295=x % 4294967296:=Nat.and_two_pow_sub_one_eq_mod x 32;rw[e]at h;exact h
theorem xb(n:Int):((eG n:Nat):Int)=n % 18446744073709551616:=by unfold eG;omega
theorem tput(w:World)(g:Nat)(n:Int)(h:xO w g n) :
  Calls Tryz.prog 324 #[.pointer (some ⟨g,0,none⟩)] w λe w'=>e=.returned (.string ⟨(cM n).toArray⟩)/\Below w.heap.size w w':=by
 go_enter Tryz.func324,Tryz.ntmps324
 (go_wp2_with fail);refine(tnone _ g n h).mono ?_;rintro e w1 ⟨rfl,rfl⟩;(go_wp2_with fail);refine(yn _ g n h).mono ?_;rintro e w1 ⟨rfl,rfl⟩;(go_wp2_with fail);refine(ZL _).mono ?_;rintro e w2 ⟨rfl,t,d⟩;(go_wp2_with fail);have ew:IntKind.u64.wrap n=((eG n:Nat):Int):=by rw[xb];rfl
 have e1:wrap64 (((eG n:Nat):Int) / 4294967296)=((eG n / 4294967296:Nat):Int):=by have:=zd n;unfold wrap64;omega
 rw[ew,e1];have m:=zd n;obtain⟨x,hx⟩:=eX (eG n)
 have Hx:Hid (cM n=beL 4 (x / 4294967296)++beL 4 (x % 4294967296)):=(show _=_ by rw[<-hx];rfl)
 rw[hx]at m |-;clear ew e1 hx;refine(t9 _ _ _ _ _ _ t (x / 4294967296) 4 oM oM sI).mono ?_;rintro e w3 ⟨rfl,A3,D,f,r,k⟩;(go_wp2_with fail);have e2:wrap64 (bits BinOp.and IntKind.u64 (x:Int) 4294967295)=((x % 4294967296:Nat):Int):=by rw[low_and x m];unfold wrap64;omega
 rw[e2];clear e2;refine(t9 _ _ _ _ _ _ f (x % 4294967296) 4 oM oM (by simp[y6])).mono ?_;rintro e w4 ⟨rfl,A4,B,s,y,j⟩;(go_wp2_with fail);refine(nN _ _ _ _ _ _ s).mono ?_;rintro e w5 ⟨rfl,rfl⟩;have A:Below w.heap.size w w4:=(d.trans (r.below d.size (by simp[blk]))).trans (y.below (by have:=d.size;have:=r.size;omega) (λx hx=>by
  rcases List.mem_cons.1 hx with rfl | hx
  ·omega
  ·have:=(f.own.at_base hx).1;omega))
 (go_wp2_with fail);go_ret;exact⟨gL (by rw[Hx.out]),A⟩
def lE(x:yH):List UInt8:=x.tag.l++(beL 1 x.val.size++x.val.data.toList)
def lW(L:List yH):List UInt8:=beL 4 L.length++L.flatMap lE
def B9(L G:List yH):List UInt8:=lW L++lW G
theorem rE(x:yH):(lE x).length=33+x.val.size:=by
 have e:x.val.data.toList.length=x.val.size:=Array.length_toList;simp[lE,y6,x.tag.h];omega
theorem sE{L:List yH}(h:∀x∈L,small x):(lW L).length<=49*L.length+4:=by
 have:=xU lE 49 L (λx hx=>by rw[rE];have:=h x hx;unfold small at this;omega);unfold lW;rw[List.length_append,y6];omega
abbrev RowsAt(w:World)(A:Option Addr)(n:Nat)(R:List yH):Prop:=SlR w A n 33 (R.map zH)
theorem blay(w:World)(B gw:Nat)(A:Option Addr)(cap:Nat)(bs:List UInt8)(h:l8 w B gw A cap bs)(SA:Option Addr)(sc:Nat)(L:List yH)(hL:RowsAt w SA L.length L)(a1:∀x∈L,small x)(hd:∀x∈blk SA,x∉gw :: blk A)(hn:L.length<=1000000)(b4:bs.length<=100000000) :
  Calls Tryz.prog 326 #[.pointer (some ⟨gw,0,none⟩),.slice SA L.length sc] w λe w'=>e=.returned (.tuple #[])/\kM w B gw A (bs++lW L) w':=by
 have c1:=t9 w B gw A cap bs h L.length 4 oM oM oM;go_enter Tryz.func326,Tryz.ntmps326
 (go_wp2_with fail);refine c1.mono ?_;rintro e w1 ⟨rfl,I⟩;clear c1;have H:kM w B gw A (bs++beL 4 L.length++(L.take 0).flatMap lE) w1:=by simpa using I
 clear I;(go_wp2_with fail);go_loopw [12] (λi wr=>∃k:Nat,k<=L.length/\i=.int .i64 (k:Nat)/\kM w B gw A (bs++beL 4 L.length++(L.take k).flatMap lE) wr) (λi _=>L.length-(intOf i).toNat)
 case atStart=>exact⟨0,zL,rfl,H⟩
 case round =>
  obtain⟨k,hk,rfl,A4,N,D,T,s⟩:=hrel;have b0:=xU lE 49 (L.take k) (λx hx=>by rw[rE];have:=a1 x (List.mem_of_mem_take hx);unfold small at this;omega);have a6:(L.take k).length=k:=sO;rw[a6]at b0;by_cases O:k<L.length
  ·have a4:=hL.kept T hd;obtain⟨q,o,rfl,hr⟩:=a4.at_ O;rw[List.getElem_map]at hr;have a0:=a1 L[k] (List.getElem_mem O);have R:(L.take (k+1)).flatMap lE=(L.take k).flatMap lE++lE L[k]:=by rw[List.take_add_one,List.getElem?_eq_getElem O,List.flatMap_append];simp only[Option.toList_some,List.flatMap_cons,List.flatMap_nil,List.append_nil]
   obtain⟨x,hx⟩:=eX (L[k]'O)
   rw[hx]at hr a0 R;have b2:=dH R;unfold small at a0;clear hx R a4;have V:(bs++beL 4 L.length++(L.take k).flatMap lE).length<=200000000:=by rw[List.length_append,List.length_append,y6];omega
   obtain⟨a5,E⟩:=eX (bs++beL 4 L.length++(L.take k).flatMap lE)
   have X:=dH E;rw[E]at D V;have e1:x.val.data.toList.length=x.val.size:=Array.length_toList;have e3:(⟨x.tag.l.toArray⟩:ByteArray).size=32:=by show x.tag.l.toArray.size=32;simp[x.tag.h]
   have e4:(⟨x.tag.l.toArray⟩:ByteArray).data.toList=x.tag.l:=sI;have e5:x.tag.l.length=32:=x.tag.h;have E1:=dH e1;have E3:=dH e3;have E4:=dH e4;have E5:=dH e5;clear E e1 e3 e4 e5;go_upto_region 4 with fail
   have U:=D.below (w':=wr.alloc (.cells (zH x) 171)) (bA);have F:z7 (wr.alloc (.cells (zH x) 171)) wr.heap.size 0 33=some (zH x):=by simp[go_sem]
   have a9:z6 [] wr (wr.alloc (.cells (zH x) 171)):=z6.alloc _ _;have a3:wr.heap.size∉gw :: blk A4:=by
    simp only[List.mem_cons,not_or];exact⟨oH D.lt,λhx=>oH ((D.own.at_base hx).2)⟩
   generalize wr.alloc (.cells (zH x) 171)=W at *;have Z:W.cell? ⟨wr.heap.size,32,none⟩=some (.string x.val):=by have:=z8 F (j:=32) oM;rwa [dR,Nat.zero_add]at this
   have Y:z7 W wr.heap.size 0 32=some (idC x.tag):=by have:=zX F (j:=0) (m:=32) oM;rwa [mS]at this
   have J:∀(y:Subtype (Kp (gw :: blk A4) W)) c,(convert 37 9 (.slice (some ⟨wr.heap.size,0,none⟩) 32 c)).run Tryz.prog y.1=.ok (.string ⟨x.tag.l.toArray⟩) y.1:=λy c=>vH (y9 Y a3 y);have g:kM W B gw A4 a5 W.drew:=⟨A4,N,U.kept (z6.drew W) sI sI,(z6.drew W).mono sI,λx hx=>.inl hx⟩
   refine kX (gw :: blk A4) W ?_;intro a7 hS;have b1:=zP Z a3;clear Z Y F hr;refine lZ ?_;refine lH ?_;intro K hK;obtain⟨Ai,M,r,t,d⟩:=g;refine(dS _ _ _ _ _ _ r ⟨x.tag.l.toArray⟩ (by rw[E3.out];omega)).mono ?_;rintro e w' ⟨rfl,f⟩;replace g:=zZ r t d f;have hS:=g.choose_spec.choose_spec.2.1;refine⟨_,rfl,hS,hK _ _ ?_⟩;clear hK K r t d f;refine lZ ?_;refine lH ?_;intro K hK;obtain⟨Ai,M,r,t,d⟩:=g;refine(t9 _ _ _ _ _ _ r x.val.size 1 oM oM (by rw[E4.out,List.length_append,E5.out];omega)).mono ?_;rintro e w' ⟨rfl,f⟩;replace g:=zZ r t d f;have hS:=g.choose_spec.choose_spec.2.1;refine⟨_,rfl,hS,hK _ _ ?_⟩;clear hK K r t d f;refine lZ ?_;refine lH ?_;intro K hK;obtain⟨Ai,M,r,t,d⟩:=g;refine(dS _ _ _ _ _ _ r x.val (by rw[E4.out,List.length_append,List.length_append,E5.out,y6];omega)).mono ?_;rintro e w' ⟨rfl,f⟩;replace g:=zZ r t d f;have hS:=g.choose_spec.choose_spec.2.1;refine⟨_,rfl,hS,hK _ _ ?_⟩;clear hK K r t d f;refine lZ ?_;refine zC ?_;intro hS;have a2:a5++(⟨x.tag.l.toArray⟩:ByteArray).data.toList++beL 1 x.val.size++x.val.data.toList=bs++beL 4 L.length++(L.take (k+1)).flatMap lE:=by
    rw[b2.out,E4.out,<-List.append_assoc,X.out];simp[lE,List.append_assoc]
   rw[a2]at g;have G:=zZ D T s (zZ U (a9.mono (S':=gw :: blk A4) sI) iL g);have b3:=dH G;clear g G a2 J a7 b1 hS;(go_wp2_with fail);go_roundw
   case rel=>exact⟨k+1,oM,by go_num,b3.out⟩
   case measure=>exact sZ
  ·have a8:L.take k=L:=List.take_of_length_le oM;rw[a8]at D;(go_wp2_with fail);go_end0;exact⟨rfl,A4,N,by unfold lW;rw[<-List.append_assoc];exact D,T,s⟩
theorem bput(w:World)(g bl bg:Nat)(L G:List yH)(h:jC w g bl bg L G)(hn:L.length<=1000000)(hg:G.length<=1000000) :
  Calls Tryz.prog 325 #[.pointer (some ⟨g,0,none⟩)] w λe w'=>e=.returned (.string ⟨(B9 L G).toArray⟩)/\Below w.heap.size w w':=by
 have hc:=h.cell0;go_enter Tryz.func325,Tryz.ntmps325
 (go_wp2_with fail);refine(pZ _ _ _ hc).mono ?_;rintro e w' ⟨rfl,rfl⟩;(go_wp2_with fail);refine(ZL _).mono ?_;rintro e w1 ⟨rfl,t,A⟩;have h1:=h.below A;have X:=h1.cell0;clear hc;(go_wp2_with fail);refine(yj _ _ _ h1.live h1.risL hn).mono ?_;rintro e w2 ⟨RA,rc,rfl,f,s⟩;have h2:=h1.below s;have F:=t.below s;have m:=yE A s;have hl:=t.lt;(go_wp2_with fail);refine(blay w2 _ _ _ _ _ F RA rc L f.slr h2.smL (λx hx=>by have:=(f.at_base hx).1;simp[blk];omega) hn sI).mono ?_;rintro e w3 ⟨rfl,A3,Z,j,y,I⟩;have T:=h.lt;have h3:=h2.kept y (by simp[blk];omega) (by simp[blk];omega) (by simp[blk];omega);have D:Below w.heap.size w w3:=m.trans (y.below (oH m.size) (by simp[blk]));have V:=h3.cell1;have J:=sE h.smL;simp only[List.nil_append]at j;clear f t F h1 h2 y A s X;(go_wp2_with fail);refine(yj _ _ _ h3.gone h3.risG hg).mono ?_;rintro e w4 ⟨U,N,rfl,d,r⟩;have h4:=h3.below r;have E:=j.below r;have k:=yE D r;(go_wp2_with fail);refine(blay w4 _ _ _ _ _ E U N G d.slr h4.smG (λx hx=>by
  have h1:=(d.at_base hx).1;simp only[List.mem_cons,not_or];exact⟨oH j.lt,λO=>oH ((j.own.at_base O).2)⟩) hg oM).mono ?_;rintro e w5 ⟨rfl,A5,Y,R,M,H⟩
 have B:Below w.heap.size w w5:=k.trans (M.below (oH k.size) (λx hx=>by
  rcases List.mem_cons.1 hx with rfl | hx
  ·omega
  ·have:=(j.own.at_base hx).1;omega))
 clear d E h4 M V r;(go_wp2_with fail);refine(nN _ _ _ _ _ _ R).mono ?_;rintro e w' ⟨rfl,rfl⟩;(go_wp2_with fail);go_ret;exact⟨rfl,B⟩
section
open Go.RowKit Go.Sort Go.Shelf
theorem yu(wS:World)(g:Nat)(t:ByteArray)(b:Nat)(L:List zE)(sv:Value)(h:xE wS g t b L sv)(hr:Ris zI L)(hn:L.length<=1000000) :
  Calls Tryz.prog 33 #[.pointer (some ⟨g,0,none⟩)] wS λe w'=>∃A cap,e=.returned (.slice A L.length cap)/\Own w' wS.heap.size 39 32 A L.length cap (L.map idC)/\Below wS.heap.size wS w':=by
 have a7:=h.ids.lt;have hc:=h.cell1;obtain⟨w0,f,hR,U,a5⟩:=yS.range (P:=Tryz.prog) (kv:=idV) (ok:=gP) h.ids Tryz.underlying75;go_enter Tryz.func33,Tryz.ntmps33
 (go_wp2_with fail);refine(j7 wS g b hc).mono ?_;rintro e w1 ⟨rfl,rfl⟩;(go_wp2_with fail);clear f hc h;go_loopw [3] (λout wr=>∃S A cap,out=.slice A S.length cap/\jW wr b wS.heap.size idV gP L S/\Own wr w0.heap.size 39 32 A S.length cap (S.map idC)/\Below wS.heap.size wS wr/\w0.heap.size<=wr.heap.size) (λ_ wr=>wr.rangeLeft b wS.heap.size)
 case atStart=>exact⟨[],none,0,rfl,hR,Own.nil _ _ _ _,U,lR⟩
 case round =>
  obtain⟨S,A,cap,rfl,hR,d,hb,a4⟩:=hrel;rcases hR.next (P:=Tryz.prog) 0 with⟨hall,I,f⟩ | ⟨x,w1,hxL,hxS,f,hR1,hk1,hs1,hl1,hen⟩
  focus
   have hp:S.Perm L:=(List.perm_ext_iff_of_nodup I (hr.nodup q6)).2 hall;have V:=hp.length_eq;have a2:=dH hall;have a3:=dH V;clear hall V;have m:=nD wr A S.length cap S L d.slr hp hr (by rw[a3.out];omega) (λe=>(d.cap_le.2 e).2);(go_wp2_with fail);refine m.mono ?_;rintro e w2 ⟨A2,N,rfl,j,J⟩;clear m f;(go_wp2_with fail);go_ret;exact⟨A2,N,rfl,j.mono (oH hb.size),hb.trans (J.mono hb.size)⟩
  have a8:S.length+1<=1000000:=by
   obtain⟨M,Z,hZ,X,_,a0,I⟩:=hR1;have h1:=hZ.length;have h2:(Z.map (·.1)).length=(S ++ [x]).length:=by rw[a0]
   have h3:(M.map (·.1)).length<=L.length:=kY I (λy hy=>(X y).1 hy);simp at h2 h3;omega
  have s:Own w1 w0.heap.size 39 32 A S.length cap (S.map idC):=d.kept hk1 (λy hy=>oS ((d.at_base hy).1));have Y:Below wS.heap.size wS w1:=hb.trans (hk1.below (B:=wS.heap.size) oM sI);have E:Below w1.heap.size w1 ((w1.alloc (.cells (idC x) 39)).alloc (.cells (idC x) 39)):=(bA).alloc sI _;have j:=s.below E;have r:z7 ((w1.alloc (.cells (idC x) 39)).alloc (.cells (idC x) 39)) (w1.heap.size+1) 0 32=some (idC x):=by simp[go_sem]
  change (Instr.next _ _ _).run Tryz.prog wr=.ok (.tuple #[.bool true,.agg (idC x),.bool true]) w1 at f;change (Instr.entry _).run Tryz.prog w1=.ok (.tuple #[.agg (idC x),.bool true]) w1 at hen;have G:=dH hs1;clear hs1;go_wp2_with (at_builtin;refine yM xI rfl j rfl r (xG _) oM oM (by simp;have:=G.out;omega) ?_;intro A' cap' w2 D F O)
  have T:b∉blk A:=λhx=>(oH ((d.at_base hx).1));have R:wS.heap.size∉blk A:=λhx=>(oH ((d.at_base hx).1));have k:=hR1.kept (z6.of_below E) sI sI;have a1:=k.kept F T R;have a6:w2.rangeLeft b wS.heap.size=w1.rangeLeft b wS.heap.size :=
   (xB F T R k.lt.2 k.lt.1).trans (xB (z6.of_below E) sI sI hR1.lt.2 hR1.lt.1)
  have H:w0.heap.size<=w2.heap.size:=by
   have e1:=E.size;have e2:=F.size;have e3:=G.out;omega
  have J:Below wS.heap.size wS w2:=Y.trans ((E.mono (oH G.out)).trans (F.below (B:=wS.heap.size) (by simp;have:=G.out;omega) λy hy=>oH ((d.at_base hy).1)));clear f hen;(go_wp2_with fail);go_roundw
  case rel=>exact⟨S ++ [x],A',cap',sI,a1,by simpa using D,J,H⟩
  case measure=>omega
end
theorem vput_t(w:World)(g:Nat)(t:ByteArray)(b:Nat)(I:List zE)(gs:Nat)(sb:List UInt8)(h0:xE w g t b I (.iface 100 (.pointer (some ⟨gs,0,none⟩))))(hn:I.length<=1000000)(e5:sb.length<=100000000)
  (c:∀w',Below w.heap.size w w'->Calls Tryz.prog 324 #[.pointer (some ⟨gs,0,none⟩)] w' λe c9=>e=.returned (.string ⟨sb.toArray⟩)/\Below w'.heap.size w' c9) :
  Calls Tryz.prog 34 #[.pointer (some ⟨g,0,none⟩)] w λe w'=>e=.returned (.string ⟨(tW (yB zI I)++sb).toArray⟩)/\Below w.heap.size w w':=by
 have h:xE w g t b (yB zI I) (.iface 100 (.pointer (some ⟨gs,0,none⟩))):=⟨h0.blk,yS.congr h0.ids (λx=>(qE q6).symm)⟩
 have hr:Ris zI (yB zI I):=xJ q6 _;have hO:(yB zI I).length<=1000000:=Nat.le_trans (xF I) hn;obtain⟨O,a8⟩:=eX (yB zI I)
 rw[a8]at h hr hO;rw[a8];clear a8 h0 hn;have c0:=h.cell1;go_enter Tryz.func34,Tryz.ntmps34
 (go_wp2_with fail);refine(j7 w g b c0).mono ?_;rintro e w1 ⟨rfl,rfl⟩;(go_wp2_with fail);refine(yu w g t b O _ h hr hO).mono ?_;rintro e w2 ⟨IA,ic,rfl,a9,y⟩;have c5:SlR w2 IA O.length 32 (O.map idC):=a9.slr;have V:∀x∈blk IA,x<w2.heap.size:=λx hx=>(a9.at_base hx).2;clear c0 a9;(go_wp2_with fail);refine(ZL w2).mono ?_;rintro e w3 ⟨rfl,R,a6⟩;have M:=c5.below a6;obtain⟨gw,b9⟩:=eX w2.heap.size
 have s:=yE y a6;rw[b9]at R V |-;have d4:=R.lt;have d2:w.heap.size<=gw:=oH y.size;clear c5 a6 b9;(go_wp2_with fail);refine(t9 _ _ _ _ _ _ R O.length 4 oM oM sI).mono ?_;rintro e W3 ⟨rfl,AW,b1,B,a0,D⟩;simp only[List.nil_append]at B;have hid:SlR W3 IA O.length 32 (O.map idC):=M.kept a0 (λx hx=>by have:=V x hx;simp[blk];omega);have a4:Below w.heap.size w W3:=s.trans (a0.below (oH s.size) (by simp[blk];omega));have A:∀x∈blk AW,gw<x:=λx hx=>(oH ((B.own.at_base hx).1));have a1:∀x∈blk IA,x∉gw :: blk AW:=λx hx hm=>by
  have:=V x hx;rcases List.mem_cons.1 hm with e | hm
  ·omega
  ·have:=A x hm;omega
 have J:∀w',z6 (gw :: blk AW) W3 w'->Below w.heap.size w w':=λw' hk=>a4.trans (hk.below (oH a4.size) (λx hx=>by
  rcases List.mem_cons.1 hx with rfl | hx
  ·omega
  ·have:=A x hx;omega))
 have e2:=dH J;have d3:(beL 4 O.length).length<=200000000:=by rw[y6];omega
 obtain⟨pre,m⟩:=eX (beL 4 O.length)
 rw[m]at B d3;have N:=dH m;obtain⟨S,hS⟩:=eR O
 obtain⟨Bw,c7⟩:=eR (gw+1)
 have d6:gw<Bw:=oM;rw[<-hS]at hid hO N;have c6:(Value.slice IA O.length ic)=.slice IA S.length ic:=by rw[hS]
 rw[<-c7]at B;have HS:=dH hS;rw[c6];clear m a4 J hS c7 a0 D A M s y R d4 V hr c6;(go_wp2_with fail);go_loopw [19] (λi wr=>∃k:Nat,k<=S.length/\i=.int .i64 (k:Nat)/\kM W3 Bw gw AW (pre++(S.take k).flatMap zE.l) wr) (λi _=>S.length-(intOf i).toNat)
 case atStart=>exact⟨0,zL,rfl,AW,b1,by simpa using B,z6.refl _ _,λx hx=>.inl hx⟩
 case round =>
  obtain⟨k,hk,rfl,A4,b2,f,F,d⟩:=hrel;by_cases T:k<S.length
  ·have c4:=(show SlR W3 IA S.length 32 (S.map idC)from hid).kept F a1;obtain⟨q,o,rfl,hr⟩:=zY.get c4 T T;have Y:(S.take (k+1)).flatMap zE.l=(S.take k).flatMap zE.l++(S[k]).l:=by rw[List.take_add_one,List.getElem?_eq_getElem T,List.flatMap_append];simp only[Option.toList_some,List.flatMap_cons,List.flatMap_nil,List.append_nil]
   have c1:=xU zE.l 32 (S.take k) (λx hx=>by rw[x.h];exact lR);have b4:(S.take k).length=k:=sO;rw[b4]at c1;obtain⟨x,hx⟩:=eX (S[k]'T)
   rw[hx]at hr Y;have d9:=dH Y;clear hx Y c4 b4;have a3:(pre++(S.take k).flatMap zE.l).length<=300000000:=by rw[List.length_append];omega
   obtain⟨d8,r⟩:=eX (pre++(S.take k).flatMap zE.l)
   have b3:=dH r;rw[r]at f a3;clear r c1;have c2:Below wr.heap.size wr (wr.alloc (.cells (idC x) 39)):=bA;have X:=f.below c2;have b8:z6 [] wr (wr.alloc (.cells (idC x) 39)):=z6.alloc _ _;have H:z7 (wr.alloc (.cells (idC x) 39)) wr.heap.size 0 32=some (idC x):=by simp[go_sem]
   have G:∀c,(convert 37 9 (.slice (some ⟨wr.heap.size,0,none⟩) 32 c)).run Tryz.prog (wr.alloc (.cells (idC x) 39))=.ok (.string ⟨x.l.toArray⟩) (wr.alloc (.cells (idC x) 39)):=λc=>vH H;have e3:(⟨x.l.toArray⟩:ByteArray).size=32:=by show x.l.toArray.size=32;simp[x.h]
   have e4:(⟨x.l.toArray⟩:ByteArray).data.toList=x.l:=sI;have cw:=dS _ Bw gw A4 b2 d8 X ⟨x.l.toArray⟩ (by rw[e3];omega);rw[e4]at cw;clear e3 e4 H;(go_wp2_with fail);refine cw.mono ?_;rintro e w6 ⟨rfl,b5⟩;have j:=zZ f F d (zZ X (b8.mono (S':=gw :: blk A4) sI) iL b5);rw[<-b3.out,List.append_assoc,<-d9.out]at j;have e0:=dH j;clear b5 j G cw c2 X b8 f F d;(go_wp2_with fail);go_roundw
   case rel=>exact⟨k+1,oM,by go_num,e0.out⟩
   case measure=>exact sZ
  ·have b6:S.take k=S:=List.take_of_length_le oM;rw[b6]at f;clear b6;have a2:Below w.heap.size w wr:=e2.out _ F;have c3:=h.below a2;have d5:=c3.cell2;have cs:=c wr a2;have Z:(pre++S.flatMap zE.l).length<=300000000:=by
    have:=xU zE.l 32 S (λx _=>by rw[x.h];exact lR);rw[List.length_append];omega
   obtain⟨p1,U⟩:=eX (pre++S.flatMap zE.l)
   have e1:=dH U;rw[U]at f Z;clear U F d;(go_wp2_with fail);refine cs.mono ?_;rintro e w6 ⟨rfl,a5⟩;have d1:=f.below a5;have es:(⟨sb.toArray⟩:ByteArray).size=sb.length:=by show sb.toArray.size=_;simp
   have c8:(⟨sb.toArray⟩:ByteArray).data.toList=sb:=sI;have cw:=dS _ _ _ _ _ _ d1 ⟨sb.toArray⟩ (by rw[es];omega);rw[c8]at cw;have L:=yE a2 a5;have b0:∀x∈blk A4,gw<x:=λx hx=>(oH ((f.own.at_base hx).1));clear es c8 f a5 d5 c3 cs;(go_wp2_with fail);refine cw.mono ?_;rintro e w7 ⟨rfl,A7,d7,d0,b7,E⟩;have a7:Below w.heap.size w w7:=L.trans (b7.below (oH L.size) (λx hx=>by
    rcases List.mem_cons.1 hx with rfl | hx
    ·omega
    ·have:=b0 x hx;omega))
   clear b7 E;(go_wp2_with fail);refine(nN _ _ _ _ _ _ d0).mono ?_;rintro e w' ⟨rfl,rfl⟩;(go_wp2_with fail);go_ret;exact⟨gL (by rw[<-e1.out,<-N.out,HS.out];simp[tW,List.append_assoc]),a7⟩
theorem vput_b(w:World)(g:Nat)(t:ByteArray)(b:Nat)(I:List zE)(gs:Nat)(sb:List UInt8)(h0:xE w g t b I (.iface 102 (.pointer (some ⟨gs,0,none⟩))))(hn:I.length<=1000000)(e5:sb.length<=100000000)
  (c:∀w',Below w.heap.size w w'->Calls Tryz.prog 325 #[.pointer (some ⟨gs,0,none⟩)] w' λe c9=>e=.returned (.string ⟨sb.toArray⟩)/\Below w'.heap.size w' c9) :
  Calls Tryz.prog 34 #[.pointer (some ⟨g,0,none⟩)] w λe w'=>e=.returned (.string ⟨(tW (yB zI I)++sb).toArray⟩)/\Below w.heap.size w w':=by
 have h:xE w g t b (yB zI I) (.iface 102 (.pointer (some ⟨gs,0,none⟩))):=⟨h0.blk,yS.congr h0.ids (λx=>(qE q6).symm)⟩
 have hr:Ris zI (yB zI I):=xJ q6 _;have hO:(yB zI I).length<=1000000:=Nat.le_trans (xF I) hn;obtain⟨O,a8⟩:=eX (yB zI I)
 rw[a8]at h hr hO;rw[a8];clear a8 h0 hn;have c0:=h.cell1;go_enter Tryz.func34,Tryz.ntmps34
 (go_wp2_with fail);refine(j7 w g b c0).mono ?_;rintro e w1 ⟨rfl,rfl⟩;(go_wp2_with fail);refine(yu w g t b O _ h hr hO).mono ?_;rintro e w2 ⟨IA,ic,rfl,a9,y⟩;have c5:SlR w2 IA O.length 32 (O.map idC):=a9.slr;have V:∀x∈blk IA,x<w2.heap.size:=λx hx=>(a9.at_base hx).2;clear c0 a9;(go_wp2_with fail);refine(ZL w2).mono ?_;rintro e w3 ⟨rfl,R,a6⟩;have M:=c5.below a6;obtain⟨gw,b9⟩:=eX w2.heap.size
 have s:=yE y a6;rw[b9]at R V |-;have d4:=R.lt;have d2:w.heap.size<=gw:=oH y.size;clear c5 a6 b9;(go_wp2_with fail);refine(t9 _ _ _ _ _ _ R O.length 4 oM oM sI).mono ?_;rintro e W3 ⟨rfl,AW,b1,B,a0,D⟩;simp only[List.nil_append]at B;have hid:SlR W3 IA O.length 32 (O.map idC):=M.kept a0 (λx hx=>by have:=V x hx;simp[blk];omega);have a4:Below w.heap.size w W3:=s.trans (a0.below (oH s.size) (by simp[blk];omega));have A:∀x∈blk AW,gw<x:=λx hx=>(oH ((B.own.at_base hx).1));have a1:∀x∈blk IA,x∉gw :: blk AW:=λx hx hm=>by
  have:=V x hx;rcases List.mem_cons.1 hm with e | hm
  ·omega
  ·have:=A x hm;omega
 have J:∀w',z6 (gw :: blk AW) W3 w'->Below w.heap.size w w':=λw' hk=>a4.trans (hk.below (oH a4.size) (λx hx=>by
  rcases List.mem_cons.1 hx with rfl | hx
  ·omega
  ·have:=A x hx;omega))
 have e2:=dH J;have d3:(beL 4 O.length).length<=200000000:=by rw[y6];omega
 obtain⟨pre,m⟩:=eX (beL 4 O.length)
 rw[m]at B d3;have N:=dH m;obtain⟨S,hS⟩:=eR O
 obtain⟨Bw,c7⟩:=eR (gw+1)
 have d6:gw<Bw:=oM;rw[<-hS]at hid hO N;have c6:(Value.slice IA O.length ic)=.slice IA S.length ic:=by rw[hS]
 rw[<-c7]at B;have HS:=dH hS;rw[c6];clear m a4 J hS c7 a0 D A M s y R d4 V hr c6;(go_wp2_with fail);go_loopw [19] (λi wr=>∃k:Nat,k<=S.length/\i=.int .i64 (k:Nat)/\kM W3 Bw gw AW (pre++(S.take k).flatMap zE.l) wr) (λi _=>S.length-(intOf i).toNat)
 case atStart=>exact⟨0,zL,rfl,AW,b1,by simpa using B,z6.refl _ _,λx hx=>.inl hx⟩
 case round =>
  obtain⟨k,hk,rfl,A4,b2,f,F,d⟩:=hrel;by_cases T:k<S.length
  ·have c4:=(show SlR W3 IA S.length 32 (S.map idC)from hid).kept F a1;obtain⟨q,o,rfl,hr⟩:=zY.get c4 T T;have Y:(S.take (k+1)).flatMap zE.l=(S.take k).flatMap zE.l++(S[k]).l:=by rw[List.take_add_one,List.getElem?_eq_getElem T,List.flatMap_append];simp only[Option.toList_some,List.flatMap_cons,List.flatMap_nil,List.append_nil]
   have c1:=xU zE.l 32 (S.take k) (λx hx=>by rw[x.h];exact lR);have b4:(S.take k).length=k:=sO;rw[b4]at c1;obtain⟨x,hx⟩:=eX (S[k]'T)
   rw[hx]at hr Y;have d9:=dH Y;clear hx Y c4 b4;have a3:(pre++(S.take k).flatMap zE.l).length<=300000000:=by rw[List.length_append];omega
   obtain⟨d8,r⟩:=eX (pre++(S.take k).flatMap zE.l)
   have b3:=dH r;rw[r]at f a3;clear r c1;have c2:Below wr.heap.size wr (wr.alloc (.cells (idC x) 39)):=bA;have X:=f.below c2;have b8:z6 [] wr (wr.alloc (.cells (idC x) 39)):=z6.alloc _ _;have H:z7 (wr.alloc (.cells (idC x) 39)) wr.heap.size 0 32=some (idC x):=by simp[go_sem]
   have G:∀c,(convert 37 9 (.slice (some ⟨wr.heap.size,0,none⟩) 32 c)).run Tryz.prog (wr.alloc (.cells (idC x) 39))=.ok (.string ⟨x.l.toArray⟩) (wr.alloc (.cells (idC x) 39)):=λc=>vH H;have e3:(⟨x.l.toArray⟩:ByteArray).size=32:=by show x.l.toArray.size=32;simp[x.h]
   have e4:(⟨x.l.toArray⟩:ByteArray).data.toList=x.l:=sI;have cw:=dS _ Bw gw A4 b2 d8 X ⟨x.l.toArray⟩ (by rw[e3];omega);rw[e4]at cw;clear e3 e4 H;(go_wp2_with fail);refine cw.mono ?_;rintro e w6 ⟨rfl,b5⟩;have j:=zZ f F d (zZ X (b8.mono (S':=gw :: blk A4) sI) iL b5);rw[<-b3.out,List.append_assoc,<-d9.out]at j;have e0:=dH j;clear b5 j G cw c2 X b8 f F d;(go_wp2_with fail);go_roundw
   case rel=>exact⟨k+1,oM,by go_num,e0.out⟩
   case measure=>exact sZ
  ·have b6:S.take k=S:=List.take_of_length_le oM;rw[b6]at f;clear b6;have a2:Below w.heap.size w wr:=e2.out _ F;have c3:=h.below a2;have d5:=c3.cell2;have cs:=c wr a2;have Z:(pre++S.flatMap zE.l).length<=300000000:=by
    have:=xU zE.l 32 S (λx _=>by rw[x.h];exact lR);rw[List.length_append];omega
   obtain⟨p1,U⟩:=eX (pre++S.flatMap zE.l)
   have e1:=dH U;rw[U]at f Z;clear U F d;(go_wp2_with fail);refine cs.mono ?_;rintro e w6 ⟨rfl,a5⟩;have d1:=f.below a5;have es:(⟨sb.toArray⟩:ByteArray).size=sb.length:=by show sb.toArray.size=_;simp
   have c8:(⟨sb.toArray⟩:ByteArray).data.toList=sb:=sI;have cw:=dS _ _ _ _ _ _ d1 ⟨sb.toArray⟩ (by rw[es];omega);rw[c8]at cw;have L:=yE a2 a5;have b0:∀x∈blk A4,gw<x:=λx hx=>(oH ((f.own.at_base hx).1));clear es c8 f a5 d5 c3 cs;(go_wp2_with fail);refine cw.mono ?_;rintro e w7 ⟨rfl,A7,d7,d0,b7,E⟩;have a7:Below w.heap.size w w7:=L.trans (b7.below (oH L.size) (λx hx=>by
    rcases List.mem_cons.1 hx with rfl | hx
    ·omega
    ·have:=b0 x hx;omega))
   clear b7 E;(go_wp2_with fail);refine(nN _ _ _ _ _ _ d0).mono ?_;rintro e w' ⟨rfl,rfl⟩;(go_wp2_with fail);go_ret;exact⟨gL (by rw[<-e1.out,<-N.out,HS.out];simp[tW,List.append_assoc]),a7⟩
theorem vput_l(w:World)(g:Nat)(t:ByteArray)(b:Nat)(I:List zE)(gs:Nat)(sb:List UInt8)(h0:xE w g t b I (.iface 104 (.pointer (some ⟨gs,0,none⟩))))(hn:I.length<=1000000)(e5:sb.length<=100000000)
  (c:∀w',Below w.heap.size w w'->Calls Tryz.prog 342 #[.pointer (some ⟨gs,0,none⟩)] w' λe c9=>e=.returned (.string ⟨sb.toArray⟩)/\Below w'.heap.size w' c9) :
  Calls Tryz.prog 34 #[.pointer (some ⟨g,0,none⟩)] w λe w'=>e=.returned (.string ⟨(tW (yB zI I)++sb).toArray⟩)/\Below w.heap.size w w':=by
 have h:xE w g t b (yB zI I) (.iface 104 (.pointer (some ⟨gs,0,none⟩))):=⟨h0.blk,yS.congr h0.ids (λx=>(qE q6).symm)⟩
 have hr:Ris zI (yB zI I):=xJ q6 _;have hO:(yB zI I).length<=1000000:=Nat.le_trans (xF I) hn;obtain⟨O,a8⟩:=eX (yB zI I)
 rw[a8]at h hr hO;rw[a8];clear a8 h0 hn;have c0:=h.cell1;go_enter Tryz.func34,Tryz.ntmps34
 (go_wp2_with fail);refine(j7 w g b c0).mono ?_;rintro e w1 ⟨rfl,rfl⟩;(go_wp2_with fail);refine(yu w g t b O _ h hr hO).mono ?_;rintro e w2 ⟨IA,ic,rfl,a9,y⟩;have c5:SlR w2 IA O.length 32 (O.map idC):=a9.slr;have V:∀x∈blk IA,x<w2.heap.size:=λx hx=>(a9.at_base hx).2;clear c0 a9;(go_wp2_with fail);refine(ZL w2).mono ?_;rintro e w3 ⟨rfl,R,a6⟩;have M:=c5.below a6;obtain⟨gw,b9⟩:=eX w2.heap.size
 have s:=yE y a6;rw[b9]at R V |-;have d4:=R.lt;have d2:w.heap.size<=gw:=oH y.size;clear c5 a6 b9;(go_wp2_with fail);refine(t9 _ _ _ _ _ _ R O.length 4 oM oM sI).mono ?_;rintro e W3 ⟨rfl,AW,b1,B,a0,D⟩;simp only[List.nil_append]at B;have hid:SlR W3 IA O.length 32 (O.map idC):=M.kept a0 (λx hx=>by have:=V x hx;simp[blk];omega);have a4:Below w.heap.size w W3:=s.trans (a0.below (oH s.size) (by simp[blk];omega));have A:∀x∈blk AW,gw<x:=λx hx=>(oH ((B.own.at_base hx).1));have a1:∀x∈blk IA,x∉gw :: blk AW:=λx hx hm=>by
  have:=V x hx;rcases List.mem_cons.1 hm with e | hm
  ·omega
  ·have:=A x hm;omega
 have J:∀w',z6 (gw :: blk AW) W3 w'->Below w.heap.size w w':=λw' hk=>a4.trans (hk.below (oH a4.size) (λx hx=>by
  rcases List.mem_cons.1 hx with rfl | hx
  ·omega
  ·have:=A x hx;omega))
 have e2:=dH J;have d3:(beL 4 O.length).length<=200000000:=by rw[y6];omega
 obtain⟨pre,m⟩:=eX (beL 4 O.length)
 rw[m]at B d3;have N:=dH m;obtain⟨S,hS⟩:=eR O
 obtain⟨Bw,c7⟩:=eR (gw+1)
 have d6:gw<Bw:=oM;rw[<-hS]at hid hO N;have c6:(Value.slice IA O.length ic)=.slice IA S.length ic:=by rw[hS]
 rw[<-c7]at B;have HS:=dH hS;rw[c6];clear m a4 J hS c7 a0 D A M s y R d4 V hr c6;(go_wp2_with fail);go_loopw [19] (λi wr=>∃k:Nat,k<=S.length/\i=.int .i64 (k:Nat)/\kM W3 Bw gw AW (pre++(S.take k).flatMap zE.l) wr) (λi _=>S.length-(intOf i).toNat)
 case atStart=>exact⟨0,zL,rfl,AW,b1,by simpa using B,z6.refl _ _,λx hx=>.inl hx⟩
 case round =>
  obtain⟨k,hk,rfl,A4,b2,f,F,d⟩:=hrel;by_cases T:k<S.length
  ·have c4:=(show SlR W3 IA S.length 32 (S.map idC)from hid).kept F a1;obtain⟨q,o,rfl,hr⟩:=zY.get c4 T T;have Y:(S.take (k+1)).flatMap zE.l=(S.take k).flatMap zE.l++(S[k]).l:=by rw[List.take_add_one,List.getElem?_eq_getElem T,List.flatMap_append];simp only[Option.toList_some,List.flatMap_cons,List.flatMap_nil,List.append_nil]
   have c1:=xU zE.l 32 (S.take k) (λx hx=>by rw[x.h];exact lR);have b4:(S.take k).length=k:=sO;rw[b4]at c1;obtain⟨x,hx⟩:=eX (S[k]'T)
   rw[hx]at hr Y;have d9:=dH Y;clear hx Y c4 b4;have a3:(pre++(S.take k).flatMap zE.l).length<=300000000:=by rw[List.length_append];omega
   obtain⟨d8,r⟩:=eX (pre++(S.take k).flatMap zE.l)
   have b3:=dH r;rw[r]at f a3;clear r c1;have c2:Below wr.heap.size wr (wr.alloc (.cells (idC x) 39)):=bA;have X:=f.below c2;have b8:z6 [] wr (wr.alloc (.cells (idC x) 39)):=z6.alloc _ _;have H:z7 (wr.alloc (.cells (idC x) 39)) wr.heap.size 0 32=some (idC x):=by simp[go_sem]
   have G:∀c,(convert 37 9 (.slice (some ⟨wr.heap.size,0,none⟩) 32 c)).run Tryz.prog (wr.alloc (.cells (idC x) 39))=.ok (.string ⟨x.l.toArray⟩) (wr.alloc (.cells (idC x) 39)):=λc=>vH H;have e3:(⟨x.l.toArray⟩:ByteArray).size=32:=by show x.l.toArray.size=32;simp[x.h]
   have e4:(⟨x.l.toArray⟩:ByteArray).data.toList=x.l:=sI;have cw:=dS _ Bw gw A4 b2 d8 X ⟨x.l.toArray⟩ (by rw[e3];omega);rw[e4]at cw;clear e3 e4 H;(go_wp2_with fail);refine cw.mono ?_;rintro e w6 ⟨rfl,b5⟩;have j:=zZ f F d (zZ X (b8.mono (S':=gw :: blk A4) sI) iL b5);rw[<-b3.out,List.append_assoc,<-d9.out]at j;have e0:=dH j;clear b5 j G cw c2 X b8 f F d;(go_wp2_with fail);go_roundw
   case rel=>exact⟨k+1,oM,by go_num,e0.out⟩
   case measure=>exact sZ
  ·have b6:S.take k=S:=List.take_of_length_le oM;rw[b6]at f;clear b6;have a2:Below w.heap.size w wr:=e2.out _ F;have c3:=h.below a2;have d5:=c3.cell2;have cs:=c wr a2;have Z:(pre++S.flatMap zE.l).length<=300000000:=by
    have:=xU zE.l 32 S (λx _=>by rw[x.h];exact lR);rw[List.length_append];omega
   obtain⟨p1,U⟩:=eX (pre++S.flatMap zE.l)
   have e1:=dH U;rw[U]at f Z;clear U F d;(go_wp2_with fail);refine cs.mono ?_;rintro e w6 ⟨rfl,a5⟩;have d1:=f.below a5;have es:(⟨sb.toArray⟩:ByteArray).size=sb.length:=by show sb.toArray.size=_;simp
   have c8:(⟨sb.toArray⟩:ByteArray).data.toList=sb:=sI;have cw:=dS _ _ _ _ _ _ d1 ⟨sb.toArray⟩ (by rw[es];omega);rw[c8]at cw;have L:=yE a2 a5;have b0:∀x∈blk A4,gw<x:=λx hx=>(oH ((f.own.at_base hx).1));clear es c8 f a5 d5 c3 cs;(go_wp2_with fail);refine cw.mono ?_;rintro e w7 ⟨rfl,A7,d7,d0,b7,E⟩;have a7:Below w.heap.size w w7:=L.trans (b7.below (oH L.size) (λx hx=>by
    rcases List.mem_cons.1 hx with rfl | hx
    ·omega
    ·have:=b0 x hx;omega))
   clear b7 E;(go_wp2_with fail);refine(nN _ _ _ _ _ _ d0).mono ?_;rintro e w' ⟨rfl,rfl⟩;(go_wp2_with fail);go_ret;exact⟨gL (by rw[<-e1.out,<-N.out,HS.out];simp[tW,List.append_assoc]),a7⟩
theorem vput_m(w:World)(g:Nat)(t:ByteArray)(b:Nat)(I:List zE)(gs:Nat)(sb:List UInt8)(h0:xE w g t b I (.iface 105 (.pointer (some ⟨gs,0,none⟩))))(hn:I.length<=1000000)(e5:sb.length<=100000000)
  (c:∀w',Below w.heap.size w w'->Calls Tryz.prog 343 #[.pointer (some ⟨gs,0,none⟩)] w' λe c9=>e=.returned (.string ⟨sb.toArray⟩)/\Below w'.heap.size w' c9) :
  Calls Tryz.prog 34 #[.pointer (some ⟨g,0,none⟩)] w λe w'=>e=.returned (.string ⟨(tW (yB zI I)++sb).toArray⟩)/\Below w.heap.size w w':=by
 have h:xE w g t b (yB zI I) (.iface 105 (.pointer (some ⟨gs,0,none⟩))):=⟨h0.blk,yS.congr h0.ids (λx=>(qE q6).symm)⟩
 have hr:Ris zI (yB zI I):=xJ q6 _;have hO:(yB zI I).length<=1000000:=Nat.le_trans (xF I) hn;obtain⟨O,a8⟩:=eX (yB zI I)
 rw[a8]at h hr hO;rw[a8];clear a8 h0 hn;have c0:=h.cell1;go_enter Tryz.func34,Tryz.ntmps34
 (go_wp2_with fail);refine(j7 w g b c0).mono ?_;rintro e w1 ⟨rfl,rfl⟩;(go_wp2_with fail);refine(yu w g t b O _ h hr hO).mono ?_;rintro e w2 ⟨IA,ic,rfl,a9,y⟩;have c5:SlR w2 IA O.length 32 (O.map idC):=a9.slr;have V:∀x∈blk IA,x<w2.heap.size:=λx hx=>(a9.at_base hx).2;clear c0 a9;(go_wp2_with fail);refine(ZL w2).mono ?_;rintro e w3 ⟨rfl,R,a6⟩;have M:=c5.below a6;obtain⟨gw,b9⟩:=eX w2.heap.size
 have s:=yE y a6;rw[b9]at R V |-;have d4:=R.lt;have d2:w.heap.size<=gw:=oH y.size;clear c5 a6 b9;(go_wp2_with fail);refine(t9 _ _ _ _ _ _ R O.length 4 oM oM sI).mono ?_;rintro e W3 ⟨rfl,AW,b1,B,a0,D⟩;simp only[List.nil_append]at B;have hid:SlR W3 IA O.length 32 (O.map idC):=M.kept a0 (λx hx=>by have:=V x hx;simp[blk];omega);have a4:Below w.heap.size w W3:=s.trans (a0.below (oH s.size) (by simp[blk];omega));have A:∀x∈blk AW,gw<x:=λx hx=>(oH ((B.own.at_base hx).1));have a1:∀x∈blk IA,x∉gw :: blk AW:=λx hx hm=>by
  have:=V x hx;rcases List.mem_cons.1 hm with e | hm
  ·omega
  ·have:=A x hm;omega
 have J:∀w',z6 (gw :: blk AW) W3 w'->Below w.heap.size w w':=λw' hk=>a4.trans (hk.below (oH a4.size) (λx hx=>by
  rcases List.mem_cons.1 hx with rfl | hx
  ·omega
  ·have:=A x hx;omega))
 have e2:=dH J;have d3:(beL 4 O.length).length<=200000000:=by rw[y6];omega
 obtain⟨pre,m⟩:=eX (beL 4 O.length)
 rw[m]at B d3;have N:=dH m;obtain⟨S,hS⟩:=eR O
 obtain⟨Bw,c7⟩:=eR (gw+1)
 have d6:gw<Bw:=oM;rw[<-hS]at hid hO N;have c6:(Value.slice IA O.length ic)=.slice IA S.length ic:=by rw[hS]
 rw[<-c7]at B;have HS:=dH hS;rw[c6];clear m a4 J hS c7 a0 D A M s y R d4 V hr c6;(go_wp2_with fail);go_loopw [19] (λi wr=>∃k:Nat,k<=S.length/\i=.int .i64 (k:Nat)/\kM W3 Bw gw AW (pre++(S.take k).flatMap zE.l) wr) (λi _=>S.length-(intOf i).toNat)
 case atStart=>exact⟨0,zL,rfl,AW,b1,by simpa using B,z6.refl _ _,λx hx=>.inl hx⟩
 case round =>
  obtain⟨k,hk,rfl,A4,b2,f,F,d⟩:=hrel;by_cases T:k<S.length
  ·have c4:=(show SlR W3 IA S.length 32 (S.map idC)from hid).kept F a1;obtain⟨q,o,rfl,hr⟩:=zY.get c4 T T;have Y:(S.take (k+1)).flatMap zE.l=(S.take k).flatMap zE.l++(S[k]).l:=by rw[List.take_add_one,List.getElem?_eq_getElem T,List.flatMap_append];simp only[Option.toList_some,List.flatMap_cons,List.flatMap_nil,List.append_nil]
   have c1:=xU zE.l 32 (S.take k) (λx hx=>by rw[x.h];exact lR);have b4:(S.take k).length=k:=sO;rw[b4]at c1;obtain⟨x,hx⟩:=eX (S[k]'T)
   rw[hx]at hr Y;have d9:=dH Y;clear hx Y c4 b4;have a3:(pre++(S.take k).flatMap zE.l).length<=300000000:=by rw[List.length_append];omega
   obtain⟨d8,r⟩:=eX (pre++(S.take k).flatMap zE.l)
   have b3:=dH r;rw[r]at f a3;clear r c1;have c2:Below wr.heap.size wr (wr.alloc (.cells (idC x) 39)):=bA;have X:=f.below c2;have b8:z6 [] wr (wr.alloc (.cells (idC x) 39)):=z6.alloc _ _;have H:z7 (wr.alloc (.cells (idC x) 39)) wr.heap.size 0 32=some (idC x):=by simp[go_sem]
   have G:∀c,(convert 37 9 (.slice (some ⟨wr.heap.size,0,none⟩) 32 c)).run Tryz.prog (wr.alloc (.cells (idC x) 39))=.ok (.string ⟨x.l.toArray⟩) (wr.alloc (.cells (idC x) 39)):=λc=>vH H;have e3:(⟨x.l.toArray⟩:ByteArray).size=32:=by show x.l.toArray.size=32;simp[x.h]
   have e4:(⟨x.l.toArray⟩:ByteArray).data.toList=x.l:=sI;have cw:=dS _ Bw gw A4 b2 d8 X ⟨x.l.toArray⟩ (by rw[e3];omega);rw[e4]at cw;clear e3 e4 H;(go_wp2_with fail);refine cw.mono ?_;rintro e w6 ⟨rfl,b5⟩;have j:=zZ f F d (zZ X (b8.mono (S':=gw :: blk A4) sI) iL b5);rw[<-b3.out,List.append_assoc,<-d9.out]at j;have e0:=dH j;clear b5 j G cw c2 X b8 f F d;(go_wp2_with fail);go_roundw
   case rel=>exact⟨k+1,oM,by go_num,e0.out⟩
   case measure=>exact sZ
  ·have b6:S.take k=S:=List.take_of_length_le oM;rw[b6]at f;clear b6;have a2:Below w.heap.size w wr:=e2.out _ F;have c3:=h.below a2;have d5:=c3.cell2;have cs:=c wr a2;have Z:(pre++S.flatMap zE.l).length<=300000000:=by
    have:=xU zE.l 32 S (λx _=>by rw[x.h];exact lR);rw[List.length_append];omega
   obtain⟨p1,U⟩:=eX (pre++S.flatMap zE.l)
   have e1:=dH U;rw[U]at f Z;clear U F d;(go_wp2_with fail);refine cs.mono ?_;rintro e w6 ⟨rfl,a5⟩;have d1:=f.below a5;have es:(⟨sb.toArray⟩:ByteArray).size=sb.length:=by show sb.toArray.size=_;simp
   have c8:(⟨sb.toArray⟩:ByteArray).data.toList=sb:=sI;have cw:=dS _ _ _ _ _ _ d1 ⟨sb.toArray⟩ (by rw[es];omega);rw[c8]at cw;have L:=yE a2 a5;have b0:∀x∈blk A4,gw<x:=λx hx=>(oH ((f.own.at_base hx).1));clear es c8 f a5 d5 c3 cs;(go_wp2_with fail);refine cw.mono ?_;rintro e w7 ⟨rfl,A7,d7,d0,b7,E⟩;have a7:Below w.heap.size w w7:=L.trans (b7.below (oH L.size) (λx hx=>by
    rcases List.mem_cons.1 hx with rfl | hx
    ·omega
    ·have:=b0 x hx;omega))
   clear b7 E;(go_wp2_with fail);refine(nN _ _ _ _ _ _ d0).mono ?_;rintro e w' ⟨rfl,rfl⟩;(go_wp2_with fail);go_ret;exact⟨gL (by rw[<-e1.out,<-N.out,HS.out];simp[tW,List.append_assoc]),a7⟩
theorem vput_s(w:World)(g:Nat)(t:ByteArray)(b:Nat)(I:List zE)(gs:Nat)(sb:List UInt8)(h0:xE w g t b I (.iface 106 (.pointer (some ⟨gs,0,none⟩))))(hn:I.length<=1000000)(e5:sb.length<=100000000)
  (c:∀w',Below w.heap.size w w'->Calls Tryz.prog 346 #[.pointer (some ⟨gs,0,none⟩)] w' λe c9=>e=.returned (.string ⟨sb.toArray⟩)/\Below w'.heap.size w' c9) :
  Calls Tryz.prog 34 #[.pointer (some ⟨g,0,none⟩)] w λe w'=>e=.returned (.string ⟨(tW (yB zI I)++sb).toArray⟩)/\Below w.heap.size w w':=by
 have h:xE w g t b (yB zI I) (.iface 106 (.pointer (some ⟨gs,0,none⟩))):=⟨h0.blk,yS.congr h0.ids (λx=>(qE q6).symm)⟩
 have hr:Ris zI (yB zI I):=xJ q6 _;have hO:(yB zI I).length<=1000000:=Nat.le_trans (xF I) hn;obtain⟨O,a8⟩:=eX (yB zI I)
 rw[a8]at h hr hO;rw[a8];clear a8 h0 hn;have c0:=h.cell1;go_enter Tryz.func34,Tryz.ntmps34
 (go_wp2_with fail);refine(j7 w g b c0).mono ?_;rintro e w1 ⟨rfl,rfl⟩;(go_wp2_with fail);refine(yu w g t b O _ h hr hO).mono ?_;rintro e w2 ⟨IA,ic,rfl,a9,y⟩;have c5:SlR w2 IA O.length 32 (O.map idC):=a9.slr;have V:∀x∈blk IA,x<w2.heap.size:=λx hx=>(a9.at_base hx).2;clear c0 a9;(go_wp2_with fail);refine(ZL w2).mono ?_;rintro e w3 ⟨rfl,R,a6⟩;have M:=c5.below a6;obtain⟨gw,b9⟩:=eX w2.heap.size
 have s:=yE y a6;rw[b9]at R V |-;have d4:=R.lt;have d2:w.heap.size<=gw:=oH y.size;clear c5 a6 b9;(go_wp2_with fail);refine(t9 _ _ _ _ _ _ R O.length 4 oM oM sI).mono ?_;rintro e W3 ⟨rfl,AW,b1,B,a0,D⟩;simp only[List.nil_append]at B;have hid:SlR W3 IA O.length 32 (O.map idC):=M.kept a0 (λx hx=>by have:=V x hx;simp[blk];omega);have a4:Below w.heap.size w W3:=s.trans (a0.below (oH s.size) (by simp[blk];omega));have A:∀x∈blk AW,gw<x:=λx hx=>(oH ((B.own.at_base hx).1));have a1:∀x∈blk IA,x∉gw :: blk AW:=λx hx hm=>by
  have:=V x hx;rcases List.mem_cons.1 hm with e | hm
  ·omega
  ·have:=A x hm;omega
 have J:∀w',z6 (gw :: blk AW) W3 w'->Below w.heap.size w w':=λw' hk=>a4.trans (hk.below (oH a4.size) (λx hx=>by
  rcases List.mem_cons.1 hx with rfl | hx
  ·omega
  ·have:=A x hx;omega))
 have e2:=dH J;have d3:(beL 4 O.length).length<=200000000:=by rw[y6];omega
 obtain⟨pre,m⟩:=eX (beL 4 O.length)
 rw[m]at B d3;have N:=dH m;obtain⟨S,hS⟩:=eR O
 obtain⟨Bw,c7⟩:=eR (gw+1)
 have d6:gw<Bw:=oM;rw[<-hS]at hid hO N;have c6:(Value.slice IA O.length ic)=.slice IA S.length ic:=by rw[hS]
 rw[<-c7]at B;have HS:=dH hS;rw[c6];clear m a4 J hS c7 a0 D A M s y R d4 V hr c6;(go_wp2_with fail);go_loopw [19] (λi wr=>∃k:Nat,k<=S.length/\i=.int .i64 (k:Nat)/\kM W3 Bw gw AW (pre++(S.take k).flatMap zE.l) wr) (λi _=>S.length-(intOf i).toNat)
 case atStart=>exact⟨0,zL,rfl,AW,b1,by simpa using B,z6.refl _ _,λx hx=>.inl hx⟩
 case round =>
  obtain⟨k,hk,rfl,A4,b2,f,F,d⟩:=hrel;by_cases T:k<S.length
  ·have c4:=(show SlR W3 IA S.length 32 (S.map idC)from hid).kept F a1;obtain⟨q,o,rfl,hr⟩:=zY.get c4 T T;have Y:(S.take (k+1)).flatMap zE.l=(S.take k).flatMap zE.l++(S[k]).l:=by rw[List.take_add_one,List.getElem?_eq_getElem T,List.flatMap_append];simp only[Option.toList_some,List.flatMap_cons,List.flatMap_nil,List.append_nil]
   have c1:=xU zE.l 32 (S.take k) (λx hx=>by rw[x.h];exact lR);have b4:(S.take k).length=k:=sO;rw[b4]at c1;obtain⟨x,hx⟩:=eX (S[k]'T)
   rw[hx]at hr Y;have d9:=dH Y;clear hx Y c4 b4;have a3:(pre++(S.take k).flatMap zE.l).length<=300000000:=by rw[List.length_append];omega
   obtain⟨d8,r⟩:=eX (pre++(S.take k).flatMap zE.l)
   have b3:=dH r;rw[r]at f a3;clear r c1;have c2:Below wr.heap.size wr (wr.alloc (.cells (idC x) 39)):=bA;have X:=f.below c2;have b8:z6 [] wr (wr.alloc (.cells (idC x) 39)):=z6.alloc _ _;have H:z7 (wr.alloc (.cells (idC x) 39)) wr.heap.size 0 32=some (idC x):=by simp[go_sem]
   have G:∀c,(convert 37 9 (.slice (some ⟨wr.heap.size,0,none⟩) 32 c)).run Tryz.prog (wr.alloc (.cells (idC x) 39))=.ok (.string ⟨x.l.toArray⟩) (wr.alloc (.cells (idC x) 39)):=λc=>vH H;have e3:(⟨x.l.toArray⟩:ByteArray).size=32:=by show x.l.toArray.size=32;simp[x.h]
   have e4:(⟨x.l.toArray⟩:ByteArray).data.toList=x.l:=sI;have cw:=dS _ Bw gw A4 b2 d8 X ⟨x.l.toArray⟩ (by rw[e3];omega);rw[e4]at cw;clear e3 e4 H;(go_wp2_with fail);refine cw.mono ?_;rintro e w6 ⟨rfl,b5⟩;have j:=zZ f F d (zZ X (b8.mono (S':=gw :: blk A4) sI) iL b5);rw[<-b3.out,List.append_assoc,<-d9.out]at j;have e0:=dH j;clear b5 j G cw c2 X b8 f F d;(go_wp2_with fail);go_roundw
   case rel=>exact⟨k+1,oM,by go_num,e0.out⟩
   case measure=>exact sZ
  ·have b6:S.take k=S:=List.take_of_length_le oM;rw[b6]at f;clear b6;have a2:Below w.heap.size w wr:=e2.out _ F;have c3:=h.below a2;have d5:=c3.cell2;have cs:=c wr a2;have Z:(pre++S.flatMap zE.l).length<=300000000:=by
    have:=xU zE.l 32 S (λx _=>by rw[x.h];exact lR);rw[List.length_append];omega
   obtain⟨p1,U⟩:=eX (pre++S.flatMap zE.l)
   have e1:=dH U;rw[U]at f Z;clear U F d;(go_wp2_with fail);refine cs.mono ?_;rintro e w6 ⟨rfl,a5⟩;have d1:=f.below a5;have es:(⟨sb.toArray⟩:ByteArray).size=sb.length:=by show sb.toArray.size=_;simp
   have c8:(⟨sb.toArray⟩:ByteArray).data.toList=sb:=sI;have cw:=dS _ _ _ _ _ _ d1 ⟨sb.toArray⟩ (by rw[es];omega);rw[c8]at cw;have L:=yE a2 a5;have b0:∀x∈blk A4,gw<x:=λx hx=>(oH ((f.own.at_base hx).1));clear es c8 f a5 d5 c3 cs;(go_wp2_with fail);refine cw.mono ?_;rintro e w7 ⟨rfl,A7,d7,d0,b7,E⟩;have a7:Below w.heap.size w w7:=L.trans (b7.below (oH L.size) (λx hx=>by
    rcases List.mem_cons.1 hx with rfl | hx
    ·omega
    ·have:=b0 x hx;omega))
   clear b7 E;(go_wp2_with fail);refine(nN _ _ _ _ _ _ d0).mono ?_;rintro e w' ⟨rfl,rfl⟩;(go_wp2_with fail);go_ret;exact⟨gL (by rw[<-e1.out,<-N.out,HS.out];simp[tW,List.append_assoc]),a7⟩
def stB:VSt->List UInt8
 | .t n=>cM n
 | .b L G=>B9 L G
 | .l L=>nV L
 | .m X O=>rF X O
 | .s N G=>nU N G
def JK(I:List zE)(s:VSt):List UInt8:=tW (yB zI I)++stB s
def VSt.big:VSt->Nat
 | .t _=>0
 | .b L G=>L.length+G.length
 | .l L=>L.length
 | .m X O=>X.length+O.length
 | .s N G=>N.length+G.length
theorem VG(O:List zE):(tW O).length<=4+32*O.length:=by
 have:=xU zE.l 32 O (λx _=>by rw[x.h];exact lR);unfold tW;rw[List.length_append,y6];omega
def VSt.ris:VSt->Prop
 | .s _ G=>Ris zI G
 | _=>True
theorem km(w:World)(g:Nat)(t:ByteArray)(b:Nat)(O:List Nat)(I:List zE)(v:Value)(s:VSt)(h:VAt w g t b O I v s)(hn:I.length<=1000000)(hs:s.big<=500000)(hr:s.ris) :
  Calls Tryz.prog 34 #[.pointer (some ⟨g,0,none⟩)] w λe w'=>e=.returned (.string ⟨(JK I s).toArray⟩)/\Below w.heap.size w w':=by
 have hv:=h.view;have f:=λw' (hb:Below w.heap.size w w')=>h.st.below hb;cases s with
 | t n =>
  obtain⟨gs,rfl,h1,_⟩:=h.st;exact vput_t w g t b I gs (cM n) hv hn (by unfold cM;rw[List.length_append,y6,y6];omega) (λw' hb=>tput w' gs n (h1.kept (z6.of_below hb) sI))
 | b L G =>
  obtain⟨gs,bl,bg,rfl,h1,_⟩:=h.st;have d:L.length+G.length<=500000:=hs;have z1:=sE h1.smL;have z2:=sE h1.smG;exact vput_b w g t b I gs (B9 L G) hv hn (by unfold B9;rw[List.length_append];omega) (λw' hb=>bput w' gs bl bg L G (h1.below hb) oM oM)
 | l L =>
  obtain⟨gs,bl,rfl,h1,_⟩:=h.st;have d:L.length<=500000:=hs;have z1:=mA L h1.rows.2;exact vput_l w g t b I gs (nV L) hv hn (by unfold nV;rw[List.length_append,y6];omega) (λw' hb=>lput w' gs bl L (h1.below hb) oM)
 | m X Ov =>
  obtain⟨gs,bl,bo,rfl,h1,_⟩:=h.st;have d:X.length+Ov.length<=500000:=hs;have z1:=xU jF 66 X (λx hx=>by rw[n5];have:=h1.sm x hx;unfold vB at this;omega);have z2:=VG Ov;exact vput_m w g t b I gs (rF X Ov) hv hn (by unfold rF;rw[List.length_append,List.length_append,y6];omega) (λw' hb=>mput_any w' gs bl bo X Ov (h1.below hb) oM oM)
 | s N G =>
  obtain⟨gs,bn,bb,bg,rfl,h1,_⟩:=h.st;have d:N.length+G.length<=500000:=hs;have z0:=lA N;have z1:=xU kK 85 (bB N) (λx hx=>by rw[nA];have:=gQ (h1.ok x (tT.1 hx));omega);have z2:=VG G;exact vput_s w g t b I gs (nU N G) hv hn (by unfold nU;rw[List.length_append,List.length_append,y6];omega) (λw' hb=>sqput w' _ gs bn bb bg N G (h1.below hb) hr oM oM)
theorem doS_big(m:yW)(o:OpV)(s:VSt)(ho:o.refs.length<=8):(doS m o s).big<=s.big+9:=by
 cases s with
 | t n=>exact zL
 | b L G =>
  by_cases h:o.k=2
  ·rw[aW m o L G h];show(mU L G ⟨m.id,o.val⟩).length+G.length<=L.length+G.length+9;unfold mU;have:=jV (c:=yG) L ⟨m.id,o.val⟩
   repeat' split
   all_goals omega
  ·rw[aV m o L G h];show(lF L o.val o.refs).length+(lG G o.val o.refs).length<=L.length+G.length+9;have h1:=iH o.val o.refs L;have h2:∀(T:List zE) (G:List yH),(lG G o.val T).length<=G.length+T.length:=by
    intro T;induction T with
    | nil=>intro G;exact lR
    | cons x T ih=>intro G;have h3:=ih (xS yG G ⟨x,o.val⟩);have h4:=jV (c:=yG) G ⟨x,o.val⟩;unfold lG at h3 |-;simp only[List.foldl_cons,List.length_cons];omega
   have h3:=h2 o.refs G;omega
 | l L=>exact Nat.le_trans (cL _ _ _) (by show L.length+1<=L.length+9;omega)
 | m X Ov =>
  show(ZQ X Ov ⟨m.id,o.key,o.val⟩ o.refs).length+(lJ Ov o.refs).length<=X.length+Ov.length+9;have h1:(ZQ X Ov ⟨m.id,o.key,o.val⟩ o.refs).length<=X.length+1:=by
   unfold ZQ wK;exact Nat.le_trans (List.length_filter_le _ _) (jV (c:=xN) X _)
  have h2:∀(T G:List zE),(lJ G T).length<=G.length+T.length:=by
   intro T;induction T with
   | nil=>intro G;exact lR
   | cons x T ih=>intro G;have h3:=ih (xS zI G x);have h4:=jV (c:=zI) G x;unfold lJ at h3 |-;simp only[List.foldl_cons,List.length_cons];omega
  have h3:=h2 o.refs Ov;omega
 | s N G =>
  by_cases h:o.k=6
  ·rw[aU m o N G h];show(s6 N ⟨m.id,m.h,o.ref,o.val⟩).length+G.length<=N.length+G.length+9;unfold s6;repeat' split
   all_goals simp
   all_goals omega
  ·rw[aT m o N G h];have:=jV (c:=zI) G o.ref;show N.length+(xS zI G o.ref).length<=N.length+G.length+9;omega
theorem jz(t:ByteArray)(m:yW)(s:VSt):(wP t m s).big<=s.big+9:=by
 unfold wP;split
 ·rename_i h;exact doS_big _ _ _ (lM _ h.1).2.2.2.2.2.1
 ·omega
theorem doS_ris(m:yW)(o:OpV)(s:VSt)(h:s.ris):(doS m o s).ris:=by
 cases s with
 | s N G =>
  by_cases hk:o.k=6
  ·rw[aU m o N G hk];exact h
  ·rw[aT m o N G hk];exact vA q6 h
 | b L G =>
  by_cases hk:o.k=2
  ·rw[aW m o L G hk];trivial
  ·rw[aV m o L G hk];trivial
 | t n=>trivial
 | l L=>trivial
 | m X Ov=>trivial
theorem jx(t:ByteArray)(m:yW)(s:VSt)(h:s.ris):(wP t m s).ris:=by
 unfold wP;split
 ·exact doS_ris _ _ _ h
 ·exact h
end Go.Proofs.YtgfpjjppeldhbaaGreatDoor
