/- Part 6 of the texts that lead to this claim: the walks of the functions and the plain law, in order. -/
import Derived.Test.YtdjiaickicgdlaaGreatDoorMg5
import Derived.Shelf.SlSortCmp.NoneTotal
import Derived.Test.YtdjiaickicgdlaaGreatDoorLayBag
import Derived.Shelf.Slices.CompactS
import Derived.Test.YtdjiaickicgdlaaGreatDoorLayKeys
namespace Go.Proofs.YtdjiaickicgdlaaGreatDoor
open Go.RowKit
open List hiding and get max min or set
open Go.Proofs.Tryz
open World
set_option maxRecDepth 100000
set_option maxHeartbeats 8000000
variable {w:World}{N:List zW}{BM:List (zB×Sl)}{es:Array MapEntry}{B cap g n:Nat}{E:TypeId}{L:List (Array Value)}{ss:List (List UInt8)}
theorem wL(N:List zW)(n:zW)(r:zB):vC (N ++ [n]) r=if n.ref=r then jO n0 (vC N r) n else vC N r:=by
 rw[<-kids_cons];exact kids_congr (λx=>by simp[or_comm]) r
theorem iF{κ ν:Type}[DecidableEq κ]{M:List (κ×ν)}{k:κ}{v:ν}{p:κ×ν}(h:p∈bS M k v):p=(k,v)\/(p∈M/\p.1≠k):=by
 unfold bS at h;split at h
 ·obtain⟨q,hq,rfl⟩:=mem_map.1 h;split
  ·exact .inl rfl
  ·rename_i hne;exact .inr ⟨hq,hne⟩
 ·rename_i hno
  rcases mem_append.1 h with h | h
  ·exact .inr ⟨h,λe=>hno (mem_map.2 ⟨p,h,e⟩)⟩
  ·exact .inl (by simpa using h)
theorem KQ{κ ν:Type}[DecidableEq κ]{M:List (κ×ν)}{k r:κ}{v:ν}(h:r∉(bS M k v).map (·.1)):r∉M.map (·.1)/\r≠k:=by
 unfold bS at h;split at h
 ·rename_i hin
  have e:(M.map λp=>if p.1=k then(k,v)else p).map (·.1)=M.map (·.1):=by
   rw[map_map];refine map_congr_left λp _=>?_;simp only[Function.comp_apply];split
   ·rename_i h;exact h.symm
   ·rfl
  rw[e]at h;exact⟨h,λe=>h (by rw[e];exact hin)⟩
 ·rw[map_append,mem_append]at h;exact⟨λh1=>h (.inl h1),λe=>h (.inr (by simp[e]))⟩
theorem lF(w:World):(zeroValue 34).run prog w=.ok (.slice none 0 0) w:=kR
theorem blook{M:List Nat}{bb:Nat}{f:Nat}(hb:yL w bb idV slV vN BM es f)
  (d:∀p∈BM,SlW w p.2.A p.2.n p.2.c 32 (((vC N p.1).map zW.id).map idC)/\∀x∈blk p.2.A,x∉M/\x<w.heap.size)(g:∀r,r∉BM.map (·.1)->vC N r = [])(r:zB) :
  ∃s:Sl,SlW w s.A s.n s.c 32 (((vC N r).map zW.id).map idC)/\(∀x∈blk s.A,x∉M/\x<w.heap.size) /\
   ∀w',yL w' bb idV slV vN BM es f->(Instr.lookup 100 (.map (some bb)) (.agg (idC r)) false).run prog w'=.ok (.slice s.A s.n s.c) w':=by
 by_cases h:r∈BM.map (·.1)
 ·obtain⟨p,hp,rfl⟩:=mem_map.1 h;exact⟨p.2,(d p hp).1,(d p hp).2,λw' hm=>hm.hit jA underlying100 trivial hp false⟩
 ·refine⟨⟨none,0,0⟩,?_,by simp[blk],λw' hm=>hm.miss jA underlying100 (lF w') trivial h false⟩;rw[g r h];exact SlW.none_
theorem nlook{bn:Nat}{f:Nat}(hn:yL w bn idV aN vN (N.map λn=>(n.id,xH n)) es f){y:zW}(hy:y∈N)(d:Bool) :
  (Instr.lookup 236 (.map (some bn)) (.agg (idC y.id)) d).run prog w=.ok (if d then .tuple #[.agg (zP (xH y)),.bool true]else .agg (zP (xH y))) w :=
 hn.hit jA underlying236 trivial (mem_map.2 ⟨y,hy,rfl⟩) d
@[go_sem ↓] theorem slIdC_rw(x:Value)(lo hi mx:Option Value):Instr.sliceAt 34 x lo hi mx=slS 34 x lo hi mx:=rfl
@[go_sem ↓] theorem bsIds3_run(w:World)(A B C:Option Addr)(n m k a b c:Nat):(Instr.buildSlice 39 3 #[(0,.slice A n a),(1,.slice B m b),(2,.slice C k c)]).run prog w=.ok (.slice (some ⟨w.heap.size,0,none⟩) 3 3) (w.alloc (.cells #[.slice A n a,.slice B m b,.slice C k c] 34)):=kR
theorem sqhang(n:zW)(w:World)(M:List Nat)(g bn bb bg:Nat)(N:List zW)(G:List zB)(h:xF w M g bn bb bg N G)(hM:∀x∈M,x<w.heap.size)(J:n.id∉N.map zW.id)(hE:vS n=0)(hl:N.length<=100000) :
  Calls prog 193 #[.pointer (some ⟨g,0,none⟩),.agg (idC n.id),.agg (zP (xH n))] w λe w'=>e=.returned (.tuple #[])/\xF w' M g bn bb bg (N ++ [n]) G/\z9 [bn,bb] w w':=by
 have hB:Below w.heap.size w ((w.alloc (.cells (idC n.id) 31)).alloc (.cells (zP (xH n)) 240)):=(bA).alloc sI _;have h1:=h.below hB;have f7:zA ((w.alloc (.cells (idC n.id) 31)).alloc (.cells (zP (xH n)) 240)) w.heap.size 0 32=some (idC n.id):=by simp[go_sem]
 have e0:zA ((w.alloc (.cells (idC n.id) 31)).alloc (.cells (zP (xH n)) 240)) (w.heap.size+1) 0 34=some (zP (xH n)):=by simp[go_sem]
 have g7:=h.lt;have k8:=h.ltg;go_enter func193,ntmps193
 go_upto_region 1 with fail
 obtain⟨ga,h4⟩:=eX w.heap.size
 have k3:=dH h4;rw[h4]at f7 e0 hB g7 k8 hM |-;obtain⟨W,hW⟩:=eR ((w.alloc (.cells (idC n.id) 31)).alloc (.cells (zP (xH n)) 240))
 rw[<-hW]at h1 f7 e0 hB |-;clear hW h4;have g4:zA W (ga+1) 1 32=some (idC n.ref):=by have:=yF e0 (j:=1) (m:=32) oM;rw[wG]at this;simpa[xH]using this
 have j4:W.cell? ⟨ga+1,0,none⟩=some (.int .i64 n.h):=by have:=zC e0 (j:=0) oM;rw[aJ]at this;simpa[xH]using this
 obtain⟨es,l6,hn⟩:=h1.nodes;obtain⟨BM,l5,l2,hb,j0,j1⟩:=h1.behind;obtain⟨⟨A,sn,sc⟩,f9,g1,a8⟩:=blook hb j0 j1 n.ref;dsimp only at f9 g1 a8;have i1:∀y∈vC N n.ref,y∈N:=λy hy=>(lY.1 hy).1;have j8:=pI N n.ref;have j7:n∉vC N n.ref:=λhm=>J (mem_map.2 ⟨n,i1 n hm,rfl⟩);have c5:=h1.cell1;have hk:∀x:Subtype (Bel W),(Instr.lookup 100 (.map (some bb)) (.agg (idC n.ref)) false).run prog x.1=.ok (.slice A sn sc) x.1:=λx=>a8 x.1 (hb.kept (z9.of_below x.2) sI);refine lX W ?_;intro L hS;have b1:=zK c5;have b2:=zS g4;refine lZ ?_;refine zD ?_;intro hS;have i2:Below ga w W.drew:=hB.drew;have h2:xF W.drew M g bn bb bg N G:=h1.below (xR W);have j2:=hn.kept (z9.drew W) sI;have Y:=f9.below (xR W);have O:zA W.drew ga 0 32=some (idC n.id):=f7;have Z:zA W.drew (ga+1) 0 34=some (zP (xH n)):=e0;have g3:zA W.drew (ga+1) 1 32=some (idC n.ref):=g4;have f2:W.drew.cell? ⟨ga+1,0,none⟩=some (.int .i64 n.h):=j4;clear b1 b2 L hS hk a8 c5 hb j0 j1 hn f9 f7 e0 g4 j4 h1 hB;have c9:(vC N n.ref).length=sn:=by have:=Y.len;simpa using this
 obtain⟨K,hK⟩:=eX (vC N n.ref)
 rw[hK]at Y i1 j8 j7 c9;have HK:=dH hK;have b8:=dH c9;have k5:sn<=100000:=oM;clear hK c9 j8;obtain⟨W1,h9⟩:=eX W.drew
 rw[h9]at i2 h2 j2 Y O Z g3 f2 |-;have f5:W1.heap.size=W.heap.size:=by rw[<-h9];rfl
 rw[<-f5]at g1;clear h9 f5;(go_wp2_with fail);go_loopw [7] (λj wj=>∃m:Nat,m<=sn/\j=.int .i64 m/\Hid (∀i (hi:i<K.length),i<m->n0 K[i] n<0)/\Below W1.heap.size W1 wj) (λj _=>sn-(intOf j).toNat)
 case atStart=>exact⟨0,zL,rfl,(show ∀i (hi:i<K.length),i<0->_ from λi _ h=>absurd h oM),Below.refl _ _⟩
 case round =>
  obtain⟨m,c4,rfl,c8,c3⟩:=hrel;have b9:zA wr ga 0 32=some (idC n.id):=(zH (c3.block ga (zE O)) _ _).trans O;have d2:wr.cell? ⟨ga+1,0,none⟩=some (.int .i64 n.h):=(c3.cell (p:=⟨ga+1,0,none⟩) (zE Z)).trans f2;have g0:=h2.below c3;have c6:=Y.below c3;by_cases U:m<sn
  ·obtain⟨q,o,rfl,f8⟩:=c6.rd.at_ U;rw[getElem_map,getElem_map]at f8;have c0:K[m]'(by rw[b8.out];exact U)∈K:=getElem_mem _;obtain⟨y,hy⟩:=eX (K[m]'(by rw[b8.out];exact U))
   rw[hy]at f8 c0;have i9:=i1 y c0;have e5:n.id≠y.id:=λe=>J (mem_map.2 ⟨y,i9,e.symm⟩);have h5:=cmpN_ahead (a:=n) (b:=y) e5;have k7:∀x:Subtype (Bel wr),(Instr.lookup 236 (.map (some bn)) (.agg (idC y.id)) false).run prog x.1=.ok (.agg (zP ⟨y.h,y.ref,y.val⟩)) x.1:=λx=>nlook ((j2.kept (z9.of_below c3) sI).kept (z9.of_below x.2) sI) i9 false;have j5:=g0.cell0;have c2:=yd n.h n.id y.h y.id wr.drew;obtain⟨c,hc⟩:=eX (bG n.h n.id y.h y.id)
   rw[hc]at c2 h5;have Hy:=dH hy;have k4:=dH h5;have i7:=dH c0;clear hc hy h5 c0 e5;go_upto_region 3 with fail
   refine lX wr ?_;intro L hS;have b1:=zS b9;have b2:=zS f8;have b3:=zK d2;have b4:=zK j5;refine lZ ?_;refine lC (c2) ?_;clear hS;intro w' hS;refine lZ ?_;refine zD ?_;intro hS;have j6:Below wr.heap.size wr w':=hS;have R:=yK c3 j6;clear b1 b2 b3 b4 L hS c2 k7 j5;cases c with
   | true =>
    (go_wp2_with fail);go_roundw
    case rel =>
     refine⟨m+1,oM,by go_num,(show ∀i (hi:i<K.length),i<m+1->n0 K[i] n<0 from λi hi l4=>?_),R⟩;by_cases e:i=m
     ·subst e;rw[Hy.out];exact of_decide_eq_true k4.out
     ·exact c8.out i hi oM
    case measure=>exact sZ
   | false =>
    have f4:=X4 (c:=n0) K n m (by rw[b8.out];exact c4) c8.out (λj3=>by
     rw[Hy.out];have h1:¬n0 y n<0:=of_decide_eq_false k4.out;have h2:n0 y n≠0:=λe=>j7 (by rw[<-(xp.zero _ _).1 e];exact i7.out);omega)
    have i8:=dH f4;have d:=h2.below R;have f:=Y.below R;have I:zA w' ga 0 32=some (idC n.id):=(zH (R.block ga (zE O)) _ _).trans O;have H:zA w' (ga+1) 0 34=some (zP (xH n)):=(zH (R.block (ga+1) (zE Z)) _ _).trans Z;have e3:Below ga w w':=i2.trans (R.mono (oH (zE O)));have e4:=R.size;clear f4 f8 b9 d2 g0 c6 c3 R j6;obtain⟨V,rfl⟩:∃V,V=w':=⟨w',rfl⟩
    obtain⟨A,j9⟩:=eX (some ⟨q,o,none⟩:Option Addr)
    rw[j9]at f g1 |-;clear j9;have a3:zA V (ga+1) 1 32=some (idC n.ref):=by have:=yF H (j:=1) (m:=32) oM;rw[wG]at this;simpa[xH]using this
    have c5:=d.cell1;have g6:m<=sc:=Nat.le_trans c4 f.le;have g5:∀w0:World,(slS 34 (.slice A sn sc) none (some (.int .i64 m)) (some (.int .i64 m))).run prog w0=.ok (.slice A m m) w0:=λw0=>tI yP w0 A sn sc m g6;obtain⟨Ah,ch,h0,f0,h3⟩:=f.hi (P:=prog) yP (m:=m) c4;have b0:g∉[bb]:=by simpa using d.neg.2.1
    go_upto_region 5 with fail
    refine kX [bb] V ?_;intro L hS;have b1:=zG c5 b0;have b2:=zY I (S:=[bb]) sO;have b3:=zY a3 (S:=[bb]) sO;refine lQ ?_;intro K hK;refine zI (bX hS _) (λhS=>?_);refine hK _ _ ?_;clear hK K;refine lQ ?_;intro K hK;refine zI (bX hS _) (λhS=>?_);refine hK _ _ ?_;clear hK K;have b6:Below V.heap.size V ((V.alloc (.cells (idC n.id) 31)).alloc (.cells #[.slice A m m,.slice (some ⟨V.heap.size,0,none⟩) 1 1,.slice Ah (sn-m) ch] 34)).drew:=((bA).alloc sI _).drew;have t1:zX ((V.alloc (.cells (idC n.id) 31)).alloc (.cells #[.slice A m m,.slice (some ⟨V.heap.size,0,none⟩) 1 1,.slice Ah (sn-m) ch] 34)).drew A m ((K.map zW.id).take m):=by
     have:=(f.rd.below b6).take_ c4
     rwa [<-map_take]at this
    have t3:zX ((V.alloc (.cells (idC n.id) 31)).alloc (.cells #[.slice A m m,.slice (some ⟨V.heap.size,0,none⟩) 1 1,.slice Ah (sn-m) ch] 34)).drew Ah (sn-m) ((K.map zW.id).drop m):=by
     have:=f0 _ (f.rd.below b6)
     rwa [<-map_drop]at this
    have t2:zX ((V.alloc (.cells (idC n.id) 31)).alloc (.cells #[.slice A m m,.slice (some ⟨V.heap.size,0,none⟩) 1 1,.slice Ah (sn-m) ch] 34)).drew (some ⟨V.heap.size,0,none⟩) 1 [n.id]:=⟨rfl,λ_=>⟨V.heap.size,0,rfl,λi hi=>by
     have:i=0:=by simpa using hi
     subst this;simp[go_sem]⟩⟩
    have k0:((V.alloc (.cells (idC n.id) 31)).alloc (.cells #[.slice A m m,.slice (some ⟨V.heap.size,0,none⟩) 1 1,.slice Ah (sn-m) ch] 34)).drew.cell? ⟨V.heap.size+1,0,none⟩=some (.slice A m m):=by simp[go_sem]
    have k1:((V.alloc (.cells (idC n.id) 31)).alloc (.cells #[.slice A m m,.slice (some ⟨V.heap.size,0,none⟩) 1 1,.slice Ah (sn-m) ch] 34)).drew.cell? ⟨V.heap.size+1,1,none⟩=some (.slice (some ⟨V.heap.size,0,none⟩) 1 1):=by simp[go_sem]
    have k2:((V.alloc (.cells (idC n.id) 31)).alloc (.cells #[.slice A m m,.slice (some ⟨V.heap.size,0,none⟩) 1 1,.slice Ah (sn-m) ch] 34)).drew.cell? ⟨V.heap.size+1,2,none⟩=some (.slice Ah (sn-m) ch):=by simp[go_sem]
    have h8:((V.alloc (.cells (idC n.id) 31)).alloc (.cells #[.slice A m m,.slice (some ⟨V.heap.size,0,none⟩) 1 1,.slice Ah (sn-m) ch] 34)).drew.heap.size=V.heap.size+2:=by simp[World.drew]
    have k6:=e3.size;have d0:=zE I;obtain⟨X,hX⟩:=eX (((V.alloc (.cells (idC n.id) 31)).alloc (.cells #[.slice A m m,.slice (some ⟨V.heap.size,0,none⟩) 1 1,.slice Ah (sn-m) ch] 34)).drew)
    rw[hX]at b6 t1 t2 t3 k0 k1 k2 h8 hS |-;clear hX;have cc:=X8 X (V.heap.size+1) 3 A (some ⟨V.heap.size,0,none⟩) Ah m 1 (sn-m) m 1 ch _ _ _ t1 t2 t3 (λe=>oH (f.nil e)) (λe=>by cases e) h3 k0 k1 k2 oM oM;refine lQ ?_;intro K hK;refine cc.mono ?_;rintro e wC ⟨A5,T,rfl,t,d7⟩;replace hS:=bW hS d7;refine⟨_,rfl,hS,hK _ _ ?_⟩;clear hK K cc k0 k1 k2 t1 t2 t3;have k9:z9 [bb] V wC:=hS;obtain⟨l3,l1,i6,h6,a2,a7⟩:=d.behind;have f6:=yK b6 d7;have f3:=h6.kept (z9.of_below f6) sI;have i0:((K.map zW.id).take m ++ [n.id]++(K.map zW.id).drop m)=(jO n0 K n).map zW.id:=by rw[i8.out];simp[map_take,map_drop]
    rw[i0]at t;have a1:=t.slw;have E:∀x∈blk A5,x∉M/\x<wC.heap.size:=λx hx=>by
     obtain⟨h1,h2⟩:=t.at_base hx;exact⟨λhm=>oH (hM x hm),h2⟩
    obtain⟨wD,i4,d9,s,e8,c1⟩:=f3.update (P:=prog) (v:=(⟨A5,m+1+(sn-m),T⟩:Sl)) jA underlying100 (k:=n.ref) trivial;change (Instr.mapUpdate 100 (.map (some bb)) (.agg (idC n.ref)) (.slice A5 (m+1+(sn-m)) T)).run prog wC=.ok () wD at s;refine lH ?_;intro K hK;refine zI (yC hS c1 sI) (λhS=>?_);refine hK _ _ ?_;clear hK K;refine zD ?_;intro hS;have D:z9 [bb] V wD:=hS;have B:=(D.block g d.ltg b0).trans d.blk;have d3:bn∉[bb]:=by simpa using d.ne.1
    have d5:bg∉[bb]:=by simpa using λe=>d.ne.2.2 e.symm
    obtain⟨l0,i5,e6⟩:=d.nodes;have e7:=e6.kept D d3;have f1:=d.gone.kept D d5;have a0:SlW wD A5 (m+1+(sn-m)) T 32 (((jO n0 K n).map zW.id).map idC):=a1.kept c1 (λx hx hm=>by
     have e:x=bb:=by simpa using hm
     subst e;exact(E _ hx).1 d.inM.2.1)
    have a5:zA wD ga 0 32=some (idC n.id):=(D.row d0 sO _ _).trans I;have a4:zA wD (ga+1) 0 34=some (zP (xH n)):=(D.row (zE H) sO _ _).trans H;have b5:wD.cell? ⟨g,0,none⟩=some (.map (some bn)):=by rw[cell_of_row wD g 0 _ _ _ B];rfl
    have g2:=D.size;clear b1 b2 b3 L hS s f3 e6 a1 d7 b6 f6 g5 h0 f0 a3 c5;go_upto_region 6 with fail
    obtain⟨wE,i3,d8,s,c7,e9⟩:=(e7.kept (z9.drew wD) sI).update (P:=prog) (v:=xH n) jA underlying236 (k:=n.id) trivial;change (Instr.mapUpdate 236 (.map (some bn)) (.agg (idC n.id)) (.agg (zP (xH n)))).run prog wD.drew=.ok () wE at s;have a9:g∉[bn]:=by simpa using d.neg.1
    refine kX [bn] wD ?_;intro L hS;have b1:=zG b5 a9;have b2:=zY a5 (S:=[bn]) sO;have b3:=zY a4 (S:=[bn]) sO;refine lQ ?_;intro K hK;refine zI (yC hS e9 sI) (λhS=>?_);refine hK _ _ ?_;clear hK K;refine zD ?_;intro hS;have F:z9 [bn] wD wE:=hS;have a6:bS (N.map λn=>(n.id,xH n)) n.id (xH n)=(N ++ [n]).map λn=>(n.id,xH n):=by
     unfold bS;rw[if_neg (by rw[map_map];exact J),map_append];rfl
    rw[a6]at c7;have d4:bb∉[bn]:=by simpa using λe=>d.ne.1 e.symm
    have d6:bg∉[bn]:=by simpa using λe=>d.ne.2.1 e.symm
    have d1:xF wE M g bn bb bg (N ++ [n]) G:=by
     refine⟨(F.block g (oH d.ltg) a9).trans B,⟨i3,d8,c7⟩,⟨_,i4,d9,e8.kept F d4,λp hp=>?_,λr hr=>?_⟩,f1.kept F d6,d.inM,d.ne,?_,?_⟩
     ·rcases iF hp with e | ⟨hp,L⟩
      ·subst e;dsimp only;have g8:vC (N ++ [n]) n.ref=jO n0 (vC N n.ref) n:=by rw[wL,if_pos rfl]
       rw[g8,HK.out];exact⟨a0.kept F (λx hx hm=>by
        have e:x=bn:=by simpa using hm
        subst e;exact(E _ hx).1 d.inM.1),λx hx=>⟨(E x hx).1,Nat.lt_of_lt_of_le (E x hx).2 (Nat.le_trans c1.size F.size)⟩⟩
      ·obtain⟨s1,s2⟩:=a2 p hp;rw[wL,if_neg (λe=>L e.symm)];refine⟨(s1.kept D (λx hx hm=>?_)).kept F (λx hx hm=>?_),λx hx=>⟨(s2 x hx).1,Nat.lt_of_lt_of_le (s2 x hx).2 (Nat.le_trans D.size F.size)⟩⟩
       ·have e:x=bb:=by simpa using hm
        subst e;exact(s2 _ hx).1 d.inM.2.1
       ·have e:x=bn:=by simpa using hm
        subst e;exact(s2 _ hx).1 d.inM.1
     ·obtain⟨h1,h2⟩:=KQ hr;rw[wL,if_neg (λe=>h2 e.symm)];exact a7 r h1
     ·intro a ha b h7 e;rcases mem_append.1 ha with ha1 | ha1 <;> rcases mem_append.1 h7 with b7 | b7
      ·exact d.one a ha1 b b7 e
      ·have e2:b=n:=by simpa using b7
       rw[e2]at e;exact absurd (mem_map.2 ⟨a,ha1,e⟩) J
      ·have e2:a=n:=by simpa using ha1
       rw[e2]at e;exact absurd (mem_map.2 ⟨b,b7,e.symm⟩) J
      ·have e1:a=n:=by simpa using ha1
       have e2:b=n:=by simpa using b7
       rw[e1,e2]
     ·intro x hx;rcases mem_append.1 hx with hx | hx
      ·exact d.ok x hx
      ·have e:x=n:=by simpa using hx
       rw[e];exact hE
    have g9:z9 [bn,bb] w wE:=z9.trans (z9.trans ((z9.of_below (e3.mono (by rw[k3.out];exact lR))).mono (S':=[bn,bb]) sI) (D.mono (S':=[bn,bb]) sI) iL) (F.mono (S':=[bn,bb]) sI) iL;clear b1 b2 b3 L hS e9 c1 s c7 e8 e7 f1 a0 a5 a4 b5 B a2 a7 F D d a6;(go_wp2_with fail);go_end0;exact⟨rfl,d1,g9⟩
  ·have hd:decide (m<sn)=false:=by simpa using U
   have f4:=X4 (c:=n0) K n m (by rw[b8.out];exact c4) c8.out (λj3=>absurd (by rw[<-b8.out];exact j3) U);have i8:=dH f4;clear f4;go_upto_region 3 with fail
   refine lX wr ?_;intro L hS;refine lQ ?_;intro K hK;refine hK _ _ ?_;clear hK K;refine lZ ?_;refine zD ?_;intro hS;have R:=c3.drew;have d:=h2.below R;have f:=Y.below R;have I:zA wr.drew ga 0 32=some (idC n.id):=b9;have H:zA wr.drew (ga+1) 0 34=some (zP (xH n)):=(zH (R.block (ga+1) (zE Z)) _ _).trans Z;have e3:Below ga w wr.drew:=i2.trans (R.mono (oH (zE O)));have e4:=R.size;clear L hS R c3 U hd g0 c6 d2 b9;obtain⟨V,hV⟩:=eX wr.drew
   rw[hV]at d f I H e3 e4 |-;clear hV;have a3:zA V (ga+1) 1 32=some (idC n.ref):=by have:=yF H (j:=1) (m:=32) oM;rw[wG]at this;simpa[xH]using this
   have c5:=d.cell1;have g6:m<=sc:=Nat.le_trans c4 f.le;have g5:∀w0:World,(slS 34 (.slice A sn sc) none (some (.int .i64 m)) (some (.int .i64 m))).run prog w0=.ok (.slice A m m) w0:=λw0=>tI yP w0 A sn sc m g6;obtain⟨Ah,ch,h0,f0,h3⟩:=f.hi (P:=prog) yP (m:=m) c4;have b0:g∉[bb]:=by simpa using d.neg.2.1
   go_upto_region 5 with fail
   refine kX [bb] V ?_;intro L hS;have b1:=zG c5 b0;have b2:=zY I (S:=[bb]) sO;have b3:=zY a3 (S:=[bb]) sO;refine lQ ?_;intro K hK;refine zI (bX hS _) (λhS=>?_);refine hK _ _ ?_;clear hK K;refine lQ ?_;intro K hK;refine zI (bX hS _) (λhS=>?_);refine hK _ _ ?_;clear hK K;have b6:Below V.heap.size V ((V.alloc (.cells (idC n.id) 31)).alloc (.cells #[.slice A m m,.slice (some ⟨V.heap.size,0,none⟩) 1 1,.slice Ah (sn-m) ch] 34)).drew:=((bA).alloc sI _).drew;have t1:zX ((V.alloc (.cells (idC n.id) 31)).alloc (.cells #[.slice A m m,.slice (some ⟨V.heap.size,0,none⟩) 1 1,.slice Ah (sn-m) ch] 34)).drew A m ((K.map zW.id).take m):=by
    have:=(f.rd.below b6).take_ c4
    rwa [<-map_take]at this
   have t3:zX ((V.alloc (.cells (idC n.id) 31)).alloc (.cells #[.slice A m m,.slice (some ⟨V.heap.size,0,none⟩) 1 1,.slice Ah (sn-m) ch] 34)).drew Ah (sn-m) ((K.map zW.id).drop m):=by
    have:=f0 _ (f.rd.below b6)
    rwa [<-map_drop]at this
   have t2:zX ((V.alloc (.cells (idC n.id) 31)).alloc (.cells #[.slice A m m,.slice (some ⟨V.heap.size,0,none⟩) 1 1,.slice Ah (sn-m) ch] 34)).drew (some ⟨V.heap.size,0,none⟩) 1 [n.id]:=⟨rfl,λ_=>⟨V.heap.size,0,rfl,λi hi=>by
    have:i=0:=by simpa using hi
    subst this;simp[go_sem]⟩⟩
   have k0:((V.alloc (.cells (idC n.id) 31)).alloc (.cells #[.slice A m m,.slice (some ⟨V.heap.size,0,none⟩) 1 1,.slice Ah (sn-m) ch] 34)).drew.cell? ⟨V.heap.size+1,0,none⟩=some (.slice A m m):=by simp[go_sem]
   have k1:((V.alloc (.cells (idC n.id) 31)).alloc (.cells #[.slice A m m,.slice (some ⟨V.heap.size,0,none⟩) 1 1,.slice Ah (sn-m) ch] 34)).drew.cell? ⟨V.heap.size+1,1,none⟩=some (.slice (some ⟨V.heap.size,0,none⟩) 1 1):=by simp[go_sem]
   have k2:((V.alloc (.cells (idC n.id) 31)).alloc (.cells #[.slice A m m,.slice (some ⟨V.heap.size,0,none⟩) 1 1,.slice Ah (sn-m) ch] 34)).drew.cell? ⟨V.heap.size+1,2,none⟩=some (.slice Ah (sn-m) ch):=by simp[go_sem]
   have h8:((V.alloc (.cells (idC n.id) 31)).alloc (.cells #[.slice A m m,.slice (some ⟨V.heap.size,0,none⟩) 1 1,.slice Ah (sn-m) ch] 34)).drew.heap.size=V.heap.size+2:=by simp[World.drew]
   have k6:=e3.size;have d0:=zE I;obtain⟨X,hX⟩:=eX (((V.alloc (.cells (idC n.id) 31)).alloc (.cells #[.slice A m m,.slice (some ⟨V.heap.size,0,none⟩) 1 1,.slice Ah (sn-m) ch] 34)).drew)
   rw[hX]at b6 t1 t2 t3 k0 k1 k2 h8 hS |-;clear hX;have cc:=X8 X (V.heap.size+1) 3 A (some ⟨V.heap.size,0,none⟩) Ah m 1 (sn-m) m 1 ch _ _ _ t1 t2 t3 (λe=>oH (f.nil e)) (λe=>by cases e) h3 k0 k1 k2 oM oM;refine lQ ?_;intro K hK;refine cc.mono ?_;rintro e wC ⟨A5,T,rfl,t,d7⟩;replace hS:=bW hS d7;refine⟨_,rfl,hS,hK _ _ ?_⟩;clear hK K cc k0 k1 k2 t1 t2 t3;have k9:z9 [bb] V wC:=hS;obtain⟨l3,l1,i6,h6,a2,a7⟩:=d.behind;have f6:=yK b6 d7;have f3:=h6.kept (z9.of_below f6) sI;have i0:((K.map zW.id).take m ++ [n.id]++(K.map zW.id).drop m)=(jO n0 K n).map zW.id:=by rw[i8.out];simp[map_take,map_drop]
   rw[i0]at t;have a1:=t.slw;have E:∀x∈blk A5,x∉M/\x<wC.heap.size:=λx hx=>by
    obtain⟨h1,h2⟩:=t.at_base hx;exact⟨λhm=>oH (hM x hm),h2⟩
   obtain⟨wD,i4,d9,s,e8,c1⟩:=f3.update (P:=prog) (v:=(⟨A5,m+1+(sn-m),T⟩:Sl)) jA underlying100 (k:=n.ref) trivial;change (Instr.mapUpdate 100 (.map (some bb)) (.agg (idC n.ref)) (.slice A5 (m+1+(sn-m)) T)).run prog wC=.ok () wD at s;refine lH ?_;intro K hK;refine zI (yC hS c1 sI) (λhS=>?_);refine hK _ _ ?_;clear hK K;refine zD ?_;intro hS;have D:z9 [bb] V wD:=hS;have B:=(D.block g d.ltg b0).trans d.blk;have d3:bn∉[bb]:=by simpa using d.ne.1
   have d5:bg∉[bb]:=by simpa using λe=>d.ne.2.2 e.symm
   obtain⟨l0,i5,e6⟩:=d.nodes;have e7:=e6.kept D d3;have f1:=d.gone.kept D d5;have a0:SlW wD A5 (m+1+(sn-m)) T 32 (((jO n0 K n).map zW.id).map idC):=a1.kept c1 (λx hx hm=>by
    have e:x=bb:=by simpa using hm
    subst e;exact(E _ hx).1 d.inM.2.1)
   have a5:zA wD ga 0 32=some (idC n.id):=(D.row d0 sO _ _).trans I;have a4:zA wD (ga+1) 0 34=some (zP (xH n)):=(D.row (zE H) sO _ _).trans H;have b5:wD.cell? ⟨g,0,none⟩=some (.map (some bn)):=by rw[cell_of_row wD g 0 _ _ _ B];rfl
   have g2:=D.size;clear b1 b2 b3 L hS s f3 e6 a1 d7 b6 f6 g5 h0 f0 a3 c5;go_upto_region 6 with fail
   obtain⟨wE,i3,d8,s,c7,e9⟩:=(e7.kept (z9.drew wD) sI).update (P:=prog) (v:=xH n) jA underlying236 (k:=n.id) trivial;change (Instr.mapUpdate 236 (.map (some bn)) (.agg (idC n.id)) (.agg (zP (xH n)))).run prog wD.drew=.ok () wE at s;have a9:g∉[bn]:=by simpa using d.neg.1
   refine kX [bn] wD ?_;intro L hS;have b1:=zG b5 a9;have b2:=zY a5 (S:=[bn]) sO;have b3:=zY a4 (S:=[bn]) sO;refine lQ ?_;intro K hK;refine zI (yC hS e9 sI) (λhS=>?_);refine hK _ _ ?_;clear hK K;refine zD ?_;intro hS;have F:z9 [bn] wD wE:=hS;have a6:bS (N.map λn=>(n.id,xH n)) n.id (xH n)=(N ++ [n]).map λn=>(n.id,xH n):=by
    unfold bS;rw[if_neg (by rw[map_map];exact J),map_append];rfl
   rw[a6]at c7;have d4:bb∉[bn]:=by simpa using λe=>d.ne.1 e.symm
   have d6:bg∉[bn]:=by simpa using λe=>d.ne.2.1 e.symm
   have d1:xF wE M g bn bb bg (N ++ [n]) G:=by
    refine⟨(F.block g (oH d.ltg) a9).trans B,⟨i3,d8,c7⟩,⟨_,i4,d9,e8.kept F d4,λp hp=>?_,λr hr=>?_⟩,f1.kept F d6,d.inM,d.ne,?_,?_⟩
    ·rcases iF hp with e | ⟨hp,L⟩
     ·subst e;dsimp only;have g8:vC (N ++ [n]) n.ref=jO n0 (vC N n.ref) n:=by rw[wL,if_pos rfl]
      rw[g8,HK.out];exact⟨a0.kept F (λx hx hm=>by
       have e:x=bn:=by simpa using hm
       subst e;exact(E _ hx).1 d.inM.1),λx hx=>⟨(E x hx).1,Nat.lt_of_lt_of_le (E x hx).2 (Nat.le_trans c1.size F.size)⟩⟩
     ·obtain⟨s1,s2⟩:=a2 p hp;rw[wL,if_neg (λe=>L e.symm)];refine⟨(s1.kept D (λx hx hm=>?_)).kept F (λx hx hm=>?_),λx hx=>⟨(s2 x hx).1,Nat.lt_of_lt_of_le (s2 x hx).2 (Nat.le_trans D.size F.size)⟩⟩
      ·have e:x=bb:=by simpa using hm
       subst e;exact(s2 _ hx).1 d.inM.2.1
      ·have e:x=bn:=by simpa using hm
       subst e;exact(s2 _ hx).1 d.inM.1
    ·obtain⟨h1,h2⟩:=KQ hr;rw[wL,if_neg (λe=>h2 e.symm)];exact a7 r h1
    ·intro a ha b h7 e;rcases mem_append.1 ha with ha1 | ha1 <;> rcases mem_append.1 h7 with b7 | b7
     ·exact d.one a ha1 b b7 e
     ·have e2:b=n:=by simpa using b7
      rw[e2]at e;exact absurd (mem_map.2 ⟨a,ha1,e⟩) J
     ·have e2:a=n:=by simpa using ha1
      rw[e2]at e;exact absurd (mem_map.2 ⟨b,b7,e.symm⟩) J
     ·have e1:a=n:=by simpa using ha1
      have e2:b=n:=by simpa using b7
      rw[e1,e2]
    ·intro x hx;rcases mem_append.1 hx with hx | hx
     ·exact d.ok x hx
     ·have e:x=n:=by simpa using hx
      rw[e];exact hE
   have g9:z9 [bn,bb] w wE:=z9.trans (z9.trans ((z9.of_below (e3.mono (by rw[k3.out];exact lR))).mono (S':=[bn,bb]) sI) (D.mono (S':=[bn,bb]) sI) iL) (F.mono (S':=[bn,bb]) sI) iL;clear b1 b2 b3 L hS e9 c1 s c7 e8 e7 f1 a0 a5 a4 b5 B a2 a7 F D d a6;(go_wp2_with fail);go_end0;exact⟨rfl,d1,g9⟩
def VI(N:List zW)(n:zW):List zW:=if vS n=0 then(if n.id∈N.map zW.id then N else N ++ [n])else N
@[go_sem] theorem BR(w:World):(zeroValue 240).run prog w=.ok (.agg (zP qW)) w:=kR
theorem sqinsert(n:zW)(w:World)(M:List Nat)(g bn bb bg:Nat)(N:List zW)(G:List zB)(h:xF w M g bn bb bg N G)(hM:∀x∈M,x<w.heap.size)(hv:n.val.size<=9223372036854775807)(hl:N.length<=100000) :
  Calls prog 246 #[.pointer (some ⟨g,0,none⟩),.agg (idC n.id),.int .i64 n.h,.agg (idC n.ref),.string n.val] w λe w'=>e=.returned (.int .i64 (vS n))/\xF w' M g bn bb bg (VI N n) G/\z9 [bn,bb] w w':=by
 have A:Below w.heap.size w (((w.alloc (.cells (idC n.id) 31)).alloc (.cells (idC n.ref) 31)).alloc (.cells (zP ⟨n.h,n.ref,n.val⟩) 240)):=((bA).alloc sI _).alloc sO _;have h0:=h.below A;have F:zA (((w.alloc (.cells (idC n.id) 31)).alloc (.cells (idC n.ref) 31)).alloc (.cells (zP ⟨n.h,n.ref,n.val⟩) 240)) w.heap.size 0 32=some (idC n.id):=by simp[go_sem];intro e;omega
 have D:zA (((w.alloc (.cells (idC n.id) 31)).alloc (.cells (idC n.ref) 31)).alloc (.cells (zP ⟨n.h,n.ref,n.val⟩) 240)) (w.heap.size+2) 0 34=some (zP ⟨n.h,n.ref,n.val⟩):=by simp[go_sem]
 have H:((w.alloc (.cells (idC n.id) 31)).alloc (.cells (idC n.ref) 31)).cell? ⟨g,0,none⟩=some (.map (some bn)):=((((Below.refl w.heap.size w).alloc lR (.cells (idC n.id) 31)).alloc sI (.cells (idC n.ref) 31)).cell (p:=⟨g,0,none⟩) h.ltg).trans h.cell0;have a2:zP (xH n)=zP ⟨n.h,n.ref,n.val⟩:=rfl;go_enter func246,ntmps246
 (go_wp2_with fail);refine(nZ _ g bn H).mono ?_;rintro e w1 ⟨rfl,rfl⟩;go_upto_region 4 with fail
 obtain⟨ga,Y⟩:=eX w.heap.size
 have O:=dH Y;rw[Y]at F D A hM |-;obtain⟨W,hW⟩:=eR (((w.alloc (.cells (idC n.id) 31)).alloc (.cells (idC n.ref) 31)).alloc (.cells (zP ⟨n.h,n.ref,n.val⟩) 240))
 rw[<-hW]at h0 F D A |-;clear hW Y H;have cc:=zi n.id n rfl W hv;rw[a2]at cc;obtain⟨E,hE⟩:=eX (vS n)
 rw[hE]at cc;have HE:=dH hE;have t:Hid (VI N n=if vS n=0 then(if n.id∈N.map zW.id then N else N ++ [n])else N):=rfl;clear hE;(go_wp2_with fail);refine cc.mono ?_;rintro e w2 ⟨rfl,I⟩;have L:Below ga w w2:=A.trans (I.mono (by have:=A.size;have:=O.out;omega));have h2:=h0.below I;have d:zA w2 ga 0 32=some (idC n.id):=(zH (I.block ga (zE F)) _ _).trans F;have f:zA w2 (ga+2) 0 34=some (zP ⟨n.h,n.ref,n.val⟩):=(zH (I.block (ga+2) (zE D)) _ _).trans D;clear cc I F D h0 A;by_cases V:E=0
 ·subst V;go_upto_region 7 with fail
  have T:=h2.cell0;obtain⟨es,a8,hn⟩:=h2.nodes;by_cases r:n.id∈N.map zW.id
  ·obtain⟨y,a3,U⟩:=mem_map.1 r;have hk:∀x:Subtype (Bel w2),(Instr.lookup 236 (.map (some bn)) (.agg (idC n.id)) true).run prog x.1=.ok (.tuple #[.agg (zP ⟨y.h,y.ref,y.val⟩),.bool true]) x.1:=λx=>by
    have:=nlook (hn.kept (z9.of_below x.2) sI) a3 true;rw[U]at this;exact this
   have Z:=dH r;clear r U hn;have X:(stS 240 ⟨w2.heap.size,0,none⟩ (.agg (zP ⟨y.h,y.ref,y.val⟩))).run prog (w2.alloc (.cells (zP qW) 240)).drew=.ok () (w2.alloc (.cells (zP ⟨y.h,y.ref,y.val⟩) 240)).drew:=nT w2.drew _ rfl _ sI ⟨y.h,y.ref,y.val⟩ _;have J:Hid (Bel w2 (w2.alloc (.cells (zP ⟨y.h,y.ref,y.val⟩) 240)).drew):=(bA).drew;refine lX w2 ?_;intro R hS;have b1:=zK T;have b2:=zS d;refine lQ ?_;intro K hK;refine zI (fH hS _) (λhS=>?_);refine hK _ _ ?_;clear hK K;refine lQ ?_;intro K hK;first | refine zI J.out (λhS=>?_) | skip
   refine hK _ _ ?_;clear hK K;refine lZ ?_;refine zD ?_;intro hS;have j:Below w2.heap.size w2 (w2.alloc (.cells (zP ⟨y.h,y.ref,y.val⟩) 240)).drew:=hS;have h3:=h2.below j;have s:=L.trans (j.mono (oH (zE d)));have m:zA (w2.alloc (.cells (zP ⟨y.h,y.ref,y.val⟩) 240)).drew ga 0 32=some (idC n.id):=(zH (j.block ga (zE d)) _ _).trans d;have k:zA (w2.alloc (.cells (zP ⟨y.h,y.ref,y.val⟩) 240)).drew (ga+2) 0 34=some (zP ⟨n.h,n.ref,n.val⟩):=(zH (j.block (ga+2) (zE f)) _ _).trans f;clear b1 b2 R hS j X J hk T d f h2 L;obtain⟨w3,B⟩:=eX ((w2.alloc (.cells (zP ⟨y.h,y.ref,y.val⟩) 240)).drew)
   rw[B]at h3 s m k |-;clear B;(go_wp2_with fail);go_ret;have e1:VI N n=N:=by rw[t.out,if_pos HE.out,if_pos Z.out]
   exact⟨yA (by rw[HE.out]),by rw[e1];exact h3,(z9.of_below (s.mono (by rw[O.out];exact lR))).mono sI⟩
  ·have a0:n.id∉(N.map λn=>(n.id,xH n)).map (·.1):=by rw[map_map];exact r
   have hk:∀x:Subtype (Bel w2),(Instr.lookup 236 (.map (some bn)) (.agg (idC n.id)) true).run prog x.1=.ok (.tuple #[.agg (zP qW),.bool false]) x.1:=λx =>
    (hn.kept (z9.of_below x.2) sI).miss jA underlying236 (BR x.1) trivial a0 true
   have Z:=dH r;clear a0 hn;have X:(stS 240 ⟨w2.heap.size,0,none⟩ (.agg (zP qW))).run prog (w2.alloc (.cells (zP qW) 240)).drew=.ok () (w2.alloc (.cells (zP qW) 240)).drew:=nT w2.drew _ rfl _ sI qW _;have J:Hid (Bel w2 (w2.alloc (.cells (zP qW) 240)).drew):=(bA).drew;refine lX w2 ?_;intro R hS;have b1:=zK T;have b2:=zS d;refine lQ ?_;intro K hK;refine zI (fH hS _) (λhS=>?_);refine hK _ _ ?_;clear hK K;refine lQ ?_;intro K hK;first | refine zI J.out (λhS=>?_) | skip
   refine hK _ _ ?_;clear hK K;refine lZ ?_;refine zD ?_;intro hS;have j:Below w2.heap.size w2 (w2.alloc (.cells (zP qW) 240)).drew:=hS;have h3:=h2.below j;have s:=L.trans (j.mono (oH (zE d)));have m:zA (w2.alloc (.cells (zP qW) 240)).drew ga 0 32=some (idC n.id):=(zH (j.block ga (zE d)) _ _).trans d;have k:zA (w2.alloc (.cells (zP qW) 240)).drew (ga+2) 0 34=some (zP ⟨n.h,n.ref,n.val⟩):=(zH (j.block (ga+2) (zE f)) _ _).trans f;clear b1 b2 R hS j X J hk T d f h2 L;obtain⟨w3,B⟩:=eX ((w2.alloc (.cells (zP qW) 240)).drew)
   rw[B]at h3 s m k |-;clear B;have a7:=s.size;have a5:∀x∈M,x<w3.heap.size:=λx hx=>(by have:=hM x hx;have:=O.out;omega);have ch:=sqhang n w3 M g bn bb bg N G h3 a5 r HE.out hl;rw[a2]at ch;clear r;(go_wp2_with fail);refine ch.mono ?_;rintro e w4 ⟨rfl,h4,a1⟩;have a4:z9 [bn,bb] w w4:=z9.trans ((z9.of_below (s.mono (by rw[O.out];exact lR))).mono (S':=[bn,bb]) sI) a1 iL;clear ch a1 h3 s m k;(go_wp2_with fail);go_ret;have e1:VI N n=N ++ [n]:=by rw[t.out,if_pos HE.out,if_neg Z.out]
   exact⟨yA (by rw[HE.out]),by rw[e1];exact h4,a4⟩
 ·have R:(E != 0)=true:=by simpa using V
  have a6:=dH V;clear V;(go_wp2_with fail);go_ret;have e1:VI N n=N:=by rw[t.out,if_neg (by rw[HE.out];exact a6.out)]
  exact⟨yA (by rw[HE.out]),by rw[e1];exact h2,(z9.of_below (L.mono (by rw[O.out];exact lR))).mono sI⟩
theorem xl(w:World):Calls prog 85 #[.int .i64 2] w λe w'=>∃gs,e=.returned (.iface 141 (.pointer (some ⟨gs,0,none⟩)))/\(∃bl bg,qS w' gs bl bg [] []/\w.heap.size<=gs/\w.heap.size<=bl/\w.heap.size<=bg)/\Below w.heap.size w w':=by
 go_enter func85,ntmps85
 (go_wp2_with fail);refine(bnew w).mono ?_;rintro e w1 ⟨g,bl,bg,rfl,h1,h2,h3,h4,hb⟩;have H:=dH (And.intro h1 (And.intro h2 (And.intro h3 h4)));clear h1 h2 h3 h4;(go_wp2_with fail);go_ret;exact⟨_,rfl,⟨bl,bg,H.out⟩,hb⟩
theorem xj(w:World):Calls prog 85 #[.int .i64 3] w λe w'=>∃gs,e=.returned (.iface 143 (.pointer (some ⟨gs,0,none⟩)))/\(∃b,xD w' gs b []/\w.heap.size<=gs/\w.heap.size<=b)/\Below w.heap.size w w':=by
 go_enter func85,ntmps85
 (go_wp2_with fail);refine(lnew w).mono ?_;rintro e w1 ⟨g,b,rfl,h1,h2,h3,hb⟩;have H:=dH (And.intro h1 (And.intro h2 h3));clear h1 h2 h3;(go_wp2_with fail);go_ret;exact⟨_,rfl,⟨b,H.out⟩,hb⟩
theorem xh(w:World):Calls prog 85 #[.int .i64 4] w λe w'=>∃gs,e=.returned (.iface 144 (.pointer (some ⟨gs,0,none⟩)))/\(∃bl bo,xS w' gs bl bo [] []/\w.heap.size<=gs/\w.heap.size<=bl/\w.heap.size<=bo)/\Below w.heap.size w w':=by
 go_enter func85,ntmps85
 (go_wp2_with fail);refine(mnew w).mono ?_;rintro e w1 ⟨g,bl,bg,rfl,h1,h2,h3,h4,hb⟩;have H:=dH (And.intro h1 (And.intro h2 (And.intro h3 h4)));clear h1 h2 h3 h4;(go_wp2_with fail);go_ret;exact⟨_,rfl,⟨bl,bg,H.out⟩,hb⟩
theorem xg(w:World):Calls prog 85 #[.int .i64 5] w λe w'=>∃gs,e=.returned (.iface 145 (.pointer (some ⟨gs,0,none⟩)))/\(∃bn bb bg,(∀M,bn∈M->bb∈M->bg∈M->xF w' M gs bn bb bg [] [])/\w.heap.size<=gs/\w.heap.size<=bn/\w.heap.size<=bb/\w.heap.size<=bg)/\Below w.heap.size w w':=by
 go_enter func85,ntmps85
 (go_wp2_with fail);refine(sqnew w).mono ?_;rintro e w1 ⟨g,bn,bb,bg,rfl,h1,h2,h3,h4,h5,hb⟩;have H:=dH (And.intro h1 (And.intro h2 (And.intro h3 (And.intro h4 h5))));clear h1 h2 h3 h4 h5;(go_wp2_with fail);go_ret;exact⟨_,rfl,⟨bn,bb,bg,H.out⟩,hb⟩
theorem vdoes_b2(m:j9)(o:OpV)(A:Option Addr)(c:Nat)(w:World)(g gt bl bg:Nat)(t:ByteArray)(b:Nat)(I:List zB)(L G:List xC)(h:yU w g t b I (.iface 141 (.pointer (some ⟨gt,0,none⟩))))(hT:qS w gt bl bg L G)(hk:o.k=2)(hv:o.val.size<=16) :
  Calls prog 175 #[.pointer (some ⟨g,0,none⟩),.agg (y8 m),.agg (opC o A c)] w λe w'=>e=.returned (.tuple #[])/\qS w' gt bl bg (JP L G ⟨m.id,o.val⟩) G/\z9 [bl] w w':=by
 obtain⟨k,n,key,val,ref,refs⟩:=o;dsimp only at *;unfold opC at *;dsimp only at *;have hB:Below w.heap.size w ((w.alloc (.cells (y8 m) 181)).alloc (.cells (zQ ⟨k,n,key,val,ref,.slice A refs.length c⟩) 73)):=(bA).alloc sI _;have hc:=(h.below hB).cell2;have s:=hT.below hB;have f:zA ((w.alloc (.cells (y8 m) 181)).alloc (.cells (zQ ⟨k,n,key,val,ref,.slice A refs.length c⟩) 73)) w.heap.size 0 34=some (y8 m):=((z9.alloc (w.alloc (.cells (y8 m) 181)) _).row sI sI 0 34).trans (by simp[go_sem]);have y:zA ((w.alloc (.cells (y8 m) 181)).alloc (.cells (zQ ⟨k,n,key,val,ref,.slice A refs.length c⟩) 73)) w.heap.size 0 32=some (idC m.id):=by have:=yF f (j:=0) (m:=32) oM;rwa [gI]at this
 have B:((k:Int)==2)=true:=by rw[hk];rfl
 clear hk;have ci:=λw' (h':qS w' gt bl bg L G)=>badd m.id val w' gt bl bg L G h' oM;clear hT h;have Hv:=dH hv;clear hv;go_enter func175,ntmps175
 (go_wp2_with fail);refine(ci _ s).mono ?_;rintro e w1 ⟨rfl,h1,r⟩;have d:z9 [bl] w w1:=z9.trans ((z9.of_below hB).mono (S':=[bl]) sI) r iL;clear hB hc s ci r f y;(go_wp2_with fail);go_end0;exact⟨rfl,h1,d⟩
theorem vdoes_b3(m:j9)(o:OpV)(A:Option Addr)(c:Nat)(w:World)(g gt bl bg:Nat)(t:ByteArray)(b:Nat)(I:List zB)(L G:List xC)(h:yU w g t b I (.iface 141 (.pointer (some ⟨gt,0,none⟩))))(hT:qS w gt bl bg L G)(hk:(o.k==2)=false)(hv:o.val.size<=16)(hA:zX w A o.refs.length o.refs)(hn:o.refs.length<=8) :
  Calls prog 175 #[.pointer (some ⟨g,0,none⟩),.agg (y8 m),.agg (opC o A c)] w λe w'=>e=.returned (.tuple #[])/\qS w' gt bl bg (aL L o.val o.refs) (XY G o.val o.refs)/\z9 [bl,bg] w w':=by
 obtain⟨k,n,key,val,ref,refs⟩:=o;dsimp only at *;unfold opC at *;dsimp only at *;have hB:Below w.heap.size w ((w.alloc (.cells (y8 m) 181)).alloc (.cells (zQ ⟨k,n,key,val,ref,.slice A refs.length c⟩) 73)):=(bA).alloc sI _;have hc:=(h.below hB).cell2;have s:=hT.below hB;have f:zA ((w.alloc (.cells (y8 m) 181)).alloc (.cells (zQ ⟨k,n,key,val,ref,.slice A refs.length c⟩) 73)) w.heap.size 0 34=some (y8 m):=((z9.alloc (w.alloc (.cells (y8 m) 181)) _).row sI sI 0 34).trans (by simp[go_sem]);have B:zA ((w.alloc (.cells (y8 m) 181)).alloc (.cells (zQ ⟨k,n,key,val,ref,.slice A refs.length c⟩) 73)) w.heap.size 0 32=some (idC m.id):=by have:=yF f (j:=0) (m:=32) oM;rwa [gI]at this
 have y:zX _ A refs.length refs:=SlR.below hA hB;have ci:=λw' (h':qS w' gt bl bg L G) (hA':zX w' A refs.length refs)=>brem_ok val A refs.length c refs w' gt bl bg L G h' hA' hv oM;have HA:=dH y;clear hT h hA hn y;have Hv:=dH hv;clear hv;go_enter func175,ntmps175
 (go_wp2_with fail);refine(ci _ s HA.out).mono ?_;rintro e w1 ⟨rfl,h1,r⟩;have d:z9 [bl,bg] w w1:=z9.trans ((z9.of_below hB).mono (S':=[bl,bg]) sI) r iL;clear hB hc s ci r f B HA;(go_wp2_with fail);go_end0;exact⟨rfl,h1,d⟩
theorem vdoes_l(m:j9)(o:OpV)(A:Option Addr)(c:Nat)(w:World)(g gt bl:Nat)(t:ByteArray)(b:Nat)(I:List zB)(L:List jJ)(h:yU w g t b I (.iface 143 (.pointer (some ⟨gt,0,none⟩))))(hT:xD w gt bl L)(hk:o.key.size<=16)(hv:o.val.size<=16) :
  Calls prog 175 #[.pointer (some ⟨g,0,none⟩),.agg (y8 m),.agg (opC o A c)] w λe w'=>e=.returned (.tuple #[])/\xD w' gt bl (V4 L o.key ⟨o.val,o.n,m.id⟩)/\z9 [bl] w w':=by
 obtain⟨k,n,key,val,ref,refs⟩:=o;dsimp only at *;unfold opC at *;dsimp only at *;have hB:Below w.heap.size w ((w.alloc (.cells (y8 m) 181)).alloc (.cells (zQ ⟨k,n,key,val,ref,.slice A refs.length c⟩) 73)):=(bA).alloc sI _;have hc:=(h.below hB).cell2;have s:=hT.below hB;have f:zA ((w.alloc (.cells (y8 m) 181)).alloc (.cells (zQ ⟨k,n,key,val,ref,.slice A refs.length c⟩) 73)) w.heap.size 0 34=some (y8 m):=((z9.alloc (w.alloc (.cells (y8 m) 181)) _).row sI sI 0 34).trans (by simp[go_sem]);have y:zA ((w.alloc (.cells (y8 m) 181)).alloc (.cells (zQ ⟨k,n,key,val,ref,.slice A refs.length c⟩) 73)) w.heap.size 0 32=some (idC m.id):=by have:=yF f (j:=0) (m:=32) oM;rwa [gI]at this
 have ci:=λw' (h':xD w' gt bl L)=>lset key val n m.id w' gt bl L h' oM oM;clear hT h;have Hv:=dH (And.intro hk hv);clear hv hk;go_enter func175,ntmps175
 (go_wp2_with fail);refine(ci _ s).mono ?_;rintro e w1 ⟨rfl,h1,r⟩;have d:z9 [bl] w w1:=z9.trans ((z9.of_below hB).mono (S':=[bl]) sI) r iL;clear hB hc s ci r f y;(go_wp2_with fail);go_end0;exact⟨rfl,h1,d⟩
theorem vdoes_m(m:j9)(o:OpV)(A:Option Addr)(c:Nat)(w:World)(g gt bl bo:Nat)(t:ByteArray)(b:Nat)(I:List zB)(X:List qO)(O:List zB)(h:yU w g t b I (.iface 144 (.pointer (some ⟨gt,0,none⟩))))(hT:xS w gt bl bo X O)(hk:o.key.size<=16)(hv:o.val.size<=16)(hA:zX w A o.refs.length o.refs)(hn:o.refs.length<=8)(hX:X.length<1000000) :
  Calls prog 175 #[.pointer (some ⟨g,0,none⟩),.agg (y8 m),.agg (opC o A c)] w λe w'=>e=.returned (.tuple #[])/\xS w' gt bl bo (setX X O ⟨m.id,o.key,o.val⟩ o.refs) (aM O o.refs)/\z9 [bl,bo] w w':=by
 obtain⟨k,n,key,val,ref,refs⟩:=o;dsimp only at *;unfold opC at *;dsimp only at *;have hB:Below w.heap.size w ((w.alloc (.cells (y8 m) 181)).alloc (.cells (zQ ⟨k,n,key,val,ref,.slice A refs.length c⟩) 73)):=(bA).alloc sI _;have hc:=(h.below hB).cell2;have s:=hT.below hB;have f:zA ((w.alloc (.cells (y8 m) 181)).alloc (.cells (zQ ⟨k,n,key,val,ref,.slice A refs.length c⟩) 73)) w.heap.size 0 34=some (y8 m):=((z9.alloc (w.alloc (.cells (y8 m) 181)) _).row sI sI 0 34).trans (by simp[go_sem]);have B:zA ((w.alloc (.cells (y8 m) 181)).alloc (.cells (zQ ⟨k,n,key,val,ref,.slice A refs.length c⟩) 73)) w.heap.size 0 32=some (idC m.id):=by have:=yF f (j:=0) (m:=32) oM;rwa [gI]at this
 have y:zX _ A refs.length refs:=SlR.below hA hB;have ci:=λw' (h':xS w' gt bl bo X O) (hA':zX w' A refs.length refs)=>mset m.id key val A refs.length c refs w' gt bl bo X O h' hA' hk hv oM hX;have HA:=dH y;clear hT h hA hn y hX;have Hv:=dH (And.intro hk hv);clear hv hk;go_enter func175,ntmps175
 (go_wp2_with fail);refine(ci _ s HA.out).mono ?_;rintro e w1 ⟨rfl,h1,r⟩;have d:z9 [bl,bo] w w1:=z9.trans ((z9.of_below hB).mono (S':=[bl,bo]) sI) r iL;clear hB hc s ci r f B HA;(go_wp2_with fail);go_end0;exact⟨rfl,h1,d⟩
theorem vdoes_s6(m:j9)(o:OpV)(A:Option Addr)(c:Nat)(w:World)(g gt bn bb bg:Nat)(t:ByteArray)(b:Nat)(I:List zB)(M:List Nat)(N:List zW)(G:List zB)(h:yU w g t b I (.iface 145 (.pointer (some ⟨gt,0,none⟩))))(hT:xF w M gt bn bb bg N G)(hM:∀x∈M,x<w.heap.size)(hk:o.k=6)(hv:o.val.size<=16)(hN:N.length<=100000) :
  Calls prog 175 #[.pointer (some ⟨g,0,none⟩),.agg (y8 m),.agg (opC o A c)] w λe w'=>e=.returned (.tuple #[])/\xF w' M gt bn bb bg (VI N ⟨m.id,m.h,o.ref,o.val⟩) G/\z9 [bn,bb] w w':=by
 obtain⟨k,n,key,val,ref,refs⟩:=o;dsimp only at *;unfold opC at *;dsimp only at *;have hB:Below w.heap.size w ((w.alloc (.cells (y8 m) 181)).alloc (.cells (zQ ⟨k,n,key,val,ref,.slice A refs.length c⟩) 73)):=(bA).alloc sI _;have hc:=(h.below hB).cell2;have s:=hT.below hB;have d:zA ((w.alloc (.cells (y8 m) 181)).alloc (.cells (zQ ⟨k,n,key,val,ref,.slice A refs.length c⟩) 73)) w.heap.size 0 34=some (y8 m):=((z9.alloc (w.alloc (.cells (y8 m) 181)) _).row sI sI 0 34).trans (by simp[go_sem]);have D:zA ((w.alloc (.cells (y8 m) 181)).alloc (.cells (zQ ⟨k,n,key,val,ref,.slice A refs.length c⟩) 73)) w.heap.size 0 32=some (idC m.id):=by have:=yF d (j:=0) (m:=32) oM;rwa [gI]at this
 have E:((k:Int)==6)=true:=by rw[hk];rfl
 clear hk;have y:Hid (∀x∈M,x<_):=dH λx hx=>Nat.lt_of_lt_of_le (hM x hx) hB.size;have B:=zC d (j:=33-1) oM;have ci:=λw' (h':xF w' M gt bn bb bg N G) (hM':∀x∈M,x<w'.heap.size)=>sqinsert ⟨m.id,m.h,ref,val⟩ w' M gt bn bb bg N G h' hM' (by simp only;omega) hN;clear hT h hM hN;have Hv:=dH hv;clear hv;go_enter func175,ntmps175
 (go_wp2_with fail);refine(ci _ s y.out).mono ?_;rintro e w1 ⟨rfl,h1,r⟩;have f:z9 [bn,bb] w w1:=z9.trans ((z9.of_below hB).mono (S':=[bn,bb]) sI) r iL;clear hB hc s ci r d D B y;(go_wp2_with fail);go_end0;exact⟨rfl,h1,f⟩
theorem vdoes_s7(m:j9)(o:OpV)(A:Option Addr)(c:Nat)(w:World)(g gt bn bb bg:Nat)(t:ByteArray)(b:Nat)(I:List zB)(M:List Nat)(N:List zW)(G:List zB)(h:yU w g t b I (.iface 145 (.pointer (some ⟨gt,0,none⟩))))(hT:xF w M gt bn bb bg N G)(hk:(o.k==6)=false) :
  Calls prog 175 #[.pointer (some ⟨g,0,none⟩),.agg (y8 m),.agg (opC o A c)] w λe w'=>e=.returned (.tuple #[])/\xF w' M gt bn bb bg N (jO yE G o.ref)/\z9 [bg] w w':=by
 obtain⟨k,n,key,val,ref,refs⟩:=o;dsimp only at *;unfold opC at *;dsimp only at *;have hB:Below w.heap.size w ((w.alloc (.cells (y8 m) 181)).alloc (.cells (zQ ⟨k,n,key,val,ref,.slice A refs.length c⟩) 73)):=(bA).alloc sI _;have hc:=(h.below hB).cell2;have s:=hT.below hB;have f:zA ((w.alloc (.cells (y8 m) 181)).alloc (.cells (zQ ⟨k,n,key,val,ref,.slice A refs.length c⟩) 73)) w.heap.size 0 34=some (y8 m):=((z9.alloc (w.alloc (.cells (y8 m) 181)) _).row sI sI 0 34).trans (by simp[go_sem]);have y:zA ((w.alloc (.cells (y8 m) 181)).alloc (.cells (zQ ⟨k,n,key,val,ref,.slice A refs.length c⟩) 73)) w.heap.size 0 32=some (idC m.id):=by have:=yF f (j:=0) (m:=32) oM;rwa [gI]at this
 have ci:=λw' (h':xF w' M gt bn bb bg N G)=>sqdel ref w' M gt bn bb bg N G h';clear hT h;go_enter func175,ntmps175
 (go_wp2_with fail);refine(ci _ s).mono ?_;rintro e w1 ⟨rfl,h1,r⟩;have d:z9 [bg] w w1:=z9.trans ((z9.of_below hB).mono (S':=[bg]) sI) r iL;clear hB hc s ci r f y;(go_wp2_with fail);go_end0;exact⟨rfl,h1,d⟩
structure jI where
 key:ByteArray
 val:ByteArray
def yD(x:jI):Array Value:=#[.string x.key] ++ #[.string x.val]
@[simp] theorem wU(x:jI):(yD x).size=2:=by simp[yD]
@[go_sem] theorem jk(x:jI):(yD x)[0]?=some (.string x.key):=by first | (simp[yD,Array.getElem?_append];done) | (rw[show yD x=((#[]:Array Value)) ++ #[.string x.key]++(#[.string x.val])from by apply Array.ext';simp[yD]];exact xM _ _ _ _ sI)
@[go_sem] theorem pairC_gg0(x:jI)(h:0<(yD x).size):(yD x)[0]'h=.string x.key:=Option.some.inj ((Array.getElem?_eq_getElem h).symm.trans (jk x))
@[go_sem] theorem jj(x:jI):(yD x)[1]?=some (.string x.val):=by first | (simp[yD,Array.getElem?_append];done) | (rw[show yD x=(#[.string x.key]) ++ #[.string x.val]++((#[]:Array Value))from by apply Array.ext';simp[yD]];exact xM _ _ _ _ sI)
@[go_sem] theorem pairC_gg1(x:jI)(h:1<(yD x).size):(yD x)[1]'h=.string x.val:=Option.some.inj ((Array.getElem?_eq_getElem h).symm.trans (jj x))
@[go_sem] theorem pairC_all(x:jI):(yD x).extract 0 2=yD x:=by have:=Array.extract_size (xs:=yD x);rwa [wU]at this
theorem gG(x:jI):∀u∈(yD x).toList,u.oneCell'=true:=by
 intro u hu;simp only[yD,Array.toList_append,mem_append]at hu;rcases hu with hu | hu
 ·simp at hu;subst hu;rfl
 ·simp at hu;subst hu;rfl
def lW:jI:=⟨⟨#[]⟩,⟨#[]⟩⟩
theorem Pair_ext{x y:jI}(h:x.key=y.key/\x.val=y.val):x=y:=by cases x;cases y;simp_all
instance:DecidableEq jI:=λx y=>if h:x.key=y.key/\x.val=y.val then isTrue (Pair_ext h)else isFalse (λe=>h (by subst e;simp))
theorem vp:(prog.info? 147).map (·.size)=some 2:=kR
@[go_sem ↓] theorem eK(w:World):(zeroValue 147).run prog w=.ok (.agg (yD lW)) w:=by
 have h:(prog.info? 147).bind (·.zero)=some (.agg (yD lW)):=kR;cases hi:prog.info? 147 with
 | none=>rw[hi]at h;cases h
 | some i =>
  rw[hi]at h;have hz:i.zero=some (.agg (yD lW)):=h;simp[zeroValue,typeInfo,hi,hz]
@[go_sem ↓] theorem loadPair_rw(a:Addr):loadVar 147 a=ldS 147 a:=rfl
@[go_sem ↓] theorem storePair_rw(a:Addr)(v:Value):storeVar 147 a v=stS 147 a v:=rfl
@[go_sem] theorem loadPair_run(w:World)(g o:Nat):(ldS 147 ⟨g,o,none⟩).run prog w=match zA w g o 2 with | some cs=>.ok (.agg cs) w | none=>(loadVar 147 ⟨g,o,none⟩).run prog w :=
 jK underlying147 rfl vp w g o
theorem cR:prog.underlying 147=some (.struct (prog.fieldsOf 147)):=kR
theorem Q2(w:World):((prog.fieldsOf 147).mapM fun (f:Field)=>do pure (f.offset,<-sizeOf f.type)).run prog w=.ok #[(0,1),(1,1)] w:=kR
@[go_sem ↓] theorem buildPair_rw(parts:Array (Nat×Value)):Instr.build 147 parts=bdS 147 parts:=rfl
@[go_sem] theorem buildPair(a0:ByteArray)(a1:ByteArray)(w:World):(bdS 147 #[(0,.string a0),(1,.string a1)]).run prog w=.ok (.agg (yD ⟨a0,a1⟩)) w:=by
 refine qL w cR _ (eK w) _ (Q2 w) [(0,.string a0),(1,.string a1)] _ ?_;rw[show yD lW=(#[]:Array Value) ++ #[.string ⟨#[]⟩]++(#[.string ⟨#[]⟩])from by first | (simp[yD,lW,Array.append_assoc];done) | (apply Array.ext';simp[yD,lW])];rw[yT (off:=0) (size:=1) rfl sI sI (by simp[Value.cells])];rw[show(#[]:Array Value)++(Value.string a0).cells++(#[.string ⟨#[]⟩])=(#[.string a0]) ++ #[.string ⟨#[]⟩]++(#[]:Array Value)from by first | (simp[Value.cells,Array.append_assoc];done) | (apply Array.ext';simp[Value.cells];done) | (apply Array.ext';simp only[Array.toList_append];simp[Value.cells])];rw[yT (off:=1) (size:=1) rfl sI sI (by simp[Value.cells])];first | (simp[Instr.fill,yD,Array.append_assoc,Value.cells];done) | (simp only[Instr.fill,yD];congr 1;apply Array.ext';simp[Value.cells];done) | (simp only[Instr.fill,yD];congr 1;done) | (simp only[Instr.fill,yD];done)
@[go_sem] theorem buildPair_0(a0:ByteArray)(w:World):(bdS 147 #[(0,.string a0)]).run prog w=.ok (.agg (yD ⟨a0,⟨#[]⟩⟩)) w:=by
 refine qL w cR _ (eK w) _ (Q2 w) [(0,.string a0)] _ ?_;rw[show yD lW=(#[]:Array Value) ++ #[.string ⟨#[]⟩]++(#[.string ⟨#[]⟩])from by first | (simp[yD,lW,Array.append_assoc];done) | (apply Array.ext';simp[yD,lW])];rw[yT (off:=0) (size:=1) rfl sI sI (by simp[Value.cells])];first | (simp[Instr.fill,yD,Array.append_assoc,Value.cells];done) | (simp only[Instr.fill,yD];congr 1;apply Array.ext';simp[Value.cells];done) | (simp only[Instr.fill,yD];congr 1;done) | (simp only[Instr.fill,yD];done)
theorem bB:yR prog 40 147 2 32 :=
 .of (z:=.agg (yD lW)) underlying40 kR kR kR (wU _) oM
@[go_sem ↓] theorem bsPair_rw(n:Nat)(parts:Array (Nat×Value)):Instr.buildSlice 40 n parts=bsS 40 n parts:=rfl
@[go_sem] theorem bsPair_run(w:World)(x:jI):(bsS 40 1 #[(0,.agg (yD x))]).run prog w=.ok (.slice (some ⟨w.heap.size,0,none⟩) 1 1) (w.alloc (.cells (yD x) 147)) :=
 fK bB oM w (yD x) (wU x)
theorem vvalue_b(w:World)(g gt:Nat)(t:ByteArray)(b:Nat)(I:List zB)(h:yU w g t b I (.iface 141 (.pointer (some ⟨gt,0,none⟩))))(ht:t.size<=9223372036854775807)(hk:yH t=2)(n:Nat)(L:List (Array Value))
  (hl:∀w',Below w.heap.size w w'->Calls prog 93 #[.pointer (some ⟨gt,0,none⟩)] w' λe Z=>∃A cap,e=.returned (.slice A n cap)/\Own Z w'.heap.size 147 2 A n cap L/\Below w'.heap.size w' Z) :
  Calls prog 42 #[.pointer (some ⟨g,0,none⟩)] w λe w'=>∃A cap,e=.returned (.agg (zJ ⟨2,0,.slice A n cap⟩))/\Own w' w.heap.size 147 2 A n cap L/\Below w.heap.size w w':=by
 have hB:Below w.heap.size w (w.alloc (.cells (zJ xX) 42)):=bA;have h1:=h.below hB;have r:(w.alloc (.cells (zJ xX) 42)).heap[w.heap.size]?=some (.cells (zJ xX) 42 (0,0)):=heap_alloc_new w _;have c2:=λw=>bY t w ht;rw[hk]at c2;go_enter func42,ntmps42
 go_upto_region 1 with fail
 obtain⟨ga,V⟩:=eX w.heap.size
 have M:=dH V;rw[V]at r hB hl |-;obtain⟨W,hW⟩:=eR (w.alloc (.cells (zJ xX) 42))
 rw[<-hW]at h1 r hB |-;clear hW V;have a2:=h1.cell1;(go_wp2_with fail);refine(v7 W g b a2).mono ?_;rintro e w1 ⟨rfl,rfl⟩;have b2:=h1.cell0;(go_wp2_with fail);refine(c2 _).mono ?_;rintro e w2 ⟨rfl,G⟩;have h2:=h1.below G;have X:=(G.block ga (aG r).1).trans r;have a6:Below ga w w2:=hB.trans (G.mono (by have:=hB.size;have:=M.out;omega));have U:ga<w2.heap.size:=(aG X).1;clear b2 a2 h1 r hB G h c2;have F:Below w2.heap.size w2 (w2.alloc (.cells (zJ ⟨2,0,.slice none 0 0⟩) 42)):=bA;have h3:=h2.below F;have E:=(F.block ga U).trans X;have J:Below ga w (w2.alloc (.cells (zJ ⟨2,0,.slice none 0 0⟩) 42)):=a6.trans (F.mono oM);have j:(w2.alloc (.cells (zJ ⟨2,0,.slice none 0 0⟩) 42)).heap[w2.heap.size]?=some (.cells (zJ ⟨2,0,.slice none 0 0⟩) 42 (0,0)):=heap_alloc_new w2 _;obtain⟨gv,T⟩:=eX w2.heap.size
 have b5:=dH T;clear h2 X a6 F;go_upto_region 4 with fail
 rw[T]at j U;obtain⟨W3,a4⟩:=eR (w2.alloc (.cells (zJ ⟨2,0,.slice none 0 0⟩) 42))
 rw[<-a4]at h3 E J j |-;clear a4 T;have b1:=h3.cell2;go_upto_region 10 with fail
 have a0:=hl W3 J;(go_wp2_with fail);refine a0.mono ?_;rintro e w4 ⟨A,cap,rfl,f,s⟩;have R:gv<W3.heap.size:=(aG j).1;have m:ga<W3.heap.size:=(aG E).1;have y:=(s.block gv R).trans j;have a1:=(s.block ga m).trans E;have a8:=s.size;have a5:Below ga w w4:=J.trans (s.mono oM);have hf:w4.frozen? ⟨gv,2,none⟩=false:=by simp[frozen?,y]
 have b0:w4.cell? ⟨gv,2,none⟩=some (.slice none 0 0):=by rw[cell_of_row w4 gv 2 _ _ _ y];simp[go_sem]
 have k:(zJ ⟨2,0,.slice none 0 0⟩).setIfInBounds 2 (.slice A n cap)=zJ ⟨2,0,.slice A n cap⟩:=by apply Array.ext';simp[zJ]
 have N:(w4.setCell ⟨gv,2,none⟩ (.slice A n cap)).heap[gv]?=some (.cells (zJ ⟨2,0,.slice A n cap⟩) 42 (0,0)):=by rw[zF y,k]
 have B:=z9.setCell w4 ⟨gv,2,none⟩ (.slice A n cap);have D:(w4.setCell ⟨gv,2,none⟩ (.slice A n cap)).heap[ga]?=some (.cells (zJ xX) 42 (0,0)):=(B.block ga oM sO).trans a1;have H:Below ga w (w4.setCell ⟨gv,2,none⟩ (.slice A n cap)):=a5.trans (B.below oM sO);have d:=f.kept B (λx hx=>oS (f.at_base hx));clear k B a1 a5 h3 b1 f s E J hl a0;go_upto_region 20 with fail
 obtain⟨W4,a3⟩:=eR (w4.setCell ⟨gv,2,none⟩ (.slice A n cap))
 rw[<-a3]at N D H d |-;clear a3 hf y b0 j;have b3:=dH (And.intro m a8);have a9:zA W4 gv 0 3=some (zJ ⟨2,0,.slice A n cap⟩):=by unfold zA;rw[N];simp[go_sem]
 have a7:=y9 (P:=prog) jH W4 ga (zJ xX) (zJ ⟨2,0,.slice A n cap⟩) _ D sI sI (kT _ rfl);have O:z9 [ga] W4 (W4.setRow ga (zJ ⟨2,0,.slice A n cap⟩)):=⟨rfl,rfl,rfl,by simp[setRow],λx _ hx=>setRow_other W4 ga x _ (by simpa using hx)⟩
 have Y:=dH (setRow_heap W4 ga _ (zJ ⟨2,0,.slice A n cap⟩) _ _ D);have b4:=dH (H.trans (O.below (by have:=H.size;have:=M.out;omega) sI));have HO:=dH (d.kept O (λx hx=>oS (d.at_base hx)));clear O D H N d;(go_wp2_with fail);refine bodyPost_ret (results_cell_row results42 _ _ ga 42 (zJ ⟨2,0,.slice A n cap⟩) (0,0) _ rfl Y.out underlying42 rfl (by rw[jP];exact jH)) rfl ?_;exact⟨A,cap,rfl,HO.out.mono (by have:=b3.out;have:=M.out;omega),by rw[M.out];exact b4.out⟩
theorem vvalue_l(w:World)(g gt:Nat)(t:ByteArray)(b:Nat)(I:List zB)(h:yU w g t b I (.iface 143 (.pointer (some ⟨gt,0,none⟩))))(ht:t.size<=9223372036854775807)(hk:yH t=3)(n:Nat)(L:List (Array Value))
  (hl:∀w',Below w.heap.size w w'->Calls prog 94 #[.pointer (some ⟨gt,0,none⟩)] w' λe Z=>∃A cap,e=.returned (.slice A n cap)/\Own Z w'.heap.size 147 2 A n cap L/\Below w'.heap.size w' Z) :
  Calls prog 42 #[.pointer (some ⟨g,0,none⟩)] w λe w'=>∃A cap,e=.returned (.agg (zJ ⟨3,0,.slice A n cap⟩))/\Own w' w.heap.size 147 2 A n cap L/\Below w.heap.size w w':=by
 have hB:Below w.heap.size w (w.alloc (.cells (zJ xX) 42)):=bA;have h1:=h.below hB;have r:(w.alloc (.cells (zJ xX) 42)).heap[w.heap.size]?=some (.cells (zJ xX) 42 (0,0)):=heap_alloc_new w _;have c2:=λw=>bY t w ht;rw[hk]at c2;go_enter func42,ntmps42
 go_upto_region 1 with fail
 obtain⟨ga,V⟩:=eX w.heap.size
 have M:=dH V;rw[V]at r hB hl |-;obtain⟨W,hW⟩:=eR (w.alloc (.cells (zJ xX) 42))
 rw[<-hW]at h1 r hB |-;clear hW V;have a2:=h1.cell1;(go_wp2_with fail);refine(v7 W g b a2).mono ?_;rintro e w1 ⟨rfl,rfl⟩;have b2:=h1.cell0;(go_wp2_with fail);refine(c2 _).mono ?_;rintro e w2 ⟨rfl,G⟩;have h2:=h1.below G;have X:=(G.block ga (aG r).1).trans r;have a6:Below ga w w2:=hB.trans (G.mono (by have:=hB.size;have:=M.out;omega));have U:ga<w2.heap.size:=(aG X).1;clear b2 a2 h1 r hB G h c2;have F:Below w2.heap.size w2 (w2.alloc (.cells (zJ ⟨3,0,.slice none 0 0⟩) 42)):=bA;have h3:=h2.below F;have E:=(F.block ga U).trans X;have J:Below ga w (w2.alloc (.cells (zJ ⟨3,0,.slice none 0 0⟩) 42)):=a6.trans (F.mono oM);have j:(w2.alloc (.cells (zJ ⟨3,0,.slice none 0 0⟩) 42)).heap[w2.heap.size]?=some (.cells (zJ ⟨3,0,.slice none 0 0⟩) 42 (0,0)):=heap_alloc_new w2 _;obtain⟨gv,T⟩:=eX w2.heap.size
 have b5:=dH T;clear h2 X a6 F;go_upto_region 4 with fail
 rw[T]at j U;obtain⟨W3,a4⟩:=eR (w2.alloc (.cells (zJ ⟨3,0,.slice none 0 0⟩) 42))
 rw[<-a4]at h3 E J j |-;clear a4 T;have b1:=h3.cell2;go_upto_region 13 with fail
 have a0:=hl W3 J;(go_wp2_with fail);refine a0.mono ?_;rintro e w4 ⟨A,cap,rfl,f,s⟩;have R:gv<W3.heap.size:=(aG j).1;have m:ga<W3.heap.size:=(aG E).1;have y:=(s.block gv R).trans j;have a1:=(s.block ga m).trans E;have a8:=s.size;have a5:Below ga w w4:=J.trans (s.mono oM);have hf:w4.frozen? ⟨gv,2,none⟩=false:=by simp[frozen?,y]
 have b0:w4.cell? ⟨gv,2,none⟩=some (.slice none 0 0):=by rw[cell_of_row w4 gv 2 _ _ _ y];simp[go_sem]
 have k:(zJ ⟨3,0,.slice none 0 0⟩).setIfInBounds 2 (.slice A n cap)=zJ ⟨3,0,.slice A n cap⟩:=by apply Array.ext';simp[zJ]
 have N:(w4.setCell ⟨gv,2,none⟩ (.slice A n cap)).heap[gv]?=some (.cells (zJ ⟨3,0,.slice A n cap⟩) 42 (0,0)):=by rw[zF y,k]
 have B:=z9.setCell w4 ⟨gv,2,none⟩ (.slice A n cap);have D:(w4.setCell ⟨gv,2,none⟩ (.slice A n cap)).heap[ga]?=some (.cells (zJ xX) 42 (0,0)):=(B.block ga oM sO).trans a1;have H:Below ga w (w4.setCell ⟨gv,2,none⟩ (.slice A n cap)):=a5.trans (B.below oM sO);have d:=f.kept B (λx hx=>oS (f.at_base hx));clear k B a1 a5 h3 b1 f s E J hl a0;go_upto_region 20 with fail
 obtain⟨W4,a3⟩:=eR (w4.setCell ⟨gv,2,none⟩ (.slice A n cap))
 rw[<-a3]at N D H d |-;clear a3 hf y b0 j;have b3:=dH (And.intro m a8);have a9:zA W4 gv 0 3=some (zJ ⟨3,0,.slice A n cap⟩):=by unfold zA;rw[N];simp[go_sem]
 have a7:=y9 (P:=prog) jH W4 ga (zJ xX) (zJ ⟨3,0,.slice A n cap⟩) _ D sI sI (kT _ rfl);have O:z9 [ga] W4 (W4.setRow ga (zJ ⟨3,0,.slice A n cap⟩)):=⟨rfl,rfl,rfl,by simp[setRow],λx _ hx=>setRow_other W4 ga x _ (by simpa using hx)⟩
 have Y:=dH (setRow_heap W4 ga _ (zJ ⟨3,0,.slice A n cap⟩) _ _ D);have b4:=dH (H.trans (O.below (by have:=H.size;have:=M.out;omega) sI));have HO:=dH (d.kept O (λx hx=>oS (d.at_base hx)));clear O D H N d;(go_wp2_with fail);refine bodyPost_ret (results_cell_row results42 _ _ ga 42 (zJ ⟨3,0,.slice A n cap⟩) (0,0) _ rfl Y.out underlying42 rfl (by rw[jP];exact jH)) rfl ?_;exact⟨A,cap,rfl,HO.out.mono (by have:=b3.out;have:=M.out;omega),by rw[M.out];exact b4.out⟩
theorem vvalue_m(w:World)(g gt:Nat)(t:ByteArray)(b:Nat)(I:List zB)(h:yU w g t b I (.iface 144 (.pointer (some ⟨gt,0,none⟩))))(ht:t.size<=9223372036854775807)(hk:yH t=4)(n:Nat)(L:List (Array Value))
  (hl:∀w',Below w.heap.size w w'->Calls prog 95 #[.pointer (some ⟨gt,0,none⟩)] w' λe Z=>∃A cap,e=.returned (.slice A n cap)/\Own Z w'.heap.size 147 2 A n cap L/\Below w'.heap.size w' Z) :
  Calls prog 42 #[.pointer (some ⟨g,0,none⟩)] w λe w'=>∃A cap,e=.returned (.agg (zJ ⟨4,0,.slice A n cap⟩))/\Own w' w.heap.size 147 2 A n cap L/\Below w.heap.size w w':=by
 have hB:Below w.heap.size w (w.alloc (.cells (zJ xX) 42)):=bA;have h1:=h.below hB;have r:(w.alloc (.cells (zJ xX) 42)).heap[w.heap.size]?=some (.cells (zJ xX) 42 (0,0)):=heap_alloc_new w _;have c2:=λw=>bY t w ht;rw[hk]at c2;go_enter func42,ntmps42
 go_upto_region 1 with fail
 obtain⟨ga,V⟩:=eX w.heap.size
 have M:=dH V;rw[V]at r hB hl |-;obtain⟨W,hW⟩:=eR (w.alloc (.cells (zJ xX) 42))
 rw[<-hW]at h1 r hB |-;clear hW V;have a2:=h1.cell1;(go_wp2_with fail);refine(v7 W g b a2).mono ?_;rintro e w1 ⟨rfl,rfl⟩;have b2:=h1.cell0;(go_wp2_with fail);refine(c2 _).mono ?_;rintro e w2 ⟨rfl,G⟩;have h2:=h1.below G;have X:=(G.block ga (aG r).1).trans r;have a6:Below ga w w2:=hB.trans (G.mono (by have:=hB.size;have:=M.out;omega));have U:ga<w2.heap.size:=(aG X).1;clear b2 a2 h1 r hB G h c2;have F:Below w2.heap.size w2 (w2.alloc (.cells (zJ ⟨4,0,.slice none 0 0⟩) 42)):=bA;have h3:=h2.below F;have E:=(F.block ga U).trans X;have J:Below ga w (w2.alloc (.cells (zJ ⟨4,0,.slice none 0 0⟩) 42)):=a6.trans (F.mono oM);have j:(w2.alloc (.cells (zJ ⟨4,0,.slice none 0 0⟩) 42)).heap[w2.heap.size]?=some (.cells (zJ ⟨4,0,.slice none 0 0⟩) 42 (0,0)):=heap_alloc_new w2 _;obtain⟨gv,T⟩:=eX w2.heap.size
 have b5:=dH T;clear h2 X a6 F;go_upto_region 4 with fail
 rw[T]at j U;obtain⟨W3,a4⟩:=eR (w2.alloc (.cells (zJ ⟨4,0,.slice none 0 0⟩) 42))
 rw[<-a4]at h3 E J j |-;clear a4 T;have b1:=h3.cell2;go_upto_region 16 with fail
 have a0:=hl W3 J;(go_wp2_with fail);refine a0.mono ?_;rintro e w4 ⟨A,cap,rfl,f,s⟩;have R:gv<W3.heap.size:=(aG j).1;have m:ga<W3.heap.size:=(aG E).1;have y:=(s.block gv R).trans j;have a1:=(s.block ga m).trans E;have a8:=s.size;have a5:Below ga w w4:=J.trans (s.mono oM);have hf:w4.frozen? ⟨gv,2,none⟩=false:=by simp[frozen?,y]
 have b0:w4.cell? ⟨gv,2,none⟩=some (.slice none 0 0):=by rw[cell_of_row w4 gv 2 _ _ _ y];simp[go_sem]
 have k:(zJ ⟨4,0,.slice none 0 0⟩).setIfInBounds 2 (.slice A n cap)=zJ ⟨4,0,.slice A n cap⟩:=by apply Array.ext';simp[zJ]
 have N:(w4.setCell ⟨gv,2,none⟩ (.slice A n cap)).heap[gv]?=some (.cells (zJ ⟨4,0,.slice A n cap⟩) 42 (0,0)):=by rw[zF y,k]
 have B:=z9.setCell w4 ⟨gv,2,none⟩ (.slice A n cap);have D:(w4.setCell ⟨gv,2,none⟩ (.slice A n cap)).heap[ga]?=some (.cells (zJ xX) 42 (0,0)):=(B.block ga oM sO).trans a1;have H:Below ga w (w4.setCell ⟨gv,2,none⟩ (.slice A n cap)):=a5.trans (B.below oM sO);have d:=f.kept B (λx hx=>oS (f.at_base hx));clear k B a1 a5 h3 b1 f s E J hl a0;go_upto_region 20 with fail
 obtain⟨W4,a3⟩:=eR (w4.setCell ⟨gv,2,none⟩ (.slice A n cap))
 rw[<-a3]at N D H d |-;clear a3 hf y b0 j;have b3:=dH (And.intro m a8);have a9:zA W4 gv 0 3=some (zJ ⟨4,0,.slice A n cap⟩):=by unfold zA;rw[N];simp[go_sem]
 have a7:=y9 (P:=prog) jH W4 ga (zJ xX) (zJ ⟨4,0,.slice A n cap⟩) _ D sI sI (kT _ rfl);have O:z9 [ga] W4 (W4.setRow ga (zJ ⟨4,0,.slice A n cap⟩)):=⟨rfl,rfl,rfl,by simp[setRow],λx _ hx=>setRow_other W4 ga x _ (by simpa using hx)⟩
 have Y:=dH (setRow_heap W4 ga _ (zJ ⟨4,0,.slice A n cap⟩) _ _ D);have b4:=dH (H.trans (O.below (by have:=H.size;have:=M.out;omega) sI));have HO:=dH (d.kept O (λx hx=>oS (d.at_base hx)));clear O D H N d;(go_wp2_with fail);refine bodyPost_ret (results_cell_row results42 _ _ ga 42 (zJ ⟨4,0,.slice A n cap⟩) (0,0) _ rfl Y.out underlying42 rfl (by rw[jP];exact jH)) rfl ?_;exact⟨A,cap,rfl,HO.out.mono (by have:=b3.out;have:=M.out;omega),by rw[M.out];exact b4.out⟩
theorem vvalue_s(w:World)(g gt:Nat)(t:ByteArray)(b:Nat)(I:List zB)(h:yU w g t b I (.iface 145 (.pointer (some ⟨gt,0,none⟩))))(ht:t.size<=9223372036854775807)(hk:yH t=5)(n:Nat)(L:List (Array Value))
  (hl:∀w',Below w.heap.size w w'->Calls prog 96 #[.pointer (some ⟨gt,0,none⟩)] w' λe Z=>∃A cap,e=.returned (.slice A n cap)/\Own Z w'.heap.size 147 2 A n cap L/\Below w'.heap.size w' Z) :
  Calls prog 42 #[.pointer (some ⟨g,0,none⟩)] w λe w'=>∃A cap,e=.returned (.agg (zJ ⟨5,0,.slice A n cap⟩))/\Own w' w.heap.size 147 2 A n cap L/\Below w.heap.size w w':=by
 have hB:Below w.heap.size w (w.alloc (.cells (zJ xX) 42)):=bA;have h1:=h.below hB;have r:(w.alloc (.cells (zJ xX) 42)).heap[w.heap.size]?=some (.cells (zJ xX) 42 (0,0)):=heap_alloc_new w _;have c2:=λw=>bY t w ht;rw[hk]at c2;go_enter func42,ntmps42
 go_upto_region 1 with fail
 obtain⟨ga,V⟩:=eX w.heap.size
 have M:=dH V;rw[V]at r hB hl |-;obtain⟨W,hW⟩:=eR (w.alloc (.cells (zJ xX) 42))
 rw[<-hW]at h1 r hB |-;clear hW V;have a2:=h1.cell1;(go_wp2_with fail);refine(v7 W g b a2).mono ?_;rintro e w1 ⟨rfl,rfl⟩;have b2:=h1.cell0;(go_wp2_with fail);refine(c2 _).mono ?_;rintro e w2 ⟨rfl,G⟩;have h2:=h1.below G;have X:=(G.block ga (aG r).1).trans r;have a6:Below ga w w2:=hB.trans (G.mono (by have:=hB.size;have:=M.out;omega));have U:ga<w2.heap.size:=(aG X).1;clear b2 a2 h1 r hB G h c2;have F:Below w2.heap.size w2 (w2.alloc (.cells (zJ ⟨5,0,.slice none 0 0⟩) 42)):=bA;have h3:=h2.below F;have E:=(F.block ga U).trans X;have J:Below ga w (w2.alloc (.cells (zJ ⟨5,0,.slice none 0 0⟩) 42)):=a6.trans (F.mono oM);have j:(w2.alloc (.cells (zJ ⟨5,0,.slice none 0 0⟩) 42)).heap[w2.heap.size]?=some (.cells (zJ ⟨5,0,.slice none 0 0⟩) 42 (0,0)):=heap_alloc_new w2 _;obtain⟨gv,T⟩:=eX w2.heap.size
 have b5:=dH T;clear h2 X a6 F;go_upto_region 4 with fail
 rw[T]at j U;obtain⟨W3,a4⟩:=eR (w2.alloc (.cells (zJ ⟨5,0,.slice none 0 0⟩) 42))
 rw[<-a4]at h3 E J j |-;clear a4 T;have b1:=h3.cell2;go_upto_region 19 with fail
 have a0:=hl W3 J;(go_wp2_with fail);refine a0.mono ?_;rintro e w4 ⟨A,cap,rfl,f,s⟩;have R:gv<W3.heap.size:=(aG j).1;have m:ga<W3.heap.size:=(aG E).1;have y:=(s.block gv R).trans j;have a1:=(s.block ga m).trans E;have a8:=s.size;have a5:Below ga w w4:=J.trans (s.mono oM);have hf:w4.frozen? ⟨gv,2,none⟩=false:=by simp[frozen?,y]
 have b0:w4.cell? ⟨gv,2,none⟩=some (.slice none 0 0):=by rw[cell_of_row w4 gv 2 _ _ _ y];simp[go_sem]
 have k:(zJ ⟨5,0,.slice none 0 0⟩).setIfInBounds 2 (.slice A n cap)=zJ ⟨5,0,.slice A n cap⟩:=by apply Array.ext';simp[zJ]
 have N:(w4.setCell ⟨gv,2,none⟩ (.slice A n cap)).heap[gv]?=some (.cells (zJ ⟨5,0,.slice A n cap⟩) 42 (0,0)):=by rw[zF y,k]
 have B:=z9.setCell w4 ⟨gv,2,none⟩ (.slice A n cap);have D:(w4.setCell ⟨gv,2,none⟩ (.slice A n cap)).heap[ga]?=some (.cells (zJ xX) 42 (0,0)):=(B.block ga oM sO).trans a1;have H:Below ga w (w4.setCell ⟨gv,2,none⟩ (.slice A n cap)):=a5.trans (B.below oM sO);have d:=f.kept B (λx hx=>oS (f.at_base hx));clear k B a1 a5 h3 b1 f s E J hl a0;go_upto_region 20 with fail
 obtain⟨W4,a3⟩:=eR (w4.setCell ⟨gv,2,none⟩ (.slice A n cap))
 rw[<-a3]at N D H d |-;clear a3 hf y b0 j;have b3:=dH (And.intro m a8);have a9:zA W4 gv 0 3=some (zJ ⟨5,0,.slice A n cap⟩):=by unfold zA;rw[N];simp[go_sem]
 have a7:=y9 (P:=prog) jH W4 ga (zJ xX) (zJ ⟨5,0,.slice A n cap⟩) _ D sI sI (kT _ rfl);have O:z9 [ga] W4 (W4.setRow ga (zJ ⟨5,0,.slice A n cap⟩)):=⟨rfl,rfl,rfl,by simp[setRow],λx _ hx=>setRow_other W4 ga x _ (by simpa using hx)⟩
 have Y:=dH (setRow_heap W4 ga _ (zJ ⟨5,0,.slice A n cap⟩) _ _ D);have b4:=dH (H.trans (O.below (by have:=H.size;have:=M.out;omega) sI));have HO:=dH (d.kept O (λx hx=>oS (d.at_base hx)));clear O D H N d;(go_wp2_with fail);refine bodyPost_ret (results_cell_row results42 _ _ ga 42 (zJ ⟨5,0,.slice A n cap⟩) (0,0) _ rfl Y.out underlying42 rfl (by rw[jP];exact jH)) rfl ?_;exact⟨A,cap,rfl,HO.out.mono (by have:=b3.out;have:=M.out;omega),by rw[M.out];exact b4.out⟩
section
open Go.RowKit Go.Sort Go.Shelf
section
variable {α:Type} [Inhabited α] {enc:α->Array Value} {k:Nat}
theorem own_holds{L:List α}(hk:0<k)(hs:∀x,(enc x).size=k)(h:Own w B E k (some ⟨g,0,none⟩) n cap (L.map enc)) :
  HoldsK (λx=>(enc x).toList) k w g 0 L.toArray:=by
 intro j hj;have f:j<L.length*k:=by simpa using hj
 have hi:j / k<L.length:=Nat.div_lt_of_lt_mul (by rw[Nat.mul_comm];exact f);have hr:j % k<k:=Nat.mod_lt _ hk;have he:j / k*k+j % k=j:=by rw[Nat.mul_comm];exact Nat.div_add_mod j k
 have hl:L.length=n:=by simpa using h.len
 obtain⟨g',o,e,d⟩:=h.slr.at_ (i:=j / k) oM;injection e with e
 injection e with e1 e2
 subst e1;subst e2;rw[getElem_map]at d;have hc:=zC d hr;rw[Nat.zero_add,he]at hc;refine⟨?_,?_⟩
 ·rw[Nat.zero_add,hc,get_flatK _ _ _ j (by simpa using f),getElem!_pos L.toArray (j / k) (by simpa using hi)];have m:j % k<(enc L[j / k]).toList.length:=by simpa[hs]using hr
  rw[getElem!_pos _ (j % k) (by simpa using m)];simp[hs,hr]
 ·obtain⟨⟨_,h2⟩,_,_⟩:=h;rcases h2 with⟨h2,_⟩ | ⟨g',c,cur,hv,hb,hg,_⟩
  ·cases h2
  ·injection hv with hA
   injection hA with hA
   injection hA with hA
   subst hA;simp[frozen?,hg]
theorem jl{n':Nat}{L':List (Array Value)}(h:Own w B E k (some ⟨g,0,none⟩) n cap L)(f:n'<=n)(m:Nat)(F:Array Value)(hF:F.size=n*k)(hL:F.toList.take (n'*k)=L'.flatMap Array.toList)(hl:L'.length=n')(hs:∀c∈L',c.size=k)(os:Array Obj) :
  Own (grow (putRow id (Sort.ahead w m) g 0 F) os) B E k (some ⟨g,0,none⟩) n' cap L'/\z9 [g] w (grow (putRow id (Sort.ahead w m) g 0 F) os):=by
 obtain⟨⟨_,h2⟩,_,_⟩:=h;rcases h2 with⟨h2,_⟩ | ⟨g',c,cur,hv,hb,hg,hnc,hcm,hcs,htake⟩
 ·cases h2
 injection hv with hA _ hc
 injection hA with hA
 injection hA with hA
 subst hA;subst hc;have s:g<w.heap.size:=(aG hg).1;have d:(grow (putRow id (Sort.ahead w m) g 0 F) os).heap[g]?=some (.cells (putCells id 0 F cur) E (0,0)):=by
  rw[heap_grow_old _ _ (by simpa[putRow,mapBlock,Sort.ahead]using s)];show(w.heap.modify g _)[g]?=_;rw[Array.getElem?_modify,if_pos rfl,hg];rfl
 have t:n*k<=cur.size:=by rw[hcs];exact Nat.mul_le_mul_right k hnc
 have r:n'*k<=n*k:=Nat.mul_le_mul_right k f;refine⟨⟨⟨?_,.inr ⟨g,cap,_,rfl,hb,d,oM,hcm,?_,?_⟩⟩,hl,hs⟩,?_⟩
 ·rw[j6 _ k hs,hl]
 ·simp[putCells,hcs]
 ·rw[<-hL];apply ext_getElem?;intro j;by_cases hj:j<n'*k
  ·rw[getElem?_take,getElem?_take,if_pos hj,if_pos hj,Array.getElem?_toList,Array.getElem?_toList];unfold putCells;rw[Array.getElem?_mapIdx,Array.getElem?_eq_getElem (oM:j<cur.size),Array.getElem?_eq_getElem (oM:j<F.size)];simp only[Option.map_some,Nat.zero_le,true_and,Nat.zero_add,Nat.sub_zero,hF];rw[if_pos oM,getElem!_pos _ j oM];rfl
  ·rw[getElem?_eq_none sO,getElem?_eq_none sO]
 ·refine⟨rfl,rfl,rfl,?_,λx hx hn=>?_⟩
  ·rw[size_grow];simp[putRow,mapBlock,Sort.ahead]
  ·rw[heap_grow_old _ _ (by simpa[putRow,mapBlock,Sort.ahead]using hx)];show(w.heap.modify g _)[x]?=_;rw[Array.getElem?_modify,if_neg (by simpa[eq_comm]using hn)]
theorem sU{L:List α}(hk:0<k)(hs:∀x,(enc x).size=k)(h:Own w B E k (some ⟨g,0,none⟩) n cap (L.map enc))(m:Nat)(L':List α)(hl:L'.length=L.length)(os:Array Obj) :
  Own (sortWorldK (λx=>(enc x).toList) k w g 0 m L'.toArray os) B E k (some ⟨g,0,none⟩) n cap (L'.map enc)/\z9 [g] w (sortWorldK (λx=>(enc x).toList) k w g 0 m L'.toArray os):=by
 have hn:L.length=n:=by simpa using h.len
 have d:∀c∈L'.map enc,c.size=k:=λc hc=>(by obtain⟨x,_,rfl⟩:=mem_map.1 hc;exact hs x);have f:(L'.map enc).flatMap Array.toList=(flatK (λx=>(enc x).toList) k L'.toArray).toList:=by
  apply ext_getElem?;intro j;have s:=j6 (L'.map enc) k d;rw[length_map]at s;by_cases hj:j<L'.length*k
  ·have hi:j / k<L'.length:=Nat.div_lt_of_lt_mul (by rw[Nat.mul_comm];exact hj);have hr:j % k<k:=Nat.mod_lt _ hk;have he:j / k*k+j % k=j:=by rw[Nat.mul_comm];exact Nat.div_add_mod j k
   have e1:=dG (L'.map enc) k d (j / k) (j % k) (by simpa using hi) hr;rw[he]at e1;rw[e1];have d:j<(flatK (λx=>(enc x).toList) k L'.toArray).size:=by simpa using hj
   rw[Array.getElem?_toList,Array.getElem?_eq_getElem d,<-getElem!_pos _ j d,get_flatK _ _ _ j (by simpa using hj),getElem!_pos L'.toArray (j / k) (by simpa using hi)];have r:j % k<(enc L'[j / k]).toList.length:=by simpa[hs]using hr
   rw[getElem_map,getElem_toArray,getElem!_pos _ (j % k) r];simp[hs,hr]
  ·rw[getElem?_eq_none oM,getElem?_eq_none (by simpa using hj)]
 have hF:(flatK (λx=>(enc x).toList) k L'.toArray).size=n*k:=by simp[hl,hn]
 exact jl h lR m (flatK (λx=>(enc x).toList) k L'.toArray) hF (by rw[f,take_of_length_le (by simpa using Nat.le_of_eq hF)]) (by simp[hl,hn]) d os
end
section
variable {α:Type} [Inhabited α] {f:α->Value}
theorem Q9{L:List α}(h:Own w B E 1 (some ⟨g,0,none⟩) n cap (L.map λx=>#[f x])):Holds f w g 0 L.toArray:=by
 intro j hj;have k:j<L.length:=by simpa using hj
 have hl:L.length=n:=by simpa using h.len
 obtain⟨g',o,e,d⟩:=h.slr.at_ (i:=j) oM;injection e with e
 injection e with e1 e2
 subst e1;subst e2;rw[getElem_map]at d;have hc:=zC d (j:=0) oM;refine⟨?_,?_⟩
 ·rw[getElem!_pos L.toArray j (by simpa using k)];simpa using hc
 ·obtain⟨⟨_,h2⟩,_,_⟩:=h;rcases h2 with⟨h2,_⟩ | ⟨g',c,cur,hv,hb,hg,_⟩
  ·cases h2
  ·injection hv with hA
   injection hA with hA
   injection hA with hA
   subst hA;simp[frozen?,hg]
theorem putRow_id(d:Array α):putRow f w g 0 d=putRow id w g 0 (d.map f):=by
 unfold putRow;refine mapBlock_congr w g _ _ λc e fr _=>?_;unfold putCells;apply Array.ext
 ·simp
 ·intro i h1 h2;simp only[Array.getElem_mapIdx,Array.size_map];split
  ·rename_i h
   have hi:i-0<d.size:=oM;rw[getElem!_pos d (i-0) hi,getElem!_pos (d.map f) (i-0) (by simpa using hi)]
   simp
  ·rfl
theorem jm{n':Nat}(h:Own w B E 1 (some ⟨g,0,none⟩) n cap L)(d:n'<=n)(m:Nat)(D L':List α)(hD:D.length=n)(hL:D.take n'=L')(os:Array Obj) :
  Own (grow (putRow f (Sort.ahead w m) g 0 D.toArray) os) B E 1 (some ⟨g,0,none⟩) n' cap (L'.map λx=>#[f x])/\z9 [g] w (grow (putRow f (Sort.ahead w m) g 0 D.toArray) os):=by
 rw[putRow_id];refine jl h d m _ (by simp[hD]) ?_ (by rw[length_map,<-hL,length_take];omega) (λc hc=>by obtain⟨x,_,rfl⟩:=mem_map.1 hc;rfl) os;rw[<-hL,Nat.mul_one];have e:∀l:List α,(l.map λx=>#[f x]).flatMap Array.toList=l.map f:=λl=>(by induction l <;> simp_all);rw[e];simp[map_take]
end
end
section
open Go.RowKit Go.Sort Go.Shelf
instance:Inhabited xC:=⟨nN⟩
theorem BI:yR prog 267 219 33 48 :=
 .of (z:=.agg (zZ nN)) underlying267 kR kR kR (nB _) oM
@[go_sem ↓] theorem bsBRow_rw(n:Nat)(parts:Array (Nat×Value)):Instr.buildSlice 267 n parts=bsS 267 n parts:=rfl
@[go_sem] theorem bsBRow_run(w:World)(x:xC):(bsS 267 1 #[(0,.agg (zZ x))]).run prog w=.ok (.slice (some ⟨w.heap.size,0,none⟩) 1 1) (w.alloc (.cells (zZ x) 219)) :=
 fK BI oM w (zZ x) (nB x)
theorem isAggRow(w:World):(isAgg 219).run prog w=.ok true w:=by simp[isAgg,run_underlying underlying219]
theorem sizeRow(w:World):(Go.sizeOf 219).run prog w=.ok 33 w:=by
 have h:=QZ;cases hi:prog.info? 219 with
 | none=>rw[hi]at h;cases h
 | some i =>
  rw[hi]at h;have hk:i.size=33:=by simpa using h
  simp[Go.sizeOf,typeInfo,hi,hk]
end
section
open Go.RowKit Go.Sort
section
variable {α:Type} [Inhabited α] [DecidableEq α] {c:α->α->Int}
theorem iX(T:qN c)(d:Array α)(hs:∀i j,i<j->j<d.size->¬c d[j]! d[i]! < 0):∀m,m<=d.size ->
  Ris c (Lib.compactUpTo d m)/\(∀z,z∈Lib.compactUpTo d m↔∃j,j<m/\d[j]! = z)/\(0<m->∀y∈Lib.compactUpTo d m,¬c d[m-1]! y<0)
 | 0,_=>⟨by simp[Lib.compactUpTo,Ris],by simp[Lib.compactUpTo],sI⟩
 | m+1,hm=>by
  obtain⟨h1,h2,h3⟩:=iX T d hs m oM;rw[Lib.compactUpTo_succ];by_cases hk:Lib.keeps d m=true
  ·rw[if_pos hk];have k:∀y∈Lib.compactUpTo d m,c y d[m]! < 0:=by
    intro y hy;have g:0<m:=by
     rcases Nat.eq_zero_or_pos m with h | h
     ·subst h;simp[Lib.compactUpTo]at hy
     ·exact h
    have s:d[m]!≠d[m-1]!:=by
     have:m=0\/d[m]!≠d[m-1]!:=by simpa[Lib.keeps]using hk
     rcases this with h | h
     ·omega
     ·exact h
    exact T.le_trans (h3 g y hy) (T.flip (hs (m-1) m oM oM) s)
   refine⟨?_,λz=>?_,λ_ y hy=>?_⟩
   ·refine pairwise_append.2 ⟨h1,sI,λy hy z hz=>?_⟩;simp at hz;subst hz;exact k y hy
   ·rw[mem_append,h2,mem_singleton];constructor
    ·rintro(⟨j,hj,e⟩ | e)
     ·exact⟨j,oM,e⟩
     ·exact⟨m,oM,e.symm⟩
    ·rintro⟨j,hj,e⟩;by_cases f:j=m
     ·subst f;exact .inr e.symm
     ·exact .inl ⟨j,oM,e⟩
   ·rw[Nat.add_sub_cancel];rcases mem_append.1 hy with hy | hy
    ·exact T.asym (k y hy)
    ·simp at hy;subst hy;exact T.irr _
  ·rw[if_neg hk,append_nil];have g:¬m=0:=λe=>hk (by simp[Lib.keeps,e]);have r:d[m]! = d[m-1]!:=Classical.byContradiction λe=>hk (Lib.keeps_pos e);refine⟨h1,λz=>?_,λ_ y hy=>?_⟩
   ·rw[h2];constructor
    ·rintro⟨j,hj,e⟩;exact⟨j,oM,e⟩
    ·rintro⟨j,hj,e⟩;by_cases f:j=m
     ·subst f;exact⟨j-1,oM,by rw[<-r];exact e⟩
     ·exact⟨j,oM,e⟩
   ·rw[Nat.add_sub_cancel,r];exact h3 oM y hy
theorem pR(T:qN c)(l:List α)(hs:l.Pairwise (λx y=>¬c y x<0)):Lib.compact l=kO c l:=by
 have h:=iX T l.toArray (λi j f hj=>by
  have d:j<l.length:=by simpa using hj
  rw[getElem!_pos l.toArray i sO,getElem!_pos l.toArray j hj];exact pairwise_iff_getElem.1 hs i j oM d f) l.length sI
 refine gS T h.1 (kV T l) λz=>?_;rw[kY T];refine(h.2.1 z).trans ⟨?_,?_⟩
 ·rintro⟨j,hj,e⟩;rw[getElem!_pos l.toArray j (by simpa using hj)]at e;rw[<-e];exact getElem_mem hj
 ·intro hz;obtain⟨j,hj,e⟩:=mem_iff_getElem.1 hz;exact⟨j,hj,by rw[getElem!_pos l.toArray j (by simpa using hj)];simpa using e⟩
end
end
section
open Go.RowKit Go.Sort Go.Shelf
theorem einfoStr:yR prog 36 9 1 16 :=
 .of (z:=.string ⟨#[]⟩) underlying36 kR kR kR rfl oM
def YK(s:ByteArray):Array Value:=#[.string s]
theorem strR_one(s:ByteArray):∀u∈(YK s).toList,u.oneCell'=true:=by simp[YK,Value.oneCell']
def bl(s:ByteArray):List UInt8:=s.data.toList
theorem BL(s:ByteArray):s.toList=bl s:=ByteArray.toList_eq s
theorem BG(s:ByteArray):encStr (bl s)=.string s:=by cases s;rfl
theorem iK(x y:List UInt8):decide (x<=y)=true↔¬kK y x<0:=by
 have h:=bytesLess_eq y x;rw[fA]at h;have h2:(kK y x<0)↔y<x:=by simpa using h
 rw[decide_eq_true_eq,h2];exact Iff.rfl
theorem xq:qN kK:=⟨ZI,rF,n8⟩
theorem zy(l:List (List UInt8)):(l.mergeSort λx y=>decide (x<=y)).Pairwise (λx y=>¬kK y x<0):=by
 have g:∀a b d:List UInt8,decide (a<=b)=true->decide (b<=d)=true->decide (a<=d)=true:=λa b d h1 h2=>by
  rw[iK]at *;intro h3;exact h2 (xq.le_trans (a:=d) (b:=a) (d:=b) (xq.asym h3) (by
   by_cases e:a=b
   ·subst e;exact absurd h3 h2
   ·exact xq.flip h1 (λe'=>e e'.symm)))
 have f:∀a b:List UInt8,(decide (a<=b)||decide (b<=a))=true:=λa b=>by
  by_cases h:kK b a<0
  ·have:=(iK b a).2 (xq.asym h);simp only[this,Bool.or_true]
  ·have:=(iK a b).2 h;simp only[this,Bool.true_or]
 exact Pairwise.imp (fun {a b} h=>(iK a b).1 h) (pairwise_mergeSort g f l)
theorem VF(l:List ByteArray):Lib.compact ((l.map bl).mergeSort λx y=>decide (x<=y))=(kO qV l).map bl:=by
 rw[pR xq _ (zy _)];have hR:Ris kK ((kO qV l).map bl):=by
  refine pairwise_map.2 (Pairwise.imp (fun {a b} h=>?_) (kV V0 l));have h':kK a.toList b.toList<0:=h
  rwa [BL,BL]at h'
 refine gS xq (kV xq _) hR λz=>?_;rw[kY xq,(mergeSort_perm _ _).mem_iff];simp only[mem_map,kY V0]
def nL(L:List xC):List ByteArray:=kO qV (L.map (·.val))
def pairV(s:ByteArray):jI:=⟨s,⟨#[]⟩⟩
theorem KN(L:List xC):(nL L).length<=L.length:=by have:=mJ (c:=qV) (L.map (·.val));simpa[nL]using this
end
section
open Go.RowKit Go.Sort Go.Shelf Go.Lib
@[go_sem ↓] theorem bsStr_rw(n:Nat)(parts:Array (Nat×Value)):Instr.buildSlice 36 n parts=bsS 36 n parts:=rfl
@[go_sem] theorem bsStr_run(w:World)(x:ByteArray):(bsS 36 1 #[(0,.string x)]).run prog w=.ok (.slice (some ⟨w.heap.size,0,none⟩) 1 1) (w.alloc (.cells (YK x) 9)):=kR
def zR(z:List UInt8):Array Value:=#[encStr z]
theorem strR_zR(S:List ByteArray):S.map YK=(S.map bl).map zR:=by
 rw[map_map];exact map_congr_left λs _=>by simp[YK,zR,BG]
theorem sort_strs(w:World)(B:Nat)(A:Option Addr)(n cap:Nat)(zs:List (List UInt8))(d:Own w B 9 1 A n cap (zs.map zR))(hn:n<=1000000) :
  Calls prog 89 #[.slice A n cap] w λe w'=>e=.returned (.tuple #[])/\Own w' B 9 1 A n cap ((zs.mergeSort λx y=>decide (x<=y)).map zR)/\z9 (blk A) w w':=by
 have hl:zs.length=n:=by simpa using d.len
 rcases d.addr with rfl | ⟨g,rfl⟩
 ·have j:n=0:=(d.cap_le.2 rfl).1;subst j;have hS:zs = []:=eq_nil_of_length_eq_zero hl;subst hS;refine(AnyM.slices_Sort_string_none laySortStr none cap w).mono ?_;rintro e w' ⟨rfl,rfl⟩;exact⟨rfl,by simpa using d,z9.refl _ _⟩
 ·subst hl;have k:g<w.heap.size:=(d.at_base (x:=g) (by simp[blk])).2;refine(AnyM.slices_Sort_string laySortStr g 0 cap zs w (Q9 (f:=encStr) d) k oM).mono ?_;rintro e w' ⟨rfl,m,os,rfl⟩;obtain⟨h1,h2⟩:=jm (f:=encStr) d lR m (zs.mergeSort λx y=>decide (x<=y)) (zs.mergeSort λx y=>decide (x<=y)) (mergeSort_perm _ _).length_eq (take_of_length_le (Nat.le_of_eq (mergeSort_perm _ _).length_eq)) os;exact⟨rfl,h1,h2.mono (by simp[blk])⟩
theorem ky(zs:List (List UInt8)):(Lib.compact zs).length<=zs.length:=by
 unfold Lib.compact Lib.compactUpTo;rw[length_map];exact Nat.le_trans (length_filter_le _ _) sI
theorem comp_strs(w:World)(B:Nat)(A:Option Addr)(n cap:Nat)(zs:List (List UInt8))(d:Own w B 9 1 A n cap (zs.map zR))(hn:n<=1000000) :
  Calls prog 151 #[.slice A n cap] w λe w'=>e=.returned (.slice A (Lib.compact zs).length cap)/\Own w' B 9 1 A (Lib.compact zs).length cap ((Lib.compact zs).map zR)/\z9 (blk A) w w':=by
 have hl:zs.length=n:=by simpa using d.len
 rcases d.addr with rfl | ⟨g,rfl⟩
 ·have j:n=0:=(d.cap_le.2 rfl).1;subst j;have hS:zs = []:=eq_nil_of_length_eq_zero hl;subst hS;refine(Any.slices_Compact_string_empty layCompStr none cap w).mono ?_;rintro e w' ⟨rfl,rfl⟩;exact⟨rfl,d,z9.refl _ _⟩
 ·subst hl;refine(Any.slices_Compact_string layCompStr g 0 cap zs w (Q9 (f:=encStr) d) oM (d.cap_le.1)).mono ?_;rintro e w' ⟨rfl,m,rfl⟩;have k:=ky zs;obtain⟨h1,h2⟩:=jm (f:=encStr) d k m (Lib.compact zs++replicate (zs.length-(Lib.compact zs).length) []) (Lib.compact zs) sO sI #[];rw[grow_empty]at h1 h2;exact⟨rfl,h1,h2.mono (by simp[blk])⟩
abbrev OwnL(w:World)(B:Nat)(A:Option Addr)(n cap:Nat)(L:List ByteArray):Prop:=Own w B 147 2 A n cap (L.map λs=>yD (pairV s))
theorem blist(w:World)(g bl_ bg:Nat)(L G:List xC)(h:qS w g bl_ bg L G)(hn:L.length<=1000000) :
  Calls prog 93 #[.pointer (some ⟨g,0,none⟩)] w λe w'=>∃A cap,e=.returned (.slice A (nL L).length cap)/\OwnL w' w.heap.size A (nL L).length cap (nL L)/\Below w.heap.size w w':=by
 have hc:=h.cell0;have V:=h.lt;have hr:=h.risL;obtain⟨w0,s,hR,b9,c5⟩:=yM.range (P:=prog) (kv:=YO) (ok:=okR) h.live underlying215;go_enter func93,ntmps93
 (go_wp2_with fail);refine(JJ _ _ _ hc).mono ?_;rintro e w' ⟨rfl,rfl⟩;(go_wp2_with fail);clear s hc;go_loopw [3] (λout wr=>∃(S:List xC) (A:Option Addr) (cap:Nat),out=.slice A S.length cap/\v6 wr bl_ w.heap.size YO okR L S/\Own wr w0.heap.size 9 1 A S.length cap ((S.map λx=>bl x.val).map zR)/\Below w.heap.size w wr/\w0.heap.size<=wr.heap.size) (λ_ wr=>wr.rangeLeft bl_ w.heap.size)
 case atStart=>exact⟨[],none,0,rfl,hR,Own.nil _ _ _ _,b9,lR⟩
 case round =>
  obtain⟨S,A,cap,rfl,hR,d,hb,c4⟩:=hrel;rcases hR.next (P:=prog) 0 with⟨hall,a4,s⟩ | ⟨x,w1,hxL,hxS,s,hR1,hk1,hs1,hl1,hen⟩
  ·have hp:S.Perm L:=(perm_ext_iff_of_nodup a4 (hr.nodup tW)).2 hall;have b1:=hp.length_eq;have F:=sort_strs wr w0.heap.size A S.length cap _ d oM;have a7:=dH hall;have c3:=dH b1;clear hall b1 hp;(go_wp2_with fail);refine F.mono ?_;rintro e w2 ⟨rfl,f,a9⟩;clear s;have r:=comp_strs w2 w0.heap.size A S.length cap _ f (oH c3.out);have hz:Lib.compact ((S.map λx=>bl x.val).mergeSort λx y=>decide (x<=y))=(nL L).map bl:=by
    have e1:(S.map λx=>bl x.val)=(S.map (·.val)).map bl:=by rw[map_map];rfl
    rw[e1,VF];congr 1
    exact p4 V0 λz=>by simp only[mem_map,a7.out]
   rw[hz,<-strR_zR,length_map]at r;have b4:=KN L;obtain⟨N,hN⟩:=eX (nL L)
   rw[hN]at r b4;have HN:=dH hN;clear hz F hN;(go_wp2_with fail);refine r.mono ?_;rintro e w3 ⟨rfl,D,b6⟩;have b0:Below w.heap.size w w3:=(hb.trans (a9.below (B:=w.heap.size) oM λx hx=>oH ((d.at_base hx).1))).trans (b6.below (B:=w.heap.size) (by have:=hb.size;have:=a9.size;omega) λx hx=>oH ((d.at_base hx).1));have b3:=D.slr;have T:=D.addr;clear f D d r;(go_wp2_with fail);go_loopw [5,29] (λout i wr=>∃(k:Nat) (A:Option Addr) (cap:Nat),k<=N.length/\i=.int .i64 k/\out=.slice A k cap/\OwnL wr w3.heap.size A k cap (N.take k)/\Below w3.heap.size w3 wr) (λ_ i _=>N.length-(intOf i).toNat)
   case atStart=>exact⟨0,none,0,zL,rfl,rfl,Own.nil _ _ _ _,Below.refl _ _⟩
   case round =>
    obtain⟨k,A',cap',hk,rfl,rfl,d,X⟩:=hrel;by_cases V:k<N.length
    ·obtain⟨q,o,rfl,a3⟩:=(b3.below X).at_ V;obtain rfl:o=0:=by
      rcases T with e | ⟨g',e⟩
      ·cases e
      ·injection e with e;injection e
     rw[getElem_map]at a3;have E:=zC a3 (j:=0) oM;have a0:N.take (k+1)=N.take k ++ [N[k]]:=by rw[take_add_one,getElem?_eq_getElem V];rfl
     obtain⟨x,hx⟩:=eX (N[k]'V)
     rw[hx]at E a0;have a5:wr.cell? ⟨q,k,none⟩=some (.string x):=by simpa[YK]using E
     have c2:=dH a0;clear hx E a3 a0;have a1:=X.size;have H:Below wr.heap.size wr (wr.alloc (.cells (yD ⟨x,⟨#[]⟩⟩) 147)):=bA;have f:=d.below H;have t:zA (wr.alloc (.cells (yD ⟨x,⟨#[]⟩⟩) 147)) wr.heap.size 0 2=some (yD ⟨x,⟨#[]⟩⟩):=by simp[go_sem]
     go_wp2_with (at_builtin;refine xN bB rfl f rfl t (gG _) oM oM sO ?_;intro A2 a6 w4 m J O)
     have Y:Below w3.heap.size w3 w4:=X.trans ((H.mono a1).trans (J.below (B:=w3.heap.size) sO λy hy=>(d.at_base hy).1));(go_wp2_with fail);go_roundw
     case rel=>exact⟨k+1,A2,a6,oM,by go_num,rfl,by rw[c2.out];show Own _ _ _ _ _ _ _ _;rw[map_append];exact m,Y⟩
     case measure=>exact sZ
    ·(go_wp2_with fail);go_ret;have e:k=N.length:=oM;subst e;rw[take_length]at d;rw[HN.out];exact⟨A',cap',rfl,d.mono b0.size,yK b0 X⟩
  ·have c7:S.length+1<=1000000:=by
    obtain⟨M,Z,hZ,b5,_,c0,a4⟩:=hR1;have h1:=hZ.length;have h2:(Z.map (·.1)).length=(S ++ [x]).length:=by rw[c0]
    have h3:(M.map (·.1)).length<=L.length:=gH a4 (λy hy=>(b5 y).1 hy);simp at h2 h3;omega
   have R:Own w1 w0.heap.size 9 1 A S.length cap ((S.map λx=>bl x.val).map zR):=d.kept hk1 (λy hy=>oS ((d.at_base hy).1));have b8:Below w.heap.size w w1:=hb.trans (hk1.below (B:=w.heap.size) oM sI);have H:Below w1.heap.size w1 ((w1.alloc (.cells (zZ x) 219)).alloc (.cells (YK x.val) 9)):=(bA).alloc sI _;have f:=R.below H;have t:zA ((w1.alloc (.cells (zZ x) 219)).alloc (.cells (YK x.val) 9)) (w1.heap.size+1) 0 1=some (YK x.val):=by simp[go_sem,YK]
   change (Instr.next _ _ _).run prog wr=.ok (.tuple #[.bool true,.agg (zZ x),.bool true]) w1 at s;change (Instr.entry _).run prog w1=.ok (.tuple #[.agg (zZ x),.bool true]) w1 at hen;have U:=dH hs1;clear hs1;go_wp2_with (at_builtin;refine xN einfoStr rfl f rfl t (strR_one _) oM oM (by simp;have:=U.out;omega) ?_;intro A' cap' w2 m J O)
   have Y:bl_∉blk A:=λhx=>(oH ((d.at_base hx).1));have a8:w.heap.size∉blk A:=λhx=>(oH ((d.at_base hx).1));have I:=hR1.kept (z9.of_below H) sI sI;have c1:=I.kept J Y a8;have c6:w2.rangeLeft bl_ w.heap.size=w1.rangeLeft bl_ w.heap.size :=
    (qD J Y a8 I.lt.2 I.lt.1).trans (qD (z9.of_below H) sI sI hR1.lt.2 hR1.lt.1)
   have a2:w0.heap.size<=w2.heap.size:=by
    have e1:=H.size;have e2:=J.size;have e3:=U.out;omega
   have b7:Below w.heap.size w w2:=b8.trans ((H.mono (oH U.out)).trans (J.below (B:=w.heap.size) (by simp;have:=U.out;omega) λy hy=>oH ((d.at_base hy).1)));have b2:(S.map λx=>bl x.val).map zR ++ [YK x.val]=((S ++ [x]).map λx=>bl x.val).map zR:=by simp[zR,YK,BG]
   rw[b2]at m;clear s hen b2;(go_wp2_with fail);go_roundw
   case rel=>exact⟨S ++ [x],A',cap',sI,c1,by simpa using m,b7,a2⟩
   case measure=>omega
end
section
open Go.RowKit Go.Sort Go.Maps
def tD(_:Value):Option (DataW Unit×List MemPlace):=some (.nil,[])
theorem xD.owns{b:Nat}{L:List jJ}(h:xD w g b L)(hn:L.length<=1000000) :
  ∃D0:DataW Unit,w.ownsMap prog 9 tD b L.length D0/\Maps.size D0<=1000000/\(strKeys D0).Perm (L.map λp=>p.1.data.toList):=by
 obtain⟨M,es,y,hm,hp⟩:=h.map;have t:es.size=L.length:=by rw[hm.length,hp.length_eq]
 have f:∀e∈es.toList,∃k:ByteArray,e.key=.string k/\k.size<=maxLen:=by
  intro e he;obtain⟨j,hj,rfl⟩:=mem_iff_getElem.1 he;obtain⟨p,hp,hk,_⟩:=hm.at_key (getElem?_eq_getElem hj);exact⟨p.1,hk,hm.okk p (mem_of_getElem? hp)⟩
 have m:∀e∈es.toList,∀k:ByteArray,e.key=.string k->k.size<=maxLen->WideElems.rd prog 9 tD e=some (.string k.data.toList,.nil):=by
  intro e _ k hk d;simp[WideElems.rd,hk,keyOf,mapKey,underlying9,d,tD]
 refine⟨_,⟨es,y,hm.heap,⟨?_,?_,?_⟩,oM,rfl⟩,?_,?_⟩
 ·simp only[maxLen];omega
 ·rw[MapKept.stamped_iff];refine⟨hm.clock,hm.born,?_⟩;have s:(es.toList.map (·.key)).Pairwise (·≠·):=by
   rw[hm.keys];have h2:=hm.nodup;rw[Nodup,pairwise_map]at h2;rw[pairwise_map];exact h2.imp λh e=>h (by injection e)
  rw[pairwise_map]at s;exact s
 ·intro e he;obtain⟨k,hk,d⟩:=f e he;exact⟨_,m e he k hk d⟩
 ·show(foldr DataW.insert [] _).length<=_;rw[(WideShapes.sorted_perm _).length_eq]
  simp;omega
 ·have h1:(strKeys (DataW.map (foldr DataW.insert [] (es.toList.map (WideElems.rg prog 9 tD))))).Perm ((es.toList.map (WideElems.rg prog 9 tD)).map λp=>strOf p.1) :=
   (WideShapes.sorted_perm _).map _
  refine h1.trans ?_;have h2:((es.toList.map (WideElems.rg prog 9 tD)).map λp=>strOf p.1)=M.map λp=>p.1.data.toList:=by
   rw[map_map];apply ext_getElem?;intro n;rw[getElem?_map,getElem?_map];cases he:es.toList[n]? with
   | none =>
    have:M[n]?=none:=by
     rw[List.getElem?_eq_none_iff]at he |-;have:=hm.length;simp at he;omega
    rw[this];rfl
   | some e =>
    obtain⟨p,r,hk,_⟩:=hm.at_key he;rw[r];have hr:=m e (mem_of_getElem? he) p.1 hk (hm.okk p (mem_of_getElem? r));simp[WideElems.rg_of hr,strOf]
  rw[h2];exact hp.map _
theorem leB_cmp(x y:List UInt8):leB x y=true↔¬kK y x<0:=by
 have h:=bytesLess_eq y x;rw[fA]at h;have h2:(kK y x<0)↔y<x:=by simpa using h
 show decide (x<=y)=true↔_;rw[decide_eq_true_eq,h2];exact Iff.rfl
theorem rX:∀ {L:List jJ},tC L->(L.map λp=>p.1.data.toList).Pairwise (λx y=>leB x y=true)
 | [],_=>by simp
 | x :: l,h=>by
  rw[map_cons,pairwise_cons];refine⟨λy hy=>?_,rX h.2⟩;obtain⟨z,hz,rfl⟩:=mem_map.1 hy;rw[leB_cmp];have h1:=h.1 z hz;have h2:=cmpS_asym h1;unfold qV at h2
  rwa [ByteArray.toList_eq,ByteArray.toList_eq]at h2
theorem qf{L:List jJ}(h:tC L)(hp:ss.Perm (L.map λp=>p.1.data.toList)) :
  (ss.mergeSort (λx y=>decide (x<=y))).map encStr=L.map λp=>Value.string p.1:=by
 have e:ss.mergeSort leB=(L.map λp=>p.1.data.toList).mergeSort leB:=mergeSort_of_perm hp;have e2:(L.map λp=>p.1.data.toList).mergeSort leB=L.map λp=>p.1.data.toList:=mergeSort_of_pairwise (rX h);have e3:ss.mergeSort (λx y=>decide (x<=y))=L.map λp=>p.1.data.toList:=e.trans e2;rw[e3,map_map];rfl
theorem lkeys(w:World)(g b:Nat)(L:List jJ)(h:xD w g b L)(hn:L.length<=1000000) :
  Calls prog 153 #[.map (some b)] w λe w'=>∃v,e=.returned v/\w'.ownsRow w.heap.size 9 1 v L.length (L.map λp=>.string p.1)/\Below w.heap.size w w':=by
 obtain⟨D0,k,A,f⟩:=h.owns hn;have c1:=callsIn_wide.1 (maps_Keys_207 (some b) w);have c2:=callsIn_wide.1 (slices_Sorted_keys_40_207 b L.length D0 tD w k (by simp only[maxLen];omega) oM);go_enter func153,ntmps153
 (go_wp2_with fail);refine c1.mono ?_;rintro e w' ⟨rfl,rfl⟩;(go_wp2_with fail);refine c2.mono ?_;rintro e w' ⟨v,ss,rfl,hS,d,s,hb⟩;(go_wp2_with fail);go_ret;have r:=hS.trans f;rw[qf h.rows.1 r]at d;have m:ss.length=L.length:=by rw[r.length_eq,length_map]
 rw[m]at d;have t:Below w.heap.size w (w.alloc (.cells #[.map (some b)] 222)):=bA;refine⟨v,rfl,?_,yK t hb⟩;obtain⟨r1,r2⟩:=d;refine⟨r1,?_⟩;rcases r2 with r2 | ⟨q,cap,y,hv,hq,j⟩
 ·exact .inl r2
 ·exact .inr ⟨q,cap,y,hv,by simp at hq;omega,j⟩
end
end Go.Proofs.YtdjiaickicgdlaaGreatDoor
