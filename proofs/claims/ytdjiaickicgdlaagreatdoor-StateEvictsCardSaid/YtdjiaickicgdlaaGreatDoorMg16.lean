/- Part 16 of the texts that lead to this claim: the walks of the functions and the plain law, in order. -/
import Derived.Test.YtdjiaickicgdlaaGreatDoorMg15
namespace Go.Proofs.YtdjiaickicgdlaaGreatDoor
open Go.RowKit
open List hiding and get max min or set
open Go.Proofs.Tryz
open World
set_option maxRecDepth 100000
set_option maxHeartbeats 8000000
variable {n:Nat}{S':List Pay}{e:Int}{L:List zB}
theorem vV.sto{X:StX}(h:vV n X)(hb:∀p∈S',p.body.size<=512):vV n ⟨X.q,X.D,X.O,S',X.V⟩:=⟨h.nd,h.ok,h.len,hb,h.nv,h.vw⟩
theorem K8{S:List Pay}{c:zB}(hb:∀p∈S,p.body.size<=512):∀p∈bF S c,p.body.size<=512:=by
 intro p hp;obtain⟨q,hq,rfl⟩:=mem_map.1 hp;have:=hb q hq;split <;> exact this
theorem nX(w:World)(g gd gs bo bv:Nat)(Fd Fs F M:List Nat)(N:List (VwX×VwP))(n:Nat)(X:StX)(h:bD w g gd gs bo bv Fd Fs F M N X)(hv:gP w)(hX:vV n X)(hn:n<=800)(A:Option Addr)(m c:Nat)(L:List zB)(hL:zX w A m L)(hm:m<=1000000)(hA:∀y∈blk A,y∉F) :
  Calls prog 69 #[.pointer (some ⟨g,0,none⟩),.slice A m c] w λe w'=>e=.returned (.tuple #[])/\jE w g F M (qF X L) w' F M :=
 (st_fold w g F M n X h.at_ hv hX hn A m c L hL hm hA).mono λ_ _ ⟨h1,h2,h3⟩=>⟨h1,jE.keep h.at_ h2 h3⟩
theorem st_pay(w:World)(g:Nat)(F M:List Nat)(n:Nat)(X:StX)(h:yX w g F M X)(hv:gP w)(hX:vP n X)(hn:n<=800)(b:ByteArray)(hb:b.size<=1000000) :
  Calls prog 32 #[.pointer (some ⟨g,0,none⟩),.string b] w λe w'=>e=.returned (.int .i64 (sQ X.S X.q b))/\∃F' M',jE w g F M (nH X b) w' F' M':=by
 obtain⟨gd,gs,bo,bv,Fd,Fs,N,h⟩:=h.sp;have c1:w.cell? ⟨g,1,none⟩=some (.pointer (some ⟨gs,0,none⟩)):=by rw[cell_of_row w g 1 _ _ _ h.st.heap];rfl
 have cP:=sto_put w gs Fs X.q X.S b h.st.sto hv.sha hb (by have:=hX.q0;have:=hX.q1;omega) hX.small;obtain⟨E,hE⟩:=eX (sQ X.S X.q b)
 rw[hE]at cP |-;have HX:=dH hX;have Hs:=dH h;have HE:=dH hE;have Hv:=dH hv;clear hX h hE hv;go_enter func32,ntmps32
 (go_wp2_with fail);refine cP.mono ?_;rintro e w1 ⟨rfl,⟨r,T,d2⟩,d1⟩;obtain⟨F1,M1,Z,a0⟩:=Hs.out.newSto rfl T d2 d1 Hv.out;obtain⟨I,hI⟩:∃I,(if E=0 then qM b.data.toList else id0)=I:=⟨_,rfl⟩
 rw[hI];have k:=dH Z;have b3:=dH a0;have HI:=dH hI;clear cP T d2 d1 Z a0 c1 hI;have a8:Below w1.heap.size w1 (w1.alloc (.cells (idC I) 31)):=bA;have L:zA (w1.alloc (.cells (idC I) 31)) w1.heap.size 0 32=some (idC I):=by simp[go_sem]
 by_cases b5:E=0
 ·subst b5;have eI:I=qM b.data.toList:=by rw[<-HI.out,if_pos rfl]
  obtain⟨e0,c9,d9,d8⟩:=putX_ok HX.out b HE.out;have f:vV n ⟨X.q,X.D,X.O,lV X.S X.q b,X.V⟩:=HX.out.pre.sto λp hp=>(c9 p hp).2.2;have U:xK (lV X.S X.q b)<=1000000:=oH HX.out.q1;have hW:=k.out.kept a8;have b4:=b3.out.trans (jE.below k.out.at_ a8);obtain⟨W,c2⟩:=eR (w1.alloc (.cells (idC I) 31))
  obtain⟨ga,b9⟩:=eX w1.heap.size
  rw[<-c2]at L hW b4;rw[b9]at L;have a5:ga∉F1:=λhx=>(oH (k.out.at_.lt ga hx));have cM:=st_mine W g gd gs bo bv Fd r M1 N n _ hW.st (Nat.le_trans HX.out.len oM) I;obtain⟨m,hm⟩:=eX (nJ ⟨X.q,X.D,X.O,lV X.S X.q b,X.V⟩ I)
  rw[hm]at cM;have HW:=dH hW;have e2:=dH b4;have e5:=dH c2;have e4:=dH b9;have Hm:=dH hm;have J:=dH f;have c4:=dH U;have c8:=dH a5;have d5:=dH eI;have d7:=dH (b4.vars Hs.out.at_ Hv.out);clear hW b4 c2 b9 hm f U e0 c9 d9 d8 eI HI a5 a8;(go_wp2_with fail);rw[<-e5.out,e4.out];refine cM.mono ?_;rintro e w2 ⟨rfl,a7⟩;have d:=((z9.of_below a7).row (zE L) sI _ _).trans L;have j:=dH (HW.out.kept a7);have d4:=dH (e2.out.trans (jE.below HW.out.at_ a7));have c3:=dH (d7.out.below a7);clear cM L a7;cases m with
  | false =>
   have c0:w2.cell? ⟨g,0,none⟩=some (.pointer (some ⟨gd,0,none⟩)):=by rw[cell_of_row w2 g 0 _ _ _ (j).out.st.heap];rfl
   have cC:=lB w2.drew gd Fd X.D (((j).out.st.dag).below ((Below.refl _ _).drew)) I (oH HX.out.len);have c7:=dH (j).out.at_.lt;have cF:=dH (fun (V:World) (hV:Below w2.heap.size w2 V) (A:Option Addr) (m c:Nat) (hL:zX V A m (vD X.D I)) (hm:m<=1000000) (hA:∀y∈blk A,y∉F1)=>nX V g gd gs bo bv Fd r F1 M1 N n _ ((j).out.kept hV) ((c3).out.below hV) (J.out) hn A m c (vD X.D I) hL hm hA);have b8:=JF (D:=X.D) I;have a4:=HX.out.len;go_upto_region 6 with fail
   refine nG (.loose 0 (.loose 1 (.loose 2 (.loose 3 (.loose 4 (.loose 5 (.one 6 (.one 7 .done)))))))) (Kp [] w2) false kR kR kR kR kR (gV [] w2) ?_;have a1:=iM [] w2;have hS:=gV [] w2;have b1:=zG c0 (S:=[]) sI;have b2:=zY d (S:=[]) sI;refine tZ ?_;refine tH ?_;intro K hK;refine cC.mono ?_;rintro e w5 ⟨⟨A5,n5,c5⟩,rfl,a3,s,a6⟩;replace hS:=bW hS a6;refine⟨_,rfl,hS,hK _ _ ?_⟩;clear hK K;unfold slV;refine xd rfl ?_ kR ?_;(focus(simp only[yO];done));intro K hK;go_simp;have H:Below w2.heap.size w2 w5:=z9.below (S:=[]) hS lR sI;refine(cF.out w5 H A5 n5 c5 s.slr (by have:n5=(vD X.D I).length:=a3;omega) (λy hy b6=>by have h1:=(s.at_base hy).1;have h2:=c7.out y b6;have h3:w2.heap.size<=y:=h1;omega)).mono ?_;rintro e w6 ⟨rfl,a2⟩;refine⟨_,rfl,hK _ _ ?_⟩;clear hK K;have c6:=dH (jE.trans (jE.below (j).out.at_ H) a2);clear a2 H hS a1 b1 b2 cF cC s a6 a3;(go_wp2_with fail);go_ret;refine⟨rfl,F1,M1,?_⟩;have e:nH X b=qF ⟨X.q,X.D,X.O,lV X.S X.q b,X.V⟩ (vD X.D I):=by
    unfold nH;rw[if_neg (by rw[HE.out];decide),<-d5.out,if_neg (by rw[show nJ X I=false from Hm.out];decide)]
   rw[e];exact d4.out.trans c6.out
  | true =>
   have c1:w2.cell? ⟨g,1,none⟩=some (.pointer (some ⟨gs,0,none⟩)):=by rw[cell_of_row w2 g 1 _ _ _ j.out.st.heap];rfl
   have cN:=sto_pin w2.drew gs r X.q (lV X.S X.q b) I (j.out.st.sto.kept (z9.drew w2) sI) c4.out;have hgs:g∉r:=by
    have hd:=j.out.st.dis;unfold vW at hd;exact(show vB (([g] :: [bo] :: [bv] :: [Fd])++r :: N.map vwF)from hd).ne [g] sI g sI
   have G:ga∉r:=λhx=>c8.out (j.out.mem (.inr (.inr (.inr (.inr (.inl hx))))));go_upto_region 5 with fail
   refine kX r w2 ?_;intro a1 hS;have b1:=zG c1 hgs;have b2:=zY d G;refine lQ ?_;intro K hK;refine cN.mono ?_;rintro e w3 ⟨⟨E3,rfl⟩,R,d0⟩;have d3:=yC hS d0 iL;refine⟨_,rfl,d3,hK _ _ ?_⟩;clear hK K;refine lZ ?_;refine zD ?_;intro hS;have B:z9 r w2 w3:=hS;obtain⟨F3,M3,Y,t⟩:=j.out.newSto rfl R iL B c3.out;have b7:=(B.row (zE d) G _ _).trans d;have a9:=dH Y;have e3:=dH (d4.out.trans t);have e1:=dH (t.vars j.out.at_ c3.out);have b0:=dH (J.out.sto (K8 (c:=I) J.out.body));clear a1 hS d3 b1 b2 cN R d0 B Y t d c1 hgs G;have c0:w3.cell? ⟨g,0,none⟩=some (.pointer (some ⟨gd,0,none⟩)):=by rw[cell_of_row w3 g 0 _ _ _ (a9).out.st.heap];rfl
   have cC:=lB w3.drew gd Fd X.D (((a9).out.st.dag).below ((Below.refl _ _).drew)) I (oH HX.out.len);have c7:=dH (a9).out.at_.lt;have cF:=dH (fun (V:World) (hV:Below w3.heap.size w3 V) (A:Option Addr) (m c:Nat) (hL:zX V A m (vD X.D I)) (hm:m<=1000000) (hA:∀y∈blk A,y∉F3)=>nX V g gd gs bo bv Fd r F3 M3 N n _ ((a9).out.kept hV) ((e1).out.below hV) (b0.out) hn A m c (vD X.D I) hL hm hA);have b8:=JF (D:=X.D) I;have a4:=HX.out.len;go_upto_region 6 with fail
   refine nG (.loose 0 (.loose 1 (.loose 2 (.loose 3 (.loose 4 (.loose 5 (.one 6 (.one 7 .done)))))))) (Kp [] w3) false kR kR kR kR kR (gV [] w3) ?_;have a1:=iM [] w3;have hS:=gV [] w3;have b1:=zG c0 (S:=[]) sI;have b2:=zY b7 (S:=[]) sI;refine tZ ?_;refine tH ?_;intro K hK;refine cC.mono ?_;rintro e w5 ⟨⟨A5,n5,c5⟩,rfl,a3,s,a6⟩;replace hS:=bW hS a6;refine⟨_,rfl,hS,hK _ _ ?_⟩;clear hK K;unfold slV;refine xd rfl ?_ kR ?_;(focus(simp only[yO];done));intro K hK;go_simp;have H:Below w3.heap.size w3 w5:=z9.below (S:=[]) hS lR sI;refine(cF.out w5 H A5 n5 c5 s.slr (by have:n5=(vD X.D I).length:=a3;omega) (λy hy b6=>by have h1:=(s.at_base hy).1;have h2:=c7.out y b6;have h3:w3.heap.size<=y:=h1;omega)).mono ?_;rintro e w6 ⟨rfl,a2⟩;refine⟨_,rfl,hK _ _ ?_⟩;clear hK K;have c6:=dH (jE.trans (jE.below (a9).out.at_ H) a2);clear a2 H hS a1 b1 b2 cF cC s a6 a3;(go_wp2_with fail);go_ret;refine⟨rfl,F3,M3,?_⟩;have e:nH X b=qF ⟨X.q,X.D,X.O,bF (lV X.S X.q b) I,X.V⟩ (vD X.D I):=by
    unfold nH;rw[if_neg (by rw[HE.out];decide),<-d5.out,if_pos (show nJ X I=true from Hm.out)]
   rw[e];exact e3.out.trans c6.out
 ·have hb:(E != 0)=true:=by simpa using b5
  have d6:=dH b5;have hn:=dH (b3.out.trans (jE.below k.out.at_ a8));clear b5 L a8;(go_wp2_with fail);go_ret;refine⟨rfl,F1,M1,?_⟩;have e:nH X b=⟨X.q,X.D,X.O,lV X.S X.q b,X.V⟩:=by
   unfold nH;rw[if_pos (by rw[HE.out];exact d6.out),show lV X.S X.q b=X.S from if_neg (λhh=>d6.out (HE.out.symm.trans hh.1))]
  rw[e];exact hn.out
theorem hd_id(w:World)(g:Nat)(l:List UInt8)(e:Int)(h:q9 w g l e) :
  Calls prog 111 #[.pointer (some ⟨g,0,none⟩)] w λen w'=>en=.returned (.agg (idC (xV (yY 32 l e))))/\lD w g (zN 32 l e) (zO 32 l e) w':=by
 have s:Below w.heap.size w ((w.alloc (.cells (idC id0) 31)).alloc (.cells (idC id0) 31)):=(bA).alloc sI _;have F:((w.alloc (.cells (idC id0) 31)).alloc (.cells (idC id0) 31)).heap[w.heap.size]?=some (.cells (idC id0) 31 (0,0)):=by
  rw[Below.heap_alloc _ _ _ sI];exact heap_alloc_new w _
 have r:((w.alloc (.cells (idC id0) 31)).alloc (.cells (idC id0) 31)).heap[w.heap.size+1]?=some (.cells (idC id0) 31 (0,0)):=by
  have:=heap_alloc_new (w.alloc (.cells (idC id0) 31)) (.cells (idC id0) 31);simpa using this
 have Y:=h.lt;have t:=h.below s;have k:((w.alloc (.cells (idC id0) 31)).alloc (.cells (idC id0) 31)).heap.size=w.heap.size+2:=sI;have G:=dH k;clear k h;go_enter func111,ntmps111
 go_upto_region 2 with fail
 obtain⟨ga,O⟩:=eX w.heap.size
 have a1:=dH O;obtain⟨W,hW⟩:=eR ((w.alloc (.cells (idC id0) 31)).alloc (.cells (idC id0) 31))
 rw[<-hW]at s F r t G |-;rw[O]at F r Y |-;clear hW;have E:ga+1<W.heap.size:=(aG r).1;have c1:=wT W.drew g l e (t.kept (z9.drew W) sI);refine kX [g,ga+1] W ?_;intro X hS;refine lQ ?_;intro K hK;refine c1.mono ?_;rintro en w1 ⟨rfl,L,D⟩;replace hS:=yC hS D sI;have m:w1.heap[ga+1]?=_:=(D.block (ga+1) (by show _<W.drew.heap.size;exact E) sO).trans r;refine⟨_,rfl,hS,hK _ _ ?_⟩;clear hK K c1;obtain⟨w2,m2,Z,f,B⟩:=pQ (yY 32 l e) (mK _ _) 3 32 m;refine lH ?_;intro K hK;refine zI (yC hS B sI) (λR=>?_);refine hK _ _ ?_;clear hK K;refine zD ?_;intro hS;have y:z9 [g,ga+1] W w2:=R;have J:=L.kept B sO;have j:=(y.block ga oM sO).trans F;clear Z hS R X D B L t m;obtain⟨d,hd⟩:=eX (xV (yY 32 l e))
 rw[hd]at f;have Hd:=dH hd;clear hd;have V:zA w2 (ga+1) 0 32=some (idC d):=by unfold zA;rw[f];simp[go_sem]
 have T:=y9 (P:=prog) xU w2 ga (idC id0) (idC d) _ j sI sI (yN _);have A:z9 [ga] w2 (w2.setRow ga (idC d)):=⟨rfl,rfl,rfl,by simp[setRow],λx _ hx=>setRow_other w2 ga x _ (by simpa using hx)⟩
 have H:=dH (setRow_heap w2 ga _ (idC d) _ _ j);have I:=J.kept A sO;have N:z9 [g,ga,ga+1] w (w2.setRow ga (idC d)):=z9.trans (z9.trans ((z9.of_below s).mono (S':=[g,ga,ga+1]) sI) (y.mono (S':=[g,ga,ga+1]) sI) iL) (A.mono (S':=[g,ga,ga+1]) sI) iL;have M:z9 [g] w (w2.setRow ga (idC d)):=N.narrow (λx hx=>by have:=a1.out;simp at hx |-;omega);have U:=dH I;have a0:=dH M;clear I J N M A j f s y;(go_wp2_with fail);exact bodyPost_ret (results_cell_row results111 _ _ ga 31 (idC d) (0,0) _ rfl H.out underlying31 rfl (by rw[xQ];exact xU)) rfl ⟨by rw[Hd.out],U.out,a0.out⟩
theorem hd_set0(x:Hd)(v:Value):(hdC x).setIfInBounds 0 v=hdC { x with ps:=v }:=by simp[hdC]
theorem hd_set1(x:Hd)(v:Int):(hdC x).setIfInBounds 1 (.int .i64 v)=hdC { x with ht:=v }:=by simp[hdC]
theorem hd_set2(x:Hd)(v:ByteArray):(hdC x).setIfInBounds 2 (.string v)=hdC { x with tp:=v }:=by simp[hdC]
theorem hd_set3(x:Hd)(v:Int):(hdC x).setIfInBounds 3 (.int .i64 v)=hdC { x with au:=v }:=by simp[hdC]
theorem hd_set4(x:Hd)(v:Int):(hdC x).setIfInBounds 4 (.int .i64 v)=hdC { x with sq:=v }:=by simp[hdC]
theorem hd_set5(x:Hd)(v:Int):(hdC x).setIfInBounds 5 (.int .i64 v)=hdC { x with sz:=v }:=by simp[hdC]
theorem rawL_err{l:List UInt8}(h:e≠0):zN n l e=l:=by unfold zN;rw[if_neg λhh=>h hh.1]
theorem qz{l:List UInt8}(h:e≠0):zO n l e=e:=by unfold zO;rw[if_neg h]
theorem fF{l:List UInt8}(h:zO n l e=0):e=0:=by
 by_cases he:e=0
 ·exact he
 ·rwa [qz he]at h
theorem hof_step{N k:Nat}(hk:k<N){G:List zB}{l:List UInt8}{s:nD zB}(hs:s=qJ idP (N-k) ⟨G,l,e⟩)(hG:e=0->G=L) :
  ∃G',s=qJ idP (N-(k+1)) ⟨G',zN 32 l e,zO 32 l e⟩/\(zO 32 l e=0->G'=L ++ [xV (yY 32 l e)]):=by
 rw[(oM:N-k=(N-(k+1))+1)]at hs;by_cases he:e=0
 ·rw[vA _ _ he]at hs;exact⟨G ++ [xV (yY 32 l e)],hs,λ_=>by rw[hG he]⟩
 ·rw[v8 _ _ he]at hs;refine⟨G,?_,λh=>absurd (fF h) he⟩;rw[rawL_err he,qz he,v8 _ _ he];exact hs
theorem hd_set6(x:Hd)(d:zB):((hdC x).toList.take (0+6)++(idC d).toList++(hdC x).toList.drop (0+6+(idC d).toList.length)).toArray=hdC { x with cm:=d }:=by
 apply Array.ext';have h1:(idC d).toList.length=32:=sI;have h2:(idC x.cm).toList.length=32:=sI;rw[h1];simp[hdC,take_append,drop_append,h2]
theorem qa{w:World}{g:Nat}{x:Hd}(d:zB)(h:w.heap[g]?=some (.cells (hdC x) 52 (0,0))) :
  (stS 31 ⟨g,6,none⟩ (.agg (idC d))).run prog w=.ok () (w.setRow g (hdC { x with cm:=d })):=by
 have f:=run_storeCells_at prog g 6 52 (idC d).toList 0 (hdC x) w h sI (yN d);rw[hd_set6]at f;unfold stS storeVar;have hi:=xU;cases hinfo:prog.info? 31 with
 | none=>rw[hinfo]at hi;cases hi
 | some i =>
  rw[hinfo]at hi;have hk:i.size=32:=by simpa using hi
  simp[Value.cells,sizeOf,typeInfo,hinfo,hk];simpa using f
theorem header_of(w:World)(b:ByteArray)(hb:b.size<=9223372036854775807) :
  Calls prog 66 #[.string b] w λe w'=>∃x:fZ,e=.returned (.tuple #[.agg (hdR x),.int .i64 (nO b.data.toList)])/\(nO b.data.toList=0->x.h=yc b.data.toList/\Own w' w.heap.size 31 32 x.A x.h.ps.length x.c (x.h.ps.map idC))/\Below w.heap.size w w':=by
 obtain⟨l,hl⟩:=eX b.data.toList
 have b8:l.length=b.size:=by rw[<-hl];rfl
 have hB:Below w.heap.size w (w.alloc (.cells (hdC hd0) 52)):=bA;have hr:=heap_alloc_new w (.cells (hdC hd0) 52);have cO:=dZ b (w.alloc (.cells (hdC hd0) 52)) hb;rw[hl]at cO |-;rw[(sI:(w.alloc (.cells (hdC hd0) 52)).heap.size=w.heap.size+1)]at cO;obtain⟨W0,d6⟩:=eR (w.alloc (.cells (hdC hd0) 52))
 have a3:W0.heap.size=w.heap.size+1:=by rw[d6];simp
 obtain⟨ga,d4⟩:=eX w.heap.size
 rw[d4]at a3;have i6:=dH a3;clear a3;rw[<-d6]at hB hr cO;rw[d4]at hr cO;have p0:=dH d6;have i9:=dH d4;have HB:=dH hB;have c7:=dH b8;clear d6 d4 hB hl b8;by_cases a6:256<b.size
 ·have hE:nO l=3:=by unfold nO;rw[if_pos (by rw[c7.out];exact a6)]
  have HE:=dH hE;have hd:decide ((256:Int)<b.size)=true:=sO;have b5:=tF w w.heap.size rfl (hdC hd0) sI hd0 cZ 52;have b6:=heap_alloc_new w (.cells (hdC hd0) 52);have n4:=dH (show Below w.heap.size w (w.alloc (.cells (hdC hd0) 52))from bA);have O:=dH b6;clear hE a6 hr cO b6;go_enter func66,ntmps66
  (go_wp2_with fail);refine bodyPost_ret (yZ results66 _ _ w.heap.size 52 (hdC hd0) (0,0) _ rfl O.out underlying52 rfl (by rw[k7];exact kJ)) rfl ?_;exact⟨⟨⟨[],0,⟨#[]⟩,0,0,0,id0⟩,none,0⟩,by rw[HE.out];rfl,λh=>absurd h (by rw[HE.out];decide),n4.out⟩
 ·have hd:decide ((256:Int)<b.size)=false:=sO;have j2:l.length<=256:=oH c7.out;have HE:=dH (show nO l=if jL (rN l).2.1 (rN l).2.2≠0 then jL (rN l).2.1 (rN l).2.2 else hdE (rN l).1 by unfold nO;rw[if_neg oM]);clear a6;go_enter func66,ntmps66
  (go_wp2_with fail);rw[<-p0.out,i9.out];refine cO.mono ?_;rintro e w1 ⟨rfl,i5,c4⟩;replace c4:Below W0.heap.size W0 w1:=by rw[i6.out];exact c4
  have j0:=(c4.block ga (aG hr).1).trans hr;have b2:ga+1<w1.heap.size:=i5.lt;have d5:Below w1.heap.size w1 (w1.alloc (.cells (hdC hd0) 52)):=bA;have c0:=heap_alloc_new w1 (.cells (hdC hd0) 52);have c9:=(d5.block ga oM).trans j0;have d8:=i5.below d5;have j:=yK (yK HB.out c4) d5;obtain⟨W,hW⟩:=eR (w1.alloc (.cells (hdC hd0) 52))
  obtain⟨gh,g6⟩:=eX w1.heap.size
  rw[<-hW]at c0 c9 d8 j;rw[g6]at c0 b2;obtain⟨gr,g4⟩:=eX (ga+1)
  rw[g4]at d8 b2 |-;have HW:=dH hW;have o7:=dH g6;have i8:=dH g4;clear hW g6 hr j0 i5 c4 d5 cO g4;(go_wp2_with fail);rw[<-HW.out,o7.out];refine(sN W gr 1 l 0 d8 oM).mono ?_;rintro e w3 ⟨rfl,s,f⟩;have m8:=xP 1 l 0;obtain⟨n,hn⟩:=eX (xB 1 l 0)
  obtain⟨l1,g1⟩:=eX (zN 1 l 0)
  obtain⟨e1,i1⟩:=eX (zO 1 l 0)
  have hP:hofP l=qJ idP n ⟨[],l1,e1⟩:=by rw[<-hn,<-g1,<-i1];rfl
  rw[hn]at m8 |-;rw[g1,i1]at s;have HP:=dH hP;have m:=(f.block gh (aG c0).1 sO).trans c0;have D:=(f.block ga (aG c9).1 (oS i8.out)).trans c9;have n0:w.heap.size<gr:=by have:=i8.out;have:=i9.out;omega
  have n2:ga<gr:=oH i8.out;have j8:Below w.heap.size w w3:=j.trans (f.below (B:=w.heap.size) j.size sO);have n1:gh<w3.heap.size:=(aG m).1;have a7:=dH (show w.heap.size<=ga from by have:=i9.out;omega);clear hn g1 i1 hP f c0 c9 j d8;(go_wp2_with fail);go_loopw [15] (λi wr=>∃(k:Nat) (L:List zB) (G:List zB) (l2:List UInt8) (e2:Int) (A:Option Addr) (cap:Nat),k<=n/\i=.int .i64 k/\L.length=k/\Hid (hofP l=qJ idP (n-k) ⟨G,l2,e2⟩)/\Hid (e2=0->G=L)/\wr.heap[gh]?=some (.cells (hdC ⟨.slice A L.length cap,0,⟨#[]⟩,0,0,0,id0⟩) 52 (0,0))/\wr.heap[ga]?=some (.cells (hdC hd0) 52 (0,0))/\q9 wr gr l2 e2/\Own wr w3.heap.size 31 32 A L.length cap (L.map idC)/\Below w.heap.size w wr/\w3.heap.size<=wr.heap.size) (λi _=>n-(intOf i).toNat)
  case atStart=>exact⟨0,[],[],l1,e1,none,0,zL,rfl,rfl,HP,(show _=_->_=_ from λ_=>rfl),m,D,s,Own.nil _ _ _ _,j8,lR⟩
  case round =>
   clear m D s j8;obtain⟨k,L,G,l2,e2,A,cap,hk,rfl,hL,d3,hG,hg,hr,hE,hO,j,b3⟩:=hrel;have HL:=dH hL;have k0:L.length<=255:=oM;clear hL;by_cases m9:k<n
   ·obtain⟨G',h1,h2⟩:=hof_step m9 d3.out hG.out;have n9:=dH h1;have HG:=dH h2;have c6:∀x∈blk A,w3.heap.size<=x/\x<wr.heap.size:=λx hx=>hO.at_base hx;have j1:gh∉gr :: blk A:=by
     intro hm;rcases mem_cons.1 hm with h1 | h1
     ·omega
     ·have:=(c6 _ h1).1;omega
    have n3:gr∉blk A:=λh1=>(oH ((c6 _ h1).1));have g7:ga∉gr :: blk A:=by
     intro hm;rcases mem_cons.1 hm with h1 | h1
     ·omega
     ·have:=(c6 _ h1).1;omega
    have x0:wr.cell? ⟨gh,0,none⟩=some (.slice A L.length cap):=by rw[cell_of_row wr gh _ _ _ _ hg];simp[go_sem]
    have k4:=hd_id wr.drew gr l2 e2 (hE.kept (z9.drew wr) sI);clear h1 h2 d3 hG;go_upto_region 7 with fail
    refine kF (gr :: blk A) wr ?_;intro m6 hS;have b1:=zG x0 j1;refine lQ ?_;intro K hK;refine k4.mono ?_;rintro en w4 ⟨rfl,F,g2⟩;replace hS:=yC hS g2 sI;refine⟨_,rfl,hS,hK _ _ ?_⟩;clear hK K k4;refine lQ ?_;intro K hK;refine zI (bX hS _) (λhS=>?_);refine hK _ _ ?_;clear hK K;obtain⟨d,hd⟩:=eX (xV (yY 32 l2 e2))
    rw[hd]at hS |-;have Hd:=dH hd;clear hd;have Z:z9 [gr] wr w4:=z9.trans ((z9.drew wr).mono (S':=[gr]) sI) g2 iL;have t:=z9.alloc w4 (.cells (idC d) 31);have a1:=(hO.kept Z (λx hx=>oS ((c6 x hx).1))).kept t sI;have a0:zA (w4.alloc (.cells (idC d) 31)) w4.heap.size 0 32=some (idC d):=by simp[go_sem]
    have m3:=Z.size;have k2:w3.heap.size<=(w4.alloc (.cells (idC d) 31)).heap.size:=sO;refine mE yP rfl a1 rfl a0 (yN _) oM oM k2 ?_;intro A2 Y w5 X j7 b4;have a4:z9 (blk A) w4 w5:=z9.trans (t.mono (S':=blk A) sI) j7 iL;have a5:z9 (gr :: blk A) wr w5:=z9.trans (Z.mono (S':=gr :: blk A) sI) (a4.mono (S':=gr :: blk A) (λx hx=>.inl (mem_cons_of_mem _ hx))) iL;refine zI a5 (λn5=>?_);refine lZ ?_;have g5:gh<wr.heap.size:=(aG hg).1;have U:=(a5.block gh g5 j1).trans hg;have b7:=(a5.block ga oM g7).trans hr;have f0:w5.frozen? ⟨gh,0,none⟩=false:=by simp[frozen?,U]
    have d0:w5.cell? ⟨gh,0,none⟩=some (.slice A L.length cap):=by rw[cell_of_row w5 gh _ _ _ _ U];simp[go_sem]
    refine j3 ?_ ?_;(focus(simp only[yO];done));intro K hK;go_simp;refine hK _ _ ?_;clear hK K;have b9:=zF U 0 (.slice A2 (L.length+1) Y);rw[hd_set0]at b9;have g:=z9.setCell w5 ⟨gh,0,none⟩ (.slice A2 (L.length+1) Y);have d7:=(q9.kept F a4 n3).kept g sO;have f4:=(g.block ga (oH a5.size) sO).trans b7;have k3:∀x∈blk A2,x∉[gh]:=λx hx=>(oS ((X.at_base hx).1));have a2:=X.kept g k3;have n6:Below w.heap.size w (w5.setCell ⟨gh,0,none⟩ (.slice A2 (L.length+1) Y)):=by
     have h1:Below w.heap.size w w5:=j.trans (a5.below (B:=w.heap.size) j.size (λx hx=>by
      rcases mem_cons.1 hx with h | h
      ·omega
      ·have:=(c6 x h).1;omega))
     exact h1.trans (g.below (B:=w.heap.size) h1.size sO)
    have f1:w3.heap.size<=(w5.setCell ⟨gh,0,none⟩ (.slice A2 (L.length+1) Y)).heap.size:=by have:=a5.size;have:=g.size;omega
    have j4:(L ++ [d]).length=L.length+1:=sI;rw[(sI:L.map idC ++ [idC d]=(L ++ [d]).map idC)]at a2;have i7:=dH j4;rw[Hd.out]at HG;clear j4 f0 d0 b1 m6 hS a5 n5 Z a4 g2 j7 b4 X a1 a0 t U b7 g F k2 hO hE hg hr x0 k3 j;(go_wp2_with fail);go_roundw
    case rel=>exact⟨k+1,L ++ [d],G',zN 32 l2 e2,zO 32 l2 e2,A2,Y,oM,by go_num,by rw[i7.out,HL.out],n9,HG,(by rw[i7.out];exact b9),f4,d7,(by rw[i7.out];exact a2),n6,f1⟩
    case measure=>exact sZ
   ·have j9:hofP l=⟨G,l2,e2⟩:=by rw[d3.out,(oM:n-k=0)];rfl
    have p1:=dH j9;clear j9 d3;obtain⟨W,rfl⟩:∃W:World,W=wr:=⟨_,rfl⟩
    clear b3;(go_wp2_with fail);refine(sN _ gr 4 _ _ hE oM).mono ?_;rintro e w7 ⟨rfl,s,f⟩;obtain⟨ht,g3⟩:∃nv:Nat,xB 4 l2 e2=nv:=⟨_,rfl⟩
    obtain⟨l3,g0⟩:=eX (zN 4 l2 e2)
    obtain⟨e3,i0⟩:=eX (zO 4 l2 e2)
    rw[g3];rw[g0,i0]at s;have o6:=dH g3;have o5:=dH g0;have m0:=dH i0;clear g3 g0 i0;have J:=Own.kept hO f (λx hx=>oS ((hO.at_base hx).1));have m:=(f.block gh (aG hg).1 sO).trans hg;have D:=(f.block ga (aG hr).1 sO).trans hr;have x0:w7.cell? ⟨gh,1,none⟩=some (.int .i64 0):=by rw[cell_of_row w7 gh _ _ _ _ m];simp[go_sem]
    have f0:w7.frozen? ⟨gh,1,none⟩=false:=by simp[frozen?,m]
    have r:=zF m 1 (.int .i64 (ht:Nat));rw[hd_set1]at r;have g:=z9.setCell w7 ⟨gh,1,none⟩ (.int .i64 (ht:Nat));have F:=q9.kept s g sO;have H:=(g.block ga (aG D).1 sO).trans D;have I:=Own.kept J g (λx hx=>oS ((J.at_base hx).1));have t:Below w.heap.size w (w7.setCell ⟨gh,1,none⟩ (.int .i64 (ht:Nat))):=(j.trans (f.below (B:=w.heap.size) j.size sO)).trans (g.below (B:=w.heap.size) (Nat.le_trans j.size f.size) sO);clear hE s f hg m hr D hO J g j;go_upto_region 10 with fail
    obtain⟨W',N⟩:=eR (w7.setCell ⟨gh,1,none⟩ (.int .i64 (ht:Nat)))
    rw[<-N]at r F H I t |-;clear N x0 f0;obtain⟨W,rfl⟩:∃W:World,W=W':=⟨_,rfl⟩
    have hE:=F;have hg:=r;have hr:=H;have hO:=I;have j:=t;clear F r H I t;(go_wp2_with fail);refine(fO _ gr l3 e3 hE).mono ?_;rintro e w6 ⟨rfl,d7,j6⟩;have m7:=xP 1 l3 e3;(go_wp2_with fail);refine(dO _ gr _ _ _ d7 oM).mono ?_;rintro e w7 ⟨rfl,s,j5⟩;have f:z9 [gr] W w7:=z9.trans j6 j5 iL;replace s:q9 w7 gr (txL l3 e3) (txE l3 e3):=s;obtain⟨tp,e9⟩:=eX (mkB (yY (xB 1 l3 e3) (zN 1 l3 e3) (zO 1 l3 e3)))
    have k5:=dH (show txV l3 e3=tp from e9);rw[e9];obtain⟨l4,f9⟩:=eX (txL l3 e3)
    obtain⟨e4,h9⟩:=eX (txE l3 e3)
    rw[f9,h9]at s;have o4:=dH f9;have l9:=dH h9;clear f9 h9 e9 j6 j5 d7 m7;have J:=Own.kept hO f (λx hx=>oS ((hO.at_base hx).1));have m:=(f.block gh (aG hg).1 sO).trans hg;have D:=(f.block ga (aG hr).1 sO).trans hr;have x0:w7.cell? ⟨gh,2,none⟩=some (.string ⟨#[]⟩):=by rw[cell_of_row w7 gh _ _ _ _ m];simp[go_sem]
    have f0:w7.frozen? ⟨gh,2,none⟩=false:=by simp[frozen?,m]
    have r:=zF m 2 (.string tp);rw[hd_set2]at r;have g:=z9.setCell w7 ⟨gh,2,none⟩ (.string tp);have F:=q9.kept s g sO;have H:=(g.block ga (aG D).1 sO).trans D;have I:=Own.kept J g (λx hx=>oS ((J.at_base hx).1));have t:Below w.heap.size w (w7.setCell ⟨gh,2,none⟩ (.string tp)):=(j.trans (f.below (B:=w.heap.size) j.size sO)).trans (g.below (B:=w.heap.size) (Nat.le_trans j.size f.size) sO);clear hE s f hg m hr D hO J g j;go_upto_region 11 with fail
    obtain⟨W',N⟩:=eR (w7.setCell ⟨gh,2,none⟩ (.string tp))
    rw[<-N]at r F H I t |-;clear N x0 f0;obtain⟨W,rfl⟩:∃W:World,W=W':=⟨_,rfl⟩
    have hE:=F;have hg:=r;have hr:=H;have hO:=I;have j:=t;clear F r H I t;(go_wp2_with fail);refine(sN _ gr 1 _ _ hE oM).mono ?_;rintro e w7 ⟨rfl,s,f⟩;obtain⟨au,i3⟩:∃nv:Nat,xB 1 l4 e4=nv:=⟨_,rfl⟩
    obtain⟨l5,f8⟩:=eX (zN 1 l4 e4)
    obtain⟨e5,h8⟩:=eX (zO 1 l4 e4)
    rw[i3];rw[f8,h8]at s;have o9:=dH i3;have o3:=dH f8;have l0:=dH h8;clear i3 f8 h8;have J:=Own.kept hO f (λx hx=>oS ((hO.at_base hx).1));have m:=(f.block gh (aG hg).1 sO).trans hg;have D:=(f.block ga (aG hr).1 sO).trans hr;have x0:w7.cell? ⟨gh,3,none⟩=some (.int .i64 0):=by rw[cell_of_row w7 gh _ _ _ _ m];simp[go_sem]
    have f0:w7.frozen? ⟨gh,3,none⟩=false:=by simp[frozen?,m]
    have r:=zF m 3 (.int .i64 (au:Nat));rw[hd_set3]at r;have g:=z9.setCell w7 ⟨gh,3,none⟩ (.int .i64 (au:Nat));have F:=q9.kept s g sO;have H:=(g.block ga (aG D).1 sO).trans D;have I:=Own.kept J g (λx hx=>oS ((J.at_base hx).1));have t:Below w.heap.size w (w7.setCell ⟨gh,3,none⟩ (.int .i64 (au:Nat))):=(j.trans (f.below (B:=w.heap.size) j.size sO)).trans (g.below (B:=w.heap.size) (Nat.le_trans j.size f.size) sO);clear hE s f hg m hr D hO J g j;go_upto_region 12 with fail
    obtain⟨W',N⟩:=eR (w7.setCell ⟨gh,3,none⟩ (.int .i64 (au:Nat)))
    rw[<-N]at r F H I t |-;clear N x0 f0;obtain⟨W,rfl⟩:∃W:World,W=W':=⟨_,rfl⟩
    have hE:=F;have hg:=r;have hr:=H;have hO:=I;have j:=t;clear F r H I t;(go_wp2_with fail);refine(sN _ gr 4 _ _ hE oM).mono ?_;rintro e w7 ⟨rfl,s,f⟩;obtain⟨sq,f2⟩:∃nv:Nat,xB 4 l5 e5=nv:=⟨_,rfl⟩
    obtain⟨l6,f7⟩:=eX (zN 4 l5 e5)
    obtain⟨e6,h0⟩:=eX (zO 4 l5 e5)
    rw[f2];rw[f7,h0]at s;have n8:=dH f2;have o2:=dH f7;have k9:=dH h0;clear f2 f7 h0;have J:=Own.kept hO f (λx hx=>oS ((hO.at_base hx).1));have m:=(f.block gh (aG hg).1 sO).trans hg;have D:=(f.block ga (aG hr).1 sO).trans hr;have x0:w7.cell? ⟨gh,4,none⟩=some (.int .i64 0):=by rw[cell_of_row w7 gh _ _ _ _ m];simp[go_sem]
    have f0:w7.frozen? ⟨gh,4,none⟩=false:=by simp[frozen?,m]
    have r:=zF m 4 (.int .i64 (sq:Nat));rw[hd_set4]at r;have g:=z9.setCell w7 ⟨gh,4,none⟩ (.int .i64 (sq:Nat));have F:=q9.kept s g sO;have H:=(g.block ga (aG D).1 sO).trans D;have I:=Own.kept J g (λx hx=>oS ((J.at_base hx).1));have t:Below w.heap.size w (w7.setCell ⟨gh,4,none⟩ (.int .i64 (sq:Nat))):=(j.trans (f.below (B:=w.heap.size) j.size sO)).trans (g.below (B:=w.heap.size) (Nat.le_trans j.size f.size) sO);clear hE s f hg m hr D hO J g j;go_upto_region 13 with fail
    obtain⟨W',N⟩:=eR (w7.setCell ⟨gh,4,none⟩ (.int .i64 (sq:Nat)))
    rw[<-N]at r F H I t |-;clear N x0 f0;obtain⟨W,rfl⟩:∃W:World,W=W':=⟨_,rfl⟩
    have hE:=F;have hg:=r;have hr:=H;have hO:=I;have j:=t;clear F r H I t;(go_wp2_with fail);refine(sN _ gr 2 _ _ hE oM).mono ?_;rintro e w7 ⟨rfl,s,f⟩;obtain⟨sz,b3⟩:∃nv:Nat,xB 2 l6 e6=nv:=⟨_,rfl⟩
    obtain⟨l7,f6⟩:=eX (zN 2 l6 e6)
    obtain⟨e7,g9⟩:=eX (zO 2 l6 e6)
    rw[b3];rw[f6,g9]at s;have n7:=dH b3;have o1:=dH f6;have k8:=dH g9;clear b3 f6 g9;have J:=Own.kept hO f (λx hx=>oS ((hO.at_base hx).1));have m:=(f.block gh (aG hg).1 sO).trans hg;have D:=(f.block ga (aG hr).1 sO).trans hr;have x0:w7.cell? ⟨gh,5,none⟩=some (.int .i64 0):=by rw[cell_of_row w7 gh _ _ _ _ m];simp[go_sem]
    have f0:w7.frozen? ⟨gh,5,none⟩=false:=by simp[frozen?,m]
    have r:=zF m 5 (.int .i64 (sz:Nat));rw[hd_set5]at r;have g:=z9.setCell w7 ⟨gh,5,none⟩ (.int .i64 (sz:Nat));have F:=q9.kept s g sO;have H:=(g.block ga (aG D).1 sO).trans D;have I:=Own.kept J g (λx hx=>oS ((J.at_base hx).1));have t:Below w.heap.size w (w7.setCell ⟨gh,5,none⟩ (.int .i64 (sz:Nat))):=(j.trans (f.below (B:=w.heap.size) j.size sO)).trans (g.below (B:=w.heap.size) (Nat.le_trans j.size f.size) sO);clear hE s f hg m hr D hO J g j;go_upto_region 14 with fail
    obtain⟨W',N⟩:=eR (w7.setCell ⟨gh,5,none⟩ (.int .i64 (sz:Nat)))
    rw[<-N]at r F H I t |-;clear N x0 f0;obtain⟨W,rfl⟩:∃W:World,W=W':=⟨_,rfl⟩
    have hE:=F;have hg:=r;have hr:=H;have hO:=I;have j:=t;clear F r H I t;(go_wp2_with fail);refine(hd_id _ gr l7 e7 hE).mono ?_;rintro e w7 ⟨rfl,s,f⟩;obtain⟨d,i2⟩:=eX (xV (yY 32 l7 e7))
    obtain⟨l8,f5⟩:=eX (zN 32 l7 e7)
    obtain⟨e8,b0⟩:=eX (zO 32 l7 e7)
    rw[i2];rw[f5,b0]at s;have o8:=dH i2;have o0:=dH f5;have k6:=dH b0;have J:=Own.kept hO f (λx hx=>oS ((hO.at_base hx).1));have m:=(f.block gh (aG hg).1 sO).trans hg;have D:=(f.block ga (aG hr).1 sO).trans hr;have b5:=qa d m;have r:=setRow_heap w7 gh _ (hdC ⟨.slice A L.length cap,ht,tp,au,sq,sz,d⟩) _ _ m;have g:=rM w7 gh (hdC ⟨.slice A L.length cap,ht,tp,au,sq,sz,d⟩);have F:=q9.kept s g sO;have H:=(g.block ga (aG D).1 sO).trans D;have I:=Own.kept J g (λx hx=>oS ((J.at_base hx).1));have t:Below w.heap.size w (w7.setRow gh (hdC ⟨.slice A L.length cap,ht,tp,au,sq,sz,d⟩)):=(j.trans (f.below (B:=w.heap.size) j.size sO)).trans (g.below (B:=w.heap.size) (Nat.le_trans j.size f.size) sO);clear i2 f5 b0 hE s f hg m hr D hO J g j;go_upto_region 15 with fail
    obtain⟨W',N⟩:=eR (w7.setRow gh (hdC ⟨.slice A L.length cap,ht,tp,au,sq,sz,d⟩))
    rw[<-N]at r F H I t |-;clear N b5;obtain⟨V,rfl⟩:∃V:World,V=W':=⟨_,rfl⟩
    have hV:rN l=(⟨G,ht,tp,au,sq,sz,d⟩,l8,e8):=by
     unfold rN;rw[p1.out];unfold hofT;simp only[o6.out,o5.out,m0.out,k5.out,o4.out,l9.out,o9.out,o3.out,l0.out,n8.out,o2.out,k9.out,n7.out,o1.out,k8.out,o8.out,o0.out,k6.out]
    have hz:e8=0->e2=0:=λh=>by
     have h7:=fF (k6.out.trans h);have h6:=fF (k8.out.trans h7);have h5:=fF (k9.out.trans h6);have h4:=fF (l0.out.trans h5);have h3:=fF (fF (show zO (xB 1 l3 e3) (zN 1 l3 e3) (zO 1 l3 e3)=0 from l9.out.trans h4));exact fF (m0.out.trans h3)
    rw[hV]at HE;have HV:=dH hV;have Hz:=dH hz;clear hV hz;(go_wp2_with fail);refine(dP V gr l8 e8 F).mono ?_;rintro e w8 ⟨rfl,c2⟩;obtain⟨E,i4⟩:=eX (jL l8 e8)
    rw[i4];have e0:=dH i4;have g8:=(c2.block gh (aG r).1).trans r;have a9:=(c2.block ga (aG H).1).trans H;have d2:=I.below c2;have c3:=yK t c2;clear i4 r H I t c2 F;by_cases c5:E=0
    ·subst c5;have b0:e8=0:=by
      have:=e0.out;unfold jL at this;by_cases h:e8=0
      ·exact h
      ·rw[if_neg h]at this;exact absurd this h
     have k1:G=L:=hG.out (Hz.out b0);have m1:=dH k1;have f3:zA w8 gh 0 38=some (hdC ⟨.slice A L.length cap,ht,tp,au,sq,sz,d⟩):=by unfold zA;rw[g8];simp[go_sem]
     have cK:=J3 w8 ⟨L,ht,tp,au,sq,sz,d⟩ A cap d2.slr (by show L.length<=_;omega) (by show tp.size<=_;have:=wP l3 e3;rw[k5.out]at this;omega);obtain⟨C,hC⟩:=eX (hdE ⟨L,ht,tp,au,sq,sz,d⟩)
     rw[hC]at cK;have HC:=dH hC;have M:nO l=C:=by
      rw[HE.out,if_neg (by show ¬jL l8 e8≠0;rw[e0.out];decide)];show hdE ⟨G,ht,tp,au,sq,sz,d⟩=C;rw[m1.out];exact HC.out
     have T:=dH M;clear hC M k1 b0;have cK:Calls prog 113 #[.agg (hdC ⟨.slice A L.length cap,ht,tp,au,sq,sz,d⟩)] w8 λe w'=>e=.returned (.int .i64 C)/\Below w8.heap.size w8 w':=cK;(go_wp2_with fail);refine cK.mono ?_;rintro e w9 ⟨rfl,c1⟩;have m4:=((z9.of_below c1).row (zE f3) sI _ _).trans f3;have a8:=(c1.block ga (aG a9).1).trans a9;have d1:=d2.below c1;have R:=yK c3 c1;clear cK f3 a9 g8 d2 c3 c1;by_cases d9:C=0
     ·subst d9;have b5:=y9 (P:=prog) kJ w9 ga (hdC hd0) (hdC ⟨.slice A L.length cap,ht,tp,au,sq,sz,d⟩) _ a8 sI sI (gX _ rfl);have O:=dH (setRow_heap w9 ga _ (hdC ⟨.slice A L.length cap,ht,tp,au,sq,sz,d⟩) _ _ a8);have hk:=rM w9 ga (hdC ⟨.slice A L.length cap,ht,tp,au,sq,sz,d⟩);have c8:=dH (R.trans (hk.below R.size (by simp;exact a7.out)));have m5:=dH ((d1.kept hk (λy hy=>oS (d1.at_base hy))).mono (B':=w.heap.size) oM);clear hk a8 d1 R;(go_wp2_with fail);refine bodyPost_ret (yZ results66 _ _ ga 52 (hdC ⟨.slice A L.length cap,ht,tp,au,sq,sz,d⟩) (0,0) _ rfl O.out underlying52 rfl (by rw[k7];exact kJ)) rfl ?_;exact⟨⟨⟨L,ht,tp,au,sq,sz,d⟩,A,cap⟩,by rw[T.out];rfl,λ_=>⟨by show _=(rN l).1;rw[HV.out,m1.out],m5.out⟩,c8.out⟩
     ·have p5:(C != 0)=true:=by simpa using d9
      have p2:=dH d9;have b5:=y9 (P:=prog) kJ w9 ga (hdC hd0) (hdC hd0) _ a8 sI sI (gX _ cZ);have O:=dH (setRow_heap w9 ga _ (hdC hd0) _ _ a8);have hk:=rM w9 ga (hdC hd0);have c8:=dH (R.trans (hk.below R.size (by simp;exact a7.out)));clear hk a8 d1 R d9;(go_wp2_with fail);refine bodyPost_ret (yZ results66 _ _ ga 52 (hdC hd0) (0,0) _ rfl O.out underlying52 rfl (by rw[k7];exact kJ)) rfl ?_;exact⟨⟨⟨[],0,⟨#[]⟩,0,0,0,id0⟩,none,0⟩,by rw[T.out];rfl,λh=>absurd (T.out.symm.trans h) p2.out,c8.out⟩
    ·have p4:(E==0)=false:=by simpa using c5
     have p3:(E != 0)=true:=by simpa using c5
     have m2:=dH c5;have M:nO l=E:=by
      rw[HE.out,if_pos (show jL l8 e8≠0 by rw[e0.out];exact m2.out)];exact e0.out
     have T:=dH M;have b5:=y9 (P:=prog) kJ w8 ga (hdC hd0) (hdC hd0) _ a9 sI sI (gX _ cZ);have O:=dH (setRow_heap w8 ga _ (hdC hd0) _ _ a9);have hk:=rM w8 ga (hdC hd0);have c8:=dH (c3.trans (hk.below c3.size (by simp;exact a7.out)));clear hk a9 d2 c3 g8 c5 M;(go_wp2_with fail);refine bodyPost_ret (yZ results66 _ _ ga 52 (hdC hd0) (0,0) _ rfl O.out underlying52 rfl (by rw[k7];exact kJ)) rfl ?_;exact⟨⟨⟨[],0,⟨#[]⟩,0,0,0,id0⟩,none,0⟩,by rw[T.out];rfl,λh=>absurd (T.out.symm.trans h) m2.out,c8.out⟩
theorem vV.add{X:StX}(h:vP n X){y:HdV}(hv:gD X.D y=0)(O':List zB)(hb:∀p∈S',p.body.size<=512):vV (n+1) ⟨X.q,kA X.D y,O',S',X.V⟩:=by
 obtain⟨a1,a2,a3,a4,a5,a6⟩:=rJ h hv;exact⟨a1,a3,a4,hb,h.nv,λv d=>(h.vw v d).grow λx hx=>fB.2 (.inl hx)⟩
def YP(X:StX)(l:List UInt8):Int:=if nO l≠0 then nO l else gD X.D (yc l)
def iQ(X:StX)(l:List UInt8)(own:Bool):StX:=if nO l≠0 then X else Y9 X (yc l) own
theorem stId_at(w:World)(g:Nat)(d0:zB)(h:w.heap[g]?=some (.cells (idC d0) 31 (0,0)))(d:zB) :
  ∃w2,(stS 31 ⟨g,0,none⟩ (.agg (idC d))).run prog w=.ok () w2/\zA w2 g 0 32=some (idC d)/\z9 [g] w w2 :=
 ⟨_,y9 (P:=prog) xU w g (idC d0) (idC d) _ h sI sI (yN _),by unfold zA;rw[setRow_heap w g _ (idC d) _ _ h];simp,rM w g (idC d)⟩
theorem xw(w:World)(i:zB):zX (w.alloc (.cells (idC i) 31)) (some ⟨w.heap.size,0,none⟩) 1 [i] :=
 ⟨rfl,λ_=>⟨_,_,rfl,λj hj=>by
  have e:j=0:=by simpa using hj
  subst e;simp[go_sem]⟩⟩
theorem VR(w:World)(g:Nat)(F M:List Nat)(n:Nat)(X:StX)(h:yX w g F M X)(hv:gP w)(hX:vP n X)(hn:n<=700)(b:ByteArray)(hb:b.size<=1000000)(own:Bool) :
  Calls prog 31 #[.pointer (some ⟨g,0,none⟩),.string b,.bool own] w λe w'=>e=.returned (.int .i64 (YP X b.data.toList))/\∃F' M',jE w g F M (iQ X b.data.toList own) w' F' M':=by
 obtain⟨gd,gs,bo,bv,Fd,Fs,N,h⟩:=h.sp;have cO:=header_of w b oM;obtain⟨l,hl⟩:=eX b.data.toList
 rw[hl]at cO |-;obtain⟨E,hE⟩:=eX (nO l)
 rw[hE]at cO;have HX:=dH hX;have Hs:=dH h;have HE:=dH hE;have Hv:=dH hv;clear hX h hE hv hl;go_enter func31,ntmps31
 (go_wp2_with fail);refine cO.mono ?_;rintro e w1 ⟨x,rfl,f2,d0⟩;have c9:Below w1.heap.size w1 (w1.alloc (.cells (hdC (hdO x.h x.A x.c)) 52)):=bA;have e8:=tF w1 w1.heap.size rfl (hdC hd0) sI (hdO x.h x.A x.c) (cX x) 52;have t:zA (w1.alloc (.cells (hdC (hdO x.h x.A x.c)) 52)) w1.heap.size 0 38=some (hdR x):=by simp[go_sem,hdR]
 by_cases d2:E=0
 ·subst d2;obtain⟨g5,b6⟩:=f2 rfl;have f:=b6.below c9;obtain⟨W,hW⟩:=eR (w1.alloc (.cells (hdC (hdO x.h x.A x.c)) 52))
  obtain⟨gh,e3⟩:=eX w1.heap.size
  have c8:=yK d0 c9;rw[<-hW]at c8 t f;rw[e3]at t;have d:=dH (Hs.out.kept c8);have f6:yc l=x.h:=g5.symm;have c7:hdE x.h=0:=by rw[<-f6];exact hofE_ok HE.out
  have HW:=dH hW;have j1:=dH e3;have j3:=dH c8;have g3:=dH f6;have i0:=dH c7;have g8:=λy=>λhy=>Hs.out.ml y (Hs.out.fm y (Hs.out.mem (x:=y) hy));have d4:=dH (show w.heap.size<=gh by rw[<-e3];exact d0.size);have h9:=dH g8;have e7:=dH (Hv.out.below c8);clear hW e3 c8 f6 c7 d0 c9 f2 g5 b6 g8;have i5:=(aY i0.out).ps;have cA:=fun (V:World) (hV:Below W.heap.size W V)=>dag_add V gd Fd n X (d.out.st.dag.below hV) HX.out oM (e7.out.below hV).sha x (SlR.below f.slr hV) oM (wW (hdE_tp i0.out)) f.cap0 (λy hy a7=>by have h1:=(f.at_base hy).1;have h2:=h9.out y (.inr (.inr (.inr (.inl a7))));omega);obtain⟨VE,f5⟩:=eX (gD X.D x.h)
  obtain⟨I,hI⟩:∃I,(if VE=0 then hdI x.h else id0)=I:=⟨_,rfl⟩
  unfold AddRes at cA;rw[f5,hI]at cA;have a4:=dH f5;have HI:=dH hI;have c0:W.cell? ⟨g,0,none⟩=some (.pointer (some ⟨gd,0,none⟩)):=by rw[cell_of_row W g 0 _ _ _ d.out.st.heap];rfl
  clear f5 hI i5;go_upto_region 4 with fail
  rw[<-HW.out,j1.out];have hgd:g∉Fd:=by
   have hd:=Hs.out.st.dis;unfold vW at hd;exact(show vB (([g] :: [bo] :: [[bv]])++Fd :: Fs :: N.map vwF)from hd).ne [g] sI g sI
  have U:gh∉Fd:=λhy=>(by have h1:=h9.out gh (.inr (.inr (.inr (.inl hy))));have h2:=d4.out;omega);have c5:gh∉F:=λhy=>(by have h1:=Hs.out.at_.lt gh hy;have h2:=d4.out;omega);have g2:=dH c5;clear c5
  go_cut [9,8] (λp ev wx=>∃gi F',p=.pointer (some ⟨gi,0,none⟩)/\ev=.int .i64 VE/\zA wx gi 0 32=some (idC I)/\Hid (kC wx gd F' (kA X.D x.h))/\Hid (∀y∈F',y∈Fd\/W.heap.size<=y)/\gi∉F'/\W.heap.size<=gi/\z9 Fd W wx)
  case first =>
   refine j2 (.loose 0 (.loose 1 (.loose 2 (.loose 3 (.loose 4 (.two 5 (.loose 6 (.loose 7 (.loose 8 (.one 9 (.one 10 (.loose 11 .done)))))) 9 (.one 5 (.loose 6 (.loose 7 (.loose 8 (.one 10 (.loose 11 .done)))))))))))) (Kp Fd W) false kR kR kR kR (gV Fd W) ?_;have d9:=iM Fd W;have hS:=gV Fd W;have b1:=zG c0 hgd;have b2:=zY t U;refine tZ ?_;refine XE ?_ ?_
   ·skip;refine tH ?_;intro K hK;refine(cA _ ((Below.refl _ _).drew)).mono ?_;rintro e w3 ⟨F',rfl,hD,a5,e0⟩;replace hS:=yC hS e0 (λy hy=>.inl hy);refine⟨_,rfl,hS,hK _ _ ?_⟩;clear hK K;refine tZ ?_;have j:Below w3.heap.size w3 (w3.alloc (.cells (idC id0) 31)):=bA;have xz:=heap_alloc_new w3 (.cells (idC id0) 31);have g6:=z9.size hS;have Hn:=dH (bW hS j);refine tH ?_;intro K hK;refine zI Hn.out (λa1=>?_);refine hK _ _ ?_;clear hK K hS;have hS:=a1;obtain⟨w4,f1,k,Y⟩:=stId_at _ _ _ xz I;have H4:=dH (yC hS Y (λy hy=>.inr (by rw[mem_singleton.1 hy];exact g6)));have HD:=dH ((hD.below j).kept Y (λy hy d6=>by rw[mem_singleton]at d6;have:=hD.lt y hy;omega));have a6:=dH (show ∀y∈F',y∈Fd\/W.heap.size<=y from a5);have Z:w3.heap.size∉F':=λhy=>(oH (hD.lt _ hy));refine tH ?_;intro K hK;refine zI H4.out (λa1=>?_);refine hK _ _ ?_;clear hK K hS;have hS:=a1;refine tZ ?_;refine vH ?_;intro hS;clear xz j f1 Y hD a5;go_wp2_with fail
    go_meet
    exact⟨_,F',rfl,rfl,k,HD,a6,Z,g6,H4.out⟩
   ·skip;have i1:=dH (show Below W.heap.size W (W.drew.alloc (.cells (idC id0) 31))from((Below.refl _ _).drew).alloc lR _);have xz:(W.drew.alloc (.cells (idC id0) 31)).heap[W.heap.size]?=some (.cells (idC id0) 31 (0,0)):=heap_alloc_new W.drew (.cells (idC id0) 31);have a9:(W.drew.alloc (.cells (idC id0) 31)).heap.size=W.heap.size+1:=sI;have a2:=dH a9;clear a9;have j0:=dH ((z9.of_below i1.out).mono (S':=Fd) sI);have h4:W.heap.size∉Fd:=λhy=>(oH (d.out.st.dag.lt _ hy));refine tH ?_;intro K hK;refine zI j0.out (λa1=>?_);refine hK _ _ ?_;clear hK K hS;have hS:=a1;refine tH ?_;intro K hK;refine(cA _ i1.out).mono ?_;rintro e w3 ⟨F',rfl,hD,a5,e0⟩;have H1:=dH (yC hS e0 (λy hy=>.inl hy));refine⟨_,rfl,H1.out,hK _ _ ?_⟩;clear hK K hS;have hS:=H1.out;refine tZ ?_;have g4:=(e0.block W.heap.size (by rw[a2.out];omega) h4).trans xz;obtain⟨w4,f1,k,Y⟩:=stId_at _ _ _ g4 I;have Z:W.heap.size∉F':=λhy=>by
     rcases a5 _ hy with e | e
     ·exact h4 e
     ·rw[a2.out]at e;omega
    have H4:=dH (yC hS Y (λy hy=>.inr (by rw[mem_singleton.1 hy];exact lR)));have HD:=dH (hD.kept Y (λy hy d6=>by rw[mem_singleton]at d6;rw[d6]at hy;exact Z hy));have a6:=dH (show ∀y∈F',y∈Fd\/W.heap.size<=y from λy hy=>(a5 y hy).imp id (λe=>by rw[a2.out]at e;omega));refine tH ?_;intro K hK;refine zI H4.out (λa1=>?_);refine hK _ _ ?_;clear hK K hS;have hS:=a1;refine tZ ?_;refine vH ?_;intro hS;clear xz g4 f1 Y hD a5;go_wp2_with fail
    go_meet
    exact⟨_,F',rfl,rfl,k,HD,a6,Z,lR,H4.out⟩
  case rest =>
  obtain⟨gi,e5,rfl,rfl,d7,HD,a6,Z,f3,hk⟩:=hcut;obtain⟨V,rfl⟩:=eR wc
  obtain⟨F1,M1,e9,d8⟩:=d.out.newDag HD.out a6.out hk e7.out;have c6:gh∉F1:=λhy=>by
   rcases d8.ff gh hy with e | e
   ·exact g2.out e
   ·have:=zE t;omega
  have b9:gi∉F1:=λhy=>by
   rw[e9.fe]at hy;rcases bP.1 hy with e | e | e | e | e | e
   ·have:=d.out.ml _ (d.out.fm _ (d.out.mem (.inl e)));omega
   ·have:=d.out.ml _ (d.out.fm _ (d.out.mem (.inr (.inl e))));omega
   ·have:=d.out.ml _ (d.out.fm _ (d.out.mem (.inr (.inr (.inl e)))));omega
   ·exact Z e
   ·have:=d.out.ml _ (d.out.fm _ (d.out.mem (.inr (.inr (.inr (.inr (.inl e)))))));omega
   ·have:=d.out.ml _ (d.out.fm _ (d.out.mem (.inr (.inr (.inr (.inr (.inr e)))))));omega
  have f0:=(hk.row (zE t) U _ _).trans t;have r:=dH e9;have f9:=dH ((jE.below Hs.out.at_ j3.out).trans d8);have h7:=dH (d8.vars d.out.at_ e7.out);have H:YP X l=VE:=by unfold YP;rw[if_neg (by rw[HE.out];decide),g3.out];exact a4.out
  have a3:=dH H;clear cA e9 d8 hk t hgd U Z f3 HD a6 c0 H;by_cases m:VE=0
  ·subst m;have h6:I=hdI x.h:=by rw[<-HI.out,if_pos rfl]
   have i2:=dH h6;have b5:=vV.add HX.out a4.out X.O HX.out.pre.body;have G:iQ X l own=Y9 X x.h own:=by unfold iQ;rw[if_neg (by rw[HE.out];decide),g3.out]
   have d5:=dH G;have f8:=dH b5;have e6:=hdR_cm f0;clear h6 b5 G HI;cases own with
   | false =>
    (go_wp2_with fail);have j:Below V.heap.size V (V.alloc (.cells (idC I) 31)):=bA;refine(nX _ g gd gs bo bv e5 Fs F1 M1 N (n+1) _ ((r).out.kept j) ((h7).out.below j) (f8).out oM _ 1 _ [I] (xw V I) oM (λy hy a7=>absurd ((r).out.at_.lt y a7) (by rw[show y=V.heap.size by simpa[blk]using hy];exact Nat.lt_irrefl _))).mono ?_;rintro e w9 ⟨rfl,b7⟩;have g0:=dH (jE.trans (jE.below (r).out.at_ j) b7);clear b7 j;(go_wp2_with fail);go_ret;refine⟨by rw[a3.out];rfl,F1,M1,?_⟩;rw[d5.out];unfold Y9;rw[if_neg (by rw[a4.out];decide),if_neg (by decide),<-i2.out];exact f9.out.trans g0.out
   | true =>
    have c2:V.cell? ⟨g,2,none⟩=some (.map (some bo)):=by rw[cell_of_row V g 2 _ _ _ r.out.st.heap];rfl
    have hd:=r.out.st.dis;unfold vW at hd;have f4:g∉[bo]:=(show vB (([[g]]) ++ [bo] :: [bv] :: e5 :: Fs :: N.map vwF)from hd).ne [g] sI g sI;have hgs:g∉Fs:=(show vB (([g] :: [bo] :: [bv] :: [e5])++Fs :: N.map vwF)from hd).ne [g] sI g sI;have a0:bo∈F1:=r.out.mem (.inr (.inl rfl));have B:gi∉[bo]:=λhy=>b9 (by rw[mem_singleton.1 hy];exact a0);have c4:gh∉[bo]:=λhy=>c6 (by rw[mem_singleton.1 hy];exact a0);have b8:gi∉Fs:=λhy=>b9 (r.out.mem (.inr (.inr (.inr (.inr (.inl hy))))));have c3:gh∉Fs:=λhy=>c6 (r.out.mem (.inr (.inr (.inr (.inr (.inl hy))))));have g1:=dH (And.intro hgs (And.intro b8 c3));clear hd a0 hgs b8 c3;obtain⟨w5,i4,g7,h0⟩:=vl (x:=I) (r.out.st.own.kept (z9.drew V) sI);go_upto_region 8 with fail
    refine kX [bo] V ?_;intro d9 hS;have b1:=zG c2 f4;have b2:=zY d7 B;refine lQ ?_;intro K hK;refine zI (yC hS h0 sI) (λhS=>?_);refine hK _ _ ?_;clear hK K;refine zD ?_;intro hS;have s:z9 [bo] V w5:=hS;obtain⟨b4,R⟩:=r.out.newOwn g7 s;have J:=(s.row (zE d7) B _ _).trans d7;have a8:=(s.row (zE e6) c4 _ _).trans e6;have e4:=dH b4;have i9:=dH (f9.out.trans R);have h8:=dH (R.vars r.out.at_ h7.out);clear d9 hS b1 b2 i4 g7 h0 s b4 R d7 e6 c2;have c1:w5.cell? ⟨g,1,none⟩=some (.pointer (some ⟨gs,0,none⟩)):=by rw[cell_of_row w5 g 1 _ _ _ e4.out.st.heap];rfl
    have cN:=sto_pin w5.drew gs Fs X.q X.S x.h.cm (e4.out.st.sto.kept (z9.drew w5) sI) HX.out.small;go_upto_region 9 with fail
    refine kX Fs w5 ?_;intro d9 hS;have b1:=zG c1 g1.out.1;have b2:=zY a8 g1.out.2.2;refine lQ ?_;intro K hK;refine cN.mono ?_;rintro e w6 ⟨⟨E3,rfl⟩,b0,g9⟩;have h5:=yC hS g9 iL;refine⟨_,rfl,h5,hK _ _ ?_⟩;clear hK K;refine lZ ?_;refine zD ?_;intro hS;have T:z9 Fs w5 w6:=hS;obtain⟨F3,M3,b3,L⟩:=e4.out.newSto rfl b0 iL T h8.out;have i3:=(T.row (zE J) g1.out.2.1 _ _).trans J;have f7:=dH b3;have i8:=dH (i9.out.trans L);have i6:=dH (L.vars e4.out.at_ h8.out);have d3:=dH (vV.add HX.out a4.out (I :: X.O) (K8 (c:=x.h.cm) HX.out.pre.body));clear d9 hS h5 b1 b2 cN b0 g9 T b3 L J c1 a8;(go_wp2_with fail);have j:Below w6.heap.size w6 (w6.alloc (.cells (idC I) 31)):=bA;refine(nX _ g gd gs bo bv e5 Fs F3 M3 N (n+1) _ ((f7).out.kept j) ((i6).out.below j) (d3).out oM _ 1 _ [I] (xw w6 I) oM (λy hy a7=>absurd ((f7).out.at_.lt y a7) (by rw[show y=w6.heap.size by simpa[blk]using hy];exact Nat.lt_irrefl _))).mono ?_;rintro e w9 ⟨rfl,b7⟩;have g0:=dH (jE.trans (jE.below (f7).out.at_ j) b7);clear b7 j;(go_wp2_with fail);go_ret;refine⟨by rw[a3.out];rfl,F3,M3,?_⟩;rw[d5.out];unfold Y9;rw[if_neg (by rw[a4.out];decide),if_pos rfl,<-i2.out];exact i8.out.trans g0.out
  ·have j5:(VE != 0)=true:=by simpa using m
   have h3:iQ X l own=X:=by
    unfold iQ;rw[if_neg (by rw[HE.out];decide),g3.out];exact if_pos (by rw[a4.out];exact m)
   have d1:kA X.D x.h=X.D:=if_neg λhh=>m (a4.out.symm.trans hh.1);have e8:jE w g F M X V F1 M1:=by have:=f9.out;rw[d1]at this;exact this
   have i7:=dH e8;have j4:=dH h3;clear e8 h3 d1 m;(go_wp2_with fail);go_ret;exact⟨by rw[a3.out];rfl,F1,M1,by rw[j4.out];exact i7.out⟩
 ·have j6:(E != 0)=true:=by simpa using d2
  have e1:YP X l=E:=by unfold YP;rw[if_pos (by rw[HE.out];exact d2),HE.out]
  have e2:iQ X l own=X:=by unfold iQ;rw[if_pos (by rw[HE.out];exact d2)]
  have H1:=dH e1;have H2:=dH e2;have Hb:=dH (yK d0 c9);clear e1 e2 d2 f2 d0 c9 t;(go_wp2_with fail);go_ret;exact⟨by rw[H1.out];rfl,F,M,by rw[H2.out];exact jE.below Hs.out.at_ Hb.out⟩
theorem isFn_cmpId:yy 128:=λargs w=>by kernel_rfl
theorem isFn_less:yy 126:=λargs w=>by kernel_rfl
theorem sort_perm(h:L.Nodup):L.Perm (kO yE L) :=
 (perm_ext_iff_of_nodup h ((kV vQ L).nodup vQ)).2 λx=>(kY vQ).symm
theorem less1(w:World)(gb:Nat)(A:Option Addr)(n cap:Nat)(R:List zB)(hb:w.cell? ⟨gb,0,none⟩=some (.slice A n cap))(hR:zX w A n R)(hr:Ris yE R)(hn:n<=1000000)(x:zB) :
  Calls prog 126 #[.agg (idC x),.pointer (some ⟨gb,0,none⟩)] w λe w'=>e=.returned (.bool (decide (x∈R)))/\Below w.heap.size w w':=by
 have d:R.length=n:=by simpa using hR.1
 have hB:Below w.heap.size w (w.alloc (.cells (idC x) 31)):=bA;have m:zA (w.alloc (.cells (idC x) 31)) w.heap.size 0 32=some (idC x):=by simp[go_sem]
 obtain⟨W,hW⟩:=eR (w.alloc (.cells (idC x) 31))
 obtain⟨ga,g⟩:=eX w.heap.size
 rw[<-hW]at hB m;rw[g]at m;have c0:=(hB.cell (p:=⟨gb,0,none⟩) (block_lt_of_cell? w _ hb)).trans hb;have cS:=YG 128 #[] #[] isFn_cmpId (λy=>yE y x) x W (λy w' _=>ZF y x w') A n cap R (SlR.below hR hB) hn (λa b hb G D=>vQ.trans _ _ _ (YZ hr G hb) D);have HW:=dH hW;have I:=dH g;have HB:=dH hB;have Hr:=dH hr;have H:=dH d;clear hW g hB hr hb hR d;go_enter func126,ntmps126
 go_upto_region 1 with fail
 rw[<-HW.out,I.out];(go_wp2_with fail);refine cS.mono ?_;rintro e w1 ⟨i,b,rfl,hi,r,s,k,B⟩;have t:b=decide (x∈R):=by
  cases b with
  | true =>
   obtain⟨hi2,h0⟩:=k.1 rfl;rw[eq_comm,decide_eq_true_eq,<-(vQ.zero _ _).1 h0];exact getElem_mem hi2
  | false =>
   rw[eq_comm,decide_eq_false_iff_not];intro hx;obtain⟨j,hj,f⟩:=mem_iff_getElem.1 hx;have F:i<=j:=by
    refine Nat.le_of_not_lt λE=>?_;have:=r j hj E;rw[f,(vQ.zero x x).2 rfl]at this;omega
   have hi2:i<R.length:=oM;have h3:=s i hi2 lR;rcases Nat.lt_or_eq_of_le F with h | h
   ·have h4:=YZ Hr.out h hj;rw[f]at h4;have h3:0<=yE R[i] x:=h3;omega
   ·subst h;have:=k.2 ⟨hi2,by rw[f];exact(vQ.zero x x).2 rfl⟩;cases this
 have J:=dH t;have Hb:=dH (yK HB.out B);clear r s k B cS t;(go_wp2_with fail);go_ret;exact⟨yB (by rw[J.out]),Hb.out⟩
theorem ident_less(w:World)(A:Option Addr)(n cap:Nat)(S:List zB)(hS:zX w A n S)(hr:Ris yE S)(hn:n<=1000000)(hA:A=none->cap=0)(B:Option Addr)(m c:Nat)(T:List zB)(hT:zX w B m T)(V:T.Nodup)(hm:m<=1000000)(hB:B=none->c=0) :
  Calls prog 76 #[.slice A n cap,.slice B m c] w λe w'=>∃A' c',e=.returned (.slice A' (S.filter λi=>decide (i∉T)).length c')/\Below w.heap.size w w':=by
 have M:T.length=m:=by simpa using hT.1
 have N:S.length=n:=by simpa using hS.1
 have t:=sort_perm V;have j:=kV vQ T;have c1:=aV w B m c T _ hT t j hm hB;have s:(kO yE T).length=m:=by rw[<-t.length_eq];exact M
 rw[s]at c1;obtain⟨Z,hZ⟩:=eX (kO yE T)
 rw[hZ]at c1 j s;have f:∀x,x∈Z↔x∈T:=λx=>(by rw[<-hZ];exact kY vQ);have J:=dH f;have a3:=dH j;have a9:=dH s;have a4:=dH N;obtain⟨K0,I⟩:∃K0,(S.filter λi=>decide (i∉T)).length=K0:=⟨_,rfl⟩
 rw[I];have a7:=dH I;have HS:=dH hS;have Hr:=dH hr;have HA:=dH hA;clear f j s N M t hZ V hT I hS hr hA;go_enter func76,ntmps76
 (go_wp2_with fail);refine c1.mono ?_;rintro e w1 ⟨B1,d1,rfl,E,R⟩;have d:Below w1.heap.size w1 (w1.alloc (.cells #[.slice B1 m d1] 34)):=bA;have x0:(w1.alloc (.cells #[.slice B1 m d1] 34)).cell? ⟨w1.heap.size,0,none⟩=some (.slice B1 m d1):=by simp[go_sem]
 have r:=yK R d;have D:=E.below d;obtain⟨W,hW⟩:=eR (w1.alloc (.cells #[.slice B1 m d1] 34))
 obtain⟨gb,H⟩:=eX w1.heap.size
 rw[<-hW]at r D x0;rw[H]at x0;have c2:=aV W A n cap S S (SlR.below HS.out r) (Perm.refl _) Hr.out hn HA.out;rw[a4.out]at c2;have HW:=dH hW;have a5:=dH H;have U:=dH r;have G:gb<W.heap.size:=block_lt_of_cell? W _ x0;have a2:∀y∈blk B1,y<gb:=λy hy=>(oH ((E.at_base hy).2));clear hW H r E R d c1;(go_wp2_with fail);rw[<-HW.out,a5.out];refine c2.mono ?_;rintro e w2 ⟨A2,Y,rfl,k,d⟩;have x2:=(d.cell (p:=⟨gb,0,none⟩) G).trans x0;have L:=D.below d;have F:∀y∈blk A2,y≠gb/\y∉blk B1:=λy hy=>by
  have h1:=(k.at_base hy).1;exact⟨oM,λh2=>oH (a2 y h2)⟩
 have cD:=JC 126 #[] #[.pointer (some ⟨gb,0,none⟩)] isFn_less (λx=>decide (x∈Z)) w2 A2 (λx w' hk=>by
  refine less1 w' gb B1 m d1 Z ((hk.cell (p:=⟨gb,0,none⟩) (block_lt_of_cell? w2 _ x2) (λhy=>(F gb hy).1 rfl)).trans x2) (SlR.kept L.slr hk (λy hy a1=>(F y a1).2 hy)) a3.out hm x) W.heap.size n Y S k hn
 have g:(S.filter λx=>!decide (x∈Z)).length=K0:=by
  rw[<-a7.out];congr 1
  refine filter_congr λx _=>?_;rw[<-decide_not];exact decide_eq_decide.2 (not_congr (J.out x))
 rw[g]at cD;have X:∀y∈blk A2,w.heap.size<=y:=λy hy=>Nat.le_trans U.out.size (k.at_base hy).1;have a8:=dH X;have a0:=dH (yK U.out d);clear c2 x0 x2 D L F g X k d;(go_wp2_with fail);refine cD.mono ?_;rintro e w3 ⟨rfl,_,O⟩;have a6:=dH (a0.out.trans (O.below (B:=w.heap.size) a0.out.size a8.out));clear cD O;(go_wp2_with fail);go_ret;exact⟨A2,Y,rfl,a6.out⟩
theorem view_topic(w:World)(g:Nat)(t:ByteArray)(b:Nat)(I:List zB)(v:Value)(h:yU w g t b I v) :
  Calls prog 75 #[.pointer (some ⟨g,0,none⟩)] w λe w'=>e=.returned (.string t)/\w=w':=by
 have h0:=h.cell0;have h1:=h.cell1;clear h;go_enter func75,ntmps75
 (go_wp2_with fail);refine(v7 w g b h1).mono ?_;rintro e w1 ⟨rfl,rfl⟩;(go_wp2_with fail);go_ret;exact⟨rfl,rfl⟩
def QB(X:StX)(t:ByteArray)(I:List zB):Bool:=I.any λi=>decide (i∉jC X.D t)
theorem out_len(X:StX)(t:ByteArray)(I:List zB):decide ((0:Int)<((I.filter λi=>decide (i∉jC X.D t)).length:Nat))=QB X t I:=by
 unfold QB;induction I with
 | nil=>rfl
 | cons i I ih =>
  rw[filter_cons,any_cons];by_cases h:i∉jC X.D t
  ·rw[decide_eq_true h]
   simp
  ·rw[decide_eq_false h,if_neg (by decide)];exact ih
theorem st_sub(w0 w:World)(g gd gs bo bv:Nat)(Fd Fs F M:List Nat)(N:List (VwX×VwP))(n:Nat)(X:StX)(h:bD w0 g gd gs bo bv Fd Fs F M N X)(hv:gP w0)(hX:vV n X)(hn:n<=800)(hb:Below w0.heap.size w0 w)
  (vg b:Nat)(t:ByteArray)(O:List Nat)(I:List zB)(v:Value)(s:VSt)(Z:yU w vg t b I v)(b2:kQ w O (M++vg :: b :: O) v s)(b7:vg∉b :: O)(b9:b∉O)(ht:bU t)(T:∀x∈vg :: b :: O,w0.heap.size<=x)(b4:∀x∈vg :: b :: O,x<w.heap.size)(b8:t∉X.V.map (·.t))(a2:Ris yE I)(c2:I.length<=1000000)(a1:VOk X.D ⟨t,I,s⟩\/QB X t I=true) :
  Calls prog 36 #[.pointer (some ⟨g,0,none⟩),.pointer (some ⟨vg,0,none⟩),.int .i64 0] w λe w'=>e=.returned (.int .i64 (if QB X t I=true then 7 else 0))/\∃F' M',jE w0 g F M (if QB X t I=true then X else subX X ⟨t,I,s⟩) w' F' M':=by
 have hw:=h.kept hb;have c0:w.cell? ⟨g,0,none⟩=some (.pointer (some ⟨gd,0,none⟩)):=by rw[cell_of_row w g 0 _ _ _ hw.st.heap];rfl
 have c3:w.cell? ⟨g,3,none⟩=some (.map (some bv)):=by rw[cell_of_row w g 3 _ _ _ hw.st.heap];rfl
 have cT:=view_topic w vg t b I v Z;have b5:=hX.len;have b6:=eO (D:=X.D) t;have cI:=fun (V:World) (hV:Below w.heap.size w V)=>vids V vg t b I v (Z.below hV) a2 c2;have cD:=fun (V:World) (hV:Below w.heap.size w V)=>ZD V gd Fd X.D (hw.st.dag.below hV) t ht oM;have cL:=fun (V:World) (A:Option Addr) (k c:Nat) (hS:zX V A k I) (hk:k<=1000000) (hA:A=none->c=0) (B:Option Addr) (m d:Nat) (hT:zX V B m (jC X.D t)) (hm:m<=1000000) (hB:B=none->d=0)=>ident_less V A k c I hS a2 hk hA B m d (jC X.D t) hT (tps_nodup hX.nd t) hm hB;obtain⟨K0,a5⟩:∃K0,(I.filter λi=>decide (i∉jC X.D t)).length=K0:=⟨_,rfl⟩
 obtain⟨z,hz⟩:=eX (QB X t I)
 have j:=out_len X t I;rw[a5,hz]at j;rw[a5]at cL;rw[hz]at a1 |-;have Hw:=dH hw;have Hh:=dH h;have Hv:=dH hv;have HX:=dH hX;have d4:=dH Z;have d6:=dH b2;have a9:=dH T;have d8:=dH b4;have c5:=dH b8;have d9:=dH b7;have e0:=dH b9;have Hb:=dH hb;have d3:=dH a1;clear hw h hv hX Z b2 T b4 b8 b7 b9 hb a1 hz a2 a5;go_enter func36,ntmps36
 (go_wp2_with fail);refine cT.mono ?_;rintro e w1 ⟨rfl,rfl⟩;clear cT;go_upto_region 4 with fail
 go_cut [23] (λv wx=>v=.bool z/\Below w.heap.size w wx)
 case first =>
  refine j2 (.loose 0 (.loose 2 (.loose 3 (.loose 4 (.loose 5 (.loose 6 (.one 1 (.one 7 (.one 8 (.loose 9 (.loose 10 .done))))))))))) (Bel w) false kR kR kR kR (xR w) ?_;have e1:=dJ w;have hS:=xR w;have b1:=zK c0;refine tZ ?_;refine tH ?_;intro K hK;refine(cI _ hS).mono ?_;rintro e w2 ⟨A,cap,rfl,c8,d1⟩;have a0:=xL hS d1;refine⟨_,rfl,a0,hK _ _ ?_⟩;clear hK K hS;have hS:=a0;refine tH ?_;intro K hK;refine(cD _ a0).mono ?_;rintro e w3 ⟨⟨B,m,d⟩,rfl,hm,H,E⟩;have a4:=xL a0 E;have R:=c8.below E;have a3:m<=1000000:=by have hm:m=(jC X.D t).length:=hm;omega
  have d2:=cL w3 A I.length cap R.slr c2 R.cap0 B m d H.slr a3 H.cap0;clear hm;refine⟨_,rfl,a4,hK _ _ ?_⟩;clear hK K hS;have hS:=a4;unfold slV;refine tH ?_;intro K hK;refine d2.mono ?_;rintro e w4 ⟨A4,c4,rfl,d0⟩;have H4:=dH (xL a4 d0);refine⟨_,rfl,H4.out,hK _ _ ?_⟩;clear hK K hS;have hS:=H4.out;refine tZ ?_;refine vH ?_;intro hS;go_wp2_with fail
  go_meet
  exact⟨by rw[<-j];exact congrArg Value.bool (decide_eq_decide.2 oM),H4.out⟩
 case rest =>
 obtain⟨rfl,U⟩:=hcut;obtain⟨V,rfl⟩:=eR wc
 have b0:=dH U;have Y:=dH (Hb.out.trans (U.mono Hb.out.size));have e4:=(U.cell (p:=⟨g,3,none⟩) (block_lt_of_cell? w _ c3)).trans c3;clear cI cD cL U c3 c0 j;cases z with
 | true =>
  (go_wp2_with fail);go_ret;exact⟨rfl,F,M,jE.below Hh.out.at_ Y.out⟩
 | false =>
  obtain⟨w2,c7,c9,F2,M2,N2,f,r⟩:=Hh.out.newView Y.out (d4.out.below b0.out) (d6.out.below b0.out) d9.out e0.out ht a9.out (λx hx=>Nat.lt_of_lt_of_le (d8.out x hx) b0.out.size) c5.out Hv.out;have e5:w2.cell? ⟨g,0,none⟩=some (.pointer (some ⟨gd,0,none⟩)):=by rw[cell_of_row w2 g 0 _ _ _ f.st.heap];rfl
  have cT:=ZD w2 gd Fd X.D f.st.dag t ht oM;have J:VOk X.D ⟨t,I,s⟩:=by
   rcases d3.out with h | h
   ·exact h
   ·cases h
  have L:vV n ⟨X.q,X.D,X.O,X.S,X.V ++ [⟨t,I,s⟩]⟩:=by
   refine⟨HX.out.nd,HX.out.ok,HX.out.len,HX.out.body,?_,λv hv=>?_⟩
   ·rw[map_append,nodup_append];refine⟨HX.out.nv,sI,λa ha b' c1=>?_⟩;intro e;rw[map_cons,map_nil,mem_singleton]at c1;have e2:a=t:=e.trans c1;exact c5.out (by rw[<-e2];exact ha)
   ·rcases mem_append.1 hv with hv | hv
    ·exact HX.out.vw v hv
    ·rw[mem_singleton.1 hv];exact J
  have G:=dH f;have a8:=dH r;have a6:=dH L;have d5:=dH (r.vars Hh.out.at_ Hv.out);clear f r J L c9;(go_wp2_with fail);refine cT.mono ?_;rintro e w3 ⟨⟨B,m,d⟩,rfl,hm,H,E⟩;have a3:m<=1000000:=by have e3:m=(jC X.D t).length:=hm;omega
  have cF:=nX w3 g gd gs bo bv Fd Fs F2 M2 N2 n _ (G.out.kept E) (d5.out.below E) a6.out hn B m d (jC X.D t) H.slr a3 (λy hy c6=>by have h1:=(H.at_base hy).1;have h2:=G.out.at_.lt y c6;omega);have a7:=dH (a8.out.trans (jE.below G.out.at_ E));clear cT H E hm;unfold slV;(go_wp2_with fail);refine cF.mono ?_;rintro e w4 ⟨rfl,b3⟩;have d7:=dH (a7.out.trans b3);clear b3 cF;(go_wp2_with fail);go_ret;exact⟨rfl,F2,M2,d7.out⟩
structure Prt where
 tp:Bool
 cm:Bool
 bd:Int
 em:Bool
def x8(x:Prt):Array Value:=#[.bool x.tp] ++ #[.bool x.cm] ++ #[.int .i64 x.bd] ++ #[.bool x.em]
@[simp] theorem kE(x:Prt):(x8 x).size=4:=by simp[x8]
@[go_sem] theorem prtC_g0(x:Prt):(x8 x)[0]?=some (.bool x.tp):=by first | (simp[x8,Array.getElem?_append];done) | (rw[show x8 x=((#[]:Array Value)) ++ #[.bool x.tp]++(#[.bool x.cm] ++ #[.int .i64 x.bd] ++ #[.bool x.em])from by apply Array.ext';simp[x8]];exact xM _ _ _ _ sI)
@[go_sem] theorem prtC_gg0(x:Prt)(h:0<(x8 x).size):(x8 x)[0]'h=.bool x.tp:=Option.some.inj ((Array.getElem?_eq_getElem h).symm.trans (prtC_g0 x))
@[go_sem] theorem prtC_g1(x:Prt):(x8 x)[1]?=some (.bool x.cm):=by first | (simp[x8,Array.getElem?_append];done) | (rw[show x8 x=(#[.bool x.tp]) ++ #[.bool x.cm]++(#[.int .i64 x.bd] ++ #[.bool x.em])from by apply Array.ext';simp[x8]];exact xM _ _ _ _ sI)
@[go_sem] theorem prtC_gg1(x:Prt)(h:1<(x8 x).size):(x8 x)[1]'h=.bool x.cm:=Option.some.inj ((Array.getElem?_eq_getElem h).symm.trans (prtC_g1 x))
@[go_sem] theorem prtC_g2(x:Prt):(x8 x)[2]?=some (.int .i64 x.bd):=by first | (simp[x8,Array.getElem?_append];done) | (rw[show x8 x=(#[.bool x.tp] ++ #[.bool x.cm]) ++ #[.int .i64 x.bd]++(#[.bool x.em])from by apply Array.ext';simp[x8]];exact xM _ _ _ _ sI)
@[go_sem] theorem prtC_gg2(x:Prt)(h:2<(x8 x).size):(x8 x)[2]'h=.int .i64 x.bd:=Option.some.inj ((Array.getElem?_eq_getElem h).symm.trans (prtC_g2 x))
@[go_sem] theorem prtC_g3(x:Prt):(x8 x)[3]?=some (.bool x.em):=by first | (simp[x8,Array.getElem?_append];done) | (rw[show x8 x=(#[.bool x.tp] ++ #[.bool x.cm] ++ #[.int .i64 x.bd]) ++ #[.bool x.em]++((#[]:Array Value))from by apply Array.ext';simp[x8]];exact xM _ _ _ _ sI)
@[go_sem] theorem prtC_gg3(x:Prt)(h:3<(x8 x).size):(x8 x)[3]'h=.bool x.em:=Option.some.inj ((Array.getElem?_eq_getElem h).symm.trans (prtC_g3 x))
@[go_sem] theorem prtC_all(x:Prt):(x8 x).extract 0 4=x8 x:=by have:=Array.extract_size (xs:=x8 x);rwa [kE]at this
theorem jd(x:Prt):∀u∈(x8 x).toList,u.oneCell'=true:=by
 intro u hu;simp only[x8,Array.toList_append,mem_append]at hu;rcases hu with((hu | hu) | hu) | hu
 ·simp at hu;subst hu;rfl
 ·simp at hu;subst hu;rfl
 ·simp at hu;subst hu;rfl
 ·simp at hu;subst hu;rfl
def sR:Prt:=⟨false,false,0,false⟩
theorem Prt_ext{x y:Prt}(h:x.tp=y.tp/\x.cm=y.cm/\x.bd=y.bd/\x.em=y.em):x=y:=by cases x;cases y;simp_all
instance:DecidableEq Prt:=λx y=>if h:x.tp=y.tp/\x.cm=y.cm/\x.bd=y.bd/\x.em=y.em then isTrue (Prt_ext h)else isFalse (λe=>h (by subst e;simp))
theorem fS:(prog.info? 113).map (·.size)=some 4:=kR
@[go_sem ↓] theorem zeroPrt_run(w:World):(zeroValue 113).run prog w=.ok (.agg (x8 sR)) w:=by
 have h:(prog.info? 113).bind (·.zero)=some (.agg (x8 sR)):=kR;cases hi:prog.info? 113 with
 | none=>rw[hi]at h;cases h
 | some i =>
  rw[hi]at h;have hz:i.zero=some (.agg (x8 sR)):=h;simp[zeroValue,typeInfo,hi,hz]
@[go_sem ↓] theorem loadPrt_rw(a:Addr):loadVar 113 a=ldS 113 a:=rfl
@[go_sem ↓] theorem storePrt_rw(a:Addr)(v:Value):storeVar 113 a v=stS 113 a v:=rfl
@[go_sem] theorem loadPrt_run(w:World)(g o:Nat):(ldS 113 ⟨g,o,none⟩).run prog w=match zA w g o 4 with | some cs=>.ok (.agg cs) w | none=>(loadVar 113 ⟨g,o,none⟩).run prog w :=
 jK underlying113 rfl fS w g o
@[go_sem] theorem storePrt_run(w:World)(g:Nat)(hg:g=w.heap.size)(z:Array Value)(hz:z.size=4)(x:Prt)(e:TypeId):(stS 113 ⟨g,0,none⟩ (.agg (x8 x))).run prog (w.alloc (.cells z e))=.ok () (w.alloc (.cells (x8 x) e)) :=
 hg ▸ xZ fS w z (x8 x) hz (kE x) (jd x)
@[go_sem ↓] theorem buildPrt_rw(parts:Array (Nat×Value)):Instr.build 113 parts=bdS 113 parts:=rfl
structure Ent where
 k:Int
 t:ByteArray
 b:ByteArray
 c:zB
def jD(x:Ent):Array Value:=#[.int .i64 x.k] ++ #[.string x.t] ++ #[.string x.b]++idC x.c
@[simp] theorem entC_size(x:Ent):(jD x).size=35:=by simp[jD]
@[go_sem] theorem entC_g0(x:Ent):(jD x)[0]?=some (.int .i64 x.k):=by first | (simp[jD,Array.getElem?_append];done) | (rw[show jD x=((#[]:Array Value)) ++ #[.int .i64 x.k]++(#[.string x.t] ++ #[.string x.b]++idC x.c)from by apply Array.ext';simp[jD]];exact xM _ _ _ _ sI)
@[go_sem] theorem entC_gg0(x:Ent)(h:0<(jD x).size):(jD x)[0]'h=.int .i64 x.k:=Option.some.inj ((Array.getElem?_eq_getElem h).symm.trans (entC_g0 x))
@[go_sem] theorem entC_e3(x:Ent):(jD x).extract 3 35=idC x.c:=by
 have h:jD x=(#[.int .i64 x.k] ++ #[.string x.t] ++ #[.string x.b])++idC x.c++((#[]:Array Value)):=by first | (simp[jD,Array.append_assoc];done) | (apply Array.ext';simp[jD];done)
 rw[h];exact bC _ _ _ _ _ sI sI
@[go_sem] theorem entC_all(x:Ent):(jD x).extract 0 35=jD x:=by have:=Array.extract_size (xs:=jD x);rwa [entC_size]at this
def ent0:Ent:=⟨0,⟨#[]⟩,⟨#[]⟩,id0⟩
theorem Ent_ext{x y:Ent}(h:x.k=y.k/\x.t=y.t/\x.b=y.b/\x.c=y.c):x=y:=by cases x;cases y;simp_all
instance:DecidableEq Ent:=λx y=>if h:x.k=y.k/\x.t=y.t/\x.b=y.b/\x.c=y.c then isTrue (Ent_ext h)else isFalse (λe=>h (by subst e;simp))
theorem infoEnt:(prog.info? 33).map (·.size)=some 35:=kR
@[go_sem ↓] theorem yz(w:World):(zeroValue 33).run prog w=.ok (.agg (jD ent0)) w:=by
 have h:(prog.info? 33).bind (·.zero)=some (.agg (jD ent0)):=kR;cases hi:prog.info? 33 with
 | none=>rw[hi]at h;cases h
 | some i =>
  rw[hi]at h;have hz:i.zero=some (.agg (jD ent0)):=h;simp[zeroValue,typeInfo,hi,hz]
@[go_sem ↓] theorem loadEnt_rw(a:Addr):loadVar 33 a=ldS 33 a:=rfl
@[go_sem ↓] theorem storeEnt_rw(a:Addr)(v:Value):storeVar 33 a v=stS 33 a v:=rfl
@[go_sem] theorem loadEnt_run(w:World)(g o:Nat):(ldS 33 ⟨g,o,none⟩).run prog w=match zA w g o 35 with | some cs=>.ok (.agg cs) w | none=>(loadVar 33 ⟨g,o,none⟩).run prog w :=
 jK underlying33 rfl infoEnt w g o
theorem fieldsEnt:prog.underlying 33=some (.struct (prog.fieldsOf 33)):=kR
theorem placesEnt(w:World):((prog.fieldsOf 33).mapM fun (f:Field)=>do pure (f.offset,<-sizeOf f.type)).run prog w=.ok #[(0,1),(1,1),(2,1),(3,32)] w:=kR
@[go_sem ↓] theorem buildEnt_rw(parts:Array (Nat×Value)):Instr.build 33 parts=bdS 33 parts:=rfl
@[go_sem] theorem yp(a0:Int)(a3:zB)(w:World):(bdS 33 #[(0,.int .i64 a0),(3,.agg (idC a3))]).run prog w=.ok (.agg (jD ⟨a0,⟨#[]⟩,⟨#[]⟩,a3⟩)) w:=by
 refine qL w fieldsEnt _ (yz w) _ (placesEnt w) [(0,.int .i64 a0),(3,.agg (idC a3))] _ ?_;rw[show jD ent0=(#[]:Array Value) ++ #[.int .i64 0]++(#[.string ⟨#[]⟩]++(#[.string ⟨#[]⟩]++(idC id0)))from by first | (simp[jD,ent0,Array.append_assoc];done) | (apply Array.ext';simp[jD,ent0])];rw[yT (off:=0) (size:=1) rfl sI sI (by simp[Value.cells])];rw[show(#[]:Array Value)++(Value.int .i64 a0).cells++(#[.string ⟨#[]⟩]++(#[.string ⟨#[]⟩]++(idC id0)))=(#[.int .i64 a0]++(#[.string ⟨#[]⟩]++(#[.string ⟨#[]⟩])))++idC id0++(#[]:Array Value)from by first | (simp[Value.cells,Array.append_assoc];done) | (apply Array.ext';simp[Value.cells];done) | (apply Array.ext';simp only[Array.toList_append];simp[Value.cells])];rw[yT (off:=3) (size:=32) rfl sI sI (by simp[Value.cells])];first | (simp[Instr.fill,jD,Array.append_assoc,Value.cells];done) | (simp only[Instr.fill,jD];congr 1;apply Array.ext';simp[Value.cells];done) | (simp only[Instr.fill,jD];congr 1;done) | (simp only[Instr.fill,jD];done)
def YQ(k:Int):Prt:=if k=7 then⟨true,false,1048512,true⟩ else if k=5\/k=6 then⟨true,false,0,false⟩ else if k=4 then⟨false,true,0,false⟩ else if k=1\/k=2 then⟨false,false,256,false⟩ else if k=3 then⟨false,false,512,false⟩ else⟨false,false,0,false⟩
@[go_sem] theorem prtC_s0(x:Prt)(v:Bool):(x8 x).setIfInBounds 0 (.bool v)=x8 { x with tp:=v }:=by simp[x8]
@[go_sem] theorem prtC_s1(x:Prt)(v:Bool):(x8 x).setIfInBounds 1 (.bool v)=x8 { x with cm:=v }:=by simp[x8]
@[go_sem] theorem prtC_s2(x:Prt)(v:Int):(x8 x).setIfInBounds 2 (.int .i64 v)=x8 { x with bd:=v }:=by simp[x8]
@[go_sem] theorem prtC_s3(x:Prt)(v:Bool):(x8 x).setIfInBounds 3 (.bool v)=x8 { x with em:=v }:=by simp[x8]
theorem prt_two(w:World)(p q:Prt) :
  (stS 113 ⟨w.heap.size,0,none⟩ (.agg (x8 p))).run prog ((w.alloc (.cells (x8 sR) 113)).alloc (.cells (x8 q) 113))=.ok () (((w.alloc (.cells (x8 sR) 113)).alloc (.cells (x8 q) 113)).setRow w.heap.size (x8 p)) /\
  (((w.alloc (.cells (x8 sR) 113)).alloc (.cells (x8 q) 113)).setRow w.heap.size (x8 p)).heap[w.heap.size]?=some (.cells (x8 p) 113 (0,0)) /\
  Below w.heap.size w (((w.alloc (.cells (x8 sR) 113)).alloc (.cells (x8 q) 113)).setRow w.heap.size (x8 p)):=by
 have x0:((w.alloc (.cells (x8 sR) 113)).alloc (.cells (x8 q) 113)).heap[w.heap.size]?=some (.cells (x8 sR) 113 (0,0)):=by
  rw[Below.heap_alloc _ _ _ sI];exact heap_alloc_new _ _
 have hB:Below w.heap.size w ((w.alloc (.cells (x8 sR) 113)).alloc (.cells (x8 q) 113)):=(bA).alloc sI _;have hk:z9 [w.heap.size] ((w.alloc (.cells (x8 sR) 113)).alloc (.cells (x8 q) 113)) (((w.alloc (.cells (x8 sR) 113)).alloc (.cells (x8 q) 113)).setRow w.heap.size (x8 p)):=⟨rfl,rfl,rfl,by simp[setRow],λx _ hx=>setRow_other _ _ x _ (by simpa using hx)⟩
 exact⟨y9 fS _ _ (x8 sR) (x8 p) _ x0 sI sI (jd p),setRow_heap _ _ _ (x8 p) _ _ x0,hB.trans (hk.below hB.size sI)⟩
theorem ent_of(k:Int)(w:World):Calls prog 64 #[.int .i64 k] w λe w'=>e=.returned (.tuple #[.agg (x8 (YQ k)),.bool (decide (1<=k/\k<=7))])/\Below w.heap.size w w':=by
 have h2:=λp q=>(prt_two w p q).1;have h3:=dH (λp q=>(prt_two w p q).2);have hk:k=7\/k=5\/k=6\/k=4\/k=1\/k=2\/k=3\/(k≠7/\k≠5/\k≠6/\k≠4/\k≠1/\k≠2/\k≠3):=oM;rcases hk with rfl | rfl | rfl | rfl | rfl | rfl | rfl | ⟨n7,n5,n6,n4,n1,n2,n3⟩
 ·go_enter func64,ntmps64
  (go_wp2_with fail);refine bodyPost_ret (yZ results64 _ _ w.heap.size 113 (x8 (YQ 7)) (0,0) _ rfl (h3.out _ _).1 underlying113 rfl (by rw[kE];exact fS)) rfl ?_;exact⟨rfl,(h3.out _ _).2⟩
 ·go_enter func64,ntmps64
  (go_wp2_with fail);refine bodyPost_ret (yZ results64 _ _ w.heap.size 113 (x8 (YQ 5)) (0,0) _ rfl (h3.out _ _).1 underlying113 rfl (by rw[kE];exact fS)) rfl ?_;exact⟨rfl,(h3.out _ _).2⟩
 ·go_enter func64,ntmps64
  (go_wp2_with fail);refine bodyPost_ret (yZ results64 _ _ w.heap.size 113 (x8 (YQ 6)) (0,0) _ rfl (h3.out _ _).1 underlying113 rfl (by rw[kE];exact fS)) rfl ?_;exact⟨rfl,(h3.out _ _).2⟩
 ·go_enter func64,ntmps64
  (go_wp2_with fail);refine bodyPost_ret (yZ results64 _ _ w.heap.size 113 (x8 (YQ 4)) (0,0) _ rfl (h3.out _ _).1 underlying113 rfl (by rw[kE];exact fS)) rfl ?_;exact⟨rfl,(h3.out _ _).2⟩
 ·go_enter func64,ntmps64
  (go_wp2_with fail);refine bodyPost_ret (yZ results64 _ _ w.heap.size 113 (x8 (YQ 1)) (0,0) _ rfl (h3.out _ _).1 underlying113 rfl (by rw[kE];exact fS)) rfl ?_;exact⟨rfl,(h3.out _ _).2⟩
 ·go_enter func64,ntmps64
  (go_wp2_with fail);refine bodyPost_ret (yZ results64 _ _ w.heap.size 113 (x8 (YQ 2)) (0,0) _ rfl (h3.out _ _).1 underlying113 rfl (by rw[kE];exact fS)) rfl ?_;exact⟨rfl,(h3.out _ _).2⟩
 ·go_enter func64,ntmps64
  (go_wp2_with fail);refine bodyPost_ret (yZ results64 _ _ w.heap.size 113 (x8 (YQ 3)) (0,0) _ rfl (h3.out _ _).1 underlying113 rfl (by rw[kE];exact fS)) rfl ?_;exact⟨rfl,(h3.out _ _).2⟩
 ·have e:YQ k=sR:=by unfold YQ;rw[if_neg n7,if_neg oM,if_neg n4,if_neg oM,if_neg n3];rfl
  have hd:decide (1<=k/\k<=7)=false:=sO;rw[e,hd];have b7:(k==7)=false:=by simpa using n7
  have b5:(k==5)=false:=by simpa using n5
  have b6:(k==6)=false:=by simpa using n6
  have b4:(k==4)=false:=by simpa using n4
  have b1:(k==1)=false:=by simpa using n1
  have b2:(k==2)=false:=by simpa using n2
  have b3:(k==3)=false:=by simpa using n3
  clear n7 n5 n6 n4 n1 n2 n3 e hd;go_enter func64,ntmps64
  (go_wp2_with fail);refine bodyPost_ret (yZ results64 _ _ w.heap.size 113 (x8 sR) (0,0) _ rfl (h3.out _ _).1 underlying113 rfl (by rw[kE];exact fS)) rfl ?_;exact⟨rfl,(h3.out _ _).2⟩
theorem dK(b:ByteArray):b.size=0↔b.toList.isEmpty=true:=by
 rw[isEmpty_iff,<-length_eq_zero_iff,ByteArray.toList_eq];exact Iff.rfl
theorem ent_check(x:rO)(w:World)(hb:x.b.size<=9223372036854775807)(ht:x.t.size<=9223372036854775807) :
  Calls prog 30 #[.agg (jD ⟨x.k,x.t,x.b,x.c⟩)] w λe w'=>e=.returned (.int .i64 (b9 x))/\Below w.heap.size w w':=by
 obtain⟨k,t,b,c⟩:=x;have hB:Below w.heap.size w (w.alloc (.cells (jD ⟨k,t,b,c⟩) 33)):=bA;have c1:=ent_of k (w.alloc (.cells (jD ⟨k,t,b,c⟩) 33));have hr:zA (w.alloc (.cells (jD ⟨k,t,b,c⟩) 33)) w.heap.size 0 35=some (jD ⟨k,t,b,c⟩):=by simp[go_sem]
 obtain⟨ga,I⟩:=eX w.heap.size
 obtain⟨W,hW⟩:=eR (w.alloc (.cells (jD ⟨k,t,b,c⟩) 33))
 rw[<-hW]at hB c1 hr;rw[I]at hr;have q0:W.cell? ⟨ga,0,none⟩=some (.int .i64 k):=by have:=zC hr (j:=0) oM;rw[Nat.zero_add]at this;rw[this];simp[jD]
 obtain⟨ok,G⟩:∃ok,decide (1<=k/\k<=7)=ok:=⟨_,rfl⟩
 obtain⟨E,hE⟩:=eX (b9 ⟨k,t,b,c⟩)
 obtain⟨p,hp⟩:=eX (YQ k)
 rw[G,hp]at c1;rw[hE];have HW:=dH hW;have X:=dH I;have HB:=dH hB;have M:=dH G;have HE:=dH hE;have Hp:=dH hp;clear hW I hB G hE hp;go_enter func30,ntmps30
 (go_wp2_with fail);rw[<-HW.out,X.out];refine c1.mono ?_;rintro e w1 ⟨rfl,A⟩;have F:=((z9.of_below A).row (zE hr) sI _ _).trans hr;have J:Below w.heap.size w (w1.alloc (.cells (x8 p) 113)):=(HB.out.trans (A.mono HB.out.size)).alloc (Nat.le_trans HB.out.size A.size) _;have L:ga<w1.heap.size:=zE F;have y:=((z9.alloc w1 (.cells (x8 p) 113)).row L sI _ _).trans F;have f1:(w1.alloc (.cells (x8 p) 113)).cell? ⟨ga,1,none⟩=some (.string t):=by have:=zC y (j:=1) oM;rw[Nat.zero_add]at this;rw[this];simp[jD]
 have f2:(w1.alloc (.cells (x8 p) 113)).cell? ⟨ga,2,none⟩=some (.string b):=by have:=zC y (j:=2) oM;rw[Nat.zero_add]at this;rw[this];simp[jD]
 have f3:zA (w1.alloc (.cells (x8 p) 113)) ga 3 32=some (idC c):=by have:=yF y (j:=3) (m:=32) oM;rw[Nat.zero_add]at this;rw[this];exact congrArg some (entC_e3 _)
 obtain⟨W2,D⟩:=eR (w1.alloc (.cells (x8 p) 113))
 have s:zA W2 w1.heap.size 0 4=some (x8 p):=by rw[D];simp[go_sem]
 obtain⟨gp,H⟩:=eX w1.heap.size
 rw[<-D]at J f1 f2 f3;rw[H]at s;have p0:W2.cell? ⟨gp,0,none⟩=some (.bool p.tp):=by have:=zC s (j:=0) oM;rw[Nat.zero_add]at this;rw[this];simp[x8]
 have p1:W2.cell? ⟨gp,1,none⟩=some (.bool p.cm):=by have:=zC s (j:=1) oM;rw[Nat.zero_add]at this;rw[this];simp[x8]
 have p2:W2.cell? ⟨gp,2,none⟩=some (.int .i64 p.bd):=by have:=zC s (j:=2) oM;rw[Nat.zero_add]at this;rw[this];simp[x8]
 have p3:W2.cell? ⟨gp,3,none⟩=some (.bool p.em):=by have:=zC s (j:=3) oM;rw[Nat.zero_add]at this;rw[this];simp[x8]
 have N:=dH D;have R:=dH H;have f:=dH J;clear c1 hr F y s D H J q0 A L;cases ok with
 | false =>
  (go_wp2_with fail);go_ret;exact⟨yA (by rw[<-HE.out];unfold b9;rw[if_pos (by have:=of_decide_eq_false M.out;show k<1\/7<k;omega)]),by rw[<-N.out];exact f.out⟩
 | true =>
  go_upto_region 4 with fail
  rw[<-N.out,R.out];have O:(p=⟨true,false,1048512,true⟩/\k=7)\/(p=⟨true,false,0,false⟩/\(k=5\/k=6))\/(p=⟨false,true,0,false⟩/\k=4)\/(p=⟨false,false,256,false⟩/\(k=1\/k=2))\/(p=⟨false,false,512,false⟩/\k=3):=by
   have h1:=of_decide_eq_true M.out;have hk:k=7\/k=5\/k=6\/k=4\/k=1\/k=2\/k=3:=oM;rw[<-Hp.out];rcases hk with rfl | rfl | rfl | rfl | rfl | rfl | rfl <;> simp[YQ]
  rcases O with⟨rfl,hk⟩ | ⟨rfl,hk⟩ | ⟨rfl,hk⟩ | ⟨rfl,hk⟩ | ⟨rfl,hk⟩
  ·subst hk;obtain⟨B,r⟩:=eX b.toList.isEmpty
   have d:Hid (b.size=0↔B=true):=dH (by rw[<-r];exact dK b);obtain⟨C,hC⟩:=eX (c==id0)
   have ck:=rH t W2 ht;obtain⟨Z,hZ⟩:=eX (j8 t)
   rw[hZ]at ck;obtain⟨V,hV⟩:=eX (Z != 0)
   have HZ:=dH hZ;clear hZ;cases B <;> cases C <;> cases V
   all_goals
    go_wp2_with fail
    all_goals first
    | (go_ret;refine⟨yA ?_,f.out⟩;rw[<-HE.out];have h2:=d.out;have h3:=HZ.out;unfold b9;first | (simp_all;done) | (simp_all;omega))
    | (refine ck.mono ?_;rintro e w9 ⟨rfl,g⟩;have g2:=(g.cell (p:=⟨ga,2,none⟩) (block_lt_of_cell? W2 _ f2)).trans f2;have r2:=(g.cell (p:=⟨gp,2,none⟩) (block_lt_of_cell? W2 _ p2)).trans p2;have r3:=(g.cell (p:=⟨gp,3,none⟩) (block_lt_of_cell? W2 _ p3)).trans p3;go_wp2_with fail;all_goals (go_ret;refine⟨yA ?_,f.out.trans (g.mono f.out.size)⟩;rw[<-HE.out];have h2:=d.out;have h3:=HZ.out;unfold b9;first | (simp_all;done) | (simp_all;omega)))
  ·rcases hk with rfl | rfl
   all_goals
    obtain⟨B,r⟩:=eX b.toList.isEmpty
    have d:Hid (b.size=0↔B=true):=dH (by rw[<-r];exact dK b);obtain⟨C,hC⟩:=eX (c==id0)
    have ck:=rH t W2 ht;obtain⟨Z,hZ⟩:=eX (j8 t)
    rw[hZ]at ck;obtain⟨V,hV⟩:=eX (Z != 0)
    have HZ:=dH hZ;clear hZ;cases B <;> cases C <;> cases V
    all_goals
     go_wp2_with fail
     all_goals first
     | (go_ret;refine⟨yA ?_,f.out⟩;rw[<-HE.out];have h2:=d.out;have h3:=HZ.out;unfold b9;first | (simp_all;done) | (simp_all;omega))
     | (refine ck.mono ?_;rintro e w9 ⟨rfl,g⟩;have g2:=(g.cell (p:=⟨ga,2,none⟩) (block_lt_of_cell? W2 _ f2)).trans f2;have r2:=(g.cell (p:=⟨gp,2,none⟩) (block_lt_of_cell? W2 _ p2)).trans p2;have r3:=(g.cell (p:=⟨gp,3,none⟩) (block_lt_of_cell? W2 _ p3)).trans p3;go_wp2_with fail;all_goals (go_ret;refine⟨yA ?_,f.out.trans (g.mono f.out.size)⟩;rw[<-HE.out];have h2:=d.out;have h3:=HZ.out;unfold b9;first | (simp_all;done) | (simp_all;omega)))
  ·subst hk;obtain⟨T,hT⟩:=eX t.toList.isEmpty
   obtain⟨B,r⟩:=eX b.toList.isEmpty
   have HT:Hid (t.size=0↔T=true):=dH (by rw[<-hT];exact dK t);have d:Hid (b.size=0↔B=true):=dH (by rw[<-r];exact dK b);cases T <;> cases B
   all_goals
    go_wp2_with fail
    all_goals
     go_ret;refine⟨yA ?_,f.out⟩;rw[<-HE.out];have h1:=HT.out;have h2:=d.out;unfold b9
     simp_all
  ·rcases hk with rfl | rfl
   all_goals
    obtain⟨T,hT⟩:=eX t.toList.isEmpty
    obtain⟨B,r⟩:=eX b.toList.isEmpty
    have HT:Hid (t.size=0↔T=true):=dH (by rw[<-hT];exact dK t);have d:Hid (b.size=0↔B=true):=dH (by rw[<-r];exact dK b);obtain⟨C,hC⟩:=eX (c==id0)
    cases T <;> cases B <;> cases C
    all_goals
     go_wp2_with fail
     all_goals
      go_ret;refine⟨yA ?_,f.out⟩;rw[<-HE.out];have h1:=HT.out;have h2:=d.out;unfold b9;first | (simp_all;done) | (simp_all;omega)
  ·subst hk;obtain⟨T,hT⟩:=eX t.toList.isEmpty
   obtain⟨B,r⟩:=eX b.toList.isEmpty
   have HT:Hid (t.size=0↔T=true):=dH (by rw[<-hT];exact dK t);have d:Hid (b.size=0↔B=true):=dH (by rw[<-r];exact dK b);obtain⟨C,hC⟩:=eX (c==id0)
   cases T <;> cases B <;> cases C
   all_goals
    go_wp2_with fail
    all_goals
     go_ret;refine⟨yA ?_,f.out⟩;rw[<-HE.out];have h1:=HT.out;have h2:=d.out;unfold b9;first | (simp_all;done) | (simp_all;omega)
section
theorem entE_k{e:rO}(h:b9 e=0):1<=e.k/\e.k<=7:=by
 unfold b9 at h;split at h
 ·cases h
 ·omega
theorem entE_t{e:rO}(h:b9 e=0)(hk:5<=e.k):yH e.t≠0:=by
 intro hc;have h9:j8 e.t≠0:=by unfold j8;rw[if_pos hc];decide
 unfold b9 at h;split at h
 ·cases h
 ·split at h
  ·cases h
  ·rw[if_pos ⟨hk,h9⟩]at h;cases h
section
variable {X:StX} {t b:ByteArray} {c:zB}
theorem appS_1(h:b9 ⟨1,t,b,c⟩=0):fW X ⟨1,t,b,c⟩ (YP X b.data.toList) (iQ X b.data.toList true):=by
 unfold fW;rw[if_neg (by rw[h];decide),if_pos (by dsimp only;decide)];unfold YP iQ;split <;> exact⟨rfl,rfl⟩
theorem appS_2(h:b9 ⟨2,t,b,c⟩=0):fW X ⟨2,t,b,c⟩ (YP X b.data.toList) (iQ X b.data.toList false):=by
 unfold fW;rw[if_neg (by rw[h];decide),if_pos (by dsimp only;decide)];unfold YP iQ;split <;> exact⟨rfl,rfl⟩
theorem appS_3(h:b9 ⟨3,t,b,c⟩=0):fW X ⟨3,t,b,c⟩ (sQ X.S X.q b) (nH X b):=by
 unfold fW;rw[if_neg (by rw[h];decide),if_neg (by dsimp only;decide),if_pos rfl];exact⟨rfl,rfl⟩
theorem appS_4(h:b9 ⟨4,t,b,c⟩=0):fW X ⟨4,t,b,c⟩ (gK X c) (qU X c):=by
 unfold fW;rw[if_neg (by rw[h];decide),if_neg (by dsimp only;decide),if_neg (by dsimp only;decide),if_pos rfl];exact⟨rfl,rfl⟩
theorem appS_6(h:b9 ⟨6,t,b,c⟩=0):fW X ⟨6,t,b,c⟩ (XG X t) (wO X t):=by
 unfold fW;rw[if_neg (by rw[h];decide),if_neg (by dsimp only;decide),if_neg (by dsimp only;decide),if_neg (by dsimp only;decide),if_pos rfl];exact⟨rfl,rfl⟩
theorem appS_may{k:Int}(hk:k=5\/k=7)(h:b9 ⟨k,t,b,c⟩=0)(hm:m5 X t≠0):fW X ⟨k,t,b,c⟩ (m5 X t) X:=by
 unfold fW;rw[if_neg (by rw[h];decide),if_neg (by show ¬k<=2;omega),if_neg (by show ¬k=3;omega),if_neg (by show ¬k=4;omega),if_neg (by show ¬k=6;omega),if_pos hm];exact⟨rfl,rfl⟩
theorem appS_5(h:b9 ⟨5,t,b,c⟩=0)(hm:m5 X t=0):fW X ⟨5,t,b,c⟩ 0 (subX X ⟨t,[],VSt.new (yH t)⟩):=by
 unfold fW;rw[if_neg (by rw[h];decide),if_neg (by dsimp only;decide),if_neg (by dsimp only;decide),if_neg (by dsimp only;decide),if_neg (by dsimp only;decide),if_neg (by show ¬m5 X t≠0;rw[hm];decide),if_pos rfl];exact⟨rfl,rfl⟩
theorem appS_7(h:b9 ⟨7,t,b,c⟩=0)(hm:m5 X t=0){I:List zB}{l:List UInt8}{er E0 E:Int}{Y:StX}(hr:j5 idP b.data.toList 0=⟨I,l,er⟩)(hE:pX (yH t) I l er E0)
  (hY:if E0≠0 then E=E0/\Y=X else if QB X t I=true then E=7/\Y=X else E=0/\Y=subX X ⟨t,I,stL (yH t) l⟩):fW X ⟨7,t,b,c⟩ E Y:=by
 unfold fW;rw[if_neg (by rw[h];decide),if_neg (by dsimp only;decide),if_neg (by dsimp only;decide),if_neg (by dsimp only;decide),if_neg (by dsimp only;decide),if_neg (by show ¬m5 X t≠0;rw[hm];decide),if_neg (by dsimp only;decide)];exact⟨I,l,er,E0,hr,hE,hY⟩
theorem mayE_no(h:m5 X t=0):t∉X.V.map (·.t):=by
 unfold m5 at h;intro hm;rw[if_pos (m9.2 hm)]at h;cases h
end
theorem st_subE(w:World)(g:Nat)(P:Option Addr)(E:Int)(hE:E≠0) :
  Calls prog 36 #[.pointer (some ⟨g,0,none⟩),.pointer P,.int .i64 E] w λe w'=>e=.returned (.int .i64 E)/\w=w':=by
 have hb:(E != 0)=true:=by simpa using hE
 clear hE;go_enter func36,ntmps36
 (go_wp2_with fail);go_ret;exact⟨rfl,rfl⟩
theorem nY(w:World)(g:Nat)(F M:List Nat)(n:Nat)(X:StX)(h:yX w g F M X)(hv:gP w)(hX:vP n X)(hn:n<=700)(x:rO)(hb:x.b.size<=3000)(ht:x.t.size<=1000000) :
  Calls prog 9 #[.pointer (some ⟨g,0,none⟩),.agg (jD ⟨x.k,x.t,x.b,x.c⟩)] w λe w'=>∃E Y F' M',e=.returned (.int .i64 E)/\fW X x E Y/\jE w g F M Y w' F' M':=by
 obtain⟨k,t,b,c⟩:=x;have hb:b.size<=3000:=hb;have ht:t.size<=1000000:=ht;have hB:Below w.heap.size w (w.alloc (.cells (jD ⟨k,t,b,c⟩) 33)):=bA;have hr:zA (w.alloc (.cells (jD ⟨k,t,b,c⟩) 33)) w.heap.size 0 35=some (jD ⟨k,t,b,c⟩):=by simp[go_sem]
 obtain⟨W,hW⟩:=eR (w.alloc (.cells (jD ⟨k,t,b,c⟩) 33))
 obtain⟨ga,b5⟩:=eX w.heap.size
 rw[<-hW]at hB hr;rw[b5]at hr;have a9:=h.below hB;have c0:∃gd,W.cell? ⟨g,0,none⟩=some (.pointer (some ⟨gd,0,none⟩)):=by
  obtain⟨gd,gs,bo,bv,Fd,Fs,N,R⟩:=a9.sp;exact⟨gd,by rw[cell_of_row W g 0 _ _ _ R.st.heap];rfl⟩
 obtain⟨gd,c0⟩:=c0;have cN:=eV W g gd c0;have cE:=ent_check ⟨k,t,b,c⟩ W (by show b.size<=_;omega) (by show t.size<=_;omega);obtain⟨E0,L⟩:=eX (b9 ⟨k,t,b,c⟩)
 rw[L]at cE;have r:=dH L;have HW:=dH hW;have c9:=dH b5;have HB:=dH hB;have H:=dH h;have HX:=dH hX;have Hv:=dH hv;clear L hW b5 hB a9 c0 h hX hv;go_enter func9,ntmps9
 (go_wp2_with fail);rw[<-HW.out,c9.out];refine cN.mono ?_;rintro e w1 ⟨rfl,rfl⟩;clear cN;(go_wp2_with fail);refine cE.mono ?_;rintro e w2 ⟨rfl,b6⟩;have a6:=((z9.of_below b6).row (zE hr) sI _ _).trans hr;have b1:=dH (yK HB.out b6);clear cE hr b6;by_cases L:E0=0
 ·subst L;have c6:=entE_k r.out;have f0:w2.cell? ⟨ga,0,none⟩=some (.int .i64 k):=by have:=zC a6 (j:=0) oM;rw[Nat.zero_add]at this;rw[this];simp[jD]
  have f1:w2.cell? ⟨ga,1,none⟩=some (.string t):=by have:=zC a6 (j:=1) oM;rw[Nat.zero_add]at this;rw[this];simp[jD]
  have f2:w2.cell? ⟨ga,2,none⟩=some (.string b):=by have:=zC a6 (j:=2) oM;rw[Nat.zero_add]at this;rw[this];simp[jD]
  have f3:zA w2 ga 3 32=some (idC c):=by have:=yF a6 (j:=3) (m:=32) oM;rw[Nat.zero_add]at this;rw[this];exact congrArg some (entC_e3 _)
  have f:=dH (H.out.below b1.out);have a0:=dH (Hv.out.below b1.out);have Hn:=dH (jE.below H.out b1.out);clear a6;have hk:k=1\/k=2\/k=3\/k=4\/k=6\/k=5\/k=7:=by have h1:1<=k/\k<=7:=c6;omega
  clear c6;rcases hk with rfl | rfl | rfl | rfl | rfl | rfl | rfl
  ·have c1:=VR w2 g F M n X f.out a0.out HX.out hn b oM true;(go_wp2_with fail);refine(c1).mono ?_;rintro e w4 ⟨rfl,F4,M4,d⟩;have y:=dH (Hn.out.trans d);clear d;(go_wp2_with fail);go_ret;refine⟨_,_,F4,M4,rfl,?_,y.out⟩;exact appS_1 r.out
  ·have c1:=VR w2 g F M n X f.out a0.out HX.out hn b oM false;(go_wp2_with fail);refine(c1).mono ?_;rintro e w4 ⟨rfl,F4,M4,d⟩;have y:=dH (Hn.out.trans d);clear d;(go_wp2_with fail);go_ret;refine⟨_,_,F4,M4,rfl,?_,y.out⟩;exact appS_2 r.out
  ·have c1:=st_pay w2 g F M n X f.out a0.out HX.out oM b oM;(go_wp2_with fail);refine(c1).mono ?_;rintro e w4 ⟨rfl,F4,M4,d⟩;have y:=dH (Hn.out.trans d);clear d;(go_wp2_with fail);go_ret;refine⟨_,_,F4,M4,rfl,?_,y.out⟩;exact appS_3 r.out
  ·have c1:=st_evict w2 g F M n X f.out a0.out HX.out oM c;(go_wp2_with fail);refine(c1).mono ?_;rintro e w4 ⟨rfl,F4,M4,d⟩;have y:=dH (Hn.out.trans d);clear d;(go_wp2_with fail);go_ret;refine⟨_,_,F4,M4,rfl,?_,y.out⟩;exact appS_4 r.out
  ·have c1:=st_unsub w2 g F M X f.out t (wW (entE_t r.out (by show(5:Int)<=6;decide)));(go_wp2_with fail);refine(c1).mono ?_;rintro e w4 ⟨rfl,F4,M4,d⟩;have y:=dH (Hn.out.trans d);clear d;(go_wp2_with fail);go_ret;refine⟨_,_,F4,M4,rfl,?_,y.out⟩;exact appS_6 r.out
  ·have V:=entE_t r.out (by show(5:Int)<=5;decide);have B:=wW V;have c1:=st_may w2 g F M X f.out t B;obtain⟨me,T⟩:=eX (m5 X t)
   rw[T]at c1;have G:=dH T;have a1:=dH V;have b8:=dH B;clear T V B;(go_wp2_with fail);refine c1.mono ?_;rintro e w3 ⟨rfl,rfl⟩;clear c1;by_cases J:me=0
   ·subst J;have a7:1<=yH t/\yH t<=5:=by have:=fG t;have:=a1.out;omega
    have cV:=vnew_m t w2 oM a1.out;have b3:=dH a7;clear a7;(go_wp2_with fail);refine cV.mono ?_;rintro e w3 ⟨vg,vb,O,v,rfl,s,a8,Z⟩;obtain⟨b7,gs,bo,bv,Fd,Fs,N,R⟩:=f.out.sp;have a4:vg<w3.heap.size:=s.view.lt;have a5:=s.st (M++vg :: vb :: O) (λx hx=>mem_append_right _ (mem_cons_of_mem _ (mem_cons_of_mem _ hx)));have c2:=st_sub w2 w3 g b7 gs bo bv Fd Fs F M N n X R a0.out HX.out.pre oM Z vg vb t O [] v _ s.view a5 s.gO s.bO b8.out a8 (λx hx=>(mem_cons.1 hx).elim (λe=>by rw[e];exact a4) (s.lt x)) (mayE_no G.out) Ris.nil sI (.inl ⟨a1.out,(VSt.new_kind b3.out).symm,nodup_nil,sI,by rw[VSt.new_len];omega⟩);have ho:QB X t []=false:=rfl;rw[ho]at c2;simp only[Bool.false_eq_true,if_false]at c2;clear cV s a8 Z R a4 a5 ho;(go_wp2_with fail);refine(c2).mono ?_;rintro e w4 ⟨rfl,F4,M4,d⟩;have y:=dH (Hn.out.trans d);clear d;(go_wp2_with fail);go_ret;refine⟨_,_,F4,M4,rfl,?_,y.out⟩;exact appS_5 r.out G.out
   ·have c7:(me != 0)=true:=by simpa using J
    have HM:=dH J;clear J;(go_wp2_with fail);go_ret;exact⟨me,X,F,M,rfl,by rw[<-G.out];exact appS_may (.inl rfl) r.out (by rw[G.out];exact HM.out),Hn.out⟩
  ·have V:=entE_t r.out (by show(5:Int)<=7;decide);have B:=wW V;have c1:=st_may w2 g F M X f.out t B;obtain⟨me,T⟩:=eX (m5 X t)
   rw[T]at c1;have G:=dH T;have a1:=dH V;have b8:=dH B;clear T V B;(go_wp2_with fail);refine c1.mono ?_;rintro e w3 ⟨rfl,rfl⟩;clear c1;by_cases J:me=0
   ·subst J;have a7:1<=yH t/\yH t<=5:=by have:=fG t;have:=a1.out;omega
    obtain⟨I,l,er,b4⟩:∃I l er,j5 idP b.data.toList 0=⟨I,l,er⟩:=⟨_,_,_,rfl⟩
    have cV:=vload_in t w2 b I l er M f.out.ltM oM oM a1.out a0.out.parts.lt b4;have b3:=dH a7;have b0:=dH b4;clear a7 b4;(go_wp2_with fail);refine cV.mono ?_;rintro e w3 ⟨P,E,rfl,b2,hP,B,Z⟩;have c3:=dH b2;by_cases hE:E=0
    ·subst hE;obtain⟨vg,vb,O,v,rfl,a2,a5,a8,a3⟩:=B rfl;obtain⟨b7,gs,bo,bv,Fd,Fs,N,R⟩:=f.out.sp;have U:=b2;unfold pX at U;split at U
     ·rename_i h0;exact absurd U.symm h0
     rename_i her
     split at U
     ·cases U
     rename_i A
     have A:Ris yE I:=(X3 _).1 (by simpa using A);have c5:l.length<=3000/\I.length<=3000:=by
      have h4:=jV nM (show(j5 idP b.data.toList 0).e=0 by rw[b0.out];exact Classical.not_not.1 her);rw[b0.out]at h4;have h5:I.length+l.length<=b.data.toList.length:=h4;have h6:b.data.toList.length=b.size:=rfl;omega
     have c4:VOk X.D ⟨t,I,stL (yH t) l⟩\/QB X t I=true:=by
      by_cases ho:QB X t I=true
      ·exact .inr ho
      ·refine .inl ⟨a1.out,(qd _ _ b3.out).symm,A.nodup vQ,λi hi=>?_,?_⟩
       ·refine Classical.byContradiction λhn=>ho ?_;exact any_eq_true.2 ⟨i,hi,decide_eq_true hn⟩
       ·have:=stL_len b3.out U c5.1;show(stL (yH t) l).len<=100+I.length;omega
     have a4:vg<w3.heap.size:=a2.view.lt;have c2:=st_sub w2 w3 g b7 gs bo bv Fd Fs F M N n X R a0.out HX.out.pre oM Z vg vb t O I v _ a2.view a5 a2.gM a2.bO b8.out (λx hx=>(mem_cons.1 hx).elim (λe=>by rw[e];exact a3) (a8 x)) (λx hx=>(mem_cons.1 hx).elim (λe=>by rw[e];exact a4) (a2.lt x)) (mayE_no G.out) A oM c4;obtain⟨z,hz⟩:=eX (QB X t I)
     rw[hz]at c2;have Hz:=dH hz;clear cV b2 hP B a2 a5 a8 a3 Z R a4 U her A c5 c4 hz;cases z with
     | true =>
      simp only[if_true]at c2;(go_wp2_with fail);refine(c2).mono ?_;rintro e w4 ⟨rfl,F4,M4,d⟩;have y:=dH (Hn.out.trans d);clear d;(go_wp2_with fail);go_ret;refine⟨_,_,F4,M4,rfl,?_,y.out⟩;exact appS_7 r.out G.out b0.out c3.out (by rw[if_neg (by decide),if_pos Hz.out];exact⟨rfl,rfl⟩)
     | false =>
      simp only[Bool.false_eq_true,if_false]at c2;(go_wp2_with fail);refine(c2).mono ?_;rintro e w4 ⟨rfl,F4,M4,d⟩;have y:=dH (Hn.out.trans d);clear d;(go_wp2_with fail);go_ret;refine⟨_,_,F4,M4,rfl,?_,y.out⟩;exact appS_7 r.out G.out b0.out c3.out (by rw[if_neg (by decide),if_neg (by rw[Hz.out];decide)];exact⟨rfl,rfl⟩)
    ·have c2:=st_subE w3 g P E hE;have d0:=dH hE;have c8:=dH (jE.below H.out (yK b1.out Z));clear cV b2 hP B Z hE;(go_wp2_with fail);refine c2.mono ?_;rintro e w4 ⟨rfl,rfl⟩;clear c2;(go_wp2_with fail);go_ret;exact⟨E,X,F,M,rfl,appS_7 r.out G.out b0.out c3.out (by rw[if_pos d0.out];exact⟨rfl,rfl⟩),c8.out⟩
   ·have c7:(me != 0)=true:=by simpa using J
    have HM:=dH J;clear J;(go_wp2_with fail);go_ret;exact⟨me,X,F,M,rfl,by rw[<-G.out];exact appS_may (.inr rfl) r.out (by rw[G.out];exact HM.out),Hn.out⟩
 ·have d1:(E0 != 0)=true:=by simpa using L
  have HE:=dH L;clear L;(go_wp2_with fail);go_ret;refine⟨E0,X,F,M,rfl,?_,jE.below H.out b1.out⟩;unfold fW;rw[if_pos (by rw[r.out];exact HE.out)];exact⟨r.out.symm,rfl⟩
end
theorem st_new(w:World)(q:Int)(hv:gP w) :
  Calls prog 6 #[.int .i64 q] w λe w'=>(if 0<=q/\q<=4096 then ∃g F,e=.returned (.tuple #[.pointer (some ⟨g,0,none⟩),.int .i64 0])/\yX w' g F F ⟨q,[],[],[],[]⟩/\(∀x∈F,w.heap.size<=x)else e=.returned (.tuple #[.pointer none,.int .i64 1]))/\Below w.heap.size w w':=by
 have c1:=sto_new w q;have a0:=@run_makeMap prog;by_cases h:0<=q/\q<=4096
 ·simp only[if_pos h]at c1 |-;have Hv:=dH hv;clear hv;go_enter func6,ntmps6
  (go_wp2_with fail);refine c1.mono ?_;rintro e w1 ⟨gs,Fs,rfl,B,I,k⟩;have cD:=dag_new w1;have O:=dH B;have U:=dH I;have t:=dH k;clear c1 B I k;(go_wp2_with fail);refine cD.mono ?_;rintro e w2 ⟨gd,Fd,rfl,G,J,H⟩;have R:=dH G;have V:=dH J;have T:=dH H;clear cD G J H;(go_wp2_with fail);go_ret2;obtain⟨w3,s⟩:=eR (w2.alloc (.map #[] 0))
  obtain⟨w4,r⟩:=eR (w3.alloc (.map #[] 0))
  obtain⟨w5,m⟩:=eR (w4.alloc (.cells (stC gd gs w2.heap.size (w2.heap.size+1)) 69))
  have z3:w3.heap.size=w2.heap.size+1:=by rw[s];simp
  have z4:w4.heap.size=w2.heap.size+1+1:=by rw[r];simp[z3]
  have z5:w5.heap.size=w2.heap.size+1+1+1:=by rw[m];simp[z4]
  have Y:Below w2.heap.size w2 w3:=by rw[s];exact bA
  have L:Below w3.heap.size w3 w4:=by rw[r];exact bA
  have A:Below w4.heap.size w4 w5:=by rw[m];exact bA
  have M:=yK (yK Y L) A;have N:=yK T.out M;have Z:=yK t.out N;have hO:jS w5 w2.heap.size []:=((by rw[s];exact yM.new w2 w2.heap.size rfl:jS w3 w2.heap.size []).below L).below A;have X:yL w4 (w2.heap.size+1) Value.string fD bU ([]:List (ByteArray×Nat)) #[] 0:=by rw[r,<-z3];exact yL.new w3 w3.heap.size rfl
  have hV:yL w5 (w2.heap.size+1) Value.string fD bU ([]:List (ByteArray×Nat)) #[] 0:=X.kept (z9.of_below A) sI;have hg:w5.heap[w2.heap.size+1+1]?=some (.cells (stC gd gs w2.heap.size (w2.heap.size+1)) 69 (0,0)):=by rw[m,<-z4];exact heap_alloc_new _ _
  show(∃g F,_/\yX ((((w2.alloc (.map #[] 0)).alloc (.map #[] 0)).alloc (.cells (stC gd gs w2.heap.size (w2.heap.size+1)) 69))) g F F _/\_)/\_;rw[<-s,<-r,<-m];have s0:=t.out.size;have s1:=T.out.size;have j:=R.out.lt;have f:=O.out.lt;have D:fU w5 (w2.heap.size+1+1) gd gs w2.heap.size (w2.heap.size+1) Fd Fs (vW (w2.heap.size+1+1) w2.heap.size (w2.heap.size+1) Fd Fs []).flatten [] ⟨q,[],[],[],[]⟩:=by
   refine⟨hg,R.out.below M,O.out.kept (z9.of_below N) sI,hO,⟨[],#[],0,hV,Perm.refl _⟩,sI,rfl,?_⟩;unfold vB vW;simp only[map_nil,pairwise_cons,mem_cons,not_mem_nil,or_false,false_imp_iff,implies_true,Pairwise.nil,and_true];refine⟨λb hb x hx d=>?_,λb hb x hx d=>?_,λb hb x hx d=>?_,λb hb x hx d=>?_⟩
   ·subst hx;rcases hb with rfl | rfl | rfl | rfl
    ·rw[mem_singleton]at d;omega
    ·rw[mem_singleton]at d;omega
    ·have:=j _ d;omega
    ·have:=f _ d;omega
   ·subst hx;rcases hb with rfl | rfl | rfl
    ·rw[mem_singleton]at d;omega
    ·have:=j _ d;omega
    ·have:=f _ d;omega
   ·subst hx;rcases hb with rfl | rfl
    ·have:=j _ d;omega
    ·have:=f _ d;omega
   ·subst hb;have h1:=V.out x hx;have h2:=f _ d;omega
  have E:∀x∈(vW (w2.heap.size+1+1) w2.heap.size (w2.heap.size+1) Fd Fs []).flatten,w.heap.size<=x:=λx hx=>by
   rcases bP.1 hx with e | e | e | e | e | ⟨p,hp,e⟩
   ·omega
   ·omega
   ·omega
   ·have:=V.out x e;omega
   ·exact U.out x e
   ·simp at hp
  refine⟨⟨_,_,rfl,⟨gd,gs,_,_,Fd,Fs,[],D,rfl,λ_ hx=>hx,λx hx=>?_,?_⟩,E⟩,Z⟩
  ·obtain⟨b,hb,hx⟩:=mem_flatten.1 hx;exact D.lt b hb x hx
  ·exact dW.more Hv.out (F:=[]) ⟨sI,sI,sI⟩ (λy hy=>.inr (E y hy))
 ·simp only[if_neg h]at c1 |-;clear h;go_enter func6,ntmps6
  (go_wp2_with fail);refine c1.mono ?_;rintro e w1 ⟨rfl,k⟩;have t:=dH k;clear k c1;(go_wp2_with fail);go_ret2;exact⟨rfl,t.out⟩
theorem st_held(w:World)(g:Nat)(F M:List Nat)(X:StX)(h:yX w g F M X)(hn:X.S.length<=1000000) :
  Calls prog 10 #[.pointer (some ⟨g,0,none⟩)] w λe w'=>∃A cap,e=.returned (.slice A X.S.length cap)/\Own w' w.heap.size 31 32 A X.S.length cap ((X.S.map (·.c)).map idC)/\Below w.heap.size w w':=by
 obtain⟨gd,gs,bo,bv,Fd,Fs,N,h⟩:=h.sp;have c0:w.cell? ⟨g,0,none⟩=some (.pointer (some ⟨gd,0,none⟩)):=by rw[cell_of_row w g 0 _ _ _ h.st.heap];rfl
 have c1:w.cell? ⟨g,1,none⟩=some (.pointer (some ⟨gs,0,none⟩)):=by rw[cell_of_row w g 1 _ _ _ h.st.heap];rfl
 have cN:=eV w g gd c0;have cA:=sto_all w gs Fs X.q X.S h.st.sto hn;clear h;go_enter func10,ntmps10
 (go_wp2_with fail);refine cN.mono ?_;rintro e w1 ⟨rfl,rfl⟩;clear cN;(go_wp2_with fail);refine cA.mono ?_;rintro e w2 ⟨A,cap,rfl,ho,hb⟩;have HF:=dH (And.intro ho hb);clear cA ho hb;(go_wp2_with fail);go_ret;exact⟨A,cap,rfl,HF.out.1,HF.out.2⟩
end Go.Proofs.YtdjiaickicgdlaaGreatDoor
