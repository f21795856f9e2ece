/- Part 16 of the texts that lead to this claim: the walks of the functions and the plain law, in order. -/
import Derived.Test.YtddopbhcpblpjaaGreatDoorMj15
namespace Go.Proofs.YtddopbhcpblpjaaGreatDoor
open Go.RowKit
open List hiding and get max min or set
open Go.Proofs.Tryz
open World
set_option maxRecDepth 100000
set_option maxHeartbeats 8000000
variable {n:Nat}{S':List Pay}{e:Int}{L:List zA}
theorem kJ.sto{X:StX}(h:kJ n X)(hb:∀p∈S',p.body.size<=512):kJ n ⟨X.q,X.D,X.O,S',X.V⟩:=⟨h.nd,h.ok,h.len,hb,h.nv,h.vw⟩
theorem VI{S:List Pay}{c:zA}(hb:∀p∈S,p.body.size<=512):∀p∈bB S c,p.body.size<=512:=by
 intro p hp;obtain⟨q,hq,rfl⟩:=mem_map.1 hp;have:=hb q hq;split <;> exact this
theorem nL(w:World)(g gd gs bo bv:Nat)(Fd Fs F M:List Nat)(N:List (VwX×VwP))(n:Nat)(X:StX)(h:kY w g gd gs bo bv Fd Fs F M N X)(hv:dA w)(hX:kJ n X)(hn:n<=800)(A:Option Addr)(m c:Nat)(L:List zA)(hL:zW w A m L)(hm:m<=1000000)(hA:∀y∈blk A,y∉F) :
  Calls prog 86 #[.pointer (some ⟨g,0,none⟩),.slice A m c] w λe w'=>e=.returned (.tuple #[])/\j9 w g F M (qA X L) w' F M :=
 (st_fold w g F M n X h.at_ hv hX hn A m c L hL hm hA).mono λ_ _ ⟨h1,h2,h3⟩=>⟨h1,j9.keep h.at_ h2 h3⟩
theorem st_pay(w:World)(g:Nat)(F M:List Nat)(n:Nat)(X:StX)(h:xG w g F M X)(hv:dA w)(hX:kK n X)(hn:n<=800)(b:ByteArray)(hb:b.size<=1000000) :
  Calls prog 36 #[.pointer (some ⟨g,0,none⟩),.string b] w λe w'=>e=.returned (.int .i64 (sD X.S X.q b))/\∃F' M',j9 w g F M (n8 X b) w' F' M':=by
 obtain⟨gd,gs,bo,bv,Fd,Fs,N,h⟩:=h.sp;have c1:w.cell? ⟨g,1,none⟩=some (.pointer (some ⟨gs,0,none⟩)):=by rw[cell_of_row w g 1 _ _ _ h.st.heap];rfl
 have cP:=sto_put w gs Fs X.q X.S b h.st.sto hv.sha hb (by have:=hX.q0;have:=hX.q1;omega) hX.small;obtain⟨E,hE⟩:=eX (sD X.S X.q b)
 rw[hE]at cP |-;have HX:=dH hX;have Hs:=dH h;have HE:=dH hE;have Hv:=dH hv;clear hX h hE hv;go_enter func36,ntmps36
 (go_wp2_with fail);refine cP.mono ?_;rintro e w1 ⟨rfl,⟨r,T,d2⟩,d1⟩;obtain⟨F1,M1,Z,a0⟩:=Hs.out.newSto rfl T d2 d1 Hv.out;obtain⟨I,hI⟩:∃I,(if E=0 then qI b.data.toList else id0)=I:=⟨_,rfl⟩
 rw[hI];have k:=dH Z;have b3:=dH a0;have HI:=dH hI;clear cP T d2 d1 Z a0 c1 hI;have a8:Below w1.heap.size w1 (w1.alloc (.cells (idC I) 23)):=bA;have L:z9 (w1.alloc (.cells (idC I) 23)) w1.heap.size 0 32=some (idC I):=by simp[go_sem]
 by_cases b5:E=0
 ·subst b5;have eI:I=qI b.data.toList:=by rw[<-HI.out,if_pos rfl]
  obtain⟨e0,c9,d9,d8⟩:=putX_ok HX.out b HE.out;have f:kJ n ⟨X.q,X.D,X.O,lG X.S X.q b,X.V⟩:=HX.out.pre.sto λp hp=>(c9 p hp).2.2;have U:xR (lG X.S X.q b)<=1000000:=oH HX.out.q1;have hW:=k.out.kept a8;have b4:=b3.out.trans (j9.below k.out.at_ a8);obtain⟨W,c2⟩:=eR (w1.alloc (.cells (idC I) 23))
  obtain⟨ga,b9⟩:=eX w1.heap.size
  rw[<-c2]at L hW b4;rw[b9]at L;have a5:ga∉F1:=λhx=>(oH (k.out.at_.lt ga hx));have cM:=st_mine W g gd gs bo bv Fd r M1 N n _ hW.st (Nat.le_trans HX.out.len oM) I;obtain⟨m,hm⟩:=eX (rT ⟨X.q,X.D,X.O,lG X.S X.q b,X.V⟩ I)
  rw[hm]at cM;have HW:=dH hW;have e2:=dH b4;have e5:=dH c2;have e4:=dH b9;have Hm:=dH hm;have J:=dH f;have c4:=dH U;have c8:=dH a5;have d5:=dH eI;have d7:=dH (b4.vars Hs.out.at_ Hv.out);clear hW b4 c2 b9 hm f U e0 c9 d9 d8 eI HI a5 a8;(go_wp2_with fail);rw[<-e5.out,e4.out];refine cM.mono ?_;rintro e w2 ⟨rfl,a7⟩;have d:=((z8.of_below a7).row (zD L) sI _ _).trans L;have j:=dH (HW.out.kept a7);have d4:=dH (e2.out.trans (j9.below HW.out.at_ a7));have c3:=dH (d7.out.below a7);clear cM L a7;cases m with
  | false =>
   have c0:w2.cell? ⟨g,0,none⟩=some (.pointer (some ⟨gd,0,none⟩)):=by rw[cell_of_row w2 g 0 _ _ _ (j).out.st.heap];rfl
   have cC:=tR w2.drew gd Fd X.D (((j).out.st.dag).below ((Below.refl _ _).drew)) I (oH HX.out.len);have c7:=dH (j).out.at_.lt;have cF:=dH (fun (V:World) (hV:Below w2.heap.size w2 V) (A:Option Addr) (m c:Nat) (hL:zW V A m (vA X.D I)) (hm:m<=1000000) (hA:∀y∈blk A,y∉F1)=>nL V g gd gs bo bv Fd r F1 M1 N n _ ((j).out.kept hV) ((c3).out.below hV) (J.out) hn A m c (vA X.D I) hL hm hA);have b8:=QR (D:=X.D) I;have a4:=HX.out.len;go_upto_region 6 with fail
   refine n0 (.loose 0 (.loose 1 (.loose 2 (.loose 3 (.loose 4 (.loose 5 (.one 6 (.one 7 .done)))))))) (Kp [] w2) false kR kR kR kR kR (gK [] w2) ?_;have a1:=eT [] w2;have hS:=gK [] w2;have b1:=zF c0 (S:=[]) sI;have b2:=zY d (S:=[]) sI;refine tZ ?_;refine tH ?_;intro K hK;refine cC.mono ?_;rintro e w5 ⟨⟨A5,n5,c5⟩,rfl,a3,s,a6⟩;replace hS:=bM hS a6;refine⟨_,rfl,hS,hK _ _ ?_⟩;clear hK K;unfold slV;refine zv rfl ?_ kR ?_;(focus(simp only[yL];done));intro K hK;go_simp;have H:Below w2.heap.size w2 w5:=z8.below (S:=[]) hS lR sI;refine(cF.out w5 H A5 n5 c5 s.slr (by have:n5=(vA X.D I).length:=a3;omega) (λy hy b6=>by have h1:=(s.at_base hy).1;have h2:=c7.out y b6;have h3:w2.heap.size<=y:=h1;omega)).mono ?_;rintro e w6 ⟨rfl,a2⟩;refine⟨_,rfl,hK _ _ ?_⟩;clear hK K;have c6:=dH (j9.trans (j9.below (j).out.at_ H) a2);clear a2 H hS a1 b1 b2 cF cC s a6 a3;(go_wp2_with fail);go_ret;refine⟨rfl,F1,M1,?_⟩;have e:n8 X b=qA ⟨X.q,X.D,X.O,lG X.S X.q b,X.V⟩ (vA X.D I):=by
    unfold n8;rw[if_neg (by rw[HE.out];decide),<-d5.out,if_neg (by rw[show rT X I=false from Hm.out];decide)]
   rw[e];exact d4.out.trans c6.out
  | true =>
   have c1:w2.cell? ⟨g,1,none⟩=some (.pointer (some ⟨gs,0,none⟩)):=by rw[cell_of_row w2 g 1 _ _ _ j.out.st.heap];rfl
   have cN:=sto_pin w2.drew gs r X.q (lG X.S X.q b) I (j.out.st.sto.kept (z8.drew w2) sI) c4.out;have hgs:g∉r:=by
    have hd:=j.out.st.dis;unfold vR at hd;exact(show v7 (([g] :: [bo] :: [bv] :: [Fd])++r :: N.map vwF)from hd).ne [g] sI g sI
   have G:ga∉r:=λhx=>c8.out (j.out.mem (.inr (.inr (.inr (.inr (.inl hx))))));go_upto_region 5 with fail
   refine kX r w2 ?_;intro a1 hS;have b1:=zF c1 hgs;have b2:=zY d G;refine lQ ?_;intro K hK;refine cN.mono ?_;rintro e w3 ⟨⟨E3,rfl⟩,R,d0⟩;have d3:=yA hS d0 iL;refine⟨_,rfl,d3,hK _ _ ?_⟩;clear hK K;refine lZ ?_;refine zC ?_;intro hS;have B:z8 r w2 w3:=hS;obtain⟨F3,M3,Y,t⟩:=j.out.newSto rfl R iL B c3.out;have b7:=(B.row (zD d) G _ _).trans d;have a9:=dH Y;have e3:=dH (d4.out.trans t);have e1:=dH (t.vars j.out.at_ c3.out);have b0:=dH (J.out.sto (VI (c:=I) J.out.body));clear a1 hS d3 b1 b2 cN R d0 B Y t d c1 hgs G;have c0:w3.cell? ⟨g,0,none⟩=some (.pointer (some ⟨gd,0,none⟩)):=by rw[cell_of_row w3 g 0 _ _ _ (a9).out.st.heap];rfl
   have cC:=tR w3.drew gd Fd X.D (((a9).out.st.dag).below ((Below.refl _ _).drew)) I (oH HX.out.len);have c7:=dH (a9).out.at_.lt;have cF:=dH (fun (V:World) (hV:Below w3.heap.size w3 V) (A:Option Addr) (m c:Nat) (hL:zW V A m (vA X.D I)) (hm:m<=1000000) (hA:∀y∈blk A,y∉F3)=>nL V g gd gs bo bv Fd r F3 M3 N n _ ((a9).out.kept hV) ((e1).out.below hV) (b0.out) hn A m c (vA X.D I) hL hm hA);have b8:=QR (D:=X.D) I;have a4:=HX.out.len;go_upto_region 6 with fail
   refine n0 (.loose 0 (.loose 1 (.loose 2 (.loose 3 (.loose 4 (.loose 5 (.one 6 (.one 7 .done)))))))) (Kp [] w3) false kR kR kR kR kR (gK [] w3) ?_;have a1:=eT [] w3;have hS:=gK [] w3;have b1:=zF c0 (S:=[]) sI;have b2:=zY b7 (S:=[]) sI;refine tZ ?_;refine tH ?_;intro K hK;refine cC.mono ?_;rintro e w5 ⟨⟨A5,n5,c5⟩,rfl,a3,s,a6⟩;replace hS:=bM hS a6;refine⟨_,rfl,hS,hK _ _ ?_⟩;clear hK K;unfold slV;refine zv rfl ?_ kR ?_;(focus(simp only[yL];done));intro K hK;go_simp;have H:Below w3.heap.size w3 w5:=z8.below (S:=[]) hS lR sI;refine(cF.out w5 H A5 n5 c5 s.slr (by have:n5=(vA X.D I).length:=a3;omega) (λy hy b6=>by have h1:=(s.at_base hy).1;have h2:=c7.out y b6;have h3:w3.heap.size<=y:=h1;omega)).mono ?_;rintro e w6 ⟨rfl,a2⟩;refine⟨_,rfl,hK _ _ ?_⟩;clear hK K;have c6:=dH (j9.trans (j9.below (a9).out.at_ H) a2);clear a2 H hS a1 b1 b2 cF cC s a6 a3;(go_wp2_with fail);go_ret;refine⟨rfl,F3,M3,?_⟩;have e:n8 X b=qA ⟨X.q,X.D,X.O,bB (lG X.S X.q b) I,X.V⟩ (vA X.D I):=by
    unfold n8;rw[if_neg (by rw[HE.out];decide),<-d5.out,if_pos (show rT X I=true from Hm.out)]
   rw[e];exact e3.out.trans c6.out
 ·have hb:(E != 0)=true:=by simpa using b5
  have d6:=dH b5;have hn:=dH (b3.out.trans (j9.below k.out.at_ a8));clear b5 L a8;(go_wp2_with fail);go_ret;refine⟨rfl,F1,M1,?_⟩;have e:n8 X b=⟨X.q,X.D,X.O,lG X.S X.q b,X.V⟩:=by
   unfold n8;rw[if_pos (by rw[HE.out];exact d6.out),show lG X.S X.q b=X.S from if_neg (λhh=>d6.out (HE.out.symm.trans hh.1))]
  rw[e];exact hn.out
theorem hd_id(w:World)(g:Nat)(l:List UInt8)(e:Int)(h:q7 w g l e) :
  Calls prog 143 #[.pointer (some ⟨g,0,none⟩)] w λen w'=>en=.returned (.agg (idC (xQ (yX 32 l e))))/\tS w g (zM 32 l e) (zN 32 l e) w':=by
 have s:Below w.heap.size w ((w.alloc (.cells (idC id0) 23)).alloc (.cells (idC id0) 23)):=(bA).alloc sI _;have F:((w.alloc (.cells (idC id0) 23)).alloc (.cells (idC id0) 23)).heap[w.heap.size]?=some (.cells (idC id0) 23 (0,0)):=by
  rw[Below.heap_alloc _ _ _ sI];exact heap_alloc_new w _
 have r:((w.alloc (.cells (idC id0) 23)).alloc (.cells (idC id0) 23)).heap[w.heap.size+1]?=some (.cells (idC id0) 23 (0,0)):=by
  have:=heap_alloc_new (w.alloc (.cells (idC id0) 23)) (.cells (idC id0) 23);simpa using this
 have Y:=h.lt;have t:=h.below s;have k:((w.alloc (.cells (idC id0) 23)).alloc (.cells (idC id0) 23)).heap.size=w.heap.size+2:=sI;have G:=dH k;clear k h;go_enter func143,ntmps143
 go_upto_region 2 with fail
 obtain⟨ga,O⟩:=eX w.heap.size
 have a1:=dH O;obtain⟨W,hW⟩:=eR ((w.alloc (.cells (idC id0) 23)).alloc (.cells (idC id0) 23))
 rw[<-hW]at s F r t G |-;rw[O]at F r Y |-;clear hW;have E:ga+1<W.heap.size:=(aG r).1;have c1:=wI W.drew g l e (t.kept (z8.drew W) sI);refine kX [g,ga+1] W ?_;intro X hS;refine lQ ?_;intro K hK;refine c1.mono ?_;rintro en w1 ⟨rfl,L,D⟩;replace hS:=yA hS D sI;have m:w1.heap[ga+1]?=_:=(D.block (ga+1) (by show _<W.drew.heap.size;exact E) sO).trans r;refine⟨_,rfl,hS,hK _ _ ?_⟩;clear hK K c1;obtain⟨w2,m2,Z,f,B⟩:=pI (yX 32 l e) (m9 _ _) 3 32 m;refine lH ?_;intro K hK;refine zH (yA hS B sI) (λR=>?_);refine hK _ _ ?_;clear hK K;refine zC ?_;intro hS;have y:z8 [g,ga+1] W w2:=R;have J:=L.kept B sO;have j:=(y.block ga oM sO).trans F;clear Z hS R X D B L t m;obtain⟨d,hd⟩:=eX (xQ (yX 32 l e))
 rw[hd]at f;have Hd:=dH hd;clear hd;have V:z9 w2 (ga+1) 0 32=some (idC d):=by unfold z9;rw[f];simp[go_sem]
 have T:=zX (P:=prog) xP w2 ga (idC id0) (idC d) _ j sI sI (yN _);have A:z8 [ga] w2 (w2.setRow ga (idC d)):=⟨rfl,rfl,rfl,by simp[setRow],λx _ hx=>setRow_other w2 ga x _ (by simpa using hx)⟩
 have H:=dH (setRow_heap w2 ga _ (idC d) _ _ j);have I:=J.kept A sO;have N:z8 [g,ga,ga+1] w (w2.setRow ga (idC d)):=z8.trans (z8.trans ((z8.of_below s).mono (S':=[g,ga,ga+1]) sI) (y.mono (S':=[g,ga,ga+1]) sI) iL) (A.mono (S':=[g,ga,ga+1]) sI) iL;have M:z8 [g] w (w2.setRow ga (idC d)):=N.narrow (λx hx=>by have:=a1.out;simp at hx |-;omega);have U:=dH I;have a0:=dH M;clear I J N M A j f s y;(go_wp2_with fail);exact bodyPost_ret (results_cell_row results143 _ _ ga 23 (idC d) (0,0) _ rfl H.out underlying23 rfl (by rw[xM];exact xP)) rfl ⟨by rw[Hd.out],U.out,a0.out⟩
theorem hd_set0(x:Hd)(v:Value):(hdC x).setIfInBounds 0 v=hdC { x with ps:=v }:=by simp[hdC]
theorem hd_set1(x:Hd)(v:Int):(hdC x).setIfInBounds 1 (.int .i64 v)=hdC { x with ht:=v }:=by simp[hdC]
theorem hd_set2(x:Hd)(v:ByteArray):(hdC x).setIfInBounds 2 (.string v)=hdC { x with tp:=v }:=by simp[hdC]
theorem hd_set3(x:Hd)(v:Int):(hdC x).setIfInBounds 3 (.int .i64 v)=hdC { x with au:=v }:=by simp[hdC]
theorem hd_set4(x:Hd)(v:Int):(hdC x).setIfInBounds 4 (.int .i64 v)=hdC { x with sq:=v }:=by simp[hdC]
theorem hd_set5(x:Hd)(v:Int):(hdC x).setIfInBounds 5 (.int .i64 v)=hdC { x with sz:=v }:=by simp[hdC]
theorem rawL_err{l:List UInt8}(h:e≠0):zM n l e=l:=by unfold zM;rw[if_neg λhh=>h hh.1]
theorem xp{l:List UInt8}(h:e≠0):zN n l e=e:=by unfold zN;rw[if_neg h]
theorem fC{l:List UInt8}(h:zN n l e=0):e=0:=by
 by_cases he:e=0
 ·exact he
 ·rwa [xp he]at h
theorem hof_step{N k:Nat}(hk:k<N){G:List zA}{l:List UInt8}{s:mX zA}(hs:s=qF idP (N-k) ⟨G,l,e⟩)(hG:e=0->G=L) :
  ∃G',s=qF idP (N-(k+1)) ⟨G',zM 32 l e,zN 32 l e⟩/\(zN 32 l e=0->G'=L ++ [xQ (yX 32 l e)]):=by
 rw[(oM:N-k=(N-(k+1))+1)]at hs;by_cases he:e=0
 ·rw[jZ _ _ he]at hs;exact⟨G ++ [xQ (yX 32 l e)],hs,λ_=>by rw[hG he]⟩
 ·rw[jY _ _ he]at hs;refine⟨G,?_,λh=>absurd (fC h) he⟩;rw[rawL_err he,xp he,jY _ _ he];exact hs
theorem hd_set6(x:Hd)(d:zA):((hdC x).toList.take (0+6)++(idC d).toList++(hdC x).toList.drop (0+6+(idC d).toList.length)).toArray=hdC { x with cm:=d }:=by
 apply Array.ext';have h1:(idC d).toList.length=32:=sI;have h2:(idC x.cm).toList.length=32:=sI;rw[h1];simp[hdC,take_append,drop_append,h2]
theorem ym{w:World}{g:Nat}{x:Hd}(d:zA)(h:w.heap[g]?=some (.cells (hdC x) 44 (0,0))) :
  (stS 23 ⟨g,6,none⟩ (.agg (idC d))).run prog w=.ok () (w.setRow g (hdC { x with cm:=d })):=by
 have f:=run_storeCells_at prog g 6 44 (idC d).toList 0 (hdC x) w h sI (yN d);rw[hd_set6]at f;unfold stS storeVar;have hi:=xP;cases hinfo:prog.info? 23 with
 | none=>rw[hinfo]at hi;cases hi
 | some i =>
  rw[hinfo]at hi;have hk:i.size=32:=by simpa using hi
  simp[Value.cells,sizeOf,typeInfo,hinfo,hk];simpa using f
theorem header_of(w:World)(b:ByteArray)(hb:b.size<=9223372036854775807) :
  Calls prog 83 #[.string b] w λe w'=>∃x:fU,e=.returned (.tuple #[.agg (hdR x),.int .i64 (nE b.data.toList)])/\(nE b.data.toList=0->x.h=BT b.data.toList/\Own w' w.heap.size 23 32 x.A x.h.ps.length x.c (x.h.ps.map idC))/\Below w.heap.size w w':=by
 obtain⟨l,hl⟩:=eX b.data.toList
 have b8:l.length=b.size:=by rw[<-hl];rfl
 have hB:Below w.heap.size w (w.alloc (.cells (hdC hd0) 44)):=bA;have hr:=heap_alloc_new w (.cells (hdC hd0) 44);have cO:=dP b (w.alloc (.cells (hdC hd0) 44)) hb;rw[hl]at cO |-;rw[(sI:(w.alloc (.cells (hdC hd0) 44)).heap.size=w.heap.size+1)]at cO;obtain⟨W0,d6⟩:=eR (w.alloc (.cells (hdC hd0) 44))
 have a3:W0.heap.size=w.heap.size+1:=by rw[d6];simp
 obtain⟨ga,d4⟩:=eX w.heap.size
 rw[d4]at a3;have i6:=dH a3;clear a3;rw[<-d6]at hB hr cO;rw[d4]at hr cO;have o9:=dH d6;have i9:=dH d4;have HB:=dH hB;have c7:=dH b8;clear d6 d4 hB hl b8;by_cases a6:256<b.size
 ·have hE:nE l=3:=by unfold nE;rw[if_pos (by rw[c7.out];exact a6)]
  have HE:=dH hE;have hd:decide ((256:Int)<b.size)=true:=sO;have b5:=wW w w.heap.size rfl (hdC hd0) sI hd0 mN 44;have b6:=heap_alloc_new w (.cells (hdC hd0) 44);have n3:=dH (show Below w.heap.size w (w.alloc (.cells (hdC hd0) 44))from bA);have O:=dH b6;clear hE a6 hr cO b6;go_enter func83,ntmps83
  (go_wp2_with fail);refine bodyPost_ret (yU results83 _ _ w.heap.size 44 (hdC hd0) (0,0) _ rfl O.out underlying44 rfl (by rw[vH];exact v4)) rfl ?_;exact⟨⟨⟨[],0,⟨#[]⟩,0,0,0,id0⟩,none,0⟩,by rw[HE.out];rfl,λh=>absurd h (by rw[HE.out];decide),n3.out⟩
 ·have hd:decide ((256:Int)<b.size)=false:=sO;have j2:l.length<=256:=oH c7.out;have HE:=dH (show nE l=if jE (rF l).2.1 (rF l).2.2≠0 then jE (rF l).2.1 (rF l).2.2 else hdE (rF l).1 by unfold nE;rw[if_neg oM]);clear a6;go_enter func83,ntmps83
  (go_wp2_with fail);rw[<-o9.out,i9.out];refine cO.mono ?_;rintro e w1 ⟨rfl,i5,c4⟩;replace c4:Below W0.heap.size W0 w1:=by rw[i6.out];exact c4
  have j0:=(c4.block ga (aG hr).1).trans hr;have b2:ga+1<w1.heap.size:=i5.lt;have d5:Below w1.heap.size w1 (w1.alloc (.cells (hdC hd0) 44)):=bA;have c0:=heap_alloc_new w1 (.cells (hdC hd0) 44);have c9:=(d5.block ga oM).trans j0;have d8:=i5.below d5;have j:=yM (yM HB.out c4) d5;obtain⟨W,hW⟩:=eR (w1.alloc (.cells (hdC hd0) 44))
  obtain⟨gh,g6⟩:=eX w1.heap.size
  rw[<-hW]at c0 c9 d8 j;rw[g6]at c0 b2;obtain⟨gr,g4⟩:=eX (ga+1)
  rw[g4]at d8 b2 |-;have HW:=dH hW;have o6:=dH g6;have i8:=dH g4;clear hW g6 hr j0 i5 c4 d5 cO g4;(go_wp2_with fail);rw[<-HW.out,o6.out];refine(sC W gr 1 l 0 d8 oM).mono ?_;rintro e w3 ⟨rfl,s,f⟩;have m7:=xL 1 l 0;obtain⟨n,hn⟩:=eX (yZ 1 l 0)
  obtain⟨l1,g1⟩:=eX (zM 1 l 0)
  obtain⟨e1,i1⟩:=eX (zN 1 l 0)
  have hP:hofP l=qF idP n ⟨[],l1,e1⟩:=by rw[<-hn,<-g1,<-i1];rfl
  rw[hn]at m7 |-;rw[g1,i1]at s;have HP:=dH hP;have m:=(f.block gh (aG c0).1 sO).trans c0;have D:=(f.block ga (aG c9).1 (oS i8.out)).trans c9;have m9:w.heap.size<gr:=by have:=i8.out;have:=i9.out;omega
  have n1:ga<gr:=oH i8.out;have j7:Below w.heap.size w w3:=j.trans (f.below (B:=w.heap.size) j.size sO);have n0:gh<w3.heap.size:=(aG m).1;have a7:=dH (show w.heap.size<=ga from by have:=i9.out;omega);clear hn g1 i1 hP f c0 c9 j d8;(go_wp2_with fail);go_loopw [15] (λi wr=>∃(k:Nat) (L:List zA) (G:List zA) (l2:List UInt8) (e2:Int) (A:Option Addr) (cap:Nat),k<=n/\i=.int .i64 k/\L.length=k/\Hid (hofP l=qF idP (n-k) ⟨G,l2,e2⟩)/\Hid (e2=0->G=L)/\wr.heap[gh]?=some (.cells (hdC ⟨.slice A L.length cap,0,⟨#[]⟩,0,0,0,id0⟩) 44 (0,0))/\wr.heap[ga]?=some (.cells (hdC hd0) 44 (0,0))/\q7 wr gr l2 e2/\Own wr w3.heap.size 23 32 A L.length cap (L.map idC)/\Below w.heap.size w wr/\w3.heap.size<=wr.heap.size) (λi _=>n-(intOf i).toNat)
  case atStart=>exact⟨0,[],[],l1,e1,none,0,zL,rfl,rfl,HP,(show _=_->_=_ from λ_=>rfl),m,D,s,Own.nil _ _ _ _,j7,lR⟩
  case round =>
   clear m D s j7;obtain⟨k,L,G,l2,e2,A,cap,hk,rfl,hL,d3,hG,hg,hr,hE,hO,j,b3⟩:=hrel;have HL:=dH hL;have j9:L.length<=255:=oM;clear hL;by_cases m8:k<n
   ·obtain⟨G',h1,h2⟩:=hof_step m8 d3.out hG.out;have n8:=dH h1;have HG:=dH h2;have c6:∀x∈blk A,w3.heap.size<=x/\x<wr.heap.size:=λx hx=>hO.at_base hx;have j1:gh∉gr :: blk A:=by
     intro hm;rcases mem_cons.1 hm with h1 | h1
     ·omega
     ·have:=(c6 _ h1).1;omega
    have n2:gr∉blk A:=λh1=>(oH ((c6 _ h1).1));have g7:ga∉gr :: blk A:=by
     intro hm;rcases mem_cons.1 hm with h1 | h1
     ·omega
     ·have:=(c6 _ h1).1;omega
    have x0:wr.cell? ⟨gh,0,none⟩=some (.slice A L.length cap):=by rw[cell_of_row wr gh _ _ _ _ hg];simp[go_sem]
    have k3:=hd_id wr.drew gr l2 e2 (hE.kept (z8.drew wr) sI);clear h1 h2 d3 hG;go_upto_region 7 with fail
    refine kF (gr :: blk A) wr ?_;intro m4 hS;have b1:=zF x0 j1;refine lQ ?_;intro K hK;refine k3.mono ?_;rintro en w4 ⟨rfl,F,g2⟩;replace hS:=yA hS g2 sI;refine⟨_,rfl,hS,hK _ _ ?_⟩;clear hK K k3;refine lQ ?_;intro K hK;refine zH (bP hS _) (λhS=>?_);refine hK _ _ ?_;clear hK K;obtain⟨d,hd⟩:=eX (xQ (yX 32 l2 e2))
    rw[hd]at hS |-;have Hd:=dH hd;clear hd;have Z:z8 [gr] wr w4:=z8.trans ((z8.drew wr).mono (S':=[gr]) sI) g2 iL;have t:=z8.alloc w4 (.cells (idC d) 23);have a1:=(hO.kept Z (λx hx=>oS ((c6 x hx).1))).kept t sI;have a0:z9 (w4.alloc (.cells (idC d) 23)) w4.heap.size 0 32=some (idC d):=by simp[go_sem]
    have m1:=Z.size;have k1:w3.heap.size<=(w4.alloc (.cells (idC d) 23)).heap.size:=sO;refine m5 yO rfl a1 rfl a0 (yN _) oM oM k1 ?_;intro A2 Y w5 X j6 b4;have a4:z8 (blk A) w4 w5:=z8.trans (t.mono (S':=blk A) sI) j6 iL;have a5:z8 (gr :: blk A) wr w5:=z8.trans (Z.mono (S':=gr :: blk A) sI) (a4.mono (S':=gr :: blk A) (λx hx=>.inl (mem_cons_of_mem _ hx))) iL;refine zH a5 (λn4=>?_);refine lZ ?_;have g5:gh<wr.heap.size:=(aG hg).1;have U:=(a5.block gh g5 j1).trans hg;have b7:=(a5.block ga oM g7).trans hr;have f0:w5.frozen? ⟨gh,0,none⟩=false:=by simp[frozen?,U]
    have d0:w5.cell? ⟨gh,0,none⟩=some (.slice A L.length cap):=by rw[cell_of_row w5 gh _ _ _ _ U];simp[go_sem]
    refine qY ?_ ?_;(focus(simp only[yL];done));intro K hK;go_simp;refine hK _ _ ?_;clear hK K;have b9:=zE U 0 (.slice A2 (L.length+1) Y);rw[hd_set0]at b9;have g:=z8.setCell w5 ⟨gh,0,none⟩ (.slice A2 (L.length+1) Y);have d7:=(q7.kept F a4 n2).kept g sO;have f4:=(g.block ga (oH a5.size) sO).trans b7;have k2:∀x∈blk A2,x∉[gh]:=λx hx=>(oS ((X.at_base hx).1));have a2:=X.kept g k2;have n5:Below w.heap.size w (w5.setCell ⟨gh,0,none⟩ (.slice A2 (L.length+1) Y)):=by
     have h1:Below w.heap.size w w5:=j.trans (a5.below (B:=w.heap.size) j.size (λx hx=>by
      rcases mem_cons.1 hx with h | h
      ·omega
      ·have:=(c6 x h).1;omega))
     exact h1.trans (g.below (B:=w.heap.size) h1.size sO)
    have f1:w3.heap.size<=(w5.setCell ⟨gh,0,none⟩ (.slice A2 (L.length+1) Y)).heap.size:=by have:=a5.size;have:=g.size;omega
    have j3:(L ++ [d]).length=L.length+1:=sI;rw[(sI:L.map idC ++ [idC d]=(L ++ [d]).map idC)]at a2;have i7:=dH j3;rw[Hd.out]at HG;clear j3 f0 d0 b1 m4 hS a5 n4 Z a4 g2 j6 b4 X a1 a0 t U b7 g F k1 hO hE hg hr x0 k2 j;(go_wp2_with fail);go_roundw
    case rel=>exact⟨k+1,L ++ [d],G',zM 32 l2 e2,zN 32 l2 e2,A2,Y,oM,by go_num,by rw[i7.out,HL.out],n8,HG,(by rw[i7.out];exact b9),f4,d7,(by rw[i7.out];exact a2),n5,f1⟩
    case measure=>exact sZ
   ·have j8:hofP l=⟨G,l2,e2⟩:=by rw[d3.out,(oM:n-k=0)];rfl
    have p0:=dH j8;clear j8 d3;obtain⟨W,rfl⟩:∃W:World,W=wr:=⟨_,rfl⟩
    clear b3;(go_wp2_with fail);refine(sC _ gr 4 _ _ hE oM).mono ?_;rintro e w7 ⟨rfl,s,f⟩;obtain⟨ht,g3⟩:∃nv:Nat,yZ 4 l2 e2=nv:=⟨_,rfl⟩
    obtain⟨l3,g0⟩:=eX (zM 4 l2 e2)
    obtain⟨e3,i0⟩:=eX (zN 4 l2 e2)
    rw[g3];rw[g0,i0]at s;have o5:=dH g3;have o4:=dH g0;have l0:=dH i0;clear g3 g0 i0;have J:=Own.kept hO f (λx hx=>oS ((hO.at_base hx).1));have m:=(f.block gh (aG hg).1 sO).trans hg;have D:=(f.block ga (aG hr).1 sO).trans hr;have x0:w7.cell? ⟨gh,1,none⟩=some (.int .i64 0):=by rw[cell_of_row w7 gh _ _ _ _ m];simp[go_sem]
    have f0:w7.frozen? ⟨gh,1,none⟩=false:=by simp[frozen?,m]
    have r:=zE m 1 (.int .i64 (ht:Nat));rw[hd_set1]at r;have g:=z8.setCell w7 ⟨gh,1,none⟩ (.int .i64 (ht:Nat));have F:=q7.kept s g sO;have H:=(g.block ga (aG D).1 sO).trans D;have I:=Own.kept J g (λx hx=>oS ((J.at_base hx).1));have t:Below w.heap.size w (w7.setCell ⟨gh,1,none⟩ (.int .i64 (ht:Nat))):=(j.trans (f.below (B:=w.heap.size) j.size sO)).trans (g.below (B:=w.heap.size) (Nat.le_trans j.size f.size) sO);clear hE s f hg m hr D hO J g j;go_upto_region 10 with fail
    obtain⟨W',N⟩:=eR (w7.setCell ⟨gh,1,none⟩ (.int .i64 (ht:Nat)))
    rw[<-N]at r F H I t |-;clear N x0 f0;obtain⟨W,rfl⟩:∃W:World,W=W':=⟨_,rfl⟩
    have hE:=F;have hg:=r;have hr:=H;have hO:=I;have j:=t;clear F r H I t;(go_wp2_with fail);refine(fL _ gr l3 e3 hE).mono ?_;rintro e w6 ⟨rfl,d7,j5⟩;have m6:=xL 1 l3 e3;(go_wp2_with fail);refine(dC _ gr _ _ _ d7 oM).mono ?_;rintro e w7 ⟨rfl,s,j4⟩;have f:z8 [gr] W w7:=z8.trans j5 j4 iL;replace s:q7 w7 gr (txL l3 e3) (txE l3 e3):=s;obtain⟨tp,e9⟩:=eX (mkB (yX (yZ 1 l3 e3) (zM 1 l3 e3) (zN 1 l3 e3)))
    have k4:=dH (show txV l3 e3=tp from e9);rw[e9];obtain⟨l4,f9⟩:=eX (txL l3 e3)
    obtain⟨e4,h9⟩:=eX (txE l3 e3)
    rw[f9,h9]at s;have o3:=dH f9;have k9:=dH h9;clear f9 h9 e9 j5 j4 d7 m6;have J:=Own.kept hO f (λx hx=>oS ((hO.at_base hx).1));have m:=(f.block gh (aG hg).1 sO).trans hg;have D:=(f.block ga (aG hr).1 sO).trans hr;have x0:w7.cell? ⟨gh,2,none⟩=some (.string ⟨#[]⟩):=by rw[cell_of_row w7 gh _ _ _ _ m];simp[go_sem]
    have f0:w7.frozen? ⟨gh,2,none⟩=false:=by simp[frozen?,m]
    have r:=zE m 2 (.string tp);rw[hd_set2]at r;have g:=z8.setCell w7 ⟨gh,2,none⟩ (.string tp);have F:=q7.kept s g sO;have H:=(g.block ga (aG D).1 sO).trans D;have I:=Own.kept J g (λx hx=>oS ((J.at_base hx).1));have t:Below w.heap.size w (w7.setCell ⟨gh,2,none⟩ (.string tp)):=(j.trans (f.below (B:=w.heap.size) j.size sO)).trans (g.below (B:=w.heap.size) (Nat.le_trans j.size f.size) sO);clear hE s f hg m hr D hO J g j;go_upto_region 11 with fail
    obtain⟨W',N⟩:=eR (w7.setCell ⟨gh,2,none⟩ (.string tp))
    rw[<-N]at r F H I t |-;clear N x0 f0;obtain⟨W,rfl⟩:∃W:World,W=W':=⟨_,rfl⟩
    have hE:=F;have hg:=r;have hr:=H;have hO:=I;have j:=t;clear F r H I t;(go_wp2_with fail);refine(sC _ gr 1 _ _ hE oM).mono ?_;rintro e w7 ⟨rfl,s,f⟩;obtain⟨au,i3⟩:∃nv:Nat,yZ 1 l4 e4=nv:=⟨_,rfl⟩
    obtain⟨l5,f8⟩:=eX (zM 1 l4 e4)
    obtain⟨e5,h8⟩:=eX (zN 1 l4 e4)
    rw[i3];rw[f8,h8]at s;have o8:=dH i3;have o2:=dH f8;have k8:=dH h8;clear i3 f8 h8;have J:=Own.kept hO f (λx hx=>oS ((hO.at_base hx).1));have m:=(f.block gh (aG hg).1 sO).trans hg;have D:=(f.block ga (aG hr).1 sO).trans hr;have x0:w7.cell? ⟨gh,3,none⟩=some (.int .i64 0):=by rw[cell_of_row w7 gh _ _ _ _ m];simp[go_sem]
    have f0:w7.frozen? ⟨gh,3,none⟩=false:=by simp[frozen?,m]
    have r:=zE m 3 (.int .i64 (au:Nat));rw[hd_set3]at r;have g:=z8.setCell w7 ⟨gh,3,none⟩ (.int .i64 (au:Nat));have F:=q7.kept s g sO;have H:=(g.block ga (aG D).1 sO).trans D;have I:=Own.kept J g (λx hx=>oS ((J.at_base hx).1));have t:Below w.heap.size w (w7.setCell ⟨gh,3,none⟩ (.int .i64 (au:Nat))):=(j.trans (f.below (B:=w.heap.size) j.size sO)).trans (g.below (B:=w.heap.size) (Nat.le_trans j.size f.size) sO);clear hE s f hg m hr D hO J g j;go_upto_region 12 with fail
    obtain⟨W',N⟩:=eR (w7.setCell ⟨gh,3,none⟩ (.int .i64 (au:Nat)))
    rw[<-N]at r F H I t |-;clear N x0 f0;obtain⟨W,rfl⟩:∃W:World,W=W':=⟨_,rfl⟩
    have hE:=F;have hg:=r;have hr:=H;have hO:=I;have j:=t;clear F r H I t;(go_wp2_with fail);refine(sC _ gr 4 _ _ hE oM).mono ?_;rintro e w7 ⟨rfl,s,f⟩;obtain⟨sq,f2⟩:∃nv:Nat,yZ 4 l5 e5=nv:=⟨_,rfl⟩
    obtain⟨l6,f7⟩:=eX (zM 4 l5 e5)
    obtain⟨e6,h0⟩:=eX (zN 4 l5 e5)
    rw[f2];rw[f7,h0]at s;have n7:=dH f2;have o1:=dH f7;have k7:=dH h0;clear f2 f7 h0;have J:=Own.kept hO f (λx hx=>oS ((hO.at_base hx).1));have m:=(f.block gh (aG hg).1 sO).trans hg;have D:=(f.block ga (aG hr).1 sO).trans hr;have x0:w7.cell? ⟨gh,4,none⟩=some (.int .i64 0):=by rw[cell_of_row w7 gh _ _ _ _ m];simp[go_sem]
    have f0:w7.frozen? ⟨gh,4,none⟩=false:=by simp[frozen?,m]
    have r:=zE m 4 (.int .i64 (sq:Nat));rw[hd_set4]at r;have g:=z8.setCell w7 ⟨gh,4,none⟩ (.int .i64 (sq:Nat));have F:=q7.kept s g sO;have H:=(g.block ga (aG D).1 sO).trans D;have I:=Own.kept J g (λx hx=>oS ((J.at_base hx).1));have t:Below w.heap.size w (w7.setCell ⟨gh,4,none⟩ (.int .i64 (sq:Nat))):=(j.trans (f.below (B:=w.heap.size) j.size sO)).trans (g.below (B:=w.heap.size) (Nat.le_trans j.size f.size) sO);clear hE s f hg m hr D hO J g j;go_upto_region 13 with fail
    obtain⟨W',N⟩:=eR (w7.setCell ⟨gh,4,none⟩ (.int .i64 (sq:Nat)))
    rw[<-N]at r F H I t |-;clear N x0 f0;obtain⟨W,rfl⟩:∃W:World,W=W':=⟨_,rfl⟩
    have hE:=F;have hg:=r;have hr:=H;have hO:=I;have j:=t;clear F r H I t;(go_wp2_with fail);refine(sC _ gr 2 _ _ hE oM).mono ?_;rintro e w7 ⟨rfl,s,f⟩;obtain⟨sz,b3⟩:∃nv:Nat,yZ 2 l6 e6=nv:=⟨_,rfl⟩
    obtain⟨l7,f6⟩:=eX (zM 2 l6 e6)
    obtain⟨e7,g9⟩:=eX (zN 2 l6 e6)
    rw[b3];rw[f6,g9]at s;have n6:=dH b3;have o0:=dH f6;have k6:=dH g9;clear b3 f6 g9;have J:=Own.kept hO f (λx hx=>oS ((hO.at_base hx).1));have m:=(f.block gh (aG hg).1 sO).trans hg;have D:=(f.block ga (aG hr).1 sO).trans hr;have x0:w7.cell? ⟨gh,5,none⟩=some (.int .i64 0):=by rw[cell_of_row w7 gh _ _ _ _ m];simp[go_sem]
    have f0:w7.frozen? ⟨gh,5,none⟩=false:=by simp[frozen?,m]
    have r:=zE m 5 (.int .i64 (sz:Nat));rw[hd_set5]at r;have g:=z8.setCell w7 ⟨gh,5,none⟩ (.int .i64 (sz:Nat));have F:=q7.kept s g sO;have H:=(g.block ga (aG D).1 sO).trans D;have I:=Own.kept J g (λx hx=>oS ((J.at_base hx).1));have t:Below w.heap.size w (w7.setCell ⟨gh,5,none⟩ (.int .i64 (sz:Nat))):=(j.trans (f.below (B:=w.heap.size) j.size sO)).trans (g.below (B:=w.heap.size) (Nat.le_trans j.size f.size) sO);clear hE s f hg m hr D hO J g j;go_upto_region 14 with fail
    obtain⟨W',N⟩:=eR (w7.setCell ⟨gh,5,none⟩ (.int .i64 (sz:Nat)))
    rw[<-N]at r F H I t |-;clear N x0 f0;obtain⟨W,rfl⟩:∃W:World,W=W':=⟨_,rfl⟩
    have hE:=F;have hg:=r;have hr:=H;have hO:=I;have j:=t;clear F r H I t;(go_wp2_with fail);refine(hd_id _ gr l7 e7 hE).mono ?_;rintro e w7 ⟨rfl,s,f⟩;obtain⟨d,i2⟩:=eX (xQ (yX 32 l7 e7))
    obtain⟨l8,f5⟩:=eX (zM 32 l7 e7)
    obtain⟨e8,b0⟩:=eX (zN 32 l7 e7)
    rw[i2];rw[f5,b0]at s;have o7:=dH i2;have n9:=dH f5;have k5:=dH b0;have J:=Own.kept hO f (λx hx=>oS ((hO.at_base hx).1));have m:=(f.block gh (aG hg).1 sO).trans hg;have D:=(f.block ga (aG hr).1 sO).trans hr;have b5:=ym d m;have r:=setRow_heap w7 gh _ (hdC ⟨.slice A L.length cap,ht,tp,au,sq,sz,d⟩) _ _ m;have g:=lP w7 gh (hdC ⟨.slice A L.length cap,ht,tp,au,sq,sz,d⟩);have F:=q7.kept s g sO;have H:=(g.block ga (aG D).1 sO).trans D;have I:=Own.kept J g (λx hx=>oS ((J.at_base hx).1));have t:Below w.heap.size w (w7.setRow gh (hdC ⟨.slice A L.length cap,ht,tp,au,sq,sz,d⟩)):=(j.trans (f.below (B:=w.heap.size) j.size sO)).trans (g.below (B:=w.heap.size) (Nat.le_trans j.size f.size) sO);clear i2 f5 b0 hE s f hg m hr D hO J g j;go_upto_region 15 with fail
    obtain⟨W',N⟩:=eR (w7.setRow gh (hdC ⟨.slice A L.length cap,ht,tp,au,sq,sz,d⟩))
    rw[<-N]at r F H I t |-;clear N b5;obtain⟨V,rfl⟩:∃V:World,V=W':=⟨_,rfl⟩
    have hV:rF l=(⟨G,ht,tp,au,sq,sz,d⟩,l8,e8):=by
     unfold rF;rw[p0.out];unfold hofT;simp only[o5.out,o4.out,l0.out,k4.out,o3.out,k9.out,o8.out,o2.out,k8.out,n7.out,o1.out,k7.out,n6.out,o0.out,k6.out,o7.out,n9.out,k5.out]
    have hz:e8=0->e2=0:=λh=>by
     have h7:=fC (k5.out.trans h);have h6:=fC (k6.out.trans h7);have h5:=fC (k7.out.trans h6);have h4:=fC (k8.out.trans h5);have h3:=fC (fC (show zN (yZ 1 l3 e3) (zM 1 l3 e3) (zN 1 l3 e3)=0 from k9.out.trans h4));exact fC (l0.out.trans h3)
    rw[hV]at HE;have HV:=dH hV;have Hz:=dH hz;clear hV hz;(go_wp2_with fail);refine(dD V gr l8 e8 F).mono ?_;rintro e w8 ⟨rfl,c2⟩;obtain⟨E,i4⟩:=eX (jE l8 e8)
    rw[i4];have e0:=dH i4;have g8:=(c2.block gh (aG r).1).trans r;have a9:=(c2.block ga (aG H).1).trans H;have d2:=I.below c2;have c3:=yM t c2;clear i4 r H I t c2 F;by_cases c5:E=0
    ·subst c5;have b0:e8=0:=by
      have:=e0.out;unfold jE at this;by_cases h:e8=0
      ·exact h
      ·rw[if_neg h]at this;exact absurd this h
     have k0:G=L:=hG.out (Hz.out b0);have l9:=dH k0;have f3:z9 w8 gh 0 38=some (hdC ⟨.slice A L.length cap,ht,tp,au,sq,sz,d⟩):=by unfold z9;rw[g8];simp[go_sem]
     have cK:=QG w8 ⟨L,ht,tp,au,sq,sz,d⟩ A cap d2.slr (by show L.length<=_;omega) (by show tp.size<=_;have:=wF l3 e3;rw[k4.out]at this;omega);obtain⟨C,hC⟩:=eX (hdE ⟨L,ht,tp,au,sq,sz,d⟩)
     rw[hC]at cK;have HC:=dH hC;have M:nE l=C:=by
      rw[HE.out,if_neg (by show ¬jE l8 e8≠0;rw[e0.out];decide)];show hdE ⟨G,ht,tp,au,sq,sz,d⟩=C;rw[l9.out];exact HC.out
     have T:=dH M;clear hC M k0 b0;have cK:Calls prog 139 #[.agg (hdC ⟨.slice A L.length cap,ht,tp,au,sq,sz,d⟩)] w8 λe w'=>e=.returned (.int .i64 C)/\Below w8.heap.size w8 w':=cK;(go_wp2_with fail);refine cK.mono ?_;rintro e w9 ⟨rfl,c1⟩;have m2:=((z8.of_below c1).row (zD f3) sI _ _).trans f3;have a8:=(c1.block ga (aG a9).1).trans a9;have d1:=d2.below c1;have R:=yM c3 c1;clear cK f3 a9 g8 d2 c3 c1;by_cases d9:C=0
     ·subst d9;have b5:=zX (P:=prog) v4 w9 ga (hdC hd0) (hdC ⟨.slice A L.length cap,ht,tp,au,sq,sz,d⟩) _ a8 sI sI (bY _ rfl);have O:=dH (setRow_heap w9 ga _ (hdC ⟨.slice A L.length cap,ht,tp,au,sq,sz,d⟩) _ _ a8);have hk:=lP w9 ga (hdC ⟨.slice A L.length cap,ht,tp,au,sq,sz,d⟩);have c8:=dH (R.trans (hk.below R.size (by simp;exact a7.out)));have m3:=dH ((d1.kept hk (λy hy=>oS (d1.at_base hy))).mono (B':=w.heap.size) oM);clear hk a8 d1 R;(go_wp2_with fail);refine bodyPost_ret (yU results83 _ _ ga 44 (hdC ⟨.slice A L.length cap,ht,tp,au,sq,sz,d⟩) (0,0) _ rfl O.out underlying44 rfl (by rw[vH];exact v4)) rfl ?_;exact⟨⟨⟨L,ht,tp,au,sq,sz,d⟩,A,cap⟩,by rw[T.out];rfl,λ_=>⟨by show _=(rF l).1;rw[HV.out,l9.out],m3.out⟩,c8.out⟩
     ·have p4:(C != 0)=true:=by simpa using d9
      have p1:=dH d9;have b5:=zX (P:=prog) v4 w9 ga (hdC hd0) (hdC hd0) _ a8 sI sI (bY _ mN);have O:=dH (setRow_heap w9 ga _ (hdC hd0) _ _ a8);have hk:=lP w9 ga (hdC hd0);have c8:=dH (R.trans (hk.below R.size (by simp;exact a7.out)));clear hk a8 d1 R d9;(go_wp2_with fail);refine bodyPost_ret (yU results83 _ _ ga 44 (hdC hd0) (0,0) _ rfl O.out underlying44 rfl (by rw[vH];exact v4)) rfl ?_;exact⟨⟨⟨[],0,⟨#[]⟩,0,0,0,id0⟩,none,0⟩,by rw[T.out];rfl,λh=>absurd (T.out.symm.trans h) p1.out,c8.out⟩
    ·have p3:(E==0)=false:=by simpa using c5
     have p2:(E != 0)=true:=by simpa using c5
     have m0:=dH c5;have M:nE l=E:=by
      rw[HE.out,if_pos (show jE l8 e8≠0 by rw[e0.out];exact m0.out)];exact e0.out
     have T:=dH M;have b5:=zX (P:=prog) v4 w8 ga (hdC hd0) (hdC hd0) _ a9 sI sI (bY _ mN);have O:=dH (setRow_heap w8 ga _ (hdC hd0) _ _ a9);have hk:=lP w8 ga (hdC hd0);have c8:=dH (c3.trans (hk.below c3.size (by simp;exact a7.out)));clear hk a9 d2 c3 g8 c5 M;(go_wp2_with fail);refine bodyPost_ret (yU results83 _ _ ga 44 (hdC hd0) (0,0) _ rfl O.out underlying44 rfl (by rw[vH];exact v4)) rfl ?_;exact⟨⟨⟨[],0,⟨#[]⟩,0,0,0,id0⟩,none,0⟩,by rw[T.out];rfl,λh=>absurd (T.out.symm.trans h) m0.out,c8.out⟩
theorem kJ.add{X:StX}(h:kK n X){y:HdV}(hv:fZ X.D y=0)(O':List zA)(hb:∀p∈S',p.body.size<=512):kJ (n+1) ⟨X.q,vZ X.D y,O',S',X.V⟩:=by
 obtain⟨a1,a2,a3,a4,a5,a6⟩:=rC h hv;exact⟨a1,a3,a4,hb,h.nv,λv d=>(h.vw v d).grow λx hx=>bW.2 (.inl hx)⟩
def Y1(X:StX)(l:List UInt8):Int:=if nE l≠0 then nE l else fZ X.D (BT l)
def eY(X:StX)(l:List UInt8)(own:Bool):StX:=if nE l≠0 then X else ZI X (BT l) own
theorem stId_at(w:World)(g:Nat)(d0:zA)(h:w.heap[g]?=some (.cells (idC d0) 23 (0,0)))(d:zA) :
  ∃w2,(stS 23 ⟨g,0,none⟩ (.agg (idC d))).run prog w=.ok () w2/\z9 w2 g 0 32=some (idC d)/\z8 [g] w w2 :=
 ⟨_,zX (P:=prog) xP w g (idC d0) (idC d) _ h sI sI (yN _),by unfold z9;rw[setRow_heap w g _ (idC d) _ _ h];simp,lP w g (idC d)⟩
theorem yi(w:World)(i:zA):zW (w.alloc (.cells (idC i) 23)) (some ⟨w.heap.size,0,none⟩) 1 [i] :=
 ⟨rfl,λ_=>⟨_,_,rfl,λj hj=>by
  have e:j=0:=by simpa using hj
  subst e;simp[go_sem]⟩⟩
theorem V5(w:World)(g:Nat)(F M:List Nat)(n:Nat)(X:StX)(h:xG w g F M X)(hv:dA w)(hX:kK n X)(hn:n<=700)(b:ByteArray)(hb:b.size<=1000000)(own:Bool) :
  Calls prog 35 #[.pointer (some ⟨g,0,none⟩),.string b,.bool own] w λe w'=>e=.returned (.int .i64 (Y1 X b.data.toList))/\∃F' M',j9 w g F M (eY X b.data.toList own) w' F' M':=by
 obtain⟨gd,gs,bo,bv,Fd,Fs,N,h⟩:=h.sp;have cO:=header_of w b oM;obtain⟨l,hl⟩:=eX b.data.toList
 rw[hl]at cO |-;obtain⟨E,hE⟩:=eX (nE l)
 rw[hE]at cO;have HX:=dH hX;have Hs:=dH h;have HE:=dH hE;have Hv:=dH hv;clear hX h hE hv hl;go_enter func35,ntmps35
 (go_wp2_with fail);refine cO.mono ?_;rintro e w1 ⟨x,rfl,f3,d1⟩;have d0:Below w1.heap.size w1 (w1.alloc (.cells (hdC (hdO x.h x.A x.c)) 44)):=bA;have e9:=wW w1 w1.heap.size rfl (hdC hd0) sI (hdO x.h x.A x.c) (sR x) 44;have t:z9 (w1.alloc (.cells (hdC (hdO x.h x.A x.c)) 44)) w1.heap.size 0 38=some (hdR x):=by simp[go_sem,hdR]
 by_cases d3:E=0
 ·subst d3;obtain⟨g6,b7⟩:=f3 rfl;have f:=b7.below d0;obtain⟨W,hW⟩:=eR (w1.alloc (.cells (hdC (hdO x.h x.A x.c)) 44))
  obtain⟨gh,e4⟩:=eX w1.heap.size
  have c9:=yM d1 d0;rw[<-hW]at c9 t f;rw[e4]at t;have d:=dH (Hs.out.kept c9);have f7:BT l=x.h:=g6.symm;have c8:hdE x.h=0:=by rw[<-f7];exact hofE_ok HE.out
  have HW:=dH hW;have j2:=dH e4;have j3:=dH c9;have g4:=dH f7;have i1:=dH c8;have g9:=λy=>λhy=>Hs.out.ml y (Hs.out.fm y (Hs.out.mem (x:=y) hy));have d5:=dH (show w.heap.size<=gh by rw[<-e4];exact d1.size);have i0:=dH g9;have e8:=dH (Hv.out.below c9);clear hW e4 c9 f7 c8 d1 d0 f3 g6 b7 g9;have i6:=(a9 i1.out).ps;have cA:=fun (V:World) (hV:Below W.heap.size W V)=>dag_add V gd Fd n X (d.out.st.dag.below hV) HX.out oM (e8.out.below hV).sha x (SlR.below f.slr hV) oM (wL (hdE_tp i1.out)) f.cap0 (λy hy a7=>by have h1:=(f.at_base hy).1;have h2:=i0.out y (.inr (.inr (.inr (.inl a7))));omega);obtain⟨VE,f6⟩:=eX (fZ X.D x.h)
  obtain⟨I,hI⟩:∃I,(if VE=0 then hdI x.h else id0)=I:=⟨_,rfl⟩
  unfold AddRes at cA;rw[f6,hI]at cA;have a4:=dH f6;have HI:=dH hI;have c0:W.cell? ⟨g,0,none⟩=some (.pointer (some ⟨gd,0,none⟩)):=by rw[cell_of_row W g 0 _ _ _ d.out.st.heap];rfl
  clear f6 hI i6;go_upto_region 4 with fail
  rw[<-HW.out,j2.out];have hgd:g∉Fd:=by
   have hd:=Hs.out.st.dis;unfold vR at hd;exact(show v7 (([g] :: [bo] :: [[bv]])++Fd :: Fs :: N.map vwF)from hd).ne [g] sI g sI
  have U:gh∉Fd:=λhy=>(by have h1:=i0.out gh (.inr (.inr (.inr (.inl hy))));have h2:=d5.out;omega);have c6:gh∉F:=λhy=>(by have h1:=Hs.out.at_.lt gh hy;have h2:=d5.out;omega);have g3:=dH c6;clear c6
  go_cut [9,8] (λp ev wx=>∃gi F',p=.pointer (some ⟨gi,0,none⟩)/\ev=.int .i64 VE/\z9 wx gi 0 32=some (idC I)/\Hid (k7 wx gd F' (vZ X.D x.h))/\Hid (∀y∈F',y∈Fd\/W.heap.size<=y)/\gi∉F'/\W.heap.size<=gi/\z8 Fd W wx)
  case first =>
   refine vE (.loose 0 (.loose 1 (.loose 2 (.loose 3 (.loose 4 (.two 5 (.loose 6 (.loose 7 (.loose 8 (.one 9 (.one 10 (.loose 11 .done)))))) 9 (.one 5 (.loose 6 (.loose 7 (.loose 8 (.one 10 (.loose 11 .done)))))))))))) (Kp Fd W) false kR kR kR kR (gK Fd W) ?_;have e0:=eT Fd W;have hS:=gK Fd W;have b1:=zF c0 hgd;have b2:=zY t U;refine tZ ?_;refine YM ?_ ?_
   ·skip;refine tH ?_;intro K hK;refine(cA _ ((Below.refl _ _).drew)).mono ?_;rintro e w3 ⟨F',rfl,hD,a5,e3⟩;replace hS:=yA hS e3 (λy hy=>.inl hy);refine⟨_,rfl,hS,hK _ _ ?_⟩;clear hK K;refine tZ ?_;have j:Below w3.heap.size w3 (w3.alloc (.cells (idC id0) 23)):=bA;have xz:=heap_alloc_new w3 (.cells (idC id0) 23);have g7:=z8.size hS;have Hn:=dH (bM hS j);refine tH ?_;intro K hK;refine zH Hn.out (λa1=>?_);refine hK _ _ ?_;clear hK K hS;have hS:=a1;obtain⟨w4,f2,k,Y⟩:=stId_at _ _ _ xz I;have H4:=dH (yA hS Y (λy hy=>.inr (by rw[mem_singleton.1 hy];exact g7)));have HD:=dH ((hD.below j).kept Y (λy hy d7=>by rw[mem_singleton]at d7;have:=hD.lt y hy;omega));have a6:=dH (show ∀y∈F',y∈Fd\/W.heap.size<=y from a5);have Z:w3.heap.size∉F':=λhy=>(oH (hD.lt _ hy));refine tH ?_;intro K hK;refine zH H4.out (λa1=>?_);refine hK _ _ ?_;clear hK K hS;have hS:=a1;refine tZ ?_;refine kP ?_;intro hS;clear xz j f2 Y hD a5;go_wp2_with fail
    go_meet
    exact⟨_,F',rfl,rfl,k,HD,a6,Z,g7,H4.out⟩
   ·skip;have i2:=dH (show Below W.heap.size W (W.drew.alloc (.cells (idC id0) 23))from((Below.refl _ _).drew).alloc lR _);have xz:(W.drew.alloc (.cells (idC id0) 23)).heap[W.heap.size]?=some (.cells (idC id0) 23 (0,0)):=heap_alloc_new W.drew (.cells (idC id0) 23);have b0:(W.drew.alloc (.cells (idC id0) 23)).heap.size=W.heap.size+1:=sI;have a2:=dH b0;clear b0;have j1:=dH ((z8.of_below i2.out).mono (S':=Fd) sI);have h5:W.heap.size∉Fd:=λhy=>(oH (d.out.st.dag.lt _ hy));refine tH ?_;intro K hK;refine zH j1.out (λa1=>?_);refine hK _ _ ?_;clear hK K hS;have hS:=a1;refine tH ?_;intro K hK;refine(cA _ i2.out).mono ?_;rintro e w3 ⟨F',rfl,hD,a5,e3⟩;have H1:=dH (yA hS e3 (λy hy=>.inl hy));refine⟨_,rfl,H1.out,hK _ _ ?_⟩;clear hK K hS;have hS:=H1.out;refine tZ ?_;have g5:=(e3.block W.heap.size (by rw[a2.out];omega) h5).trans xz;obtain⟨w4,f2,k,Y⟩:=stId_at _ _ _ g5 I;have Z:W.heap.size∉F':=λhy=>by
     rcases a5 _ hy with e | e
     ·exact h5 e
     ·rw[a2.out]at e;omega
    have H4:=dH (yA hS Y (λy hy=>.inr (by rw[mem_singleton.1 hy];exact lR)));have HD:=dH (hD.kept Y (λy hy d7=>by rw[mem_singleton]at d7;rw[d7]at hy;exact Z hy));have a6:=dH (show ∀y∈F',y∈Fd\/W.heap.size<=y from λy hy=>(a5 y hy).imp id (λe=>by rw[a2.out]at e;omega));refine tH ?_;intro K hK;refine zH H4.out (λa1=>?_);refine hK _ _ ?_;clear hK K hS;have hS:=a1;refine tZ ?_;refine kP ?_;intro hS;clear xz g5 f2 Y hD a5;go_wp2_with fail
    go_meet
    exact⟨_,F',rfl,rfl,k,HD,a6,Z,lR,H4.out⟩
  case rest =>
  obtain⟨gi,e6,rfl,rfl,d8,HD,a6,Z,f4,hk⟩:=hcut;obtain⟨V,rfl⟩:=eR wc
  obtain⟨F1,M1,f0,d9⟩:=d.out.newDag HD.out a6.out hk e8.out;have c7:gh∉F1:=λhy=>by
   rcases d9.ff gh hy with e | e
   ·exact g3.out e
   ·have:=zD t;omega
  have c3:gi∉F1:=λhy=>by
   rw[f0.fe]at hy;rcases bG.1 hy with e | e | e | e | e | e
   ·have:=d.out.ml _ (d.out.fm _ (d.out.mem (.inl e)));omega
   ·have:=d.out.ml _ (d.out.fm _ (d.out.mem (.inr (.inl e))));omega
   ·have:=d.out.ml _ (d.out.fm _ (d.out.mem (.inr (.inr (.inl e)))));omega
   ·exact Z e
   ·have:=d.out.ml _ (d.out.fm _ (d.out.mem (.inr (.inr (.inr (.inr (.inl e)))))));omega
   ·have:=d.out.ml _ (d.out.fm _ (d.out.mem (.inr (.inr (.inr (.inr (.inr e)))))));omega
  have f1:=(hk.row (zD t) U _ _).trans t;have r:=dH f0;have g0:=dH ((j9.below Hs.out.at_ j3.out).trans d9);have h8:=dH (d9.vars d.out.at_ e8.out);have H:Y1 X l=VE:=by unfold Y1;rw[if_neg (by rw[HE.out];decide),g4.out];exact a4.out
  have a3:=dH H;clear cA f0 d9 hk t hgd U Z f4 HD a6 c0 H;by_cases m:VE=0
  ·subst m;have h7:I=hdI x.h:=by rw[<-HI.out,if_pos rfl]
   have i3:=dH h7;have b6:=kJ.add HX.out a4.out X.O HX.out.pre.body;have G:eY X l own=ZI X x.h own:=by unfold eY;rw[if_neg (by rw[HE.out];decide),g4.out]
   have d6:=dH G;have f9:=dH b6;have e7:=hdR_cm f1;clear h7 b6 G HI;cases own with
   | false =>
    (go_wp2_with fail);have j:Below V.heap.size V (V.alloc (.cells (idC I) 23)):=bA;refine(nL _ g gd gs bo bv e6 Fs F1 M1 N (n+1) _ ((r).out.kept j) ((h8).out.below j) (f9).out oM _ 1 _ [I] (yi V I) oM (λy hy a7=>absurd ((r).out.at_.lt y a7) (by rw[show y=V.heap.size by simpa[blk]using hy];exact Nat.lt_irrefl _))).mono ?_;rintro e w9 ⟨rfl,b8⟩;have g1:=dH (j9.trans (j9.below (r).out.at_ j) b8);clear b8 j;(go_wp2_with fail);go_ret;refine⟨by rw[a3.out];rfl,F1,M1,?_⟩;rw[d6.out];unfold ZI;rw[if_neg (by rw[a4.out];decide),if_neg (by decide),<-i3.out];exact g0.out.trans g1.out
   | true =>
    have c2:V.cell? ⟨g,2,none⟩=some (.map (some bo)):=by rw[cell_of_row V g 2 _ _ _ r.out.st.heap];rfl
    have hd:=r.out.st.dis;unfold vR at hd;have f5:g∉[bo]:=(show v7 (([[g]]) ++ [bo] :: [bv] :: e6 :: Fs :: N.map vwF)from hd).ne [g] sI g sI;have hgs:g∉Fs:=(show v7 (([g] :: [bo] :: [bv] :: [e6])++Fs :: N.map vwF)from hd).ne [g] sI g sI;have a0:bo∈F1:=r.out.mem (.inr (.inl rfl));have B:gi∉[bo]:=λhy=>c3 (by rw[mem_singleton.1 hy];exact a0);have c5:gh∉[bo]:=λhy=>c7 (by rw[mem_singleton.1 hy];exact a0);have b9:gi∉Fs:=λhy=>c3 (r.out.mem (.inr (.inr (.inr (.inr (.inl hy))))));have c4:gh∉Fs:=λhy=>c7 (r.out.mem (.inr (.inr (.inr (.inr (.inl hy))))));have g2:=dH (And.intro hgs (And.intro b9 c4));clear hd a0 hgs b9 c4;obtain⟨w5,i5,g8,h3⟩:=jb (x:=I) (r.out.st.own.kept (z8.drew V) sI);go_upto_region 8 with fail
    refine kX [bo] V ?_;intro e0 hS;have b1:=zF c2 f5;have b2:=zY d8 B;refine lQ ?_;intro K hK;refine zH (yA hS h3 sI) (λhS=>?_);refine hK _ _ ?_;clear hK K;refine zC ?_;intro hS;have s:z8 [bo] V w5:=hS;obtain⟨b5,R⟩:=r.out.newOwn g8 s;have J:=(s.row (zD d8) B _ _).trans d8;have a8:=(s.row (zD e7) c5 _ _).trans e7;have e5:=dH b5;have j0:=dH (g0.out.trans R);have h9:=dH (R.vars r.out.at_ h8.out);clear e0 hS b1 b2 i5 g8 h3 s b5 R d8 e7 c2;have c1:w5.cell? ⟨g,1,none⟩=some (.pointer (some ⟨gs,0,none⟩)):=by rw[cell_of_row w5 g 1 _ _ _ e5.out.st.heap];rfl
    have cN:=sto_pin w5.drew gs Fs X.q X.S x.h.cm (e5.out.st.sto.kept (z8.drew w5) sI) HX.out.small;go_upto_region 9 with fail
    refine kX Fs w5 ?_;intro e0 hS;have b1:=zF c1 g2.out.1;have b2:=zY a8 g2.out.2.2;refine lQ ?_;intro K hK;refine cN.mono ?_;rintro e w6 ⟨⟨E3,rfl⟩,b3,h0⟩;have h6:=yA hS h0 iL;refine⟨_,rfl,h6,hK _ _ ?_⟩;clear hK K;refine lZ ?_;refine zC ?_;intro hS;have T:z8 Fs w5 w6:=hS;obtain⟨F3,M3,b4,L⟩:=e5.out.newSto rfl b3 iL T h9.out;have i4:=(T.row (zD J) g2.out.2.1 _ _).trans J;have f8:=dH b4;have i9:=dH (j0.out.trans L);have i7:=dH (L.vars e5.out.at_ h9.out);have d4:=dH (kJ.add HX.out a4.out (I :: X.O) (VI (c:=x.h.cm) HX.out.pre.body));clear e0 hS h6 b1 b2 cN b3 h0 T b4 L J c1 a8;(go_wp2_with fail);have j:Below w6.heap.size w6 (w6.alloc (.cells (idC I) 23)):=bA;refine(nL _ g gd gs bo bv e6 Fs F3 M3 N (n+1) _ ((f8).out.kept j) ((i7).out.below j) (d4).out oM _ 1 _ [I] (yi w6 I) oM (λy hy a7=>absurd ((f8).out.at_.lt y a7) (by rw[show y=w6.heap.size by simpa[blk]using hy];exact Nat.lt_irrefl _))).mono ?_;rintro e w9 ⟨rfl,b8⟩;have g1:=dH (j9.trans (j9.below (f8).out.at_ j) b8);clear b8 j;(go_wp2_with fail);go_ret;refine⟨by rw[a3.out];rfl,F3,M3,?_⟩;rw[d6.out];unfold ZI;rw[if_neg (by rw[a4.out];decide),if_pos rfl,<-i3.out];exact i9.out.trans g1.out
  ·have j5:(VE != 0)=true:=by simpa using m
   have h4:eY X l own=X:=by
    unfold eY;rw[if_neg (by rw[HE.out];decide),g4.out];exact if_pos (by rw[a4.out];exact m)
   have d2:vZ X.D x.h=X.D:=if_neg λhh=>m (a4.out.symm.trans hh.1);have e9:j9 w g F M X V F1 M1:=by have:=g0.out;rw[d2]at this;exact this
   have i8:=dH e9;have j4:=dH h4;clear e9 h4 d2 m;(go_wp2_with fail);go_ret;exact⟨by rw[a3.out];rfl,F1,M1,by rw[j4.out];exact i8.out⟩
 ·have j6:(E != 0)=true:=by simpa using d3
  have e1:Y1 X l=E:=by unfold Y1;rw[if_pos (by rw[HE.out];exact d3),HE.out]
  have e2:eY X l own=X:=by unfold eY;rw[if_pos (by rw[HE.out];exact d3)]
  have H1:=dH e1;have H2:=dH e2;have Hb:=dH (yM d1 d0);clear e1 e2 d3 f3 d1 d0 t;(go_wp2_with fail);go_ret;exact⟨by rw[H1.out];rfl,F,M,by rw[H2.out];exact j9.below Hs.out.at_ Hb.out⟩
theorem isFn_cmpId:zt 156:=λargs w=>by kernel_rfl
theorem isFn_less:zt 154:=λargs w=>by kernel_rfl
theorem sort_perm(h:L.Nodup):L.Perm (kL yC L) :=
 (perm_ext_iff_of_nodup h ((kQ vM L).nodup vM)).2 λx=>(kT vM).symm
theorem less1(w:World)(gb:Nat)(A:Option Addr)(n cap:Nat)(R:List zA)(hb:w.cell? ⟨gb,0,none⟩=some (.slice A n cap))(hR:zW w A n R)(hr:Ris yC R)(hn:n<=1000000)(x:zA) :
  Calls prog 154 #[.agg (idC x),.pointer (some ⟨gb,0,none⟩)] w λe w'=>e=.returned (.bool (decide (x∈R)))/\Below w.heap.size w w':=by
 have d:R.length=n:=by simpa using hR.1
 have hB:Below w.heap.size w (w.alloc (.cells (idC x) 23)):=bA;have m:z9 (w.alloc (.cells (idC x) 23)) w.heap.size 0 32=some (idC x):=by simp[go_sem]
 obtain⟨W,hW⟩:=eR (w.alloc (.cells (idC x) 23))
 obtain⟨ga,g⟩:=eX w.heap.size
 rw[<-hW]at hB m;rw[g]at m;have c0:=(hB.cell (p:=⟨gb,0,none⟩) (block_lt_of_cell? w _ hb)).trans hb;have cS:=ZP 156 #[] #[] isFn_cmpId (λy=>yC y x) x W (λy w' _=>aH y x w') A n cap R (SlR.below hR hB) hn (λa b hb G D=>vM.trans _ _ _ (YB hr G hb) D);have HW:=dH hW;have I:=dH g;have HB:=dH hB;have Hr:=dH hr;have H:=dH d;clear hW g hB hr hb hR d;go_enter func154,ntmps154
 go_upto_region 1 with fail
 rw[<-HW.out,I.out];(go_wp2_with fail);refine cS.mono ?_;rintro e w1 ⟨i,b,rfl,hi,r,s,k,B⟩;have t:b=decide (x∈R):=by
  cases b with
  | true =>
   obtain⟨hi2,h0⟩:=k.1 rfl;rw[eq_comm,decide_eq_true_eq,<-(vM.zero _ _).1 h0];exact getElem_mem hi2
  | false =>
   rw[eq_comm,decide_eq_false_iff_not];intro hx;obtain⟨j,hj,f⟩:=mem_iff_getElem.1 hx;have F:i<=j:=by
    refine Nat.le_of_not_lt λE=>?_;have:=r j hj E;rw[f,(vM.zero x x).2 rfl]at this;omega
   have hi2:i<R.length:=oM;have h3:=s i hi2 lR;rcases Nat.lt_or_eq_of_le F with h | h
   ·have h4:=YB Hr.out h hj;rw[f]at h4;have h3:0<=yC R[i] x:=h3;omega
   ·subst h;have:=k.2 ⟨hi2,by rw[f];exact(vM.zero x x).2 rfl⟩;cases this
 have J:=dH t;have Hb:=dH (yM HB.out B);clear r s k B cS t;(go_wp2_with fail);go_ret;exact⟨yI (by rw[J.out]),Hb.out⟩
theorem ident_less(w:World)(A:Option Addr)(n cap:Nat)(S:List zA)(hS:zW w A n S)(hr:Ris yC S)(hn:n<=1000000)(hA:A=none->cap=0)(B:Option Addr)(m c:Nat)(T:List zA)(hT:zW w B m T)(V:T.Nodup)(hm:m<=1000000)(hB:B=none->c=0) :
  Calls prog 92 #[.slice A n cap,.slice B m c] w λe w'=>∃A' c',e=.returned (.slice A' (S.filter λi=>decide (i∉T)).length c')/\Below w.heap.size w w':=by
 have M:T.length=m:=by simpa using hT.1
 have N:S.length=n:=by simpa using hS.1
 have t:=sort_perm V;have j:=kQ vM T;have c1:=iX w B m c T _ hT t j hm hB;have s:(kL yC T).length=m:=by rw[<-t.length_eq];exact M
 rw[s]at c1;obtain⟨Z,hZ⟩:=eX (kL yC T)
 rw[hZ]at c1 j s;have f:∀x,x∈Z↔x∈T:=λx=>(by rw[<-hZ];exact kT vM);have J:=dH f;have a3:=dH j;have a9:=dH s;have a4:=dH N;obtain⟨K0,I⟩:∃K0,(S.filter λi=>decide (i∉T)).length=K0:=⟨_,rfl⟩
 rw[I];have a7:=dH I;have HS:=dH hS;have Hr:=dH hr;have HA:=dH hA;clear f j s N M t hZ V hT I hS hr hA;go_enter func92,ntmps92
 (go_wp2_with fail);refine c1.mono ?_;rintro e w1 ⟨B1,d1,rfl,E,R⟩;have d:Below w1.heap.size w1 (w1.alloc (.cells #[.slice B1 m d1] 33)):=bA;have x0:(w1.alloc (.cells #[.slice B1 m d1] 33)).cell? ⟨w1.heap.size,0,none⟩=some (.slice B1 m d1):=by simp[go_sem]
 have r:=yM R d;have D:=E.below d;obtain⟨W,hW⟩:=eR (w1.alloc (.cells #[.slice B1 m d1] 33))
 obtain⟨gb,H⟩:=eX w1.heap.size
 rw[<-hW]at r D x0;rw[H]at x0;have c2:=iX W A n cap S S (SlR.below HS.out r) (Perm.refl _) Hr.out hn HA.out;rw[a4.out]at c2;have HW:=dH hW;have a5:=dH H;have U:=dH r;have G:gb<W.heap.size:=block_lt_of_cell? W _ x0;have a2:∀y∈blk B1,y<gb:=λy hy=>(oH ((E.at_base hy).2));clear hW H r E R d c1;(go_wp2_with fail);rw[<-HW.out,a5.out];refine c2.mono ?_;rintro e w2 ⟨A2,Y,rfl,k,d⟩;have x2:=(d.cell (p:=⟨gb,0,none⟩) G).trans x0;have L:=D.below d;have F:∀y∈blk A2,y≠gb/\y∉blk B1:=λy hy=>by
  have h1:=(k.at_base hy).1;exact⟨oM,λh2=>oH (a2 y h2)⟩
 have cD:=QO 154 #[] #[.pointer (some ⟨gb,0,none⟩)] isFn_less (λx=>decide (x∈Z)) w2 A2 (λx w' hk=>by
  refine less1 w' gb B1 m d1 Z ((hk.cell (p:=⟨gb,0,none⟩) (block_lt_of_cell? w2 _ x2) (λhy=>(F gb hy).1 rfl)).trans x2) (SlR.kept L.slr hk (λy hy a1=>(F y a1).2 hy)) a3.out hm x) W.heap.size n Y S k hn
 have g:(S.filter λx=>!decide (x∈Z)).length=K0:=by
  rw[<-a7.out];congr 1
  refine filter_congr λx _=>?_;rw[<-decide_not];exact decide_eq_decide.2 (not_congr (J.out x))
 rw[g]at cD;have X:∀y∈blk A2,w.heap.size<=y:=λy hy=>Nat.le_trans U.out.size (k.at_base hy).1;have a8:=dH X;have a0:=dH (yM U.out d);clear c2 x0 x2 D L F g X k d;(go_wp2_with fail);refine cD.mono ?_;rintro e w3 ⟨rfl,_,O⟩;have a6:=dH (a0.out.trans (O.below (B:=w.heap.size) a0.out.size a8.out));clear cD O;(go_wp2_with fail);go_ret;exact⟨A2,Y,rfl,a6.out⟩
theorem view_topic(w:World)(g:Nat)(t:ByteArray)(b:Nat)(I:List zA)(v:Value)(h:yR w g t b I v) :
  Calls prog 91 #[.pointer (some ⟨g,0,none⟩)] w λe w'=>e=.returned (.string t)/\w=w':=by
 have h0:=h.cell0;have h1:=h.cell1;clear h;go_enter func91,ntmps91
 (go_wp2_with fail);refine(jW w g b h1).mono ?_;rintro e w1 ⟨rfl,rfl⟩;(go_wp2_with fail);go_ret;exact⟨rfl,rfl⟩
def XP(X:StX)(t:ByteArray)(I:List zA):Bool:=I.any λi=>decide (i∉j8 X.D t)
theorem out_len(X:StX)(t:ByteArray)(I:List zA):decide ((0:Int)<((I.filter λi=>decide (i∉j8 X.D t)).length:Nat))=XP X t I:=by
 unfold XP;induction I with
 | nil=>rfl
 | cons i I ih =>
  rw[filter_cons,any_cons];by_cases h:i∉j8 X.D t
  ·rw[decide_eq_true h]
   simp
  ·rw[decide_eq_false h,if_neg (by decide)];exact ih
theorem st_sub(w0 w:World)(g gd gs bo bv:Nat)(Fd Fs F M:List Nat)(N:List (VwX×VwP))(n:Nat)(X:StX)(h:kY w0 g gd gs bo bv Fd Fs F M N X)(hv:dA w0)(hX:kJ n X)(hn:n<=800)(hb:Below w0.heap.size w0 w)
  (vg b:Nat)(t:ByteArray)(O:List Nat)(I:List zA)(v:Value)(s:VSt)(Z:yR w vg t b I v)(b2:kZ w O (M++vg :: b :: O) v s)(b7:vg∉b :: O)(b9:b∉O)(ht:fD t)(T:∀x∈vg :: b :: O,w0.heap.size<=x)(b4:∀x∈vg :: b :: O,x<w.heap.size)(b8:t∉X.V.map (·.t))(a2:Ris yC I)(c2:I.length<=1000000)(a1:VOk X.D ⟨t,I,s⟩\/XP X t I=true) :
  Calls prog 40 #[.pointer (some ⟨g,0,none⟩),.pointer (some ⟨vg,0,none⟩),.int .i64 0] w λe w'=>e=.returned (.int .i64 (if XP X t I=true then 7 else 0))/\∃F' M',j9 w0 g F M (if XP X t I=true then X else subX X ⟨t,I,s⟩) w' F' M':=by
 have hw:=h.kept hb;have c0:w.cell? ⟨g,0,none⟩=some (.pointer (some ⟨gd,0,none⟩)):=by rw[cell_of_row w g 0 _ _ _ hw.st.heap];rfl
 have c3:w.cell? ⟨g,3,none⟩=some (.map (some bv)):=by rw[cell_of_row w g 3 _ _ _ hw.st.heap];rfl
 have cT:=view_topic w vg t b I v Z;have b5:=hX.len;have b6:=YR (D:=X.D) t;have cI:=fun (V:World) (hV:Below w.heap.size w V)=>vids V vg t b I v (Z.below hV) a2 c2;have cD:=fun (V:World) (hV:Below w.heap.size w V)=>aE V gd Fd X.D (hw.st.dag.below hV) t ht oM;have cL:=fun (V:World) (A:Option Addr) (k c:Nat) (hS:zW V A k I) (hk:k<=1000000) (hA:A=none->c=0) (B:Option Addr) (m d:Nat) (hT:zW V B m (j8 X.D t)) (hm:m<=1000000) (hB:B=none->d=0)=>ident_less V A k c I hS a2 hk hA B m d (j8 X.D t) hT (tps_nodup hX.nd t) hm hB;obtain⟨K0,a5⟩:∃K0,(I.filter λi=>decide (i∉j8 X.D t)).length=K0:=⟨_,rfl⟩
 obtain⟨z,hz⟩:=eX (XP X t I)
 have j:=out_len X t I;rw[a5,hz]at j;rw[a5]at cL;rw[hz]at a1 |-;have Hw:=dH hw;have Hh:=dH h;have Hv:=dH hv;have HX:=dH hX;have d4:=dH Z;have d6:=dH b2;have a9:=dH T;have d8:=dH b4;have c5:=dH b8;have d9:=dH b7;have e0:=dH b9;have Hb:=dH hb;have d3:=dH a1;clear hw h hv hX Z b2 T b4 b8 b7 b9 hb a1 hz a2 a5;go_enter func40,ntmps40
 (go_wp2_with fail);refine cT.mono ?_;rintro e w1 ⟨rfl,rfl⟩;clear cT;go_upto_region 4 with fail
 go_cut [23] (λv wx=>v=.bool z/\Below w.heap.size w wx)
 case first =>
  refine vE (.loose 0 (.loose 2 (.loose 3 (.loose 4 (.loose 5 (.loose 6 (.one 1 (.one 7 (.one 8 (.loose 9 (.loose 10 .done))))))))))) (Bel w) false kR kR kR kR (qC w) ?_;have e1:=lW w;have hS:=qC w;have b1:=zJ c0;refine tZ ?_;refine tH ?_;intro K hK;refine(cI _ hS).mono ?_;rintro e w2 ⟨A,cap,rfl,c8,d1⟩;have a0:=xZ hS d1;refine⟨_,rfl,a0,hK _ _ ?_⟩;clear hK K hS;have hS:=a0;refine tH ?_;intro K hK;refine(cD _ a0).mono ?_;rintro e w3 ⟨⟨B,m,d⟩,rfl,hm,H,E⟩;have a4:=xZ a0 E;have R:=c8.below E;have a3:m<=1000000:=by have hm:m=(j8 X.D t).length:=hm;omega
  have d2:=cL w3 A I.length cap R.slr c2 R.cap0 B m d H.slr a3 H.cap0;clear hm;refine⟨_,rfl,a4,hK _ _ ?_⟩;clear hK K hS;have hS:=a4;unfold slV;refine tH ?_;intro K hK;refine d2.mono ?_;rintro e w4 ⟨A4,c4,rfl,d0⟩;have H4:=dH (xZ a4 d0);refine⟨_,rfl,H4.out,hK _ _ ?_⟩;clear hK K hS;have hS:=H4.out;refine tZ ?_;refine kP ?_;intro hS;go_wp2_with fail
  go_meet
  exact⟨by rw[<-j];exact congrArg Value.bool (decide_eq_decide.2 oM),H4.out⟩
 case rest =>
 obtain⟨rfl,U⟩:=hcut;obtain⟨V,rfl⟩:=eR wc
 have b0:=dH U;have Y:=dH (Hb.out.trans (U.mono Hb.out.size));have e4:=(U.cell (p:=⟨g,3,none⟩) (block_lt_of_cell? w _ c3)).trans c3;clear cI cD cL U c3 c0 j;cases z with
 | true =>
  (go_wp2_with fail);go_ret;exact⟨rfl,F,M,j9.below Hh.out.at_ Y.out⟩
 | false =>
  obtain⟨w2,c7,c9,F2,M2,N2,f,r⟩:=Hh.out.newView Y.out (d4.out.below b0.out) (d6.out.below b0.out) d9.out e0.out ht a9.out (λx hx=>Nat.lt_of_lt_of_le (d8.out x hx) b0.out.size) c5.out Hv.out;have e5:w2.cell? ⟨g,0,none⟩=some (.pointer (some ⟨gd,0,none⟩)):=by rw[cell_of_row w2 g 0 _ _ _ f.st.heap];rfl
  have cT:=aE w2 gd Fd X.D f.st.dag t ht oM;have J:VOk X.D ⟨t,I,s⟩:=by
   rcases d3.out with h | h
   ·exact h
   ·cases h
  have L:kJ n ⟨X.q,X.D,X.O,X.S,X.V ++ [⟨t,I,s⟩]⟩:=by
   refine⟨HX.out.nd,HX.out.ok,HX.out.len,HX.out.body,?_,λv hv=>?_⟩
   ·rw[map_append,nodup_append];refine⟨HX.out.nv,sI,λa ha b' c1=>?_⟩;intro e;rw[map_cons,map_nil,mem_singleton]at c1;have e2:a=t:=e.trans c1;exact c5.out (by rw[<-e2];exact ha)
   ·rcases mem_append.1 hv with hv | hv
    ·exact HX.out.vw v hv
    ·rw[mem_singleton.1 hv];exact J
  have G:=dH f;have a8:=dH r;have a6:=dH L;have d5:=dH (r.vars Hh.out.at_ Hv.out);clear f r J L c9;(go_wp2_with fail);refine cT.mono ?_;rintro e w3 ⟨⟨B,m,d⟩,rfl,hm,H,E⟩;have a3:m<=1000000:=by have e3:m=(j8 X.D t).length:=hm;omega
  have cF:=nL w3 g gd gs bo bv Fd Fs F2 M2 N2 n _ (G.out.kept E) (d5.out.below E) a6.out hn B m d (j8 X.D t) H.slr a3 (λy hy c6=>by have h1:=(H.at_base hy).1;have h2:=G.out.at_.lt y c6;omega);have a7:=dH (a8.out.trans (j9.below G.out.at_ E));clear cT H E hm;unfold slV;(go_wp2_with fail);refine cF.mono ?_;rintro e w4 ⟨rfl,b3⟩;have d7:=dH (a7.out.trans b3);clear b3 cF;(go_wp2_with fail);go_ret;exact⟨rfl,F2,M2,d7.out⟩
structure Prt where
 tp:Bool
 cm:Bool
 bd:Int
 em:Bool
def yY(x:Prt):Array Value:=#[.bool x.tp] ++ #[.bool x.cm] ++ #[.int .i64 x.bd] ++ #[.bool x.em]
@[simp] theorem kA(x:Prt):(yY x).size=4:=by simp[yY]
@[go_sem] theorem prtC_g0(x:Prt):(yY x)[0]?=some (.bool x.tp):=by first | (simp[yY,Array.getElem?_append];done) | (rw[show yY x=((#[]:Array Value)) ++ #[.bool x.tp]++(#[.bool x.cm] ++ #[.int .i64 x.bd] ++ #[.bool x.em])from by apply Array.ext';simp[yY]];exact xJ _ _ _ _ sI)
@[go_sem] theorem prtC_gg0(x:Prt)(h:0<(yY x).size):(yY x)[0]'h=.bool x.tp:=Option.some.inj ((Array.getElem?_eq_getElem h).symm.trans (prtC_g0 x))
@[go_sem] theorem prtC_g1(x:Prt):(yY x)[1]?=some (.bool x.cm):=by first | (simp[yY,Array.getElem?_append];done) | (rw[show yY x=(#[.bool x.tp]) ++ #[.bool x.cm]++(#[.int .i64 x.bd] ++ #[.bool x.em])from by apply Array.ext';simp[yY]];exact xJ _ _ _ _ sI)
@[go_sem] theorem prtC_gg1(x:Prt)(h:1<(yY x).size):(yY x)[1]'h=.bool x.cm:=Option.some.inj ((Array.getElem?_eq_getElem h).symm.trans (prtC_g1 x))
@[go_sem] theorem prtC_g2(x:Prt):(yY x)[2]?=some (.int .i64 x.bd):=by first | (simp[yY,Array.getElem?_append];done) | (rw[show yY x=(#[.bool x.tp] ++ #[.bool x.cm]) ++ #[.int .i64 x.bd]++(#[.bool x.em])from by apply Array.ext';simp[yY]];exact xJ _ _ _ _ sI)
@[go_sem] theorem prtC_gg2(x:Prt)(h:2<(yY x).size):(yY x)[2]'h=.int .i64 x.bd:=Option.some.inj ((Array.getElem?_eq_getElem h).symm.trans (prtC_g2 x))
@[go_sem] theorem prtC_g3(x:Prt):(yY x)[3]?=some (.bool x.em):=by first | (simp[yY,Array.getElem?_append];done) | (rw[show yY x=(#[.bool x.tp] ++ #[.bool x.cm] ++ #[.int .i64 x.bd]) ++ #[.bool x.em]++((#[]:Array Value))from by apply Array.ext';simp[yY]];exact xJ _ _ _ _ sI)
@[go_sem] theorem prtC_gg3(x:Prt)(h:3<(yY x).size):(yY x)[3]'h=.bool x.em:=Option.some.inj ((Array.getElem?_eq_getElem h).symm.trans (prtC_g3 x))
@[go_sem] theorem prtC_all(x:Prt):(yY x).extract 0 4=yY x:=by have:=Array.extract_size (xs:=yY x);rwa [kA]at this
theorem xu(x:Prt):∀u∈(yY x).toList,u.oneCell'=true:=by
 intro u hu;simp only[yY,Array.toList_append,mem_append]at hu;rcases hu with((hu | hu) | hu) | hu
 ·simp at hu;subst hu;rfl
 ·simp at hu;subst hu;rfl
 ·simp at hu;subst hu;rfl
 ·simp at hu;subst hu;rfl
def sE:Prt:=⟨false,false,0,false⟩
theorem Prt_ext{x y:Prt}(h:x.tp=y.tp/\x.cm=y.cm/\x.bd=y.bd/\x.em=y.em):x=y:=by cases x;cases y;simp_all
instance:DecidableEq Prt:=λx y=>if h:x.tp=y.tp/\x.cm=y.cm/\x.bd=y.bd/\x.em=y.em then isTrue (Prt_ext h)else isFalse (λe=>h (by subst e;simp))
theorem fP:(prog.info? 130).map (·.size)=some 4:=kR
@[go_sem ↓] theorem zeroPrt_run(w:World):(zeroValue 130).run prog w=.ok (.agg (yY sE)) w:=by
 have h:(prog.info? 130).bind (·.zero)=some (.agg (yY sE)):=kR;cases hi:prog.info? 130 with
 | none=>rw[hi]at h;cases h
 | some i =>
  rw[hi]at h;have hz:i.zero=some (.agg (yY sE)):=h;simp[zeroValue,typeInfo,hi,hz]
@[go_sem ↓] theorem loadPrt_rw(a:Addr):loadVar 130 a=ldS 130 a:=rfl
@[go_sem ↓] theorem storePrt_rw(a:Addr)(v:Value):storeVar 130 a v=stS 130 a v:=rfl
@[go_sem] theorem loadPrt_run(w:World)(g o:Nat):(ldS 130 ⟨g,o,none⟩).run prog w=match z9 w g o 4 with | some cs=>.ok (.agg cs) w | none=>(loadVar 130 ⟨g,o,none⟩).run prog w :=
 jD underlying130 rfl fP w g o
@[go_sem] theorem storePrt_run(w:World)(g:Nat)(hg:g=w.heap.size)(z:Array Value)(hz:z.size=4)(x:Prt)(e:TypeId):(stS 130 ⟨g,0,none⟩ (.agg (yY x))).run prog (w.alloc (.cells z e))=.ok () (w.alloc (.cells (yY x) e)) :=
 hg ▸ xW fP w z (yY x) hz (kA x) (xu x)
@[go_sem ↓] theorem buildPrt_rw(parts:Array (Nat×Value)):Instr.build 130 parts=bdS 130 parts:=rfl
structure Ent where
 k:Int
 t:ByteArray
 b:ByteArray
 c:zA
def vW(x:Ent):Array Value:=#[.int .i64 x.k] ++ #[.string x.t] ++ #[.string x.b]++idC x.c
@[simp] theorem entC_size(x:Ent):(vW x).size=35:=by simp[vW]
@[go_sem] theorem entC_g0(x:Ent):(vW x)[0]?=some (.int .i64 x.k):=by first | (simp[vW,Array.getElem?_append];done) | (rw[show vW x=((#[]:Array Value)) ++ #[.int .i64 x.k]++(#[.string x.t] ++ #[.string x.b]++idC x.c)from by apply Array.ext';simp[vW]];exact xJ _ _ _ _ sI)
@[go_sem] theorem entC_gg0(x:Ent)(h:0<(vW x).size):(vW x)[0]'h=.int .i64 x.k:=Option.some.inj ((Array.getElem?_eq_getElem h).symm.trans (entC_g0 x))
@[go_sem] theorem entC_e3(x:Ent):(vW x).extract 3 35=idC x.c:=by
 have h:vW x=(#[.int .i64 x.k] ++ #[.string x.t] ++ #[.string x.b])++idC x.c++((#[]:Array Value)):=by first | (simp[vW,Array.append_assoc];done) | (apply Array.ext';simp[vW];done)
 rw[h];exact bZ _ _ _ _ _ sI sI
@[go_sem] theorem entC_all(x:Ent):(vW x).extract 0 35=vW x:=by have:=Array.extract_size (xs:=vW x);rwa [entC_size]at this
theorem Ent_ext{x y:Ent}(h:x.k=y.k/\x.t=y.t/\x.b=y.b/\x.c=y.c):x=y:=by cases x;cases y;simp_all
instance:DecidableEq Ent:=λx y=>if h:x.k=y.k/\x.t=y.t/\x.b=y.b/\x.c=y.c then isTrue (Ent_ext h)else isFalse (λe=>h (by subst e;simp))
theorem infoEnt:(prog.info? 25).map (·.size)=some 35:=kR
@[go_sem ↓] theorem loadEnt_rw(a:Addr):loadVar 25 a=ldS 25 a:=rfl
@[go_sem ↓] theorem storeEnt_rw(a:Addr)(v:Value):storeVar 25 a v=stS 25 a v:=rfl
@[go_sem] theorem loadEnt_run(w:World)(g o:Nat):(ldS 25 ⟨g,o,none⟩).run prog w=match z9 w g o 35 with | some cs=>.ok (.agg cs) w | none=>(loadVar 25 ⟨g,o,none⟩).run prog w :=
 jD underlying25 rfl infoEnt w g o
@[go_sem ↓] theorem buildEnt_rw(parts:Array (Nat×Value)):Instr.build 25 parts=bdS 25 parts:=rfl
def Y2(k:Int):Prt:=if k=7 then⟨true,false,1048512,true⟩ else if k=5\/k=6 then⟨true,false,0,false⟩ else if k=4 then⟨false,true,0,false⟩ else if k=1\/k=2 then⟨false,false,256,false⟩ else if k=3 then⟨false,false,512,false⟩ else⟨false,false,0,false⟩
@[go_sem] theorem prtC_s0(x:Prt)(v:Bool):(yY x).setIfInBounds 0 (.bool v)=yY { x with tp:=v }:=by simp[yY]
@[go_sem] theorem prtC_s1(x:Prt)(v:Bool):(yY x).setIfInBounds 1 (.bool v)=yY { x with cm:=v }:=by simp[yY]
@[go_sem] theorem prtC_s2(x:Prt)(v:Int):(yY x).setIfInBounds 2 (.int .i64 v)=yY { x with bd:=v }:=by simp[yY]
@[go_sem] theorem prtC_s3(x:Prt)(v:Bool):(yY x).setIfInBounds 3 (.bool v)=yY { x with em:=v }:=by simp[yY]
theorem prt_two(w:World)(p q:Prt) :
  (stS 130 ⟨w.heap.size,0,none⟩ (.agg (yY p))).run prog ((w.alloc (.cells (yY sE) 130)).alloc (.cells (yY q) 130))=.ok () (((w.alloc (.cells (yY sE) 130)).alloc (.cells (yY q) 130)).setRow w.heap.size (yY p)) /\
  (((w.alloc (.cells (yY sE) 130)).alloc (.cells (yY q) 130)).setRow w.heap.size (yY p)).heap[w.heap.size]?=some (.cells (yY p) 130 (0,0)) /\
  Below w.heap.size w (((w.alloc (.cells (yY sE) 130)).alloc (.cells (yY q) 130)).setRow w.heap.size (yY p)):=by
 have x0:((w.alloc (.cells (yY sE) 130)).alloc (.cells (yY q) 130)).heap[w.heap.size]?=some (.cells (yY sE) 130 (0,0)):=by
  rw[Below.heap_alloc _ _ _ sI];exact heap_alloc_new _ _
 have hB:Below w.heap.size w ((w.alloc (.cells (yY sE) 130)).alloc (.cells (yY q) 130)):=(bA).alloc sI _;have hk:z8 [w.heap.size] ((w.alloc (.cells (yY sE) 130)).alloc (.cells (yY q) 130)) (((w.alloc (.cells (yY sE) 130)).alloc (.cells (yY q) 130)).setRow w.heap.size (yY p)):=⟨rfl,rfl,rfl,by simp[setRow],λx _ hx=>setRow_other _ _ x _ (by simpa using hx)⟩
 exact⟨zX fP _ _ (yY sE) (yY p) _ x0 sI sI (xu p),setRow_heap _ _ _ (yY p) _ _ x0,hB.trans (hk.below hB.size sI)⟩
theorem ent_of(k:Int)(w:World):Calls prog 80 #[.int .i64 k] w λe w'=>e=.returned (.tuple #[.agg (yY (Y2 k)),.bool (decide (1<=k/\k<=7))])/\Below w.heap.size w w':=by
 have h2:=λp q=>(prt_two w p q).1;have h3:=dH (λp q=>(prt_two w p q).2);have hk:k=7\/k=5\/k=6\/k=4\/k=1\/k=2\/k=3\/(k≠7/\k≠5/\k≠6/\k≠4/\k≠1/\k≠2/\k≠3):=oM;rcases hk with rfl | rfl | rfl | rfl | rfl | rfl | rfl | ⟨n7,n5,n6,n4,n1,n2,n3⟩
 ·go_enter func80,ntmps80
  (go_wp2_with fail);refine bodyPost_ret (yU results80 _ _ w.heap.size 130 (yY (Y2 7)) (0,0) _ rfl (h3.out _ _).1 underlying130 rfl (by rw[kA];exact fP)) rfl ?_;exact⟨rfl,(h3.out _ _).2⟩
 ·go_enter func80,ntmps80
  (go_wp2_with fail);refine bodyPost_ret (yU results80 _ _ w.heap.size 130 (yY (Y2 5)) (0,0) _ rfl (h3.out _ _).1 underlying130 rfl (by rw[kA];exact fP)) rfl ?_;exact⟨rfl,(h3.out _ _).2⟩
 ·go_enter func80,ntmps80
  (go_wp2_with fail);refine bodyPost_ret (yU results80 _ _ w.heap.size 130 (yY (Y2 6)) (0,0) _ rfl (h3.out _ _).1 underlying130 rfl (by rw[kA];exact fP)) rfl ?_;exact⟨rfl,(h3.out _ _).2⟩
 ·go_enter func80,ntmps80
  (go_wp2_with fail);refine bodyPost_ret (yU results80 _ _ w.heap.size 130 (yY (Y2 4)) (0,0) _ rfl (h3.out _ _).1 underlying130 rfl (by rw[kA];exact fP)) rfl ?_;exact⟨rfl,(h3.out _ _).2⟩
 ·go_enter func80,ntmps80
  (go_wp2_with fail);refine bodyPost_ret (yU results80 _ _ w.heap.size 130 (yY (Y2 1)) (0,0) _ rfl (h3.out _ _).1 underlying130 rfl (by rw[kA];exact fP)) rfl ?_;exact⟨rfl,(h3.out _ _).2⟩
 ·go_enter func80,ntmps80
  (go_wp2_with fail);refine bodyPost_ret (yU results80 _ _ w.heap.size 130 (yY (Y2 2)) (0,0) _ rfl (h3.out _ _).1 underlying130 rfl (by rw[kA];exact fP)) rfl ?_;exact⟨rfl,(h3.out _ _).2⟩
 ·go_enter func80,ntmps80
  (go_wp2_with fail);refine bodyPost_ret (yU results80 _ _ w.heap.size 130 (yY (Y2 3)) (0,0) _ rfl (h3.out _ _).1 underlying130 rfl (by rw[kA];exact fP)) rfl ?_;exact⟨rfl,(h3.out _ _).2⟩
 ·have e:Y2 k=sE:=by unfold Y2;rw[if_neg n7,if_neg oM,if_neg n4,if_neg oM,if_neg n3];rfl
  have hd:decide (1<=k/\k<=7)=false:=sO;rw[e,hd];have b7:(k==7)=false:=by simpa using n7
  have b5:(k==5)=false:=by simpa using n5
  have b6:(k==6)=false:=by simpa using n6
  have b4:(k==4)=false:=by simpa using n4
  have b1:(k==1)=false:=by simpa using n1
  have b2:(k==2)=false:=by simpa using n2
  have b3:(k==3)=false:=by simpa using n3
  clear n7 n5 n6 n4 n1 n2 n3 e hd;go_enter func80,ntmps80
  (go_wp2_with fail);refine bodyPost_ret (yU results80 _ _ w.heap.size 130 (yY sE) (0,0) _ rfl (h3.out _ _).1 underlying130 rfl (by rw[kA];exact fP)) rfl ?_;exact⟨rfl,(h3.out _ _).2⟩
theorem d6(b:ByteArray):b.size=0↔b.toList.isEmpty=true:=by
 rw[isEmpty_iff,<-length_eq_zero_iff,ByteArray.toList_eq];exact Iff.rfl
theorem ent_check(x:aR)(w:World)(hb:x.b.size<=9223372036854775807)(ht:x.t.size<=9223372036854775807) :
  Calls prog 33 #[.agg (vW ⟨x.k,x.t,x.b,x.c⟩)] w λe w'=>e=.returned (.int .i64 (bS x))/\Below w.heap.size w w':=by
 obtain⟨k,t,b,c⟩:=x;have hB:Below w.heap.size w (w.alloc (.cells (vW ⟨k,t,b,c⟩) 25)):=bA;have c1:=ent_of k (w.alloc (.cells (vW ⟨k,t,b,c⟩) 25));have hr:z9 (w.alloc (.cells (vW ⟨k,t,b,c⟩) 25)) w.heap.size 0 35=some (vW ⟨k,t,b,c⟩):=by simp[go_sem]
 obtain⟨ga,I⟩:=eX w.heap.size
 obtain⟨W,hW⟩:=eR (w.alloc (.cells (vW ⟨k,t,b,c⟩) 25))
 rw[<-hW]at hB c1 hr;rw[I]at hr;have q0:W.cell? ⟨ga,0,none⟩=some (.int .i64 k):=by have:=zB hr (j:=0) oM;rw[Nat.zero_add]at this;rw[this];simp[vW]
 obtain⟨ok,G⟩:∃ok,decide (1<=k/\k<=7)=ok:=⟨_,rfl⟩
 obtain⟨E,hE⟩:=eX (bS ⟨k,t,b,c⟩)
 obtain⟨p,hp⟩:=eX (Y2 k)
 rw[G,hp]at c1;rw[hE];have HW:=dH hW;have X:=dH I;have HB:=dH hB;have M:=dH G;have HE:=dH hE;have Hp:=dH hp;clear hW I hB G hE hp;go_enter func33,ntmps33
 (go_wp2_with fail);rw[<-HW.out,X.out];refine c1.mono ?_;rintro e w1 ⟨rfl,A⟩;have F:=((z8.of_below A).row (zD hr) sI _ _).trans hr;have J:Below w.heap.size w (w1.alloc (.cells (yY p) 130)):=(HB.out.trans (A.mono HB.out.size)).alloc (Nat.le_trans HB.out.size A.size) _;have L:ga<w1.heap.size:=zD F;have y:=((z8.alloc w1 (.cells (yY p) 130)).row L sI _ _).trans F;have f1:(w1.alloc (.cells (yY p) 130)).cell? ⟨ga,1,none⟩=some (.string t):=by have:=zB y (j:=1) oM;rw[Nat.zero_add]at this;rw[this];simp[vW]
 have f2:(w1.alloc (.cells (yY p) 130)).cell? ⟨ga,2,none⟩=some (.string b):=by have:=zB y (j:=2) oM;rw[Nat.zero_add]at this;rw[this];simp[vW]
 have f3:z9 (w1.alloc (.cells (yY p) 130)) ga 3 32=some (idC c):=by have:=yD y (j:=3) (m:=32) oM;rw[Nat.zero_add]at this;rw[this];exact congrArg some (entC_e3 _)
 obtain⟨W2,D⟩:=eR (w1.alloc (.cells (yY p) 130))
 have s:z9 W2 w1.heap.size 0 4=some (yY p):=by rw[D];simp[go_sem]
 obtain⟨gp,H⟩:=eX w1.heap.size
 rw[<-D]at J f1 f2 f3;rw[H]at s;have p0:W2.cell? ⟨gp,0,none⟩=some (.bool p.tp):=by have:=zB s (j:=0) oM;rw[Nat.zero_add]at this;rw[this];simp[yY]
 have p1:W2.cell? ⟨gp,1,none⟩=some (.bool p.cm):=by have:=zB s (j:=1) oM;rw[Nat.zero_add]at this;rw[this];simp[yY]
 have p2:W2.cell? ⟨gp,2,none⟩=some (.int .i64 p.bd):=by have:=zB s (j:=2) oM;rw[Nat.zero_add]at this;rw[this];simp[yY]
 have p3:W2.cell? ⟨gp,3,none⟩=some (.bool p.em):=by have:=zB s (j:=3) oM;rw[Nat.zero_add]at this;rw[this];simp[yY]
 have N:=dH D;have R:=dH H;have f:=dH J;clear c1 hr F y s D H J q0 A L;cases ok with
 | false =>
  (go_wp2_with fail);go_ret;exact⟨y9 (by rw[<-HE.out];unfold bS;rw[if_pos (by have:=of_decide_eq_false M.out;show k<1\/7<k;omega)]),by rw[<-N.out];exact f.out⟩
 | true =>
  go_upto_region 4 with fail
  rw[<-N.out,R.out];have O:(p=⟨true,false,1048512,true⟩/\k=7)\/(p=⟨true,false,0,false⟩/\(k=5\/k=6))\/(p=⟨false,true,0,false⟩/\k=4)\/(p=⟨false,false,256,false⟩/\(k=1\/k=2))\/(p=⟨false,false,512,false⟩/\k=3):=by
   have h1:=of_decide_eq_true M.out;have hk:k=7\/k=5\/k=6\/k=4\/k=1\/k=2\/k=3:=oM;rw[<-Hp.out];rcases hk with rfl | rfl | rfl | rfl | rfl | rfl | rfl <;> simp[Y2]
  rcases O with⟨rfl,hk⟩ | ⟨rfl,hk⟩ | ⟨rfl,hk⟩ | ⟨rfl,hk⟩ | ⟨rfl,hk⟩
  ·subst hk;obtain⟨B,r⟩:=eX b.toList.isEmpty
   have d:Hid (b.size=0↔B=true):=dH (by rw[<-r];exact d6 b);obtain⟨C,hC⟩:=eX (c==id0)
   have ck:=rA t W2 ht;obtain⟨Z,hZ⟩:=eX (j5 t)
   rw[hZ]at ck;obtain⟨V,hV⟩:=eX (Z != 0)
   have HZ:=dH hZ;clear hZ;cases B <;> cases C <;> cases V
   all_goals
    go_wp2_with fail
    all_goals first
    | (go_ret;refine⟨y9 ?_,f.out⟩;rw[<-HE.out];have h2:=d.out;have h3:=HZ.out;unfold bS;first | (simp_all;done) | (simp_all;omega))
    | (refine ck.mono ?_;rintro e w9 ⟨rfl,g⟩;have g2:=(g.cell (p:=⟨ga,2,none⟩) (block_lt_of_cell? W2 _ f2)).trans f2;have r2:=(g.cell (p:=⟨gp,2,none⟩) (block_lt_of_cell? W2 _ p2)).trans p2;have r3:=(g.cell (p:=⟨gp,3,none⟩) (block_lt_of_cell? W2 _ p3)).trans p3;go_wp2_with fail;all_goals (go_ret;refine⟨y9 ?_,f.out.trans (g.mono f.out.size)⟩;rw[<-HE.out];have h2:=d.out;have h3:=HZ.out;unfold bS;first | (simp_all;done) | (simp_all;omega)))
  ·rcases hk with rfl | rfl
   all_goals
    obtain⟨B,r⟩:=eX b.toList.isEmpty
    have d:Hid (b.size=0↔B=true):=dH (by rw[<-r];exact d6 b);obtain⟨C,hC⟩:=eX (c==id0)
    have ck:=rA t W2 ht;obtain⟨Z,hZ⟩:=eX (j5 t)
    rw[hZ]at ck;obtain⟨V,hV⟩:=eX (Z != 0)
    have HZ:=dH hZ;clear hZ;cases B <;> cases C <;> cases V
    all_goals
     go_wp2_with fail
     all_goals first
     | (go_ret;refine⟨y9 ?_,f.out⟩;rw[<-HE.out];have h2:=d.out;have h3:=HZ.out;unfold bS;first | (simp_all;done) | (simp_all;omega))
     | (refine ck.mono ?_;rintro e w9 ⟨rfl,g⟩;have g2:=(g.cell (p:=⟨ga,2,none⟩) (block_lt_of_cell? W2 _ f2)).trans f2;have r2:=(g.cell (p:=⟨gp,2,none⟩) (block_lt_of_cell? W2 _ p2)).trans p2;have r3:=(g.cell (p:=⟨gp,3,none⟩) (block_lt_of_cell? W2 _ p3)).trans p3;go_wp2_with fail;all_goals (go_ret;refine⟨y9 ?_,f.out.trans (g.mono f.out.size)⟩;rw[<-HE.out];have h2:=d.out;have h3:=HZ.out;unfold bS;first | (simp_all;done) | (simp_all;omega)))
  ·subst hk;obtain⟨T,hT⟩:=eX t.toList.isEmpty
   obtain⟨B,r⟩:=eX b.toList.isEmpty
   have HT:Hid (t.size=0↔T=true):=dH (by rw[<-hT];exact d6 t);have d:Hid (b.size=0↔B=true):=dH (by rw[<-r];exact d6 b);cases T <;> cases B
   all_goals
    go_wp2_with fail
    all_goals
     go_ret;refine⟨y9 ?_,f.out⟩;rw[<-HE.out];have h1:=HT.out;have h2:=d.out;unfold bS
     simp_all
  ·rcases hk with rfl | rfl
   all_goals
    obtain⟨T,hT⟩:=eX t.toList.isEmpty
    obtain⟨B,r⟩:=eX b.toList.isEmpty
    have HT:Hid (t.size=0↔T=true):=dH (by rw[<-hT];exact d6 t);have d:Hid (b.size=0↔B=true):=dH (by rw[<-r];exact d6 b);obtain⟨C,hC⟩:=eX (c==id0)
    cases T <;> cases B <;> cases C
    all_goals
     go_wp2_with fail
     all_goals
      go_ret;refine⟨y9 ?_,f.out⟩;rw[<-HE.out];have h1:=HT.out;have h2:=d.out;unfold bS;first | (simp_all;done) | (simp_all;omega)
  ·subst hk;obtain⟨T,hT⟩:=eX t.toList.isEmpty
   obtain⟨B,r⟩:=eX b.toList.isEmpty
   have HT:Hid (t.size=0↔T=true):=dH (by rw[<-hT];exact d6 t);have d:Hid (b.size=0↔B=true):=dH (by rw[<-r];exact d6 b);obtain⟨C,hC⟩:=eX (c==id0)
   cases T <;> cases B <;> cases C
   all_goals
    go_wp2_with fail
    all_goals
     go_ret;refine⟨y9 ?_,f.out⟩;rw[<-HE.out];have h1:=HT.out;have h2:=d.out;unfold bS;first | (simp_all;done) | (simp_all;omega)
section
theorem entE_k{e:aR}(h:bS e=0):1<=e.k/\e.k<=7:=by
 unfold bS at h;split at h
 ·cases h
 ·omega
theorem entE_t{e:aR}(h:bS e=0)(hk:5<=e.k):yF e.t≠0:=by
 intro hc;have h9:j5 e.t≠0:=by unfold j5;rw[if_pos hc];decide
 unfold bS at h;split at h
 ·cases h
 ·split at h
  ·cases h
  ·rw[if_pos ⟨hk,h9⟩]at h;cases h
section
variable {X:StX} {t b:ByteArray} {c:zA}
theorem appS_1(h:bS ⟨1,t,b,c⟩=0):gG X ⟨1,t,b,c⟩ (Y1 X b.data.toList) (eY X b.data.toList true):=by
 unfold gG;rw[if_neg (by rw[h];decide),if_pos (by dsimp only;decide)];unfold Y1 eY;split <;> exact⟨rfl,rfl⟩
theorem appS_2(h:bS ⟨2,t,b,c⟩=0):gG X ⟨2,t,b,c⟩ (Y1 X b.data.toList) (eY X b.data.toList false):=by
 unfold gG;rw[if_neg (by rw[h];decide),if_pos (by dsimp only;decide)];unfold Y1 eY;split <;> exact⟨rfl,rfl⟩
theorem appS_3(h:bS ⟨3,t,b,c⟩=0):gG X ⟨3,t,b,c⟩ (sD X.S X.q b) (n8 X b):=by
 unfold gG;rw[if_neg (by rw[h];decide),if_neg (by dsimp only;decide),if_pos rfl];exact⟨rfl,rfl⟩
theorem appS_4(h:bS ⟨4,t,b,c⟩=0):gG X ⟨4,t,b,c⟩ (pG X c) (pF X c):=by
 unfold gG;rw[if_neg (by rw[h];decide),if_neg (by dsimp only;decide),if_neg (by dsimp only;decide),if_pos rfl];exact⟨rfl,rfl⟩
theorem appS_6(h:bS ⟨6,t,b,c⟩=0):gG X ⟨6,t,b,c⟩ (YO X t) (wB X t):=by
 unfold gG;rw[if_neg (by rw[h];decide),if_neg (by dsimp only;decide),if_neg (by dsimp only;decide),if_neg (by dsimp only;decide),if_pos rfl];exact⟨rfl,rfl⟩
theorem kg{k:Int}(hk:k=5\/k=7)(h:bS ⟨k,t,b,c⟩=0)(hm:lL X t≠0):gG X ⟨k,t,b,c⟩ (lL X t) X:=by
 unfold gG;rw[if_neg (by rw[h];decide),if_neg (by show ¬k<=2;omega),if_neg (by show ¬k=3;omega),if_neg (by show ¬k=4;omega),if_neg (by show ¬k=6;omega),if_pos hm];exact⟨rfl,rfl⟩
theorem appS_5(h:bS ⟨5,t,b,c⟩=0)(hm:lL X t=0):gG X ⟨5,t,b,c⟩ 0 (subX X ⟨t,[],VSt.new (yF t)⟩):=by
 unfold gG;rw[if_neg (by rw[h];decide),if_neg (by dsimp only;decide),if_neg (by dsimp only;decide),if_neg (by dsimp only;decide),if_neg (by dsimp only;decide),if_neg (by show ¬lL X t≠0;rw[hm];decide),if_pos rfl];exact⟨rfl,rfl⟩
theorem appS_7(h:bS ⟨7,t,b,c⟩=0)(hm:lL X t=0){I:List zA}{l:List UInt8}{er E0 E:Int}{Y:StX}(hr:j2 idP b.data.toList 0=⟨I,l,er⟩)(hE:pO (yF t) I l er E0)
  (hY:if E0≠0 then E=E0/\Y=X else if XP X t I=true then E=7/\Y=X else E=0/\Y=subX X ⟨t,I,stL (yF t) l⟩):gG X ⟨7,t,b,c⟩ E Y:=by
 unfold gG;rw[if_neg (by rw[h];decide),if_neg (by dsimp only;decide),if_neg (by dsimp only;decide),if_neg (by dsimp only;decide),if_neg (by dsimp only;decide),if_neg (by show ¬lL X t≠0;rw[hm];decide),if_neg (by dsimp only;decide)];exact⟨I,l,er,E0,hr,hE,hY⟩
theorem mayE_no(h:lL X t=0):t∉X.V.map (·.t):=by
 unfold lL at h;intro hm;rw[if_pos (lS.2 hm)]at h;cases h
end
theorem st_subE(w:World)(g:Nat)(P:Option Addr)(E:Int)(hE:E≠0) :
  Calls prog 40 #[.pointer (some ⟨g,0,none⟩),.pointer P,.int .i64 E] w λe w'=>e=.returned (.int .i64 E)/\w=w':=by
 have hb:(E != 0)=true:=by simpa using hE
 clear hE;go_enter func40,ntmps40
 (go_wp2_with fail);go_ret;exact⟨rfl,rfl⟩
theorem YZ(w:World)(g:Nat)(F M:List Nat)(n:Nat)(X:StX)(h:xG w g F M X)(hv:dA w)(hX:kK n X)(hn:n<=700)(x:aR)(hb:x.b.size<=3000)(ht:x.t.size<=1000000) :
  Calls prog 10 #[.pointer (some ⟨g,0,none⟩),.agg (vW ⟨x.k,x.t,x.b,x.c⟩)] w λe w'=>∃E Y F' M',e=.returned (.int .i64 E)/\gG X x E Y/\j9 w g F M Y w' F' M':=by
 obtain⟨k,t,b,c⟩:=x;have hb:b.size<=3000:=hb;have ht:t.size<=1000000:=ht;have hB:Below w.heap.size w (w.alloc (.cells (vW ⟨k,t,b,c⟩) 25)):=bA;have hr:z9 (w.alloc (.cells (vW ⟨k,t,b,c⟩) 25)) w.heap.size 0 35=some (vW ⟨k,t,b,c⟩):=by simp[go_sem]
 obtain⟨W,hW⟩:=eR (w.alloc (.cells (vW ⟨k,t,b,c⟩) 25))
 obtain⟨ga,b5⟩:=eX w.heap.size
 rw[<-hW]at hB hr;rw[b5]at hr;have a9:=h.below hB;have c0:∃gd,W.cell? ⟨g,0,none⟩=some (.pointer (some ⟨gd,0,none⟩)):=by
  obtain⟨gd,gs,bo,bv,Fd,Fs,N,R⟩:=a9.sp;exact⟨gd,by rw[cell_of_row W g 0 _ _ _ R.st.heap];rfl⟩
 obtain⟨gd,c0⟩:=c0;have cN:=B8 W g gd c0;have cE:=ent_check ⟨k,t,b,c⟩ W (by show b.size<=_;omega) (by show t.size<=_;omega);obtain⟨E0,L⟩:=eX (bS ⟨k,t,b,c⟩)
 rw[L]at cE;have r:=dH L;have HW:=dH hW;have c8:=dH b5;have HB:=dH hB;have H:=dH h;have HX:=dH hX;have Hv:=dH hv;clear L hW b5 hB a9 c0 h hX hv;go_enter func10,ntmps10
 (go_wp2_with fail);rw[<-HW.out,c8.out];refine cN.mono ?_;rintro e w1 ⟨rfl,rfl⟩;clear cN;(go_wp2_with fail);refine cE.mono ?_;rintro e w2 ⟨rfl,b6⟩;have a6:=((z8.of_below b6).row (zD hr) sI _ _).trans hr;have b1:=dH (yM HB.out b6);clear cE hr b6;by_cases L:E0=0
 ·subst L;have c5:=entE_k r.out;have f0:w2.cell? ⟨ga,0,none⟩=some (.int .i64 k):=by have:=zB a6 (j:=0) oM;rw[Nat.zero_add]at this;rw[this];simp[vW]
  have f1:w2.cell? ⟨ga,1,none⟩=some (.string t):=by have:=zB a6 (j:=1) oM;rw[Nat.zero_add]at this;rw[this];simp[vW]
  have f2:w2.cell? ⟨ga,2,none⟩=some (.string b):=by have:=zB a6 (j:=2) oM;rw[Nat.zero_add]at this;rw[this];simp[vW]
  have f3:z9 w2 ga 3 32=some (idC c):=by have:=yD a6 (j:=3) (m:=32) oM;rw[Nat.zero_add]at this;rw[this];exact congrArg some (entC_e3 _)
  have f:=dH (H.out.below b1.out);have a0:=dH (Hv.out.below b1.out);have Hn:=dH (j9.below H.out b1.out);clear a6;have hk:k=1\/k=2\/k=3\/k=4\/k=6\/k=5\/k=7:=by have h1:1<=k/\k<=7:=c5;omega
  clear c5;rcases hk with rfl | rfl | rfl | rfl | rfl | rfl | rfl
  ·have c1:=V5 w2 g F M n X f.out a0.out HX.out hn b oM true;(go_wp2_with fail);refine(c1).mono ?_;rintro e w4 ⟨rfl,F4,M4,d⟩;have y:=dH (Hn.out.trans d);clear d;(go_wp2_with fail);go_ret;refine⟨_,_,F4,M4,rfl,?_,y.out⟩;exact appS_1 r.out
  ·have c1:=V5 w2 g F M n X f.out a0.out HX.out hn b oM false;(go_wp2_with fail);refine(c1).mono ?_;rintro e w4 ⟨rfl,F4,M4,d⟩;have y:=dH (Hn.out.trans d);clear d;(go_wp2_with fail);go_ret;refine⟨_,_,F4,M4,rfl,?_,y.out⟩;exact appS_2 r.out
  ·have c1:=st_pay w2 g F M n X f.out a0.out HX.out oM b oM;(go_wp2_with fail);refine(c1).mono ?_;rintro e w4 ⟨rfl,F4,M4,d⟩;have y:=dH (Hn.out.trans d);clear d;(go_wp2_with fail);go_ret;refine⟨_,_,F4,M4,rfl,?_,y.out⟩;exact appS_3 r.out
  ·have c1:=st_evict w2 g F M n X f.out a0.out HX.out oM c;(go_wp2_with fail);refine(c1).mono ?_;rintro e w4 ⟨rfl,F4,M4,d⟩;have y:=dH (Hn.out.trans d);clear d;(go_wp2_with fail);go_ret;refine⟨_,_,F4,M4,rfl,?_,y.out⟩;exact appS_4 r.out
  ·have c1:=st_unsub w2 g F M X f.out t (wL (entE_t r.out (by show(5:Int)<=6;decide)));(go_wp2_with fail);refine(c1).mono ?_;rintro e w4 ⟨rfl,F4,M4,d⟩;have y:=dH (Hn.out.trans d);clear d;(go_wp2_with fail);go_ret;refine⟨_,_,F4,M4,rfl,?_,y.out⟩;exact appS_6 r.out
  ·have V:=entE_t r.out (by show(5:Int)<=5;decide);have B:=wL V;have c1:=st_may w2 g F M X f.out t B;obtain⟨me,T⟩:=eX (lL X t)
   rw[T]at c1;have G:=dH T;have a1:=dH V;have b8:=dH B;clear T V B;(go_wp2_with fail);refine c1.mono ?_;rintro e w3 ⟨rfl,rfl⟩;clear c1;by_cases J:me=0
   ·subst J;have a7:1<=yF t/\yF t<=5:=by have:=fE t;have:=a1.out;omega
    have cV:=vnew_m t w2 oM a1.out;have b3:=dH a7;clear a7;(go_wp2_with fail);refine cV.mono ?_;rintro e w3 ⟨vg,vb,O,v,rfl,s,a8,Z⟩;obtain⟨b7,gs,bo,bv,Fd,Fs,N,R⟩:=f.out.sp;have a4:vg<w3.heap.size:=s.view.lt;have a5:=s.st (M++vg :: vb :: O) (λx hx=>mem_append_right _ (mem_cons_of_mem _ (mem_cons_of_mem _ hx)));have c2:=st_sub w2 w3 g b7 gs bo bv Fd Fs F M N n X R a0.out HX.out.pre oM Z vg vb t O [] v _ s.view a5 s.gO s.bO b8.out a8 (λx hx=>(mem_cons.1 hx).elim (λe=>by rw[e];exact a4) (s.lt x)) (mayE_no G.out) Ris.nil sI (.inl ⟨a1.out,(VSt.new_kind b3.out).symm,nodup_nil,sI,by rw[VSt.new_len];omega⟩);have ho:XP X t []=false:=rfl;rw[ho]at c2;simp only[Bool.false_eq_true,if_false]at c2;clear cV s a8 Z R a4 a5 ho;(go_wp2_with fail);refine(c2).mono ?_;rintro e w4 ⟨rfl,F4,M4,d⟩;have y:=dH (Hn.out.trans d);clear d;(go_wp2_with fail);go_ret;refine⟨_,_,F4,M4,rfl,?_,y.out⟩;exact appS_5 r.out G.out
   ·have c6:(me != 0)=true:=by simpa using J
    have HM:=dH J;clear J;(go_wp2_with fail);go_ret;exact⟨me,X,F,M,rfl,by rw[<-G.out];exact kg (.inl rfl) r.out (by rw[G.out];exact HM.out),Hn.out⟩
  ·have V:=entE_t r.out (by show(5:Int)<=7;decide);have B:=wL V;have c1:=st_may w2 g F M X f.out t B;obtain⟨me,T⟩:=eX (lL X t)
   rw[T]at c1;have G:=dH T;have a1:=dH V;have b8:=dH B;clear T V B;(go_wp2_with fail);refine c1.mono ?_;rintro e w3 ⟨rfl,rfl⟩;clear c1;by_cases J:me=0
   ·subst J;have a7:1<=yF t/\yF t<=5:=by have:=fE t;have:=a1.out;omega
    obtain⟨I,l,er,b4⟩:∃I l er,j2 idP b.data.toList 0=⟨I,l,er⟩:=⟨_,_,_,rfl⟩
    have cV:=vload_in t w2 b I l er M f.out.ltM oM oM a1.out a0.out.parts.lt b4;have b3:=dH a7;have b0:=dH b4;clear a7 b4;(go_wp2_with fail);refine cV.mono ?_;rintro e w3 ⟨P,E,rfl,b2,hP,B,Z⟩;have b9:=dH b2;by_cases hE:E=0
    ·subst hE;obtain⟨vg,vb,O,v,rfl,a2,a5,a8,a3⟩:=B rfl;obtain⟨b7,gs,bo,bv,Fd,Fs,N,R⟩:=f.out.sp;have U:=b2;unfold pO at U;split at U
     ·rename_i h0;exact absurd U.symm h0
     rename_i her
     split at U
     ·cases U
     rename_i A
     have A:Ris yC I:=(YC _).1 (by simpa using A);have c4:l.length<=3000/\I.length<=3000:=by
      have h4:=jQ nC (show(j2 idP b.data.toList 0).e=0 by rw[b0.out];exact Classical.not_not.1 her);rw[b0.out]at h4;have h5:I.length+l.length<=b.data.toList.length:=h4;have h6:b.data.toList.length=b.size:=rfl;omega
     have c3:VOk X.D ⟨t,I,stL (yF t) l⟩\/XP X t I=true:=by
      by_cases ho:XP X t I=true
      ·exact .inr ho
      ·refine .inl ⟨a1.out,(yq _ _ b3.out).symm,A.nodup vM,λi hi=>?_,?_⟩
       ·refine Classical.byContradiction λhn=>ho ?_;exact any_eq_true.2 ⟨i,hi,decide_eq_true hn⟩
       ·have:=stL_len b3.out U c4.1;show(stL (yF t) l).len<=100+I.length;omega
     have a4:vg<w3.heap.size:=a2.view.lt;have c2:=st_sub w2 w3 g b7 gs bo bv Fd Fs F M N n X R a0.out HX.out.pre oM Z vg vb t O I v _ a2.view a5 a2.gM a2.bO b8.out (λx hx=>(mem_cons.1 hx).elim (λe=>by rw[e];exact a3) (a8 x)) (λx hx=>(mem_cons.1 hx).elim (λe=>by rw[e];exact a4) (a2.lt x)) (mayE_no G.out) A oM c3;obtain⟨z,hz⟩:=eX (XP X t I)
     rw[hz]at c2;have Hz:=dH hz;clear cV b2 hP B a2 a5 a8 a3 Z R a4 U her A c4 c3 hz;cases z with
     | true =>
      simp only[if_true]at c2;(go_wp2_with fail);refine(c2).mono ?_;rintro e w4 ⟨rfl,F4,M4,d⟩;have y:=dH (Hn.out.trans d);clear d;(go_wp2_with fail);go_ret;refine⟨_,_,F4,M4,rfl,?_,y.out⟩;exact appS_7 r.out G.out b0.out b9.out (by rw[if_neg (by decide),if_pos Hz.out];exact⟨rfl,rfl⟩)
     | false =>
      simp only[Bool.false_eq_true,if_false]at c2;(go_wp2_with fail);refine(c2).mono ?_;rintro e w4 ⟨rfl,F4,M4,d⟩;have y:=dH (Hn.out.trans d);clear d;(go_wp2_with fail);go_ret;refine⟨_,_,F4,M4,rfl,?_,y.out⟩;exact appS_7 r.out G.out b0.out b9.out (by rw[if_neg (by decide),if_neg (by rw[Hz.out];decide)];exact⟨rfl,rfl⟩)
    ·have c2:=st_subE w3 g P E hE;have c9:=dH hE;have c7:=dH (j9.below H.out (yM b1.out Z));clear cV b2 hP B Z hE;(go_wp2_with fail);refine c2.mono ?_;rintro e w4 ⟨rfl,rfl⟩;clear c2;(go_wp2_with fail);go_ret;exact⟨E,X,F,M,rfl,appS_7 r.out G.out b0.out b9.out (by rw[if_pos c9.out];exact⟨rfl,rfl⟩),c7.out⟩
   ·have c6:(me != 0)=true:=by simpa using J
    have HM:=dH J;clear J;(go_wp2_with fail);go_ret;exact⟨me,X,F,M,rfl,by rw[<-G.out];exact kg (.inr rfl) r.out (by rw[G.out];exact HM.out),Hn.out⟩
 ·have d0:(E0 != 0)=true:=by simpa using L
  have HE:=dH L;clear L;(go_wp2_with fail);go_ret;refine⟨E0,X,F,M,rfl,?_,j9.below H.out b1.out⟩;unfold gG;rw[if_pos (by rw[r.out];exact HE.out)];exact⟨r.out.symm,rfl⟩
end
theorem st_new(w:World)(q:Int)(hv:dA w) :
  Calls prog 58 #[.int .i64 q] w λe w'=>(if 0<=q/\q<=4096 then ∃g F,e=.returned (.tuple #[.pointer (some ⟨g,0,none⟩),.int .i64 0])/\xG w' g F F ⟨q,[],[],[],[]⟩/\(∀x∈F,w.heap.size<=x)else e=.returned (.tuple #[.pointer none,.int .i64 1]))/\Below w.heap.size w w':=by
 have c1:=sto_new w q;have a0:=@run_makeMap prog;by_cases h:0<=q/\q<=4096
 ·simp only[if_pos h]at c1 |-;have Hv:=dH hv;clear hv;go_enter func58,ntmps58
  (go_wp2_with fail);refine c1.mono ?_;rintro e w1 ⟨gs,Fs,rfl,B,I,k⟩;have cD:=dag_new w1;have O:=dH B;have U:=dH I;have t:=dH k;clear c1 B I k;(go_wp2_with fail);refine cD.mono ?_;rintro e w2 ⟨gd,Fd,rfl,G,J,H⟩;have R:=dH G;have V:=dH J;have T:=dH H;clear cD G J H;(go_wp2_with fail);go_ret2;obtain⟨w3,s⟩:=eR (w2.alloc (.map #[] 0))
  obtain⟨w4,r⟩:=eR (w3.alloc (.map #[] 0))
  obtain⟨w5,m⟩:=eR (w4.alloc (.cells (stC gd gs w2.heap.size (w2.heap.size+1)) 32))
  have z3:w3.heap.size=w2.heap.size+1:=by rw[s];simp
  have z4:w4.heap.size=w2.heap.size+1+1:=by rw[r];simp[z3]
  have z5:w5.heap.size=w2.heap.size+1+1+1:=by rw[m];simp[z4]
  have Y:Below w2.heap.size w2 w3:=by rw[s];exact bA
  have L:Below w3.heap.size w3 w4:=by rw[r];exact bA
  have A:Below w4.heap.size w4 w5:=by rw[m];exact bA
  have M:=yM (yM Y L) A;have N:=yM T.out M;have Z:=yM t.out N;have hO:jM w5 w2.heap.size []:=((by rw[s];exact yJ.new w2 w2.heap.size rfl:jM w3 w2.heap.size []).below L).below A;have X:yK w4 (w2.heap.size+1) Value.string fA fD ([]:List (ByteArray×Nat)) #[] 0:=by rw[r,<-z3];exact yK.new w3 w3.heap.size rfl
  have hV:yK w5 (w2.heap.size+1) Value.string fA fD ([]:List (ByteArray×Nat)) #[] 0:=X.kept (z8.of_below A) sI;have hg:w5.heap[w2.heap.size+1+1]?=some (.cells (stC gd gs w2.heap.size (w2.heap.size+1)) 32 (0,0)):=by rw[m,<-z4];exact heap_alloc_new _ _
  show(∃g F,_/\xG ((((w2.alloc (.map #[] 0)).alloc (.map #[] 0)).alloc (.cells (stC gd gs w2.heap.size (w2.heap.size+1)) 32))) g F F _/\_)/\_;rw[<-s,<-r,<-m];have s0:=t.out.size;have s1:=T.out.size;have j:=R.out.lt;have f:=O.out.lt;have D:fR w5 (w2.heap.size+1+1) gd gs w2.heap.size (w2.heap.size+1) Fd Fs (vR (w2.heap.size+1+1) w2.heap.size (w2.heap.size+1) Fd Fs []).flatten [] ⟨q,[],[],[],[]⟩:=by
   refine⟨hg,R.out.below M,O.out.kept (z8.of_below N) sI,hO,⟨[],#[],0,hV,Perm.refl _⟩,sI,rfl,?_⟩;unfold v7 vR;simp only[map_nil,pairwise_cons,mem_cons,not_mem_nil,or_false,false_imp_iff,implies_true,Pairwise.nil,and_true];refine⟨λb hb x hx d=>?_,λb hb x hx d=>?_,λb hb x hx d=>?_,λb hb x hx d=>?_⟩
   ·subst hx;rcases hb with rfl | rfl | rfl | rfl
    ·rw[mem_singleton]at d;omega
    ·rw[mem_singleton]at d;omega
    ·have:=j _ d;omega
    ·have:=f _ d;omega
   ·subst hx;rcases hb with rfl | rfl | rfl
    ·rw[mem_singleton]at d;omega
    ·have:=j _ d;omega
    ·have:=f _ d;omega
   ·subst hx;rcases hb with rfl | rfl
    ·have:=j _ d;omega
    ·have:=f _ d;omega
   ·subst hb;have h1:=V.out x hx;have h2:=f _ d;omega
  have E:∀x∈(vR (w2.heap.size+1+1) w2.heap.size (w2.heap.size+1) Fd Fs []).flatten,w.heap.size<=x:=λx hx=>by
   rcases bG.1 hx with e | e | e | e | e | ⟨p,hp,e⟩
   ·omega
   ·omega
   ·omega
   ·have:=V.out x e;omega
   ·exact U.out x e
   ·simp at hp
  refine⟨⟨_,_,rfl,⟨gd,gs,_,_,Fd,Fs,[],D,rfl,λ_ hx=>hx,λx hx=>?_,?_⟩,E⟩,Z⟩
  ·obtain⟨b,hb,hx⟩:=mem_flatten.1 hx;exact D.lt b hb x hx
  ·exact dK.more Hv.out (F:=[]) ⟨sI,sI,sI⟩ (λy hy=>.inr (E y hy))
 ·simp only[if_neg h]at c1 |-;clear h;go_enter func58,ntmps58
  (go_wp2_with fail);refine c1.mono ?_;rintro e w1 ⟨rfl,k⟩;have t:=dH k;clear k c1;(go_wp2_with fail);go_ret2;exact⟨rfl,t.out⟩
end Go.Proofs.YtddopbhcpblpjaaGreatDoor
