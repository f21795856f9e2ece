/- Part 10 of the texts that lead to this claim: the walks of the functions and the plain law, in order. -/
import Derived.Test.YtplpiicfkbpkaaaGreatDoorMk9
namespace Go.Proofs.YtplpiicfkbpkaaaGreatDoor
open Go.RowKit
open List hiding and get max min or set
open Go.Proofs.Tryz
open World
set_option maxRecDepth 100000
set_option maxHeartbeats 8000000
variable {g k n:Nat}{D:List HdX}{w:World}{N:List (Id32×HdIn)}{Tm:List (ByteArray×Sl)}{Cm:List (Id32×Sl)}{b t:ByteArray}{i:Id32}{x:HdIn}{L1 L2:List (List Nat)}{a:List Nat}{X:StX}{S:List Pay}{v:VwX}
@[go_sem] theorem bdHd0(w:World):(bdS 49 #[]).run prog w=.ok (.agg (hdC hd0)) w:=kR
theorem dag_get(w:World)(g:Nat)(F:List Nat)(D:List HdX)(h:DagAt w g F D)(hn:(idsX D).Nodup)(a:Id32)(E:∀x,hdOf D a=some x->x.ps.length<=1000000) :
  Calls prog 117 #[.pointer (some ⟨g,0,none⟩),.agg (idC a)] w λe w'=>((∃x A' c',hdOf D a=some x/\e=.returned (.tuple #[.agg (hdR ⟨x,A',c'⟩),.int .i64 0])/\Own w' w.heap.size 23 32 A' x.ps.length c' (x.ps.map idC))\/(hdOf D a=none/\e=.returned (.tuple #[.agg (hdC hd0),.int .i64 7])))/\Below w.heap.size w w':=by
 obtain⟨bh,bp,bt,bc,N,Tm,Cm,h,rfl⟩:=h;have hB:Below w.heap.size w ((w.alloc (.cells (idC a) 23)).alloc (.cells (hdC hd0) 49)):=(bA).alloc sI _;have m:rowAt ((w.alloc (.cells (idC a) 23)).alloc (.cells (hdC hd0) 49)) w.heap.size 0 32=some (idC a):=by
  rw[rowAt_of_block (Below.heap_alloc _ _ _ sI)];simp[go_sem]
 have x1:((w.alloc (.cells (idC a) 23)).alloc (.cells (hdC hd0) 49)).heap[w.heap.size+1]?=some (.cells (hdC hd0) 49 (0,0)):=by
  have:=heap_alloc_new (w.alloc (.cells (idC a) 23)) (.cells (hdC hd0) 49)
  rwa [(sI:(w.alloc (.cells (idC a) 23)).heap.size=w.heap.size+1)]at this
 obtain⟨W,hW⟩:=eR ((w.alloc (.cells (idC a) 23)).alloc (.cells (hdC hd0) 49))
 obtain⟨ga,H⟩:=eX w.heap.size
 rw[<-hW]at m hB x1;rw[H]at m x1;have c0:=(h.c0 W hB).1;obtain⟨gb,M⟩:=eX W.heap.size
 have c1:=dag_none W g bh c0;have HW:=dH hW;have HB:=dH hB;have B:=dH H;have I:=dH M;have Y:=h.look hn a;have d:=h.ps;clear hW hB H M h;have s:ga+1<W.heap.size:=(aG x1).1;rcases Y with⟨x,hx,he,hl⟩ | ⟨he,hl⟩
 ·have ho:=d _ hx;have L:=E _ he;rw[he];have hl:∀y:Subtype (Bel W),(Instr.lookup 219 (.map (some bh)) (.agg (idC a)) true).run prog y.1=.ok (.tuple #[.agg (hdR x),.bool true]) y.1:=λy=>hl y.1 (HB.out.trans (y.2.mono HB.out.size)) true;have cc:=fun (V:World) (hV:Below w.heap.size w V)=>dag_copied V ⟨x.h,x.A,x.c⟩ (SlR.below ho.slr hV) L ho.cap0;have r:=storeHd_drew W W.heap.size rfl (hdC hd0) sI (hdO x.h x.A x.c) (dO_one x) 49;clear d E hx he ho L;go_enter func117,ntmps117
  (go_wp2_with fail);rw[<-HW.out,B.out];refine c1.mono ?_;rintro e w' ⟨rfl,rfl⟩;clear c1;go_upto_region 3 with fail
  refine lX W ?_;intro G hS;have b1:=sub_cell c0;have b2:=sub_row m;refine lZ ?_;have t:=hS;refine lH ?_;intro K hK;refine step_keep (bel_alloc hS _) (λhS=>?_);refine hK _ _ ?_;clear hK K;refine lH ?_;intro K hK;refine step_keep (bel_alloc t (.cells (hdR x) 49)) (λhS=>?_);refine hK _ _ ?_;clear hK K;refine lZ ?_;refine wpLx_nil ?_;intro hS;have T:rowAt (W.alloc (.cells (hdR x) 49)).drew gb 0 38=some (hdR x):=by rw[<-I.out];simp[go_sem,hdR]
  have f:Below W.heap.size W (W.alloc (.cells (hdR x) 49)).drew:=hS;rw[show(W.alloc (.cells (hdC (hdO x.h x.A x.c)) 49)).drew=(W.alloc (.cells (hdR x) 49)).drew from rfl,I.out];obtain⟨Z,hZ⟩:=eX ((W.alloc (.cells (hdR x) 49)).drew)
  rw[hZ]at f T |-;have z1:=(f.block (ga+1) s).trans x1;have c2:=cc Z (HB.out.trans (f.mono HB.out.size));have j:=dH (HB.out.trans (f.mono HB.out.size));have Hz:ga+1<Z.heap.size:=(aG z1).1;clear G hS t b1 b2 hl r cc hZ f x1 c0 m s;(go_wp2_with fail);refine c2.mono ?_;rintro e w1 ⟨A',c',rfl,ho,hb⟩;have z2:=(hb.block (ga+1) Hz).trans z1;have r:=run_stS_at (P:=prog) infoHd w1 (ga+1) (hdC hd0) (hdR ⟨x.h,A',c'⟩) _ z2 sI (by simp[hdR]) (hdC_one _ (dO_one ⟨x.h,A',c'⟩));have k:=dH (setRow_heap w1 (ga+1) _ (hdR ⟨x.h,A',c'⟩) _ _ z2);have hk:=kRow w1 (ga+1) (hdR ⟨x.h,A',c'⟩);have O:Below w.heap.size w (w1.setRow (ga+1) (hdR ⟨x.h,A',c'⟩)):=(j.out.trans (hb.mono j.out.size)).trans (hk.below (Nat.le_trans j.out.size hb.size) (oS B.out));have X:=dH ((ho.kept hk (λy hy=>oS (ho.at_base hy))).mono j.out.size);have J:=dH O;clear hk O c2 ho hb z1 z2 Hz;(go_wp2_with fail);refine bodyPost_ret (results_ct results117 _ _ (ga+1) 49 (hdR ⟨x.h,A',c'⟩) (0,0) _ rfl k.out underlying49 rfl (by rw[hdC_size];exact infoHd)) rfl ?_;exact⟨.inl ⟨x.h,A',c',rfl,rfl,X.out⟩,J.out⟩
 ·rw[he];have hl:∀y:Subtype (Bel W),(Instr.lookup 219 (.map (some bh)) (.agg (idC a)) true).run prog y.1=.ok (.tuple #[.agg (hdC hd0),.bool false]) y.1:=λy=>hl y.1 (HB.out.trans (y.2.mono HB.out.size)) true;have r:=storeHd_drew W W.heap.size rfl (hdC hd0) sI hd0 d0_one 49;clear d E he;go_enter func117,ntmps117
  (go_wp2_with fail);rw[<-HW.out,B.out];refine c1.mono ?_;rintro e w' ⟨rfl,rfl⟩;clear c1;go_upto_region 3 with fail
  refine lX W ?_;intro G hS;have b1:=sub_cell c0;have b2:=sub_row m;refine lZ ?_;have t:=hS;refine lH ?_;intro K hK;refine step_keep (bel_alloc hS _) (λhS=>?_);refine hK _ _ ?_;clear hK K;refine lH ?_;intro K hK;refine hK _ _ ?_;clear hK K;refine lZ ?_;refine wpLx_nil ?_;intro hS;have f:Below W.heap.size W (W.alloc (.cells (hdC hd0) 49)).drew:=hS;rw[I.out];obtain⟨Z,hZ⟩:=eX ((W.alloc (.cells (hdC hd0) 49)).drew)
  rw[hZ]at f |-;have z1:=(f.block (ga+1) s).trans x1;have R:=run_stS_at (P:=prog) infoHd Z (ga+1) (hdC hd0) (hdC hd0) _ z1 sI sI (hdC_one _ d0_one);have k:=dH (setRow_heap Z (ga+1) _ (hdC hd0) _ _ z1);have hk:=kRow Z (ga+1) (hdC hd0);have j:=HB.out.trans (f.mono HB.out.size);have J:=dH (j.trans (hk.below j.size (oS B.out)));clear G hS t b1 b2 hl r hZ f x1 c0 m s hk j z1;(go_wp2_with fail);refine bodyPost_ret (results_ct results117 _ _ (ga+1) 49 (hdC hd0) (0,0) _ rfl k.out underlying49 rfl (by rw[hdC_size];exact infoHd)) rfl ?_;exact⟨.inr (by first | exact⟨rfl,rfl⟩ | exact⟨trivial,rfl⟩),J.out⟩
abbrev iC(x:Int):Array Value:=#[.int .i64 x]
def topL(L:List Int):Int:=L.foldl max 0
theorem topL_range:∀(L:List Int) (m:Int),0<=m->m<=1073741824->(∀x∈L,x<=1073741824)->0<=L.foldl max m/\L.foldl max m<=1073741824
 | [],m,h0,h1,_=>⟨h0,h1⟩
 | x :: L,m,h0,h1,h=>topL_range L (max m x) oM (oH (h x sI)) (λy hy=>h y (by simp[hy]))
theorem topL_step(L:List Int)(hk:k<L.length):topL (L.take (k+1))=max (topL (L.take k)) L[k]:=by
 unfold topL;rw[take_succ_eq_append_getElem hk,foldl_append];rfl
theorem rule_above(w:World)(A:Option Addr)(n cap:Nat)(L:List Int)(h:SlR w A n 1 (L.map iC))(hL:∀x∈L,x<=1073741824)(hn:n<=1000000) :
  Calls prog 180 #[.slice A n cap] w λe w'=>e=.returned (.int .i64 (topL L+1))/\w=w':=by
 have f:L.length=n:=by simpa using h.1
 obtain⟨t1,t2⟩:=topL_range L 0 oM oM hL;have HT:=dH (show 0<=topL L/\topL L<=1073741824 from⟨t1,t2⟩);clear t1 t2;go_enter func180,ntmps180
 go_upto_region 3 with fail
 go_loopw [3,5,8] (λm _ i wr=>∃(k:Nat) (v:Int),k<=n/\i=.int .i64 k/\m=.int .i64 v/\Hid (topL (L.take k)=v)/\w=wr) (λ_ _ i _=>n-(intOf i).toNat)
 case atStart=>exact⟨0,0,zL,rfl,rfl,(show _=_ from rfl),rfl⟩
 case round =>
  obtain⟨k,v,hk,rfl,rfl,hg,rfl⟩:=hrel;by_cases s:k<n
  ·have r:k<L.length:=oM;obtain⟨q,o,rfl,hr⟩:=h.at_ s;rw[getElem_map]at hr;have d:=topL_step L r;rw[hg.out]at d;obtain⟨x,hx⟩:=eX (L[k]'r)
   rw[hx]at hr d;have hc:w.cell? ⟨q,o+k,none⟩=some (.int .i64 x):=by
    have:=rowAt_cell hr (j:=0) oM;simpa using this
   have t:=dH d;clear d hx hg hr f;(go_wp2_with fail);exact⟨⟨k+1,_,oM,rfl,rfl,t,trivial⟩,by simp only[intOf];omega⟩
  ·have g:L.take k=L:=take_of_length_le oM;have Hg:Hid (topL L=v):=(show _=_ by rw[<-g];exact hg.out)
   have B:0<=v:=by rw[<-Hg.out];exact HT.out.1
   have y:v<=1073741824:=by rw[<-Hg.out];exact HT.out.2
   clear g hg;(go_wp2_with fail);go_ret;exact⟨ret_int (by rw[Hg.out]),rfl⟩
theorem einfoIn8:ElemInfo prog 231 3 1 8 :=
 .of (z:=.int .i64 0) underlying231 kR kR kR rfl oM
theorem infoIn8:∃i,prog.info? 3=some i/\i.zero=some (.int .i64 0)/\i.size=1/\i.bytes=8:=by
 have h:(prog.info? 3).map (λi=>(i.zero,i.size,i.bytes))=some (some (.int .i64 0),1,8):=kR;cases e:prog.info? 3 with
 | none=>rw[e]at h;cases h
 | some i =>
  rw[e]at h;injection h with h;injection h with h1 h;injection h with h2 h3
  exact⟨i,rfl,h1,h2,h3⟩
theorem iC_one(x:Int):∀u∈(iC x).toList,u.oneCell'=true:=by intro u hu;simp at hu;subst hu;rfl
theorem mkInts(w:World)(n:Nat)(hn:n<=1000000):∃w',(Instr.makeSlice 231 (.int .i64 0) (.int .i64 n)).run prog w=.ok (.slice (some ⟨w.heap.size,0,none⟩) 0 n) w'/\Own w' w.heap.size 3 1 (some ⟨w.heap.size,0,none⟩) 0 n []/\Below w.heap.size w w':=by
 obtain⟨i,h1,h2,h3,h4⟩:=infoIn8;obtain⟨w',e1,e2,e3⟩:=run_makeSlice_owned (P:=prog) (w:=w) w.heap.size 231 3 i (.int .i64 0) 1 underlying231 h1 h2 h3 .i64 .i64 n oM (by rw[h4];omega) (by unfold maxLen;omega) lR;refine⟨w',e1,⟨e2,rfl,sI⟩,(Keep.grown e3).below lR sI⟩
theorem rule_height(w:World)(A:Option Addr)(n cap:Nat)(L:List Hd)(h:SlR w A n 38 (L.map hdC))(ho:∀x∈L,x.ps.oneCell'=true)(hn:n<=100000) :
  Calls prog 116 #[.slice A n cap] w λe w'=>e=.returned (.int .i64 (topL (L.map λx=>min x.ht 1073741824)+1))/\Below w.heap.size w w':=by
 have f:L.length=n:=by simpa using h.1
 obtain⟨W,B,d,hB⟩:=mkInts w n oM;have O:=dH f;have HW:Hid (w.heap.size<=W.heap.size):=dH hB.size;go_enter func116,ntmps116
 go_upto_region 3 with fail
 go_loopw [3,5,11] (λl _ i wr=>∃(k:Nat) (A':Option Addr) (c':Nat),k<=n/\i=.int .i64 k/\l=.slice A' k c'/\Own wr w.heap.size 3 1 A' k c' ((L.take k).map λx=>iC (min x.ht 1073741824))/\Below w.heap.size w wr) (λ_ _ i _=>n-(intOf i).toNat)
 case atStart=>exact⟨0,_,_,zL,rfl,rfl,by simpa using d,hB⟩
 case round =>
  obtain⟨k,A',c',hk,rfl,rfl,g,hb⟩:=hrel;by_cases H:k<n
  ·have r:k<L.length:=oM;obtain⟨q,o,rfl,hr⟩:=(SlR.below h hb).at_ H;rw[getElem_map]at hr;obtain⟨x,hx⟩:=eX (L[k]'r)
   have V:x.ps.oneCell'=true:=by rw[<-hx];exact ho _ (getElem_mem r)
   have E:(L.take (k+1)).map (λx=>iC (min x.ht 1073741824))=(L.take k).map (λx=>iC (min x.ht 1073741824)) ++ [iC (min x.ht 1073741824)]:=by
    rw[take_succ_eq_append_getElem r,map_append,hx];rfl
   rw[hx]at hr;have R:=dH E;have m:Below wr.heap.size wr ((wr.alloc (.cells (hdC x) 49)).alloc (.cells (iC (min x.ht 1073741824)) 3)):=(bA).alloc sI _;have t:=g.below m;have j:rowAt ((wr.alloc (.cells (hdC x) 49)).alloc (.cells (iC (min x.ht 1073741824)) 3)) (wr.heap.size+1) 0 1=some (iC (min x.ht 1073741824)):=by simp[go_sem]
   have N:∀y∈blk A',w.heap.size<=y:=λy hy=>(g.at_base hy).1;have M:w.heap.size<=((wr.alloc (.cells (hdC x) 49)).alloc (.cells (iC (min x.ht 1073741824)) 3)).heap.size:=Nat.le_trans hb.size m.size;have F:=dH (hb.trans (m.mono hb.size));clear E hx f B d hB m g hb;go_wp2_with (at_builtin;refine L_append einfoIn8 rfl t rfl j (iC_one _) oM oM M ?_;clear t j;intro A2 s w2 G J T)
   exact⟨⟨k+1,A2,s,oM,rfl,rfl,by rw[R.out];exact G,F.out.trans (J.below F.out.size N)⟩,by simp only[intOf];omega⟩
  ·have I:k=n:=oM;subst I;have D:L.take k=L:=take_of_length_le oM;rw[D]at g;have ca:=rule_above wr A' k c' (L.map λx=>min x.ht 1073741824) (by rw[map_map];exact g.slr) (by intro x hx;obtain⟨y,_,rfl⟩:=mem_map.1 hx;omega) oM;have HF:=dH hb;clear D B d hB f hb g;(go_wp2_with fail);refine ca.mono ?_;rintro e w' ⟨rfl,rfl⟩;clear ca;(go_wp2_with fail);go_ret;exact⟨rfl,HF.out⟩
theorem unkX_step(ps:List Id32)(hk:k<ps.length):unkX D (ps.take (k+1))=if decide (ps[k]∈idsX D)=true then unkX D (ps.take k)else unkX D (ps.take k) ++ [ps[k]]:=by
 unfold unkX;rw[take_succ_eq_append_getElem hk,filter_append];by_cases h:ps[k]∈idsX D
 ·rw[if_pos (decide_eq_true h)];simp[h]
 ·rw[if_neg (by simpa using h)];simp[h]
theorem unkX_len(D:List HdX)(ps:List Id32):(unkX D ps).length<=ps.length:=length_filter_le _ _
theorem dag_unknown(w:World)(g:Nat)(F:List Nat)(D:List HdX)(h:DagAt w g F D)(a2:(idsX D).Nodup)(x:HdIn)(hT:TagsIn w x.A x.h.ps.length x.h.ps)(hn:x.h.ps.length<=100000) :
  Calls prog 235 #[.pointer (some ⟨g,0,none⟩),.agg (hdR x)] w λe w'=>∃s:Sl,e=.returned (slV s)/\s.n=(unkX D x.h.ps).length/\Own w' w.heap.size 23 32 s.A s.n s.c ((unkX D x.h.ps).map idC)/\Below w.heap.size w w':=by
 obtain⟨hv,A0,c0⟩:=x;have hB:Below w.heap.size w (w.alloc (.cells (hdR ⟨hv,A0,c0⟩) 49)):=bA;have x0:(w.alloc (.cells (hdR ⟨hv,A0,c0⟩) 49)).cell? ⟨w.heap.size,0,none⟩=some (.slice A0 hv.ps.length c0):=by simp[go_sem,hdR,hdO]
 obtain⟨R,hR⟩:=eX hv.ps
 simp only[hR]at x0 hT hn |-;have hd:=h;obtain⟨bh,bp,bt,bc,N,Tm,Cm,hi,_⟩:=h;have cN:=dag_none _ g bh (hi.c0 _ hB).1;clear hi;go_enter func235,ntmps235
 (go_wp2_with fail);refine cN.mono ?_;rintro e w' ⟨rfl,rfl⟩;clear cN;go_upto_region 5 with fail
 go_loopw [5,7,13] (λl _ i wr=>∃(k:Nat) (A:Option Addr) (n cap:Nat),k<=R.length/\i=.int .i64 k/\l=.slice A n cap/\Hid (n=(unkX D (R.take k)).length)/\Own wr w.heap.size 23 32 A n cap ((unkX D (R.take k)).map idC)/\Below w.heap.size w wr) (λ_ _ i _=>R.length-(intOf i).toNat)
 case atStart=>exact⟨0,none,0,0,zL,rfl,rfl,(show _=_ from rfl),Own.nil _ _ _ _,hB⟩
 case round =>
  obtain⟨k,A,n,cap,hk,rfl,rfl,j,ho,hb⟩:=hrel;have a8:n<=R.length:=by rw[j.out];exact Nat.le_trans (unkX_len _ _) sO
  by_cases E:k<R.length
  ·obtain⟨q,o,rfl,hr⟩:=TagsIn.get (SlR.below hT hb) E E;have m:=unkX_step (D:=D) R E;obtain⟨p,hp⟩:=eX (R[k]'E)
   rw[hp]at hr m;have V:Below wr.heap.size wr (wr.alloc (.cells (idC p) 23)):=bA;have I:=hb.trans (V.mono hb.size);have r:rowAt (wr.alloc (.cells (idC p) 23)) wr.heap.size 0 32=some (idC p):=by simp[go_sem]
   have cH:=dag_has _ g F D (hd.below I) a2 p;have O:=ho.below V;obtain⟨t,ht⟩:=eX (decide (p∈idsX D))
   rw[ht]at m cH;have G:wr.heap.size<(wr.alloc (.cells (idC p) 23)).heap.size:=sI;obtain⟨W,hW⟩:=eR (wr.alloc (.cells (idC p) 23))
   obtain⟨gp,T⟩:=eX wr.heap.size
   rw[<-hW]at I r cH O G;rw[T]at r G;have HW:=dH hW;have a6:=dH T;have d:=dH m;have a0:=dH I;clear hp ht V ho hb hd hB hW T m I;(go_wp2_with fail);rw[<-HW.out,a6.out];refine cH.mono ?_;rintro e w1 ⟨rfl,H⟩;have M:=((Keep.of_below H).row G sI _ _).trans r;have B:=O.below H;have L:=dH (a0.out.trans (H.mono a0.out.size));clear cH r O H G;cases t with
   | true =>
    have d:=dH (d.out.trans (if_pos rfl));clear M;(go_wp2_with fail);go_roundw
    case rel=>exact⟨k+1,A,n,cap,oM,by go_num,rfl,(show _=_ by rw[d.out];exact j.out),by rw[d.out];exact B,L.out⟩
    case measure=>exact sZ
   | false =>
    have d:=dH (d.out.trans (if_neg (by decide)));have J:Below w1.heap.size w1 (w1.alloc (.cells (idC p) 23)):=bA;have Y:=B.below J;have f:rowAt (w1.alloc (.cells (idC p) 23)) w1.heap.size 0 32=some (idC p):=by simp[go_sem]
    have a4:w.heap.size<=(w1.alloc (.cells (idC p) 23)).heap.size:=Nat.le_trans L.out.size J.size;have a5:∀y∈blk A,w.heap.size<=y:=λy hy=>(B.at_base hy).1;have U:=dH (L.out.trans (J.mono L.out.size));clear J B;go_wp2_with (at_builtin;refine L_append einfoId rfl Y rfl f (idC_one _) oM oM a4 ?_;clear Y f;intro A2 X w2 a1 a3 a7)
    go_roundw
    case rel=>exact⟨k+1,A2,n+1,X,oM,by go_num,rfl,(show _=_ by rw[d.out,length_append,<-j.out];rfl),by rw[d.out,map_append];exact a1,U.out.trans (a3.below U.out.size a5)⟩
    case measure=>exact sZ
  ·have Z:R.take k=R:=take_of_length_le oM;have HF:=dH (And.intro j.out (And.intro ho hb));rw[Z]at HF;clear Z j ho hb;(go_wp2_with fail);go_ret;exact⟨⟨A,n,cap⟩,rfl,HF.out⟩
theorem einfoHd:ElemInfo prog 95 49 38 104 :=
 .of (z:=.agg (hdC hd0)) underlying95 kR kR kR (hdC_size _) oM
@[go_sem ↓] theorem bsHd_rw(n:Nat)(parts:Array (Nat×Value)):Instr.buildSlice 95 n parts=bsS 95 n parts:=rfl
@[go_sem] theorem bsHd_run(w:World)(x:Hd):(bsS 95 1 #[(0,.agg (hdC x))]).run prog w=.ok (.slice (some ⟨w.heap.size,0,none⟩) 1 1) (w.alloc (.cells (hdC x) 49)) :=
 run_bsS1 einfoHd oM w (hdC x) (hdC_size x)
theorem topX_topL(D:List HdX)(ps:List Id32):topX D ps=topL (ps.map λp=>min (htX D p) 1073741824)+1:=by
 unfold topX topL;rw[foldl_map]
theorem DagIn.lookHd{bh bp bt bc:Nat}(h:DagIn w g D bh bp bt bc N Tm Cm)(hn:(idsX D).Nodup)(a:Id32) :
  ∃v:Hd,v.ps.oneCell'=true/\v.ht=htX D a/\∀w2,Below w.heap.size w w2->(Instr.lookup 219 (.map (some bh)) (.agg (idC a)) false).run prog w2=.ok (.agg (hdC v)) w2:=by
 rcases h.look hn a with⟨x,_,he,hl⟩ | ⟨he,hl⟩
 ·exact⟨hdO x.h x.A x.c,dO_one x,by unfold htX;rw[he];rfl,λw2 hb=>hl w2 hb false⟩
 ·exact⟨hd0,d0_one,by unfold htX;rw[he];rfl,λw2 hb=>hl w2 hb false⟩
theorem dag_verdict(w:World)(g:Nat)(F:List Nat)(D:List HdX)(h:DagAt w g F D)(c8:(idsX D).Nodup)(x:HdIn)(hT:TagsIn w x.A x.h.ps.length x.h.ps)(hn:x.h.ps.length<=100000)(d8:x.h.tp.size<=9223372036854775807) :
  Calls prog 191 #[.pointer (some ⟨g,0,none⟩),.agg (hdR x)] w λe w'=>e=.returned (.int .i64 (verX D x.h))/\Below w.heap.size w w':=by
 obtain⟨hv,A0,c0⟩:=x;have hB:Below w.heap.size w (w.alloc (.cells (hdR ⟨hv,A0,c0⟩) 49)):=bA;have I:rowAt (w.alloc (.cells (hdR ⟨hv,A0,c0⟩) 49)) w.heap.size 0 38=some (hdR ⟨hv,A0,c0⟩):=by simp[go_sem,hdR]
 obtain⟨W,hW⟩:=eR (w.alloc (.cells (hdR ⟨hv,A0,c0⟩) 49))
 obtain⟨ga,b5⟩:=eX w.heap.size
 rw[<-hW]at hB I;rw[b5]at I;have HW:=dH hW;have HB:=dH hB;have f0:=dH b5;have ck:=hd_check W hv A0 c0 (SlR.below hT hB) (by show hv.ps.length<=_;have:hv.ps.length<=100000:=hn;omega) d8;obtain⟨E,hE⟩:=eX (hdE hv)
 have m:verX D hv=if E≠0 then E else if unkX D hv.ps≠[]then 11 else if topX D hv.ps≠hv.ht then 12 else 0:=by rw[<-hE];rfl
 rw[hE]at ck;obtain⟨V,hV⟩:=eX (verX D hv)
 show Calls prog 191 #[.pointer (some ⟨g,0,none⟩),.agg (hdR ⟨hv,A0,c0⟩)] w λe w'=>e=.returned (.int .i64 (verX D hv))/\Below w.heap.size w w';rw[hV]at m |-;have HV:=dH m;have T:=h;clear hW hB b5 hE m hV h;go_enter func191,ntmps191
 (go_wp2_with fail);rw[<-HW.out,f0.out];refine ck.mono ?_;rintro e w1 ⟨rfl,b7⟩;have U:=dH (HB.out.trans (b7.mono HB.out.size));have r:=((Keep.of_below b7).row (rowAt_lt I) sI _ _).trans I;clear ck I b7;by_cases B:E=0
 ·have e6:(E != 0)=false:=by rw[bne_eq_false_iff_eq];exact B
  have a0:=dH B;have cu:=dag_unknown w1 g F D (T.below U.out) c8 ⟨hv,A0,c0⟩ (SlR.below hT U.out) hn;clear B;(go_wp2_with fail);refine cu.mono ?_;rintro e w2 ⟨⟨A2,n2,c2⟩,rfl,s,_,b6⟩;have d:=((Keep.of_below b6).row (rowAt_lt r) sI _ _).trans r;have f:=dH (U.out.trans (b6.mono U.out.size));replace s:n2=(unkX D hv.ps).length:=s;clear cu r b6;unfold slV;by_cases hu:unkX D hv.ps = []
  ·have c9:n2=0:=by rw[s,hu];rfl
   subst c9;have HU:=dH hu;clear hu s;have q0:w2.cell? ⟨ga,0,none⟩=some (.slice A0 hv.ps.length c0):=by have:=rowAt_cell d (j:=0) oM;rw[Nat.zero_add]at this;rw[this];simp[hdR,hdO,hdC]
   have q1:w2.cell? ⟨ga,1,none⟩=some (.int .i64 hv.ht):=by have:=rowAt_cell d (j:=1) oM;rw[Nat.zero_add]at this;rw[this];simp[hdR,hdO,hdC]
   obtain⟨R,hR⟩:=eX hv.ps
   have c1:=HV;simp only[hR]at q0 hT hn HU c1;have e1:ga<w2.heap.size:=rowAt_lt d;have d4:Hid (w.heap.size<=w2.heap.size):=dH f.out.size;clear d;go_upto_region 8 with fail
   go_loopw [6,8,22] (λl _ i wr=>∃(k:Nat) (A:Option Addr) (cap:Nat) (xs:List Hd),k<=R.length/\i=.int .i64 k/\l=.slice A k cap/\Hid (xs.map Hd.ht=(R.take k).map (htX D))/\Hid (∀x∈xs,x.ps.oneCell'=true)/\Own wr w2.heap.size 49 38 A k cap (xs.map hdC)/\Below w2.heap.size w2 wr) (λ_ _ i _=>R.length-(intOf i).toNat)
   case atStart=>exact⟨0,none,0,[],zL,rfl,rfl,(show _=_ from rfl),(sI:∀x∈[],_),Own.nil _ _ _ _,Below.refl _ _⟩
   case round =>
    obtain⟨k,A,cap,xs,hk,rfl,rfl,a5,O,ho,hb⟩:=hrel;by_cases a2:k<R.length
    ·obtain⟨q,o,rfl,hr⟩:=TagsIn.get (SlR.below hT (f.out.trans (hb.mono f.out.size))) a2 a2;have a6:(R.take (k+1)).map (htX D)=(R.take k).map (htX D) ++ [htX D R[k]]:=by rw[take_succ_eq_append_getElem a2,map_append];rfl
     obtain⟨p,hp⟩:=eX (R[k]'a2)
     rw[hp]at hr a6;have b8:Below wr.heap.size wr (wr.alloc (.cells (idC p) 23)):=bA;have a8:rowAt (wr.alloc (.cells (idC p) 23)) wr.heap.size 0 32=some (idC p):=by simp[go_sem]
     have a4:=hb.trans (b8.mono hb.size);have G:=f.out.trans (a4.mono f.out.size);obtain⟨bh,bp,bt,bc,N,Tm,Cm,a3,_⟩:=T;obtain⟨v,c6,c5,c4⟩:=a3.lookHd c8 p;have a1:=ho.below b8;have d2:=(a3.c0 _ G).1;have f1:g<w.heap.size:=(aG a3.heap).1;obtain⟨Z,hZ⟩:=eR (wr.alloc (.cells (idC p) 23))
     obtain⟨gp,b4⟩:=eX wr.heap.size
     have b3:gp∉blk A:=λhx=>(oH ((ho.at_base hx).2));rw[<-hZ]at a8 a4 G a1 d2;rw[b4]at a8;have e2:g∉blk A:=λhx=>(by have:=(ho.at_base hx).1;have:=d4.out;omega);have e0:∀y:Subtype (Kp (blk A) Z),(Instr.lookup 219 (.map (some bh)) (.agg (idC p)) false).run prog y.1=.ok (.agg (hdC v)) y.1:=λy=>c4 y.1 (G.trans (y.2.below G.size (λz hz=>Nat.le_trans d4.out (a1.at_base hz).1)));have e8:=dH a6;have e7:=dH c5;have HZ:=dH hZ;have e9:=dH b4;have d6:=dH a4;clear b8 hp a6 c5 c4 hZ b4 ho hb a4 G a3;go_upto_region 10 with fail
     rw[<-HZ.out,e9.out];refine kX (blk A) Z ?_;intro a9 hS;have b1:=ksub_cell d2 e2;have b2:=ksub_row a8 (S:=blk A) b3;refine lQ ?_;intro K hK;refine step_keep (Keep.trans (Keep.trans (Keep.refl (blk A) Z) (Keep.drew _) sI) (Keep.alloc _ _) sI) (λe5=>?_);refine hK _ _ ?_;clear hK K;have b0:Keep [] Z (Z.drew.alloc (.cells (hdC v) 49)):=Keep.trans (Keep.drew Z) (Keep.alloc _ _) sI;have L:=a1.kept b0 sI;have J:rowAt (Z.drew.alloc (.cells (hdC v) 49)) Z.heap.size 0 38=some (hdC v):=by simp[go_sem]
     have a7:=d6.out.size;refine Lx_append einfoHd rfl L rfl J (hdC_one v c6) oM oM sO ?_;intro A3 b9 w3 M d1 c7;refine step_keep (Keep.trans (b0.mono (S':=blk A) sI) d1 iL) (λe4=>?_);refine lZ ?_;refine wpLx_nil ?_;intro hS;have e3:Below w2.heap.size w2 w3:=d6.out.trans ((Keep.trans (b0.mono (S':=blk A) sI) d1 iL).below a7 (λx hx=>(a1.at_base hx).1));clear a9 hS e5 e4 b1 b2 e0;(go_wp2_with fail);go_roundw
     case rel=>exact⟨k+1,A3,b9,xs ++ [v],oM,by go_num,rfl,(show _=_ by rw[e8.out,map_append,a5.out,<-e7.out];rfl),(show ∀x∈xs ++ [v],_ by
      intro x hx;rcases mem_append.1 hx with hx | hx
      ·exact O.out x hx
      ·rw[mem_singleton.1 hx];exact c6),by rw[map_append];exact M,e3⟩
     case measure=>exact sZ
    ·have d0:R.take k=R:=take_of_length_le oM;have c3:=(hb.cell (p:=⟨ga,1,none⟩) e1).trans q1;have d7:=congrArg List.length a5.out;have d9:k=R.length:=oM;subst d9;have ch:=fun (V:World) (hV:Below wr.heap.size wr V)=>rule_height V A R.length cap xs (SlR.below ho.slr hV) O.out oM;have H:topL (xs.map λx=>min x.ht 1073741824)+1=topX D R:=by
      rw[topX_topL];have e:xs.map (λx=>min x.ht 1073741824)=(xs.map Hd.ht).map (λz=>min z 1073741824):=by rw[map_map];rfl
      rw[e,a5.out,d0,map_map];rfl
     simp only[H]at ch;obtain⟨X,hX⟩:=eX (topX D R)
     simp only[hX]at ch;have HX:=dH hX;have d5:=dH (f.out.trans (hb.mono f.out.size));clear d0 d7 H hX ho hb;obtain⟨Y,hY⟩:=eX hv.ht
     have HY:=dH hY;rw[hY]at c3;clear hY q1 q0;obtain⟨t,ht⟩:=eX (X != Y)
     go_upto_region 12 with fail
     refine lX wr ?_;intro a9 hS;have b1:=sub_cell c3;refine lZ ?_;refine lC (ch _ hS) ?_;clear hS;intro w' hS;refine lZ ?_;refine wpLx_nil ?_;intro hS;have d3:=dH (d5.out.trans (show Below w.heap.size wr _ from Below.mono hS d5.out.size));have HT:=dH ht;clear a9 hS b1 ch ht;cases t with
     | true =>
      (go_wp2_with fail);go_ret;exact⟨ret_int (by rw[c1.out,if_neg (by rw[a0.out];simp),if_neg (by rw[HU.out];simp),if_pos (by rw[HX.out,HY.out];exact bne_iff_ne.1 HT.out)]),d3.out⟩
     | false =>
      (go_wp2_with fail);go_ret;exact⟨ret_int (by rw[c1.out,if_neg (by rw[a0.out];simp),if_neg (by rw[HU.out];simp),if_neg (by rw[HX.out,HY.out];exact λh=>h (bne_eq_false_iff_eq.1 HT.out))]),d3.out⟩
  ·have c9:0<n2:=by rw[s];exact length_pos_iff.2 hu
   have HU:=dH hu;clear hu s;(go_wp2_with fail);go_ret;exact⟨ret_int (by rw[HV.out,if_neg (by rw[a0.out];simp),if_pos HU.out]),f.out⟩
 ·have e6:(E != 0)=true:=by rw[bne_iff_ne];exact B
  have a0:=dH B;clear B;(go_wp2_with fail);go_ret;exact⟨ret_int (by rw[HV.out,if_pos a0.out]),U.out⟩
section
theorem SlMap.getK{κ:Type}{b:Nat}{kv:κ->Value}{ok:κ->Prop}{M:List (κ×Sl)}{f:κ->List Id32}{K T:TypeId}(h:SlMap w b kv ok M f)(E:KeyEnc prog K kv ok)(ht:prog.underlying T=some (.map K 26)){k:κ}(hk:ok k) :
  ∃s:Sl,(∀w2 S,Keep S w w2->b∉S->(Instr.lookup T (.map (some b)) (kv k) false).run prog w2=.ok (slV s) w2)/\Own w 0 23 32 s.A s.n s.c ((f k).map idC)/\((k,s)∈M\/(k∉M.map (·.1)/\s=⟨none,0,0⟩))/\∀y∈blk s.A,y∈slF M:=by
 obtain⟨es,d,hm⟩:=h.map;by_cases hx:k∈M.map (·.1)
 ·obtain⟨q,hq,rfl⟩:=mem_map.1 hx;exact⟨q.2,λw2 S hb hn=>(hm.kept hb hn).hit E ht hk hq false,h.own q hq,.inl hq,λy hy=>mem_flatMap.2 ⟨q,hq,hy⟩⟩
 ·refine⟨⟨none,0,0⟩,λw2 S hb hn=>(hm.kept hb hn).miss E ht (zeroSlIds w2) hk hx false,?_,.inr ⟨hx,rfl⟩,by simp[blk]⟩;rw[h.non k hx];exact Own.nil _ _ _ _
structure DagG(w:World)(g:Nat)(D:List HdX)(P:List Id32)(ft:ByteArray->List Id32)(fc:Id32->List Id32)(bh bp bt bc:Nat)(N:List (Id32×HdIn))(Tm:List (ByteArray×Sl))(Cm:List (Id32×Sl)):Prop where
 heap:w.heap[g]?=some (.cells (dagC bh bp bt bc) 223 (0,0))
 hs:∃es clk,MapAt w bh idV hdVA okId N es clk
 perm:(N.map λp=>(⟨p.1,p.2.h⟩:HdX)).Perm D
 ps:∀p∈N,Own w 0 23 32 p.2.A p.2.h.ps.length p.2.c (p.2.h.ps.map idC)
 par:IdSet w bp P
 tm:SlMap w bt Value.string okStr Tm ft
 cm:SlMap w bc idV okId Cm fc
 ne:[bh,bp,bt,bc].Nodup
 dis:(∀y∈psF N,y∉slF Tm/\y∉slF Cm)/\∀y∈slF Tm,y∉slF Cm
section
variable {w w1 w':World} {g:Nat} {D D':List HdX} {P:List Id32} {ft:ByteArray->List Id32} {fc:Id32->List Id32} {bh bp bt bc:Nat} {N:List (Id32×HdIn)} {Tm:List (ByteArray×Sl)} {Cm:List (Id32×Sl)}
theorem DagIn.g'(h:DagIn w g D bh bp bt bc N Tm Cm):DagG w g D (parX D) (tpsX D) (cmsX D) bh bp bt bc N Tm Cm:=⟨h.heap,h.hs,h.perm,h.ps,h.par,h.tm,h.cm,h.ne,h.dis⟩
theorem DagG.toIn(h:DagG w g D P ft fc bh bp bt bc N Tm Cm)(h1:∀z,z∈P↔z∈parX D)(h2:∀t,tpsX D t=ft t)(h3:∀c,cmsX D c=fc c):DagIn w g D bh bp bt bc N Tm Cm :=
 ⟨h.heap,h.hs,h.perm,h.ps,SetAt.congr h.par h1,h.tm.congr h2,h.cm.congr h3,h.ne,h.dis⟩
theorem DagG.toH(h:DagG w g D P ft fc bh bp bt bc N Tm Cm):DagH w g D bh bp bt bc N:=⟨h.heap,h.hs,h.perm⟩
theorem DagG.far(h:DagG w g D P ft fc bh bp bt bc N Tm Cm):(∀y∈psF N++slF Tm++slF Cm,y≠g/\y≠bh/\y≠bp/\y≠bt/\y≠bc/\y<w.heap.size)/\g≠bh/\g≠bp/\g≠bt/\g≠bc/\g<w.heap.size/\bh<w.heap.size/\bp<w.heap.size/\bt<w.heap.size/\bc<w.heap.size:=by
 obtain⟨e1,c1,m1⟩:=h.hs;obtain⟨e2,c2,m2⟩:=idset_heap h.par;obtain⟨e3,c3,m3⟩:=h.tm.map;obtain⟨e4,c4,m4⟩:=h.cm.map;have hg:=h.heap;have hm:∀b es d,w.heap[b]?=some (.map es d)->g≠b/\b<w.heap.size:=λb es d hb=>⟨(λe=>by have j:=hb;rw[<-e,hg]at j;cases j),(aG hb).1⟩;refine⟨λy hy=>?_,(hm _ _ _ m1.heap).1,(hm _ _ _ m2).1,(hm _ _ _ m3.heap).1,(hm _ _ _ m4.heap).1,(aG hg).1,(hm _ _ _ m1.heap).2,(hm _ _ _ m2).2,(hm _ _ _ m3.heap).2,(hm _ _ _ m4.heap).2⟩;have hc:∃k,w.heap[y]?=some (.cells k 23 (0,0)):=by
  rcases mem_append.1 hy with hy | hy
  ·rcases mem_append.1 hy with hy | hy
   ·obtain⟨q,hq,hy⟩:=mem_flatMap.1 hy;exact own_cells (h.ps q hq) hy
   ·obtain⟨q,hq,hy⟩:=mem_flatMap.1 hy;exact own_cells (h.tm.own q hq) hy
  ·obtain⟨q,hq,hy⟩:=mem_flatMap.1 hy;exact own_cells (h.cm.own q hq) hy
 obtain⟨k,hc⟩:=hc;have f:∀b es d,w.heap[b]?=some (.map es d)->y≠b:=λb es d hb e=>(by rw[<-e,hc]at hb;cases hb);refine⟨λe=>?_,f _ _ _ m1.heap,f _ _ _ m2,f _ _ _ m3.heap,f _ _ _ m4.heap,(aG hc).1⟩;rw[e,hg]at hc;injection hc with hc;injection hc with _ hc _
 exact absurd hc (by decide)
theorem DagG.kept{S:List Nat}(h:DagG w g D P ft fc bh bp bt bc N Tm Cm)(k:Keep S w w')(hF:∀x∈g :: bh :: bp :: bt :: bc :: (psF N++slF Tm++slF Cm),x∉S):DagG w' g D P ft fc bh bp bt bc N Tm Cm:=by
 obtain⟨es,d,hm⟩:=h.hs;simp only[mem_cons,mem_append]at hF;exact⟨(k.block g (aG h.heap).1 (hF g (.inl rfl))).trans h.heap,⟨es,d,hm.kept k (hF bh sI)⟩,h.perm,λp hp=>(h.ps p hp).kept k λy hy=>hF y (.inr (.inr (.inr (.inr (.inr (.inl (.inl (mem_flatMap.2 ⟨p,hp,hy⟩)))))))),
  h.par.kept k (hF bp sI),h.tm.kept k (hF bt sI) λy hy=>hF y (.inr (.inr (.inr (.inr (.inr (.inl (.inr hy))))))),h.cm.kept k (hF bc sI) λy hy=>hF y (.inr (.inr (.inr (.inr (.inr (.inr hy)))))),h.ne,h.dis⟩
theorem DagG.below(h:DagG w g D P ft fc bh bp bt bc N Tm Cm)(hb:Below w.heap.size w w'):DagG w' g D P ft fc bh bp bt bc N Tm Cm:=h.kept (Keep.of_below hb) sI
theorem DagG.putH(h:DagG w g D P ft fc bh bp bt bc N Tm Cm)(hb:Below w.heap.size w w1)(hx:i∉N.map (·.1))(ho:Own w1 w.heap.size 23 32 x.A x.h.ps.length x.c (x.h.ps.map idC))(hD:((⟨i,x.h⟩:HdX) :: D).Perm D') :
  ∃w2,(Instr.mapUpdate 219 (.map (some bh)) (.agg (idC i)) (.agg (hdR x))).run prog w1=.ok () w2/\Keep [bh] w1 w2/\DagG w2 g D' P ft fc bh bp bt bc (N ++ [(i,x)]) Tm Cm/\∀y∈psF (N ++ [(i,x)]),y∈psF N\/w.heap.size<=y:=by
 obtain⟨f1,f2,f3,f4,f5,f6,f7,f8,f9,F⟩:=h.far;have h1:=h.below hb;obtain⟨es,H,hm⟩:=h1.hs;obtain⟨w2,G,E,hr,s,f⟩:=hm.update (k:=i) (v:=x) idKey underlying219 trivial;have m:putL N i x=N ++ [(i,x)]:=by unfold putL;rw[if_neg hx]
 rw[m]at s;have r:=h.ne;simp only[nodup_cons,mem_cons,not_mem_nil,or_false,not_or]at r;obtain⟨⟨n1,n2,n3⟩,_⟩:=r;have d:∀y∈blk x.A,w.heap.size<=y:=λy hy=>(ho.at_base hy).1;have j:∀y,y∈psF (N ++ [(i,x)])↔y∈psF N\/y∈blk x.A:=λy=>(by unfold psF;simp);have t:∀y∈slF Tm,y≠bh/\y<w.heap.size:=λy hy=>(by obtain⟨_,q,_,_,_,z⟩:=f1 y (by simp[hy]);exact⟨q,z⟩);have B:∀y∈slF Cm,y≠bh/\y<w.heap.size:=λy hy=>(by obtain⟨_,q,_,_,_,z⟩:=f1 y (by simp[hy]);exact⟨q,z⟩);refine⟨w2,hr,f,⟨(f.block g (aG h1.heap).1 (by simpa using f2)).trans h1.heap,⟨_,_,s⟩,?_,?_,h1.par.kept f (by simpa using λe=>n1 e.symm),h1.tm.kept f (by simpa using λe=>n2 e.symm) (λy hy=>by simpa using(t y hy).1),h1.cm.kept f (by simpa using λe=>n3 e.symm) (λy hy=>by simpa using(B y hy).1),h.ne,⟨λy hy=>?_,h.dis.2⟩⟩,λy hy=>((j y).1 hy).imp id (d y)⟩
 ·rw[map_append];exact(perm_append_comm.trans (Perm.cons _ h.perm)).trans hD
 ·intro p hp;rcases mem_append.1 hp with hp | hp
  ·exact(h1.ps p hp).kept f λy hy=>by
    obtain⟨_,q,_⟩:=f1 y (by simp only[mem_append];exact .inl (.inl (mem_flatMap.2 ⟨p,hp,hy⟩)));simpa using q
  ·rw[mem_singleton.1 hp];exact(ho.kept f λy hy=>oS (d y hy)).mono zL
 ·rcases (j y).1 hy with hy | hy
  ·exact h.dis.1 y hy
  ·have:=d y hy;exact⟨λhz=>oH ((t y hz).2),λhz=>oH ((B y hz).2)⟩
theorem DagG.putP(h:DagG w g D P ft fc bh bp bt bc N Tm Cm)(i:Id32) :
  ∃w2,(Instr.mapUpdate 82 (.map (some bp)) (.agg (idC i)) (.bool true)).run prog w=.ok () w2/\Keep [bp] w w2/\DagG w2 g D (i :: P) ft fc bh bp bt bc N Tm Cm:=by
 obtain⟨f1,f2,f3,f4,f5,f6,f7,f8,f9,f⟩:=h.far;obtain⟨w2,hr,hp,hk⟩:=iput (x:=i) h.par;obtain⟨es,j,hm⟩:=h.hs;have d:=h.ne;simp only[nodup_cons,mem_cons,not_mem_nil,or_false,not_or]at d;obtain⟨⟨n1,n2,n3⟩,⟨n4,n5⟩,_⟩:=d;refine⟨w2,hr,hk,⟨(hk.block g f6 (by simpa using f3)).trans h.heap,⟨_,_,hm.kept hk (by simpa using n1)⟩,h.perm,λp hq=>(h.ps p hq).kept hk λy hy=>?_,hp,h.tm.kept hk (by simpa using λe=>n4 e.symm) (λy hy=>?_),h.cm.kept hk (by simpa using λe=>n5 e.symm) (λy hy=>?_),h.ne,h.dis⟩⟩
 ·obtain⟨_,_,q,_⟩:=f1 y (by simp only[mem_append];exact .inl (.inl (mem_flatMap.2 ⟨p,hq,hy⟩)));simpa using q
 ·obtain⟨_,_,q,_⟩:=f1 y (by simp[hy]);simpa using q
 ·obtain⟨_,_,q,_⟩:=f1 y (by simp[hy]);simpa using q
theorem DagG.putT(h:DagG w g D P ft fc bh bp bt bc N Tm Cm){k:ByteArray}(hk:okStr k){s s':Sl}{l:List Id32}(hs:(k,s)∈Tm\/(k∉Tm.map (·.1)/\s=⟨none,0,0⟩))(H:Keep (blk s.A) w w1)(ho:Own w1 0 23 32 s'.A s'.n s'.c (l.map idC))(hb:∀y∈blk s'.A,y∈blk s.A\/w.heap.size<=y) :
  ∃w2 t,(Instr.mapUpdate 220 (.map (some bt)) (.string k) (slV s')).run prog w1=.ok () w2/\Keep [bt] w1 w2/\DagG w2 g D P (λj=>if j=k then l else ft j) fc bh bp bt bc N t Cm/\∀y∈slF t,y∈slF Tm\/w.heap.size<=y:=by
 obtain⟨f1,f2,f3,f4,f5,f6,f7,f8,f9,I⟩:=h.far;have B:∀y∈blk s.A,y∈slF Tm:=λy hy=>by
  rcases hs with hs | ⟨_,e⟩
  ·exact mem_flatMap.2 ⟨_,hs,hy⟩
  ·rw[e]at hy;simp[blk]at hy
 obtain⟨w2,t,hr,ht,G,d⟩:=h.tm.put strKey underlying220 hk hs H ho hb;obtain⟨es,J,hm⟩:=h.hs;have F:=h.ne;simp only[nodup_cons,mem_cons,not_mem_nil,or_false,not_or]at F;obtain⟨⟨n1,n2,n3⟩,⟨n4,n5⟩,n6,_⟩:=F;have m:Keep (bt :: blk s.A) w w2:=Keep.trans (H.mono (S':=bt :: blk s.A) (λy hy=>.inl (mem_cons_of_mem _ hy))) (G.mono (S':=bt :: blk s.A) sI) (λy hy=>.inl hy);have r:∀y∈blk s.A,y≠g/\y≠bh/\y≠bp/\y≠bt/\y≠bc:=λy hy=>by
  obtain⟨q1,q2,q3,q4,q5,_⟩:=f1 y (by simp[B y hy]);exact⟨q1,q2,q3,q4,q5⟩
 have f:∀b,b≠bt->(∀y∈blk s.A,y≠b)->b∉bt :: blk s.A:=λb h1 h2 hb=>by
  rcases mem_cons.1 hb with e | e
  ·exact h1 e
  ·exact h2 b e rfl
 refine⟨w2,t,hr,G,⟨(m.block g f6 (f g f4 λy hy=>(r y hy).1)).trans h.heap,⟨_,_,hm.kept m (f bh n2 λy hy=>(r y hy).2.1)⟩,h.perm,λp hq=>(h.ps p hq).kept m λy hy=>?_,h.par.kept m (f bp n4 λy hy=>(r y hy).2.2.1),ht,h.cm.kept m (f bc (λe=>n6 e.symm) λy hy=>(r y hy).2.2.2.2) (λy hy=>?_),h.ne,⟨λy hy=>⟨λhz=>?_,(h.dis.1 y hy).2⟩,λy hy hz=>?_⟩⟩,d⟩
 ·have E:y∈psF N:=mem_flatMap.2 ⟨p,hq,hy⟩;obtain⟨_,_,_,q,_⟩:=f1 y (by simp[E]);exact f y q λz hz e=>(h.dis.1 y E).1 (e ▸ B z hz)
 ·obtain⟨_,_,_,q,_⟩:=f1 y (by simp[hy]);exact f y q λz hz e=>h.dis.2 z (B z hz) (e ▸ hy)
 ·rcases d y hz with h1 | h1
  ·exact(h.dis.1 y hy).1 h1
  ·obtain⟨_,_,_,_,_,q⟩:=f1 y (by simp[hy]);omega
 ·rcases d y hy with h1 | h1
  ·exact h.dis.2 y h1 hz
  ·obtain⟨_,_,_,_,_,q⟩:=f1 y (by simp[hz]);omega
theorem DagG.putC(h:DagG w g D P ft fc bh bp bt bc N Tm Cm){k:Id32}{s s':Sl}{l:List Id32}(hs:(k,s)∈Cm\/(k∉Cm.map (·.1)/\s=⟨none,0,0⟩))(H:Keep (blk s.A) w w1)(ho:Own w1 0 23 32 s'.A s'.n s'.c (l.map idC))(hb:∀y∈blk s'.A,y∈blk s.A\/w.heap.size<=y) :
  ∃w2 t,(Instr.mapUpdate 221 (.map (some bc)) (.agg (idC k)) (slV s')).run prog w1=.ok () w2/\Keep [bc] w1 w2/\DagG w2 g D P ft (λj=>if j=k then l else fc j) bh bp bt bc N Tm t/\∀y∈slF t,y∈slF Cm\/w.heap.size<=y:=by
 obtain⟨f1,f2,f3,f4,f5,f6,f7,f8,f9,I⟩:=h.far;have B:∀y∈blk s.A,y∈slF Cm:=λy hy=>by
  rcases hs with hs | ⟨_,e⟩
  ·exact mem_flatMap.2 ⟨_,hs,hy⟩
  ·rw[e]at hy;simp[blk]at hy
 obtain⟨w2,t,hr,ht,G,d⟩:=h.cm.put idKey underlying221 (k:=k) trivial hs H ho hb;obtain⟨es,J,hm⟩:=h.hs;have F:=h.ne;simp only[nodup_cons,mem_cons,not_mem_nil,or_false,not_or]at F;obtain⟨⟨n1,n2,n3⟩,⟨n4,n5⟩,n6,_⟩:=F;have m:Keep (bc :: blk s.A) w w2:=Keep.trans (H.mono (S':=bc :: blk s.A) (λy hy=>.inl (mem_cons_of_mem _ hy))) (G.mono (S':=bc :: blk s.A) sI) (λy hy=>.inl hy);have r:∀y∈blk s.A,y≠g/\y≠bh/\y≠bp/\y≠bt/\y≠bc:=λy hy=>by
  obtain⟨q1,q2,q3,q4,q5,_⟩:=f1 y (by simp[B y hy]);exact⟨q1,q2,q3,q4,q5⟩
 have f:∀b,b≠bc->(∀y∈blk s.A,y≠b)->b∉bc :: blk s.A:=λb h1 h2 hb=>by
  rcases mem_cons.1 hb with e | e
  ·exact h1 e
  ·exact h2 b e rfl
 refine⟨w2,t,hr,G,⟨(m.block g f6 (f g f5 λy hy=>(r y hy).1)).trans h.heap,⟨_,_,hm.kept m (f bh n3 λy hy=>(r y hy).2.1)⟩,h.perm,λp hq=>(h.ps p hq).kept m λy hy=>?_,h.par.kept m (f bp n5 λy hy=>(r y hy).2.2.1),h.tm.kept m (f bt n6 λy hy=>(r y hy).2.2.2.1) (λy hy=>?_),ht,h.ne,⟨λy hy=>⟨(h.dis.1 y hy).1,λhz=>?_⟩,λy hy hz=>?_⟩⟩,d⟩
 ·have E:y∈psF N:=mem_flatMap.2 ⟨p,hq,hy⟩;obtain⟨_,_,_,_,q,_⟩:=f1 y (by simp[E]);exact f y q λz hz e=>(h.dis.1 y E).2 (e ▸ B z hz)
 ·obtain⟨_,_,_,_,q,_⟩:=f1 y (by simp[hy]);exact f y q λz hz e=>h.dis.2 y hy (e ▸ B z hz)
 ·rcases d y hz with h1 | h1
  ·exact(h.dis.1 y hy).2 h1
  ·obtain⟨_,_,_,_,_,q⟩:=f1 y (by simp[hy]);omega
 ·rcases d y hz with h1 | h1
  ·exact h.dis.2 y hy h1
  ·obtain⟨_,_,_,_,_,q⟩:=f1 y (by simp[hy]);omega
end
end
def AddRes(X:StX)(F:List Nat)(g:Nat)(h:HdV)(w:World)(e:Ending)(w':World):Prop :=
 ∃F',e=.returned (.tuple #[.agg (idC (if verX X.D h=0 then hdI h else id0)),.int .i64 (verX X.D h)])/\DagAt w' g F' (addX X.D h)/\(∀y∈F',y∈F\/w.heap.size<=y)/\Keep F w w'
theorem dag_add(w:World)(g:Nat)(F:List Nat)(n:Nat)(X:StX)(h:DagAt w g F X.D)(hX:StOk n X)(hn:n<=100000)(hS:ShaVars w)(x:HdIn)(hT:TagsIn w x.A x.h.ps.length x.h.ps)(i8:x.h.ps.length<=100000)(i7:okStr x.h.tp)(hA:x.A=none->x.c=0)(n2:∀y∈blk x.A,y∉F) :
  Calls prog 121 #[.pointer (some ⟨g,0,none⟩),.agg (hdR x)] w λe w'=>AddRes X F g x.h w e w':=by
 obtain⟨hv,A0,c0⟩:=x;have hB:Below w.heap.size w ((w.alloc (.cells (hdR ⟨hv,A0,c0⟩) 49)).alloc (.cells (idC id0) 23)):=(bA).alloc sI _;have e3:rowAt ((w.alloc (.cells (hdR ⟨hv,A0,c0⟩) 49)).alloc (.cells (idC id0) 23)) w.heap.size 0 38=some (hdR ⟨hv,A0,c0⟩):=by
  rw[rowAt_of_block (Below.heap_alloc _ _ _ sI)];simp[go_sem,hdR]
 have x1:((w.alloc (.cells (hdR ⟨hv,A0,c0⟩) 49)).alloc (.cells (idC id0) 23)).heap[w.heap.size+1]?=some (.cells (idC id0) 23 (0,0)):=by
  have:=heap_alloc_new (w.alloc (.cells (hdR ⟨hv,A0,c0⟩) 49)) (.cells (idC id0) 23)
  rwa [(sI:(w.alloc (.cells (hdR ⟨hv,A0,c0⟩) 49)).heap.size=w.heap.size+1)]at this
 obtain⟨W,hW⟩:=eR ((w.alloc (.cells (hdR ⟨hv,A0,c0⟩) 49)).alloc (.cells (idC id0) 23))
 obtain⟨ga,l1⟩:=eX w.heap.size
 rw[<-hW]at hB e3 x1;rw[l1]at e3 x1;have cN:Calls prog 170 #[.pointer (some ⟨g,0,none⟩)] W λe w'=>e=.returned (.bool false)/\W=w':=by
  obtain⟨bh,bp,bt,bc,N,Tm,Cm,hi,_⟩:=h;exact dag_none W g bh (hi.c0 W hB).1
 have cv:=dag_verdict W g F X.D (h.below hB) hX.nd ⟨hv,A0,c0⟩ (SlR.below hT hB) i8 (by show hv.tp.size<=_;have:hv.tp.size<=maxLen:=i7;unfold maxLen at this;omega);obtain⟨V,hV⟩:=eX (verX X.D hv)
 have cv:Calls prog 191 #[.pointer (some ⟨g,0,none⟩),.agg (hdR ⟨hv,A0,c0⟩)] W λe w'=>e=.returned (.int .i64 V)/\Below W.heap.size W w':=by rw[<-hV];exact cv
 have HW:=dH hW;have HB:=dH hB;have i4:=dH l1;have HV:=dH hV;have n1:ga+1<W.heap.size:=(aG x1).1;have a4:=dH h;clear hW hB l1 hV h;go_enter func121,ntmps121
 (go_wp2_with fail);rw[<-HW.out,i4.out];refine cN.mono ?_;rintro e w' ⟨rfl,rfl⟩;clear cN;(go_wp2_with fail);refine cv.mono ?_;rintro e w1 ⟨rfl,j4⟩;have d7:=dH (HB.out.trans (j4.mono HB.out.size));have a9:=((Keep.of_below j4).row (rowAt_lt e3) sI _ _).trans e3;have x2:=(j4.block (ga+1) n1).trans x1;clear cv e3 j4 x1 n1;by_cases d2:V=0
 ·have p3:(V != 0)=false:=by rw[bne_eq_false_iff_eq];exact d2
  have c4:verX X.D hv=0:=HV.out.trans d2;obtain⟨o0,e7,_⟩:=verX_ok c4;have ci:=hd_ident w1 hv A0 c0 (hS.below d7.out) (SlR.below hT d7.out) (by show hv.ps.length<=_;have:hv.ps.length<=100000:=i8;omega) (by show hv.tp.size<=_;have:hv.tp.size<=maxLen:=i7;unfold maxLen at this;omega);rw[o0]at ci;obtain⟨I,hI⟩:=eX (hdI hv)
  rw[hI]at ci;have HI:=dH hI;have m3:=dH d2;have r:=dH c4;have p7:=dH e7;clear hI d2 c4 o0 e7;(go_wp2_with fail);refine ci.mono ?_;rintro e w2 ⟨rfl,j3⟩;have h9:Below w1.heap.size w1 (w2.alloc (.cells (idC I) 23)):=j3.alloc j3.size _;have e4:rowAt (w2.alloc (.cells (idC I) 23)) w2.heap.size 0 32=some (idC I):=by simp[go_sem]
  obtain⟨Z,hZ⟩:=eR (w2.alloc (.cells (idC I) 23))
  obtain⟨gb,j0⟩:=eX w2.heap.size
  have k9:w1.heap.size<=gb:=by rw[<-j0];exact j3.size
  rw[<-hZ]at h9 e4;rw[j0]at e4;have l7:=dH (d7.out.trans (h9.mono d7.out.size));have c5:=((Keep.of_below h9).row (rowAt_lt a9) sI _ _).trans a9;have x3:=(h9.block (ga+1) (aG x2).1).trans x2;have cH:=dag_has Z g F X.D (a4.out.below l7.out) hX.nd I;obtain⟨t,ht⟩:=eX (decide (I∈idsX X.D))
  rw[ht]at cH;have HZ:=dH hZ;have q3:=dH j0;have Ht:=dH ht;have l0:ga+1<w1.heap.size:=(aG x2).1;have p1:ga+1<gb:=oM;clear ci j3 h9 hZ j0 ht a9 x2 k9 l0;(go_wp2_with fail);rw[<-HZ.out,q3.out];refine cH.mono ?_;rintro e w4 ⟨rfl,h8⟩;have c2:=dH (l7.out.trans (h8.mono l7.out.size));have T:=((Keep.of_below h8).row (rowAt_lt c5) sI _ _).trans c5;have b4:=((Keep.of_below h8).row (rowAt_lt e4) sI _ _).trans e4;have x4:=(h8.block (ga+1) (aG x3).1).trans x3;clear cH c5 e4 x3 h8;cases t with
  | true =>
   have m6:=run_stS_at (P:=prog) infoId w4 (ga+1) (idC id0) (idC I) _ x4 sI sI (idC_one _);have a3:=dH (setRow_heap w4 (ga+1) _ (idC I) _ _ x4);have hk:=kRow w4 (ga+1) (idC I);have d1:=c2.out.trans (hk.below c2.out.size (oS i4.out));have HF:=dH (And.intro (a4.out.below d1) ((Keep.of_below d1).mono (S':=F) sI));clear hk d1 x4 T;(go_wp2_with fail);refine bodyPost_ret (results_ct results121 _ _ (ga+1) 23 (idC I) (0,0) _ rfl a3.out underlying23 rfl (by rw[idC_size];exact infoId)) rfl ?_;refine⟨F,by rw[r.out,if_pos rfl,HI.out];rfl,?_,λy hy=>.inl hy,HF.out.2⟩;rw[show addX X.D hv=X.D from if_neg λhh=>hh.2 (by rw[HI.out];exact of_decide_eq_true Ht.out)];exact HF.out.1
  | false =>
   have b5:hdI hv∉idsX X.D:=by rw[HI.out];exact of_decide_eq_false Ht.out
   obtain⟨bh,bp,bt,bc,N,Tm,Cm,g6,hF⟩:=a4.out;have hG:=dH (g6.g'.below c2.out);have p2:=g6.c0 w4 c2.out;obtain⟨n3,l2,j2,j1⟩:=p2;have H:=g6.lt;rw[i4.out]at H;have Lg:g<ga:=H g sI;have Lh:bh<ga:=H bh sI;have Lp:bp<ga:=H bp sI;have Lt:bt<ga:=H bt sI;have Lc:bc<ga:=H bc sI;have m5:I∉N.map (·.1):=λhm=>by
    have e:=(g6.perm.map (·.id)).mem_iff (a:=I);rw[map_map]at e;exact b5 (by rw[HI.out];exact e.1 hm)
   have p4:=dH m5;have m0:=dH H;have hD:((⟨I,hv⟩:HdX) :: X.D).Perm (addX X.D hv):=by rw[addX_new r.out b5,HI.out];exact(span_insX _ _).symm
   have HD:=dH hD;have d5:=dH hF;have E:=dH b5;have far:=hG.out.far;obtain⟨a0,f2,f3,f4,f5,f6,f7,f8,f9,o1⟩:=far;clear g6 hF b5 a4 H m5 hD;have k7:ga<w4.heap.size:=rowAt_lt T;have g7:gb<w4.heap.size:=rowAt_lt b4;have m1:Hid (w.heap.size<=w4.heap.size):=dH c2.out.size;have cc:=fun (V:World) (hV:Below w4.heap.size w4 V)=>dag_copied V ⟨hv,A0,c0⟩ (SlR.below hT (c2.out.trans (hV.mono c2.out.size))) (by show hv.ps.length<=_;have:hv.ps.length<=100000:=i8;omega) hA;go_upto_region 9 with fail
   refine kX [bh] w4 ?_;intro c8 hS;have b1:=ksub_cell n3 (S:=[bh]) (by simpa using f2);have b2:=ksub_row b4 (S:=[bh]) sO;have b3:=ksub_row T (S:=[bh]) sO;refine lQ ?_;intro K hK;refine(cc _ ((Below.refl _ _).drew)).mono ?_;rintro e w5 ⟨A',c',rfl,ho,l4⟩;have h7:Below w4.heap.size w4 w5:=((Below.refl _ _).drew).trans l4;replace hS:=kp_below hS l4;refine⟨_,rfl,hS,hK _ _ ?_⟩;clear hK K;obtain⟨w6,o9,m9,j5,b9⟩:=hG.out.putH h7 p4.out (x:=⟨hv,A',c'⟩) ho HD.out;refine lH ?_;intro K hK;refine step_keep (kp_next hS m9 sI) (λhS=>?_);refine hK _ _ ?_;clear hK K;refine wpLx_nil ?_;intro hS;have K6:Keep [bh] w4 w6:=hS;have l8:=dH (show Keep F w w6 from Keep.trans ((Keep.of_below c2.out).mono (S':=F) sI) (K6.mono (S':=F) (λy hy=>.inl (by rw[d5.out,mem_singleton.1 hy];simp))) (λy hy=>.inl hy));have a8:=(K6.row k7 sO _ _).trans T;have c6:=(K6.row g7 sO _ _).trans b4;have x6:=(K6.block (ga+1) oM sO).trans x4;have n5:TagsIn w6 A0 hv.ps.length hv.ps:=SlR.kept hT l8.out n2;have c3:=dH b9;have o7:w4.heap.size<=w6.heap.size:=K6.size;obtain⟨D',l6⟩:=eX (addX X.D hv)
   rw[l6]at j5;obtain⟨N',n6⟩:=eX (N ++ [(I,(⟨hv,A',c'⟩:HdIn))])
   rw[n6]at j5 c3;have d6:=dH l6;have q5:=dH j5;clear c8 hS b1 b2 b3 cc o9 m9 j5 b9 ho l4 h7 K6 n6 l6 T b4 x4 n3 l2 j2 j1 hG f2 f3 f4 f5 a0 HD;have q0:w6.cell? ⟨ga,0,none⟩=some (.slice A0 hv.ps.length c0):=by have:=rowAt_cell a8 (j:=0) oM;rw[Nat.zero_add]at this;rw[this];simp[hdR,hdO,hdC]
   obtain⟨R,hR⟩:=eX hv.ps
   have HR:=dH hR;simp only[hR]at q0 n5 i8;clear hR;go_upto_region 11 with fail
   go_loopw [10,45] (λ_ i wr=>∃k:Nat,k<=R.length/\i=.int .i64 k/\Hid (DagG wr g D' ((R.take k).reverse++parX X.D) (tpsX X.D) (cmsX X.D) bh bp bt bc N' Tm Cm)/\Hid (Keep [bp] w6 wr)) (λ_ i _=>R.length-(intOf i).toNat)
   case atStart=>exact⟨0,zL,rfl,q5,dH (Keep.refl _ _)⟩
   case round =>
    obtain⟨k,hk,rfl,hg,i9⟩:=hrel;by_cases H:k<R.length
    ·have n4:TagsIn wr A0 R.length R:=SlR.kept n5 i9.out (λy hy=>by
      have h1:=n2 y hy;simp only[mem_singleton];intro e;exact h1 (by rw[d5.out,e];simp))
     obtain⟨q,o,rfl,hr⟩:=TagsIn.get n4 H H;have k0:(R.take (k+1)).reverse++parX X.D=R[k] :: ((R.take k).reverse++parX X.D):=by rw[take_succ_eq_append_getElem H,reverse_append];rfl
     obtain⟨p,hp⟩:=eX (R[k]'H)
     rw[hp]at hr k0;have j6:Below wr.heap.size wr (wr.alloc (.cells (idC p) 23)):=bA;have k1:rowAt (wr.alloc (.cells (idC p) 23)) wr.heap.size 0 32=some (idC p):=by simp[go_sem]
     have h0:=hg.out.below j6;have l3:=hg.out.far.2.2.2.2.2.2.2.1;obtain⟨Y,hY⟩:=eR (wr.alloc (.cells (idC p) 23))
     obtain⟨gp,k6⟩:=eX wr.heap.size
     rw[<-hY]at k1 h0 j6;rw[k6]at k1;have l2:Y.cell? ⟨g,1,none⟩=some (.map (some bp)):=by rw[cell_of_row Y g 1 _ _ _ h0.heap];rfl
     have k8:g∉[bp]:=by simpa using h0.far.2.2.1
     have k5:gp∉[bp]:=sO;obtain⟨w7,o8,k4,n8⟩:=(h0.below ((Below.refl _ _).drew)).putP p;have HY:=dH hY;have q1:=dH k6;have p5:=dH k0;have q4:=dH n8;have p9:=dH (Keep.trans i9.out (Keep.trans ((Keep.of_below j6).mono (S':=[bp]) sI) (Keep.trans ((Keep.drew Y).mono (S':=[bp]) sI) k4 (λy hy=>.inl hy)) (λy hy=>.inl hy)) (λy hy=>.inl hy));clear hp k0 j6 h0 l3 hY k6 n8 n4;go_upto_region 13 with fail
     rw[<-HY.out,q1.out];refine kX [bp] Y ?_;intro c8 hS;have b1:=ksub_cell l2 k8;have b2:=ksub_row k1 k5;refine lQ ?_;intro K hK;refine step_keep (kp_next hS k4 sI) (λhS=>?_);refine hK _ _ ?_;clear hK K;refine wpLx_nil ?_;intro hS;clear c8 hS b1 b2 o8 k4;(go_wp2_with fail);go_roundw
     case rel=>exact⟨k+1,oM,by go_num,dH (by rw[p5.out];exact q4.out),p9⟩
     case measure=>exact sZ
    ·have m8:R.take k=R:=take_of_length_le oM;have i6:Hid (DagG wr g D' (R.reverse++parX X.D) (tpsX X.D) (cmsX X.D) bh bp bt bc N' Tm Cm):=dH (by rw[<-m8];exact hg.out);have Kr:=i9.out;have a7:=(Kr.row (rowAt_lt a8) sO _ _).trans a8;have b0:=(Kr.row (rowAt_lt c6) sO _ _).trans c6;have xr:=(Kr.block (ga+1) (aG x6).1 sO).trans x6;have far:=i6.out.far;obtain⟨a0,f2,f3,f4,f5,f6,f7,f8,f9,o1⟩:=far;have j2:wr.cell? ⟨g,2,none⟩=some (.map (some bt)):=by rw[cell_of_row wr g 2 _ _ _ i6.out.heap];rfl
     have q2:wr.cell? ⟨ga,2,none⟩=some (.string hv.tp):=by have:=rowAt_cell a7 (j:=2) oM;rw[Nat.zero_add]at this;rw[this];simp[hdR,hdO,hdC]
     obtain⟨⟨As,ns,cs⟩,e9,c7,e0,O⟩:=i6.out.tm.getK strKey underlying220 i7;have p0:∀y∈slF Tm,y<ga:=λy hy=>m0.out y (by simp[hy]);have b6:∀y∈blk As,y<ga:=λy hy=>p0 y (O y hy);have h5:bt∉blk As:=λhm=>(a0 bt (by simp[O bt hm])).2.2.2.1 rfl;have h4:g∉blk As:=λhm=>(a0 g (by simp[O g hm])).1 rfl;have J:ga∉blk As:=λhm=>(oH (b6 ga hm));have B:gb∉blk As:=λhm=>(oH (b6 gb hm));have k3:∀y:Subtype (Kp (blk As) wr),(Instr.lookup 220 (.map (some bt)) (.string hv.tp) false).run prog y.1=.ok (.slice As ns cs) y.1:=λy=>e9 y.1 _ y.2 h5;obtain⟨t1,t2⟩:=tps_add hX r.out E.out hv.tp;rw[if_pos rfl,HI.out]at t2;rw[d6.out]at t1 t2;have s:(tpsX X.D hv.tp).length=ns:=by simpa using c7.len
     have U:ns<=100000:=by rw[<-s];exact Nat.le_trans (by unfold tpsX;simpa using length_filter_le _ X.D) (Nat.le_trans hX.len hn)
     obtain⟨a1,a2,_⟩:=addX_ok hX r.out;rw[d6.out]at a1;have i0:I∉tpsX X.D hv.tp:=λhm=>E.out (by rw[HI.out];exact(tps_sub hv.tp).subset hm);have cp:=dag_put wr.drew g D' (DagHs.below ⟨bh,bp,bt,bc,N',i6.out.toH⟩ ((Below.refl _ _).drew)) a1 ⟨As,ns,cs⟩ (tpsX X.D hv.tp) (c7.below ((Below.refl _ _).drew)) U I t1 i0;unfold slV at cp;have p8:=dH a1;have p6:=dH e0;have o4:=dH Kr;have q7:=dH t2;clear e9 c7 t1 t2 s a1 a2 i0 hg i9 m8 q0 a8 c6 x6 Kr e0;go_upto_region 15 with fail
     refine kF (blk As) wr ?_;intro c8 hS;have b1:=ksub_cell j2 (S:=blk As) h4;have b2:=ksub_cell q2 (S:=blk As) J;have b3:=ksub_row b0 (S:=blk As) B;refine lQ ?_;intro K hK;refine cp.mono ?_;rintro e w9 ⟨⟨A9,n9,c9⟩,rfl,k2,e8,f0,e1⟩;have f:Keep (blk As) wr w9:=Keep.trans ((Keep.drew wr).mono (S':=blk As) sI) f0 (λy hy=>.inl hy);replace hS:=f;refine⟨_,rfl,hS,hK _ _ ?_⟩;clear hK K;obtain⟨a6,d8,e6,g0,b7,M⟩:=i6.out.putT i7 p6.out f e8 e1;unfold slV at e6;refine lZ ?_;refine wpLx_end ?_ ?_;(focus(simp only[chainOp];done));intro K hK;go_simp;refine hK _ _ ?_;clear hK K;have i3:Keep (bt :: blk As) wr a6:=Keep.trans (f.mono (S':=bt :: blk As) (λy hy=>.inl (mem_cons_of_mem _ hy))) (g0.mono (S':=bt :: blk As) sI) (λy hy=>.inl hy);have b8:∀y,y≠bt->y∉blk As->y∉bt :: blk As:=λy h1 h2 h3=>(mem_cons.1 h3).elim h1 h2;have g9:=b8 ga oM J;have g8:=b8 gb oM B;have c1:=(i3.row (rowAt_lt a7) g9 _ _).trans a7;have G:=(i3.row (rowAt_lt b0) g8 _ _).trans b0;have j9:=(i3.block (ga+1) (aG xr).1 (b8 (ga+1) oM λhm=>oH (b6 _ hm))).trans xr;have far:=b7.far;obtain⟨g1,g2,g3,g4,g5,_,_,_,_,_⟩:=far;have j1:a6.cell? ⟨g,3,none⟩=some (.map (some bc)):=by rw[cell_of_row a6 g 3 _ _ _ b7.heap];rfl
     have q6:rowAt a6 ga 6 32=some (idC hv.cm):=by have:=rowAt_sub c1 (j:=6) (m:=32) oM;rw[Nat.zero_add]at this;rw[this];exact congrArg some (hdC_e6 _)
     have o2:∀y∈bt :: blk As,y∈F:=λy hy=>by
      rw[d5.out];rcases mem_cons.1 hy with e | e
      ·rw[e];simp
      ·simp[O y e]
     have i5:=dH i3;have m4:=dH o2;have d4:=dH b7;have d3:=dH M;clear c8 hS b1 b2 b3 e6 g0 b7 M k2 e8 f0 e1 f i3 o2 k3 a7 b0 xr j2 q2 O b6 J B g9 g8 b8 h5 h4 a0 f2 f3 f4 f5 f6 f7 f8 f9 o1 U;obtain⟨⟨Ac,nc,cc⟩,e9,c7,e0,O⟩:=d4.out.cm.getK idKey underlying221 (k:=hv.cm) trivial;have b6:∀y∈blk Ac,y<ga:=λy hy=>m0.out y (by simp[O y hy]);have h6:bc∉blk Ac:=λhm=>(g1 bc (by simp[O bc hm])).2.2.2.2.1 rfl;have h4:g∉blk Ac:=λhm=>(g1 g (by simp[O g hm])).1 rfl;have J:ga∉blk Ac:=λhm=>(oH (b6 ga hm));have B:gb∉blk Ac:=λhm=>(oH (b6 gb hm));have k3:∀y:Subtype (Kp (blk Ac) a6),(Instr.lookup 221 (.map (some bc)) (.agg (idC hv.cm)) false).run prog y.1=.ok (.slice Ac nc cc) y.1:=λy=>e9 y.1 _ y.2 h6;obtain⟨t1,t2⟩:=cms_add hX r.out E.out hv.cm;rw[if_pos rfl,HI.out]at t2;rw[d6.out]at t1 t2;have s:(cmsX X.D hv.cm).length=nc:=by simpa using c7.len
     have U:nc<=100000:=by rw[<-s];exact Nat.le_trans (by unfold cmsX;simpa using length_filter_le _ X.D) (Nat.le_trans hX.len hn)
     have i0:I∉cmsX X.D hv.cm:=λhm=>E.out (by rw[HI.out];exact(cms_sub hv.cm).subset hm);have cp:=dag_put a6.drew g D' (DagHs.below ⟨bh,bp,bt,bc,N',d4.out.toH⟩ ((Below.refl _ _).drew)) p8.out ⟨Ac,nc,cc⟩ (cmsX X.D hv.cm) (c7.below ((Below.refl _ _).drew)) U I t1 i0;unfold slV at cp;have l9:=dH e0;have q8:=dH t2;clear e9 c7 t1 t2 s i0 e0;go_upto_region 16 with fail
     refine kF (blk Ac) a6 ?_;intro c8 hS;have b1:=ksub_cell j1 (S:=blk Ac) h4;have b2:=ksub_row q6 (S:=blk Ac) J;have b3:=ksub_row G (S:=blk Ac) B;refine lQ ?_;intro K hK;refine cp.mono ?_;rintro e o6 ⟨⟨A9,n9,c9⟩,rfl,k2,e8,f0,e1⟩;have f:Keep (blk Ac) a6 o6:=Keep.trans ((Keep.drew a6).mono (S':=blk Ac) sI) f0 (λy hy=>.inl hy);replace hS:=f;refine⟨_,rfl,hS,hK _ _ ?_⟩;clear hK K;obtain⟨a5,d9,e5,f1,i1,L⟩:=d4.out.putC l9.out f e8 e1;unfold slV at e5;refine lZ ?_;refine wpLx_end ?_ ?_;(focus(simp only[chainOp];done));intro K hK;go_simp;refine hK _ _ ?_;clear hK K;have j7:Keep (bc :: blk Ac) a6 a5:=Keep.trans (f.mono (S':=bc :: blk Ac) (λy hy=>.inl (mem_cons_of_mem _ hy))) (f1.mono (S':=bc :: blk Ac) sI) (λy hy=>.inl hy);have b8:∀y,y≠bc->y∉blk Ac->y∉bc :: blk Ac:=λy h1 h2 h3=>(mem_cons.1 h3).elim h1 h2;have m7:=(j7.row (rowAt_lt G) (b8 gb oM B) _ _).trans G;have j8:=(j7.block (ga+1) (aG j9).1 (b8 (ga+1) oM λhm=>oH (b6 _ hm))).trans j9;have o3:∀y∈bc :: blk Ac,y∈F\/w.heap.size<=y:=λy hy=>by
      rcases mem_cons.1 hy with e | e
      ·left;rw[d5.out,e];simp
      ·left;rw[d5.out];simp[O y e]
     have n0:∀y,w4.heap.size<=y->w.heap.size<=y:=λy hy=>Nat.le_trans m1.out hy;have z6:=l8.out.size;have zr:=o4.out.size;have o5:=i5.out.size;have KA:Keep F w a5:=Keep.trans (Keep.trans (Keep.trans l8.out (o4.out.mono (S':=F) (λy hy=>.inl (by rw[d5.out,mem_singleton.1 hy];simp))) (λy hy=>.inl hy)) (i5.out.mono (S':=F) (λy hy=>.inl (m4.out y hy))) (λy hy=>.inl hy)) j7 o3;have m6:=run_stS_at (P:=prog) infoId a5 (ga+1) (idC id0) (idC I) _ j8 sI sI (idC_one _);have a3:=dH (setRow_heap a5 (ga+1) _ (idC I) _ _ j8);have d0:=kRow a5 (ga+1) (idC I);have n7:DagIn a5 g D' bh bp bt bc N' d8 d9:=i1.toIn
      (λz=>by
       have h1:=par_add (X:=X) r.out E.out z;rw[d6.out]at h1;rw[h1,mem_append,mem_reverse,HR.out];exact Or.comm)
      (λt=>by
       have h1:=(tps_add hX r.out E.out t).2;rw[d6.out,HI.out]at h1;rw[h1];by_cases e:t=hv.tp
       ·rw[if_pos e.symm,if_pos e,e]
       ·rw[if_neg (λe2=>e e2.symm),if_neg e])
      (λt=>by
       have h1:=(cms_add hX r.out E.out t).2;rw[d6.out,HI.out]at h1;rw[h1];by_cases e:t=hv.cm
       ·rw[if_pos e.symm,if_pos e,e]
       ·rw[if_neg (λe2=>e e2.symm),if_neg e])
     have l5:∀y∈g :: bh :: bp :: bt :: bc :: (psF N'++slF d8++slF d9),(y∈F/\y<ga)\/w4.heap.size<=y:=λy hy=>by
      have d:y∈g :: bh :: bp :: bt :: bc :: (psF N++slF Tm++slF Cm)->(y∈F/\y<ga)\/w4.heap.size<=y:=λh=>.inl ⟨by rw[d5.out];exact h,m0.out y h⟩;simp only[mem_cons,mem_append]at hy d;rcases hy with e | e | e | e | e | (e | e) | e
      ·exact d (by simp[e])
      ·exact d (by simp[e])
      ·exact d (by simp[e])
      ·exact d (by simp[e])
      ·exact d (by simp[e])
      ·rcases c3.out y e with e | e
       ·exact d (by simp[e])
       ·exact .inr e
      ·rcases d3.out y e with e | e
       ·exact d (by simp[e])
       ·exact .inr oM
      ·rcases L y e with e | e
       ·exact d (by simp[e])
       ·exact .inr oM
     have i2:DagAt (a5.setRow (ga+1) (idC I)) g (g :: bh :: bp :: bt :: bc :: (psF N'++slF d8++slF d9)) D':=DagAt.kept ⟨bh,bp,bt,bc,N',d8,d9,n7,rfl⟩ d0 (λy hy=>by
      simp only[mem_singleton];rcases l5 y hy with⟨_,h1⟩ | h1 <;> omega)
     have KZ:Keep F w (a5.setRow (ga+1) (idC I)):=Keep.trans KA d0 (λy hy=>.inr (by rw[mem_singleton.1 hy,i4.out];omega));have m2:=dH (And.intro i2 (And.intro (λy hy=>(l5 y hy).imp And.left (n0 y)) KZ):DagAt (a5.setRow (ga+1) (idC I)) g (g :: bh :: bp :: bt :: bc :: (psF N'++slF d8++slF d9)) D'/\(∀y∈g :: bh :: bp :: bt :: bc :: (psF N'++slF d8++slF d9),y∈F\/w.heap.size<=y)/\Keep F w (a5.setRow (ga+1) (idC I)));clear c8 hS b1 b2 b3 e5 f1 i1 L k2 e8 f0 e1 f j7 KA KZ i2 l5 n7 d0 o3 b8 k3 j1 q6 O b6 J B h6 h4 g1 g2 g3 g4 g5 U j8 G c1 j9 n0 z6 zr o5;(go_wp2_with fail);refine bodyPost_ret (results_ct results121 _ _ (ga+1) 23 (idC I) (0,0) _ rfl a3.out underlying23 rfl (by rw[idC_size];exact infoId)) rfl ?_;refine⟨_,by rw[r.out,if_pos rfl,HI.out];rfl,?_,m2.out.2.1,m2.out.2.2⟩;rw[d6.out];exact m2.out.1
 ·have p3:(V != 0)=true:=by rw[bne_iff_ne];exact d2
  have m3:=dH d2;have m6:=run_stS_at (P:=prog) infoId w1 (ga+1) (idC id0) (idC id0) _ x2 sI sI (idC_one _);have a3:=dH (setRow_heap w1 (ga+1) _ (idC id0) _ _ x2);have hk:=kRow w1 (ga+1) (idC id0);have d1:=d7.out.trans (hk.below d7.out.size (oS i4.out));have HF:=dH (And.intro (a4.out.below d1) ((Keep.of_below d1).mono (S':=F) sI));clear hk d1 x2 a9 d2;(go_wp2_with fail);refine bodyPost_ret (results_ct results121 _ _ (ga+1) 23 (idC id0) (0,0) _ rfl a3.out underlying23 rfl (by rw[idC_size];exact infoId)) rfl ?_;refine⟨F,by rw[HV.out,if_neg m3.out];rfl,?_,λy hy=>.inl hy,HF.out.2⟩;rw[show addX X.D hv=X.D from if_neg λhh=>m3.out (HV.out.symm.trans hh.1)];exact HF.out.1
section
def Apart(L:List (List Nat)):Prop:=L.Pairwise λa b=>∀x∈a,x∉b
theorem Apart.set{a':List Nat}(h:Apart (L1++a :: L2))(hl:∀b∈L1++L2,∀x∈b,x<n)(ha:∀x∈a',x∈a\/n<=x):Apart (L1++a' :: L2):=by
 unfold Apart at h |-;rw[pairwise_append,pairwise_cons]at h |-;obtain⟨h1,⟨h2,h3⟩,h4⟩:=h;refine⟨h1,⟨λb hb x hx d=>?_,h3⟩,λc hc b hb=>?_⟩
 ·rcases ha x hx with e | e
  ·exact h2 b hb x e d
  ·have:=hl b (mem_append_right _ hb) x d;omega
 ·rcases mem_cons.1 hb with rfl | hb
  ·intro x hx d;rcases ha x d with e | e
   ·exact h4 c hc a sI x hx e
   ·have:=hl c (mem_append_left _ hc) x hx;omega
  ·exact h4 c hc b (by simp[hb])
theorem Apart.ne(h:Apart (L1++a :: L2)):∀b∈L1++L2,∀x∈b,x∉a:=by
 unfold Apart at h;rw[pairwise_append,pairwise_cons]at h;obtain⟨_,⟨h2,_⟩,h4⟩:=h;intro b hb x hx d;rcases mem_append.1 hb with hb | hb
 ·exact h4 b hb a sI x hx d
 ·exact h2 b hb x d hx
structure VwP where
 g:Nat
 b:Nat
 O:List Nat
 v:Value
def vwF(p:VwX×VwP):List Nat:=p.2.g :: p.2.b :: p.2.O
structure VwAt(w:World)(M:List Nat)(p:VwX×VwP):Prop where
 view:ViewAt w p.2.g p.1.t p.2.b p.1.I p.2.v
 st:StAt w p.2.O M p.2.v p.1.s
 gO:p.2.g∉p.2.b :: p.2.O
 bO:p.2.b∉p.2.O
 lt:∀x∈vwF p,x<w.heap.size
 t:okStr p.1.t
abbrev stC(gd gs bo bv:Nat):Array Value:=#[.pointer (some ⟨gd,0,none⟩),.pointer (some ⟨gs,0,none⟩),.map (some bo),.map (some bv)]
def stFs(g bo bv:Nat)(Fd Fs:List Nat)(N:List (VwX×VwP)):List (List Nat):=[g] :: [bo] :: [bv] :: Fd :: Fs :: N.map vwF
structure StIn(w:World)(g gd gs bo bv:Nat)(Fd Fs M:List Nat)(N:List (VwX×VwP))(X:StX):Prop where
 heap:w.heap[g]?=some (.cells (stC gd gs bo bv) 85 (0,0))
 dag:DagAt w gd Fd X.D
 sto:StoAt w gs Fs X.q X.S
 own:IdSet w bo X.O
 vs:∃R es clk,MapAt w bv Value.string ptrVal okStr R es clk/\R.Perm (N.map λp=>(p.1.t,p.2.g))
 vw:∀p∈N,VwAt w M p
 vx:N.map (·.1)=X.V
 dis:Apart (stFs g bo bv Fd Fs N)
def NoVars(F:List Nat):Prop:=1∉F/\0∉F/\2∉F
def StateAt(w:World)(g:Nat)(F M:List Nat)(X:StX):Prop :=
 ∃gd gs bo bv Fd Fs N,StIn w g gd gs bo bv Fd Fs M N X/\F=(stFs g bo bv Fd Fs N).flatten/\(∀x∈F,x∈M)/\(∀x∈M,x<w.heap.size)/\NoVars F
structure Vars(w:World):Prop where
 parts:PartsVar w
 sha:ShaVars w
theorem Vars.kept{w w':World}{S:List Nat}(h:Vars w)(k:Keep S w w')(hS:NoVars S):Vars w':=⟨h.parts.kept k hS.1,h.sha.kept k hS.2.1 hS.2.2⟩
theorem Vars.below{w w':World}(h:Vars w)(k:Below w.heap.size w w'):Vars w':=⟨h.parts.below k,h.sha.below k⟩
theorem Vars.lt{w:World}(h:Vars w){n:Nat}(hn:w.heap.size<=n):n≠1/\n≠0/\n≠2:=by
 have:=h.parts.lt;have:=h.sha.ltF;have:=h.sha.ltK;exact⟨oM,oM,oM⟩
theorem NoVars.more(h:Vars w){F F':List Nat}(hF:NoVars F)(hs:∀y∈F',y∈F\/w.heap.size<=y):NoVars F':=by
 refine⟨λhx=>?_,λhx=>?_,λhx=>?_⟩
 ·rcases hs _ hx with e | e
  ·exact hF.1 e
  ·exact(h.lt e).1 rfl
 ·rcases hs _ hx with e | e
  ·exact hF.2.1 e
  ·exact(h.lt e).2.1 rfl
 ·rcases hs _ hx with e | e
  ·exact hF.2.2 e
  ·exact(h.lt e).2.2 rfl
section
variable {w w':World} {g gd gs bo bv:Nat} {F Fd Fs M S:List Nat} {N:List (VwX×VwP)} {X:StX}
theorem stFs_mem{x:Nat}:x∈(stFs g bo bv Fd Fs N).flatten↔x=g\/x=bo\/x=bv\/x∈Fd\/x∈Fs\/∃p∈N,x∈vwF p:=by
 unfold stFs;rw[mem_flatten];constructor
 ·rintro⟨l,hl,hx⟩;simp only[mem_cons,mem_map]at hl;rcases hl with rfl | rfl | rfl | rfl | rfl | ⟨p,hp,rfl⟩
  ·exact .inl (mem_singleton.1 hx)
  ·exact .inr (.inl (mem_singleton.1 hx))
  ·exact .inr (.inr (.inl (mem_singleton.1 hx)))
  ·exact .inr (.inr (.inr (.inl hx)))
  ·exact .inr (.inr (.inr (.inr (.inl hx))))
  ·exact .inr (.inr (.inr (.inr (.inr ⟨p,hp,hx⟩))))
 ·rintro(rfl | rfl | rfl | hx | hx | ⟨p,hp,hx⟩)
  ·exact⟨[x],sI,sI⟩
  ·exact⟨[x],sI,sI⟩
  ·exact⟨[x],sI,sI⟩
  ·exact⟨Fd,sI,hx⟩
  ·exact⟨Fs,sI,hx⟩
  ·exact⟨vwF p,by simp only[mem_cons,mem_map];exact .inr (.inr (.inr (.inr (.inr ⟨p,hp,rfl⟩)))),hx⟩
theorem VwAt.kept{p:VwX×VwP}(h:VwAt w M p)(k:Keep S w w')(hS:∀x∈vwF p,x∉S)(hM:∀x∈S,x∈M\/w.heap.size<=x):VwAt w' M p :=
 ⟨h.view.kept k (hS _ (by simp[vwF])) (hS _ (by simp[vwF])),h.st.kept k (λx hx=>hS x (by simp[vwF,hx])) hM,h.gO,h.bO,λx hx=>Nat.lt_of_lt_of_le (h.lt x hx) k.size,h.t⟩
theorem StAt.moreM{w:World}{O M M':List Nat}{v:Value}{s:VSt}(h:StAt w O M v s)(hs:∀x∈M,x∈M')(hn:∀x∈M',x∈M\/w.heap.size<=x):StAt w O M' v s:=by
 cases s with
 | s N G =>
  obtain⟨g,bn,bb,bg,e,h1,rfl⟩:=h;exact⟨g,bn,bb,bg,e,h1.moreM hs hn,rfl⟩
 | _=>exact h
theorem VwAt.moreM{M':List Nat}{p:VwX×VwP}(h:VwAt w M p)(hs:∀x∈M,x∈M')(hn:∀x∈M',x∈M\/w.heap.size<=x):VwAt w M' p:=⟨h.view,h.st.moreM hs hn,h.gO,h.bO,h.lt,h.t⟩
theorem StIn.moreM{M':List Nat}(h:StIn w g gd gs bo bv Fd Fs M N X)(hs:∀x∈M,x∈M')(hn:∀x∈M',x∈M\/w.heap.size<=x):StIn w g gd gs bo bv Fd Fs M' N X:=⟨h.heap,h.dag,h.sto,h.own,h.vs,λp hp=>(h.vw p hp).moreM hs hn,h.vx,h.dis⟩
theorem StIn.kept(h:StIn w g gd gs bo bv Fd Fs M N X)(k:Keep S w w')(hF:∀x∈(stFs g bo bv Fd Fs N).flatten,x∉S)(hM:∀x∈S,x∈M\/w.heap.size<=x):StIn w' g gd gs bo bv Fd Fs M N X:=by
 obtain⟨R,es,d,hm,hp⟩:=h.vs;have hF:=λx=>λhx=>hF x (stFs_mem.2 hx);exact⟨(k.block g (aG h.heap).1 (hF g (.inl rfl))).trans h.heap,h.dag.kept k λx hx=>hF x (by simp[hx]),h.sto.kept k λx hx=>hF x (by simp[hx]),h.own.kept k (hF bo sI),
  ⟨R,es,d,hm.kept k (hF bv sI),hp⟩,λp hp=>(h.vw p hp).kept k (λx hx=>hF x (.inr (.inr (.inr (.inr (.inr ⟨p,hp,hx⟩)))))) hM,h.vx,h.dis⟩
theorem StIn.lt(h:StIn w g gd gs bo bv Fd Fs M N X):∀b∈stFs g bo bv Fd Fs N,∀x∈b,x<w.heap.size:=by
 obtain⟨R,es,d,hm,hp⟩:=h.vs;intro b hb x hx;have hx:x∈(stFs g bo bv Fd Fs N).flatten:=mem_flatten.2 ⟨b,hb,hx⟩;rcases stFs_mem.1 hx with e | e | e | e | e | ⟨p,hp,e⟩
 ·rw[e];exact(aG h.heap).1
 ·rw[e];exact h.own.lt
 ·rw[e];exact hm.lt
 ·exact h.dag.lt x e
 ·exact h.sto.lt x e
 ·exact(h.vw p hp).lt x e
theorem StateAt.kept(h:StateAt w g F M X)(k:Keep S w w')(hF:∀x∈F,x∉S)(hM:∀x∈S,x∈M\/w.heap.size<=x):StateAt w' g F M X:=by
 obtain⟨gd,gs,bo,bv,Fd,Fs,N,h,rfl,h2,h3,hv⟩:=h;exact⟨gd,gs,bo,bv,Fd,Fs,N,h.kept k hF hM,rfl,h2,λx hx=>Nat.lt_of_lt_of_le (h3 x hx) k.size,hv⟩
theorem StateAt.below(h:StateAt w g F M X)(k:Below w.heap.size w w'):StateAt w' g F M X:=h.kept (Keep.of_below k) sI sI
theorem StateAt.lt(h:StateAt w g F M X):∀x∈F,x<w.heap.size:=by
 obtain⟨gd,gs,bo,bv,Fd,Fs,N,h,rfl,h2,h3,hv⟩:=h;exact λx hx=>h3 x (h2 x hx)
theorem StateAt.no(h:StateAt w g F M X):NoVars F:=by
 obtain⟨gd,gs,bo,bv,Fd,Fs,N,h,rfl,h2,h3,hv⟩:=h;exact hv
theorem StateAt.more(h:StateAt w g F M X)(k:Below w.heap.size w w')(L:List Nat)(hL:∀y∈L,w.heap.size<=y/\y<w'.heap.size):StateAt w' g F (L++M) X:=by
 obtain⟨gd,gs,bo,bv,Fd,Fs,N,h,rfl,h2,h3,hv⟩:=h;have h1:=h.moreM (M':=L++M) (λx hx=>mem_append_right _ hx) (λx hx=>(mem_append.1 hx).elim (λhx=>.inr (hL x hx).1) .inl);refine⟨gd,gs,bo,bv,Fd,Fs,N,h1.kept (Keep.of_below k) sI sI,rfl,λx hx=>mem_append_right _ (h2 x hx),λx hx=>?_,hv⟩;rcases mem_append.1 hx with hx | hx
 ·exact(hL x hx).2
 ·exact Nat.lt_of_lt_of_le (h3 x hx) k.size
end
end
theorem vw_fold(m:MarkV)(w:World)(M:List Nat)(p:VwX×VwP)(h:VwAt w M p)(hs:∀x∈vwF p,x∈M)(hM:∀x∈M,x<w.heap.size)(hv:PartsVar w)(L:1∉vwF p)(hb:m.body.size<=9223372036854775807)(hk:kindB p.1.t=p.1.s.kind)(hl:p.1.s.len<=1000) :
  Calls prog 196 #[.pointer (some ⟨p.2.g,0,none⟩),.agg (markVC m)] w λe w'=>(∃b,e=.returned (.bool b))/\VwAt w' M (foldV m p.1,p.2)/\Keep (vwF p) w w':=by
 obtain⟨⟨t,I,s⟩,⟨g,b,O,v⟩⟩:=p;obtain⟨r,B,gO,bO,lt,tO⟩:=h;have bO:b∉O:=bO;have gO:g∉b :: O:=gO;by_cases hm:m.id∈I
 ·rw[show foldV m ⟨t,I,s⟩=⟨t,I,s⟩ from if_pos hm];refine(vfold_old m w g t b I v r hm).mono ?_;rintro e w' ⟨rfl,k⟩;exact⟨⟨_,rfl⟩,⟨r.below k,B.below k,gO,bO,λx hx=>Nat.lt_of_lt_of_le (lt x hx) k.size,tO⟩,(Keep.of_below k).mono sI⟩
 rw[show foldV m ⟨t,I,s⟩=⟨t,m.id :: I,foldS t m s⟩ from if_neg hm];have J:g∉O:=λhx=>gO (mem_cons_of_mem _ hx);have G:∀x∈O,x∉[b]:=λx hx H=>bO (by have:x=b:=by simpa using H
                                                                                                                                                 rwa [<-this])
 have F:∀x∈[b],x∈M\/w.heap.size<=x:=λx hx=>.inl (hs x (by rw[mem_singleton.1 hx];simp[vwF]));have tl:t.size<=9223372036854775807:=by have:t.size<=maxLen:=tO;unfold maxLen at this;omega
 refine(vfold_new m w g t b I v r hm hv (λe=>L (by simp[vwF,e])) hb tl (λw'=>VwAt w' M (⟨t,m.id :: I,foldS t m s⟩,⟨g,b,O,v⟩)/\Keep (vwF (⟨t,I,s⟩,⟨g,b,O,v⟩)) w w') ?_ ?_).mono ?_
 ·intro hf w' f d;have e:foldS t m s=s:=if_neg hf;rw[e];exact⟨⟨f,B.kept d G F,gO,bO,λx hx=>Nat.lt_of_lt_of_le (lt x hx) d.size,tO⟩,d.mono (S':=vwF (⟨t,I,s⟩,⟨g,b,O,v⟩)) (by simp[vwF])⟩
 ·intro hf w1 A c f d N D;have e:foldS t m s=doS m (opO m.body.data.toList) s:=if_pos hf;rw[e];have j:=opO_ok _ hf.1;have y:StAt w1 O M v s:=B.kept d G F;refine(vdoes m _ A c w1 g t b (m.id :: I) v O M s f y (λx hx=>Nat.lt_of_lt_of_le (hM x hx) d.size) ⟨hf.2.trans hk,j.2.2.2.1,j.2.2.2.2.1,j.2.2.2.2.2.1,opO_lo _ hf.1,j.2.2.2.2.2.2.2⟩ D.slr hl).mono ?_;rintro e w' ⟨rfl,h1,E⟩;exact⟨rfl,⟨f.kept E J bO,h1,gO,bO,λx hx=>Nat.lt_of_lt_of_le (lt x hx) (Nat.le_trans d.size E.size),tO⟩,Keep.trans (d.mono (S':=vwF (⟨t,I,s⟩,⟨g,b,O,v⟩)) (by simp[vwF])) (E.mono (S':=vwF (⟨t,I,s⟩,⟨g,b,O,v⟩)) (λx hx=>.inl (by simp[vwF,hx]))) iL⟩
 ·rintro e w' ⟨rfl,h1,h2⟩;exact⟨⟨_,rfl⟩,h1,h2⟩
theorem st_none(w:World)(g gd:Nat)(h:w.cell? ⟨g,0,none⟩=some (.pointer (some ⟨gd,0,none⟩))):Calls prog 69 #[.pointer (some ⟨g,0,none⟩)] w λe w'=>e=.returned (.bool false)/\w=w':=by
 go_enter func69,ntmps69
 (go_wp2_with fail);go_ret;exact⟨rfl,rfl⟩
structure StPre(n:Nat)(X:StX):Prop where
 nd:(idsX X.D).Nodup
 ok:∀x∈X.D,hdE x.h=0/\x.id=hdI x.h
 len:X.D.length<=n
 body:∀p∈X.S,p.body.size<=512
 nv:(X.V.map (·.t)).Nodup
 vw:∀v∈X.V,VOk X.D v
theorem StOk.pre(h:StOk n X):StPre n X:=⟨h.nd,h.ok,h.len,λp hp=>(h.body p hp).2.2,h.nv,h.vw⟩
def paidB(X:StX)(i:Id32):ByteArray:=match paidX X.D X.S i with | some b=>b | none=>⟨#[]⟩
def paidE(X:StX)(i:Id32):Int:=match paidX X.D X.S i with | some _=>0 | none=>7
theorem hdR_cm(h:rowAt w g 0 38=some (hdR x)):rowAt w g 6 32=some (idC x.h.cm):=by
 have:=rowAt_sub h (j:=6) (m:=32) oM;rw[Nat.zero_add]at this;rw[this];exact congrArg some (hdC_e6 _)
theorem hdR_sz(h:rowAt w g 0 38=some (hdR x)):w.cell? ⟨g,5,none⟩=some (.int .i64 x.h.sz):=by
 have:=rowAt_cell h (j:=5) oM;rw[Nat.zero_add]at this;rw[this];simp[hdR,hdO,hdC]
theorem hdR_tp(h:rowAt w g 0 38=some (hdR x)):w.cell? ⟨g,2,none⟩=some (.string x.h.tp):=by
 have:=rowAt_cell h (j:=2) oM;rw[Nat.zero_add]at this;rw[this];simp[hdR,hdO,hdC]
theorem hdR_ht(h:rowAt w g 0 38=some (hdR x)):w.cell? ⟨g,1,none⟩=some (.int .i64 x.h.ht):=by
 have:=rowAt_cell h (j:=1) oM;rw[Nat.zero_add]at this;rw[this];simp[hdR,hdO,hdC]
def hdZ:HdIn:=⟨⟨[],0,⟨#[]⟩,0,0,0,id0⟩,none,0⟩
def Got(D:List HdX)(i:Id32)(x:HdIn)(E:Int):Prop:=(hdOf D i=some x.h/\E=0)\/(hdOf D i=none/\E=7/\x=hdZ)
theorem dag_got(w:World)(g:Nat)(F:List Nat)(n:Nat)(X:StX)(h:DagAt w g F X.D)(hX:StPre n X)(a:Id32) :
  Calls prog 117 #[.pointer (some ⟨g,0,none⟩),.agg (idC a)] w λe w'=>∃x E,e=.returned (.tuple #[.agg (hdR x),.int .i64 E])/\Got X.D a x E/\Below w.heap.size w w':=by
 refine(dag_get w g F X.D h hX.nd a (λx hx=>by obtain⟨y,hy,_,e⟩:=hdOf_some hx;have:=(hdE_ok (hX.ok y hy).1).ps;rw[<-e];omega)).mono ?_;rintro e w' ⟨⟨x,A',c',h1,rfl,_⟩ | ⟨h1,rfl⟩,hb⟩
 ·exact⟨⟨x,A',c'⟩,0,rfl,.inl ⟨h1,rfl⟩,hb⟩
 ·exact⟨hdZ,7,rfl,.inr ⟨h1,rfl,rfl⟩,hb⟩
theorem stHd_at(w:World)(g:Nat)(h:w.heap[g]?=some (.cells (hdC hd0) 49 (0,0)))(x:HdIn) :
  ∃w2,(stS 49 ⟨g,0,none⟩ (.agg (hdR x))).run prog w=.ok () w2/\rowAt w2 g 0 38=some (hdR x)/\Keep [g] w w2 :=
 ⟨_,run_stS_at (P:=prog) infoHd w g (hdC hd0) (hdR x) _ h sI (by simp[hdR]) (hdC_one _ (dO_one x)),by unfold rowAt;rw[setRow_heap w g _ (hdR x) _ _ h];simp[hdR],kRow w g (hdR x)⟩
theorem st_payload(w:World)(g gd gs bo bv:Nat)(Fd Fs:List Nat)(X:StX)(hg:w.heap[g]?=some (.cells (stC gd gs bo bv) 85 (0,0)))(hd:DagAt w gd Fd X.D)(hs:StoAt w gs Fs X.q X.S)(n:Nat)(hX:StPre n X)(i:Id32) :
  Calls prog 195 #[.pointer (some ⟨g,0,none⟩),.agg (idC i)] w λe w'=>e=.returned (.tuple #[.string (paidB X i),.int .i64 (paidE X i)])/\Below w.heap.size w w':=by
 have hB:Below w.heap.size w (w.alloc (.cells (idC i) 23)):=bA;have hr:rowAt (w.alloc (.cells (idC i) 23)) w.heap.size 0 32=some (idC i):=by simp[go_sem]
 obtain⟨W,hW⟩:=eR (w.alloc (.cells (idC i) 23))
 obtain⟨ga,G⟩:=eX w.heap.size
 rw[<-hW]at hB hr;rw[G]at hr;have H:=(hB.block g (aG hg).1).trans hg;have c0:W.cell? ⟨g,0,none⟩=some (.pointer (some ⟨gd,0,none⟩)):=by rw[cell_of_row W g 0 _ _ _ H];rfl
 have c1:W.cell? ⟨g,1,none⟩=some (.pointer (some ⟨gs,0,none⟩)):=by rw[cell_of_row W g 1 _ _ _ H];rfl
 have cN:=st_none W g gd c0;have cD:=fun (V:World) (hV:Below W.heap.size W V)=>dag_got V gd Fd n X ((hd.below hB).below hV) hX i;have Hs:=dH (hs.kept (Keep.of_below hB) sI);obtain⟨Bd,J⟩:=eX (paidB X i)
 obtain⟨E,hE⟩:=eX (paidE X i)
 rw[J,hE];have HW:=dH hW;have HB:=dH hB;have a1:=dH G;have A:=dH J;have HE:=dH hE;clear hW hB G J hE hg H hd hs;go_enter func195,ntmps195
 (go_wp2_with fail);rw[<-HW.out,a1.out];refine cN.mono ?_;rintro e w' ⟨rfl,rfl⟩;clear cN;go_upto_region 3 with fail
 go_cut [6,7] (λp ev wx=>∃gh x E,p=.pointer (some ⟨gh,0,none⟩)/\ev=.int .i64 E/\rowAt wx gh 0 38=some (hdR x)/\Got X.D i x E/\Below W.heap.size W wx)
 case first =>
  refine wp_region_tree (.loose 0 (.loose 1 (.loose 2 (.loose 3 (.loose 4 (.two 5 (.loose 6 (.loose 7 (.loose 8 (.one 9 (.one 10 (.loose 11 .done)))))) 9 (.one 5 (.loose 6 (.loose 7 (.loose 8 (.one 10 (.loose 11 .done)))))))))))) (Bel W) false kR kR kR kR (bel_drew W) ?_;have t:=bel_some W;have hS:=bel_drew W;have b1:=sub_cell c0;have b2:=sub_row hr;refine tZ ?_;refine wpTx_two ?_ ?_
  ·skip;refine tH ?_;intro K hK;refine(cD _ hS).mono ?_;rintro e w1 ⟨x,E,rfl,f,y⟩;replace hS:=bel_next hS y;refine⟨_,rfl,hS,hK _ _ ?_⟩;clear hK K;refine tZ ?_;have O:Below w1.heap.size w1 (w1.alloc (.cells (hdC hd0) 49)):=bA;have xz:=heap_alloc_new w1 (.cells (hdC hd0) 49);have m:=Below.size hS;have Hn:=dH (bel_next hS O);refine tH ?_;intro K hK;refine step_keep Hn.out (λk=>?_);refine hK _ _ ?_;clear hK K hS;have hS:=k;obtain⟨w3,F,d,r⟩:=stHd_at _ _ xz x;have H3:=dH (Below.trans hS (r.below (Below.size hS) sO));refine tH ?_;intro K hK;refine step_keep H3.out (λk=>?_);refine hK _ _ ?_;clear hK K hS;have hS:=k;refine tZ ?_;refine wpTx_done ?_;intro hS;clear xz O F r;go_wp2_with fail
   go_meet
   exact⟨_,x,E,rfl,rfl,d,f,H3.out⟩
  ·skip;have M:=dH (show Below W.heap.size W (W.drew.alloc (.cells (hdC hd0) 49))from((Below.refl _ _).drew).alloc lR _);have xz:(W.drew.alloc (.cells (hdC hd0) 49)).heap[W.heap.size]?=some (.cells (hdC hd0) 49 (0,0)):=heap_alloc_new W.drew (.cells (hdC hd0) 49);refine tH ?_;intro K hK;refine step_keep M.out (λk=>?_);refine hK _ _ ?_;clear hK K hS;have hS:=k;refine tH ?_;intro K hK;refine(cD _ M.out).mono ?_;rintro e w1 ⟨x,E,rfl,f,y⟩;have H1:=dH (bel_next M.out y);refine⟨_,rfl,H1.out,hK _ _ ?_⟩;clear hK K hS;have hS:=H1.out;refine tZ ?_;have N:=(y.block W.heap.size sI).trans xz;obtain⟨w3,F,d,r⟩:=stHd_at _ _ N x;have H3:=dH (Below.trans H1.out (r.below (Below.size H1.out) sI));refine tH ?_;intro K hK;refine step_keep H3.out (λk=>?_);refine hK _ _ ?_;clear hK K hS;have hS:=k;refine tZ ?_;refine wpTx_done ?_;intro hS;clear xz N F r;go_wp2_with fail
   go_meet
   exact⟨_,x,E,rfl,rfl,d,f,H3.out⟩
 case rest =>
 obtain⟨gh,x,E0,rfl,rfl,s,f,j⟩:=hcut;rcases f with⟨h0,rfl⟩ | ⟨h0,rfl,rfl⟩
 rotate_left
 ·have a0:=bel2 HB.out j;have h1:paidX X.D X.S i=none:=by unfold paidX;rw[h0]
  have e1:Bd=⟨#[]⟩:=by rw[<-A.out];unfold paidB;rw[h1]
  have e2:E=7:=by rw[<-HE.out];unfold paidE;rw[h1]
  subst e1;subst e2;clear cD h0 h1 s j;(go_wp2_with fail);go_ret2;exact⟨rfl,a0⟩
 obtain⟨Z,rfl⟩:=eR wc
 obtain⟨h,A',c'⟩:=x;have h0:hdOf X.D i=some h:=h0;have z1:=(j.cell (p:=⟨g,1,none⟩) (block_lt_of_cell? W _ c1)).trans c1;have I:=hdR_cm s;have m:=hdR_sz s;have cS:=sto_get Z.drew gs Fs X.q X.S h.cm (Hs.out.kept ((Keep.of_below j).trans (Keep.drew Z) sI) sI);have T:=dH (bel2 HB.out j);have hp:paidX X.D X.S i=match payX X.S h.cm with | none=>none | some p=>if(p.body.size:Int)=h.sz then some p.body else none:=by unfold paidX;rw[h0];rfl
 have Hp:=dH hp;clear cD h0 j s hr c0 c1 hp;go_upto_region 6 with fail
 cases h2:payX X.S h.cm with
 | none =>
  rw[h2]at cS;dsimp only at cS;have h1:paidX X.D X.S i=none:=by rw[Hp.out,h2]
  have e1:Bd=⟨#[]⟩:=by rw[<-A.out];unfold paidB;rw[h1]
  have e2:E=7:=by rw[<-HE.out];unfold paidE;rw[h1]
  subst e1;subst e2;clear h1 h2;refine lX Z ?_;intro t hS;have b1:=sub_cell z1;have b2:=sub_row I;refine lZ ?_;refine lC (cS) ?_;clear hS;intro w' hS;refine lZ ?_;refine wpLx_nil ?_;intro hS;have j:=bel2 T.out hS;clear t hS b1 b2 cS m;(go_wp2_with fail);go_ret2;exact⟨rfl,j⟩
 | some p =>
  rw[h2]at cS;dsimp only at cS;obtain⟨B,L⟩:=eX p.body
  rw[L]at cS;have R:Hid (paidX X.D X.S i=if(B.size:Int)=h.sz then some B else none):=dH (by rw[Hp.out,h2];subst L;rfl);clear h2 L;refine lX Z ?_;intro t hS;have b1:=sub_cell z1;have b2:=sub_row I;refine lZ ?_;refine lC (cS) ?_;clear hS;intro w' hS;refine lZ ?_;refine wpLx_nil ?_;intro hS;have Y:=(Below.cell (p:=⟨gh,5,none⟩) (show Below Z.heap.size Z w' from hS) (block_lt_of_cell? Z _ m)).trans m;have j:=bel2 T.out hS;clear t hS b1 b2 cS m I;by_cases hq:(B.size:Int)=h.sz
  ·have U:((B.size:Int) != h.sz)=false:=by rw[bne_eq_false_iff_eq];exact hq
   have h1:paidX X.D X.S i=some B:=by rw[R.out,if_pos hq]
   have e1:Bd=B:=by rw[<-A.out];unfold paidB;rw[h1]
   have e2:E=0:=by rw[<-HE.out];unfold paidE;rw[h1]
   subst e1;subst e2;clear h1 hq;(go_wp2_with fail);go_ret2;exact⟨rfl,j⟩
  ·have U:((B.size:Int) != h.sz)=true:=by rw[bne_iff_ne];exact hq
   have h1:paidX X.D X.S i=none:=by rw[R.out,if_neg hq]
   have e1:Bd=⟨#[]⟩:=by rw[<-A.out];unfold paidB;rw[h1]
   have e2:E=7:=by rw[<-HE.out];unfold paidE;rw[h1]
   subst e1;subst e2;clear h1 hq;(go_wp2_with fail);go_ret2;exact⟨rfl,j⟩
section
theorem kindB_small(h:kindB t≠0):t.size<=12:=by
 unfold kindB at h;split at h
 ·exact(formedB_size ‹_›).2
 ·contradiction
theorem okStr_kind(h:kindB t≠0):okStr t:=by have:=kindB_small h;show _<=maxLen;unfold maxLen;omega
theorem hdE_tp{h:HdV}(e:hdE h=0):kindB h.tp≠0:=by
 have:=(hdE_ok e).tp;unfold checkB at this;split at this
 ·cases this
 ·assumption
theorem zeroVwP(w:World):(zeroValue 114).run prog w=.ok (.pointer none) w:=kR
section
variable {w w':World} {g gd gs bo bv:Nat} {Fd Fs M:List Nat} {N:List (VwX×VwP)} {X:StX}
theorem StIn.look(h:StIn w g gd gs bo bv Fd Fs M N X)(ht:okStr t) :
  (∃p∈N,p.1.t=t/\∀w2 S,Keep S w w2->bv∉S->(Instr.lookup 83 (.map (some bv)) (.string t) true).run prog w2=.ok (.tuple #[.pointer (some ⟨p.2.g,0,none⟩),.bool true]) w2/\(Instr.lookup 83 (.map (some bv)) (.string t) false).run prog w2=.ok (.pointer (some ⟨p.2.g,0,none⟩)) w2) \/
  (t∉X.V.map (·.t)/\∀w2 S,Keep S w w2->bv∉S->(Instr.lookup 83 (.map (some bv)) (.string t) true).run prog w2=.ok (.tuple #[.pointer none,.bool false]) w2):=by
 obtain⟨R,es,f,hm,hp⟩:=h.vs;by_cases hx:t∈R.map (·.1)
 ·obtain⟨q,hq,rfl⟩:=mem_map.1 hx;obtain⟨p,d,e⟩:=mem_map.1 (hp.mem_iff.1 hq);refine .inl ⟨p,d,by rw[<-e],λw2 S hk hb=>?_⟩;have e2:q.2=p.2.g:=by rw[<-e]
  rw[<-e2];exact⟨(hm.kept hk hb).hit strKey underlying83 ht hq true,(hm.kept hk hb).hit strKey underlying83 ht hq false⟩
 ·refine .inr ⟨λhV=>hx ?_,λw2 S hk hb=>(hm.kept hk hb).miss strKey underlying83 (zeroVwP w2) ht hx true⟩;rw[<-h.vx,map_map]at hV;obtain⟨p,d,e⟩:=mem_map.1 hV;exact mem_map.2 ⟨(p.1.t,p.2.g),hp.mem_iff.2 (mem_map.2 ⟨p,d,rfl⟩),e⟩
theorem StIn.turned(h:StIn w g gd gs bo bv Fd Fs M N X){p:VwX×VwP}(hp:p∈N){v':VwX}(ht:v'.t=p.1.t)(k:(X.V.map (·.t)).Nodup)(hk:Keep (vwF p) w w')(hM:∀x∈vwF p,x∈M)(hw:VwAt w' M (v',p.2)) :
  ∃N',StIn w' g gd gs bo bv Fd Fs M N' ⟨X.q,X.D,X.O,X.S,X.V.map λv=>if v.t=p.1.t then v' else v⟩/\N'.map vwF=N.map vwF:=by
 have A:(N.map λq=>q.1.t).Nodup:=by rw[<-h.vx,map_map]at k;exact k
 have f:∀q∈N,q.1.t=p.1.t->q=p:=λq hq e=>nd_inj A hq hp e;have m:(N.map λq=>if q.1.t=p.1.t then(v',q.2)else q).map vwF=N.map vwF:=by
  rw[map_map];refine map_congr_left λq _=>?_;show vwF (if q.1.t=p.1.t then(v',q.2)else q)=vwF q;split <;> rfl
 obtain⟨L1,L2,hN⟩:=append_of_mem hp;have d:∀b∈([g] :: [bo] :: [bv] :: Fd :: Fs :: L1.map vwF)++L2.map vwF,∀x∈b,x∉vwF p:=by
  have hd:=h.dis;unfold stFs at hd;rw[hN,map_append,map_cons,show[g] :: [bo] :: [bv] :: Fd :: Fs :: (L1.map vwF++vwF p :: L2.map vwF)=([g] :: [bo] :: [bv] :: Fd :: Fs :: L1.map vwF)++vwF p :: L2.map vwF from rfl]at hd;exact hd.ne
 have hg:∀x∈[g],x∉vwF p:=d [g] sI;have E:∀x∈[bo],x∉vwF p:=d [bo] sI;have B:∀x∈[bv],x∉vwF p:=d [bv] sI;have G:=d Fd sI;have F:=d Fs sI;have hq:∀q∈N,q≠p->∀x∈vwF q,x∉vwF p:=λq hq y=>by
  rw[hN]at hq;rcases mem_append.1 hq with hq | hq
  ·exact d (vwF q) (mem_append_left _ (by simp only[mem_cons];exact .inr (.inr (.inr (.inr (.inr (mem_map_of_mem hq)))))))
  ·rcases mem_cons.1 hq with hq | hq
   ·exact absurd hq y
   ·exact d (vwF q) (mem_append_right _ (mem_map_of_mem hq))
 obtain⟨R,es,H,hm,s⟩:=h.vs;refine⟨N.map λq=>if q.1.t=p.1.t then(v',q.2)else q,⟨(hk.block g (aG h.heap).1 (hg g sI)).trans h.heap,h.dag.kept hk G,h.sto.kept hk F,h.own.kept hk (E bo sI),
  ⟨R,es,H,hm.kept hk (B bv sI),?_⟩,?_,?_,?_⟩,m⟩
 ·refine s.trans ?_;rw[map_map];refine Perm.of_eq (map_congr_left λq hq=>?_);show(q.1.t,q.2.g)=((if q.1.t=p.1.t then(v',q.2)else q).1.t,(if q.1.t=p.1.t then(v',q.2)else q).2.g)
  split
  ·rw[ht];simp_all
  ·rfl
 ·intro q' r;obtain⟨q,j,rfl⟩:=mem_map.1 r;by_cases e:q.1.t=p.1.t
  ·rw[if_pos e,f q j e];exact hw
  ·rw[if_neg e];exact(h.vw q j).kept hk (hq q j (λh=>e (by rw[h]))) (λx hx=>.inl (hM x hx))
 ·rw[map_map];show N.map (λq=>(if q.1.t=p.1.t then(v',q.2)else q).1)=X.V.map λv=>if v.t=p.1.t then v' else v;rw[<-h.vx,map_map];refine map_congr_left λq _=>?_;show _=if q.1.t=p.1.t then v' else q.1;split <;> rfl
 ·show Apart ([g] :: [bo] :: [bv] :: Fd :: Fs :: (N.map λq=>if q.1.t=p.1.t then(v',q.2)else q).map vwF);rw[m];exact h.dis
end
theorem foldI_no(h:paidX D S i=none)(v:VwX):foldI D S v i=v:=by
 unfold foldI;rw[h];split
 ·rename_i e;cases e
 ·rfl
theorem foldI_off{x:HdV}(h:hdOf D i=some x)(ht:v.t≠x.tp):foldI D S v i=v:=by
 unfold foldI;rw[h];split
 ·rename_i h1 h2 h3;injection h2 with h2;subst h2;rw[if_neg ht]
 ·rfl
theorem foldI_on{x:HdV}(h:hdOf D i=some x)(hb:paidX D S i=some b)(ht:v.t=x.tp):foldI D S v i=foldV ⟨i,x.ht,b⟩ v:=by
 unfold foldI;rw[h,hb];exact if_pos ht
theorem foldsX_step(X:StX)(L:List Id32)(hk:k<L.length):foldsX X (L.take (k+1))=⟨X.q,X.D,X.O,X.S,(foldsX X (L.take k)).V.map λv=>foldI X.D X.S v L[k]⟩:=by
 show(⟨X.q,X.D,X.O,X.S,X.V.map λv=>(L.take (k+1)).foldl (foldI X.D X.S) v⟩:StX)=⟨X.q,X.D,X.O,X.S,(X.V.map λv=>(L.take k).foldl (foldI X.D X.S) v).map λv=>foldI X.D X.S v L[k]⟩
 rw[map_map];congr 1
 refine map_congr_left λv _=>?_;rw[take_succ_eq_append_getElem hk,foldl_append];rfl
theorem foldV_t(m:MarkV)(v:VwX):(foldV m v).t=v.t:=by unfold foldV;split <;> rfl
theorem foldsX_nil(X:StX):foldsX X []=X:=by unfold foldsX;simp
theorem map_turn{V:List VwX}(hn:(V.map (·.t)).Nodup){p:VwX}(hp:p∈V){f:VwX->VwX}(hf:∀v,v.t≠p.t->f v=v):V.map f=V.map λv=>if v.t=p.t then f p else v:=by
 refine map_congr_left λv hv=>?_;by_cases e:v.t=p.t
 ·rw[if_pos e,nd_inj hn hv hp e]
 ·rw[if_neg e,hf v e]
theorem StPre.folds(h:StPre n X)(L:List Id32):StPre n (foldsX X L):=by
 refine⟨h.nd,h.ok,h.len,h.body,?_,λv hv=>?_⟩
 ·rw[foldsX_ts];exact h.nv
 ·obtain⟨v0,h0,rfl⟩:=mem_map.1 hv;exact folds_ok X.S L (h.vw v0 h0)
theorem foldsX_same(X:StX)(L:List Id32)(hk:k<L.length)(h:∀v∈(foldsX X (L.take k)).V,foldI X.D X.S v L[k]=v):foldsX X (L.take (k+1))=foldsX X (L.take k):=by
 rw[foldsX_step X L hk];have:(foldsX X (L.take k)).V.map (λv=>foldI X.D X.S v L[k])=(foldsX X (L.take k)).V:=by
  rw[map_congr_left h,map_id']
 rw[this];rfl
theorem paidX_body(h:paidX D S i=some b):∃p∈S,p.body=b:=by
 unfold paidX at h;split at h
 ·cases h
 split at h
 ·cases h
 rename_i p e
 split at h
 ·injection h with h;exact⟨p,(payX_some e).1,h⟩
 ·cases h
theorem paidX_none(h:hdOf D i=none):paidX D S i=none:=by unfold paidX;rw[h]
theorem StPre.view(h:StPre n X)(hv:v∈X.V):kindB v.t=v.s.kind/\v.s.len<=100+n:=by
 have h1:=h.vw v hv;refine⟨h1.kind,Nat.le_trans h1.len ?_⟩;have h2:v.I.length<=(tpsX X.D v.t).length:=nodup_len h1.nd h1.mem;have h3:=tpsX_len (D:=X.D) v.t;have h4:=h.len;omega
end
theorem st_foldIn(w:World)(g gd gs bo bv:Nat)(Fd Fs F M:List Nat)(N:List (VwX×VwP))(n:Nat)(X:StX)(h:StIn w g gd gs bo bv Fd Fs M N X)(hF:F=(stFs g bo bv Fd Fs N).flatten)(e9:∀x∈F,x∈M)(hM:∀x∈M,x<w.heap.size)(a9:NoVars F)(hv:Vars w)(hX:StPre n X)(hn:n<=800)(A:Option Addr)(c:Nat)(L:List Id32)(hL:TagsIn w A L.length L)(h5:L.length<=1000000)(hA:∀y∈blk A,y∉F) :
  Calls prog 123 #[.pointer (some ⟨g,0,none⟩),.slice A L.length c] w λe w'=>e=.returned (.tuple #[])/\(∃N',StIn w' g gd gs bo bv Fd Fs M N' (foldsX X L)/\N'.map vwF=N.map vwF)/\Keep F w w':=by
 have HF:=dH hF;have f2:=dH a9;have HX:=dH hX;have H:=dH h;have f7:=dH e9;have h4:g<w.heap.size:=(aG h.heap).1;clear h hF a9 hX e9;go_enter func123,ntmps123
 (go_wp2_with fail);go_loopw [14] (λiv wr=>∃(k:Nat) (Nk:List (VwX×VwP)),k<=L.length/\iv=.int .i64 k/\Hid (StIn wr g gd gs bo bv Fd Fs M Nk (foldsX X (L.take k)))/\Hid (Nk.map vwF=N.map vwF)/\Hid (Keep F w wr)) (λiv _=>L.length-(intOf iv).toNat)
 case atStart=>exact⟨0,N,zL,rfl,dH (by rw[take_zero,foldsX_nil];exact H.out),(show _=_ from rfl),dH (Keep.refl _ _)⟩
 case round =>
  obtain⟨k,Nk,hk,rfl,b5,b4,a4⟩:=hrel;by_cases b0:k<L.length
  ·have e5:TagsIn wr A L.length L:=SlR.kept hL a4.out hA;obtain⟨q,o,rfl,hr⟩:=TagsIn.get e5 b0 b0;obtain⟨i,hi⟩:=eX (L[k]'b0)
   rw[hi]at hr;have f:=foldsX_step X L b0;rw[hi]at f;have hB:Below wr.heap.size wr (wr.alloc (.cells (idC i) 23)):=bA;have a8:rowAt (wr.alloc (.cells (idC i) 23)) wr.heap.size 0 32=some (idC i):=by simp[go_sem]
   obtain⟨Y,hY⟩:=eR (foldsX X (L.take k))
   have HY:=dH hY;have hD:X.D=Y.D:=by rw[hY];rfl
   have e6:X.S=Y.S:=by rw[hY];rfl
   have T:(∀v∈Y.V,foldI X.D X.S v i=v)->foldsX X (L.take (k+1))=Y:=λhh=>(by rw[hY];exact foldsX_same X L b0 (by rw[<-hY,hi];exact hh));have a3:StPre n Y:=by rw[hY];exact HX.out.folds _
   rw[<-hY]at b5 f;have U:=dH T;have hW:=b5.out.kept (Keep.of_below hB) sI sI;have b6:=dH f;have HD:=dH hD;have f5:=dH e6;have J:=dH a3;have Z:=dH ((hv.kept a4.out f2.out).below hB);obtain⟨W,c7⟩:=eR (wr.alloc (.cells (idC i) 23))
   obtain⟨ga,c6⟩:=eX wr.heap.size
   rw[<-c7]at hB a8 hW Z;rw[c6]at a8;have c0:W.cell? ⟨g,0,none⟩=some (.pointer (some ⟨gd,0,none⟩)):=by rw[cell_of_row W g 0 _ _ _ hW.heap];rfl
   have c3:W.cell? ⟨g,3,none⟩=some (.map (some bv)):=by rw[cell_of_row W g 3 _ _ _ hW.heap];rfl
   have cD:=fun (V:World) (hV:Below W.heap.size W V)=>dag_got V gd Fd n Y (hW.dag.below hV) a3 i;have m:=dH hW;have g7:=dH c7;have g6:=dH c6;have HB:=dH hB;have Hi:=dH hi;clear hW c7 c6 hB f hD e6 a3 hY e5 hi b5 T;go_upto_region 3 with fail
   rw[<-g7.out,g6.out]
   go_cut [6,7] (λp ev wx=>∃gh x E,p=.pointer (some ⟨gh,0,none⟩)/\ev=.int .i64 E/\rowAt wx gh 0 38=some (hdR x)/\Got Y.D i x E/\Below W.heap.size W wx)
   case first =>
    refine wp_region_tree (.loose 0 (.loose 1 (.loose 2 (.loose 3 (.loose 4 (.two 5 (.loose 6 (.loose 7 (.loose 8 (.one 9 (.one 10 (.loose 11 .done)))))) 9 (.one 5 (.loose 6 (.loose 7 (.loose 8 (.one 10 (.loose 11 .done)))))))))))) (Bel W) false kR kR kR kR (bel_drew W) ?_;have b8:=bel_some W;have hS:=bel_drew W;have b1:=sub_cell c0;have b2:=sub_row a8;refine tZ ?_;refine wpTx_two ?_ ?_
    ·skip;refine tH ?_;intro K hK;refine(cD _ hS).mono ?_;rintro e w1 ⟨x,E,rfl,j,B⟩;replace hS:=bel_next hS B;refine⟨_,rfl,hS,hK _ _ ?_⟩;clear hK K;refine tZ ?_;have e4:Below w1.heap.size w1 (w1.alloc (.cells (hdC hd0) 49)):=bA;have xz:=heap_alloc_new w1 (.cells (hdC hd0) 49);have h3:=Below.size hS;have Hn:=dH (bel_next hS e4);refine tH ?_;intro K hK;refine step_keep Hn.out (λa5=>?_);refine hK _ _ ?_;clear hK K hS;have hS:=a5;obtain⟨w3,c2,r,I⟩:=stHd_at _ _ xz x;have H3:=dH (Below.trans hS (I.below (Below.size hS) sO));refine tH ?_;intro K hK;refine step_keep H3.out (λa5=>?_);refine hK _ _ ?_;clear hK K hS;have hS:=a5;refine tZ ?_;refine wpTx_done ?_;intro hS;clear xz e4 c2 I;go_wp2_with fail
     go_meet
     exact⟨_,x,E,rfl,rfl,r,j,H3.out⟩
    ·skip;have d6:=dH (show Below W.heap.size W (W.drew.alloc (.cells (hdC hd0) 49))from((Below.refl _ _).drew).alloc lR _);have xz:(W.drew.alloc (.cells (hdC hd0) 49)).heap[W.heap.size]?=some (.cells (hdC hd0) 49 (0,0)):=heap_alloc_new W.drew (.cells (hdC hd0) 49);refine tH ?_;intro K hK;refine step_keep d6.out (λa5=>?_);refine hK _ _ ?_;clear hK K hS;have hS:=a5;refine tH ?_;intro K hK;refine(cD _ d6.out).mono ?_;rintro e w1 ⟨x,E,rfl,j,B⟩;have H1:=dH (bel_next d6.out B);refine⟨_,rfl,H1.out,hK _ _ ?_⟩;clear hK K hS;have hS:=H1.out;refine tZ ?_;have d7:=(B.block W.heap.size sI).trans xz;obtain⟨w3,c2,r,I⟩:=stHd_at _ _ d7 x;have H3:=dH (Below.trans H1.out (I.below (Below.size H1.out) sI));refine tH ?_;intro K hK;refine step_keep H3.out (λa5=>?_);refine hK _ _ ?_;clear hK K hS;have hS:=a5;refine tZ ?_;refine wpTx_done ?_;intro hS;clear xz d7 c2 I;go_wp2_with fail
     go_meet
     exact⟨_,x,E,rfl,rfl,r,j,H3.out⟩
   case rest =>
   obtain⟨gh,x,E,rfl,rfl,c1,j,b3⟩:=hcut;obtain⟨V,rfl⟩:=eR wc
   have hV:=m.out.kept (Keep.of_below b3) sI sI;have cP:=st_payload V g gd gs bo bv Fd Fs Y hV.heap hV.dag hV.sto n J.out i;have a1:=((Keep.of_below b3).row (rowAt_lt a8) sI _ _).trans a8;have d3:=(b3.cell (p:=⟨g,3,none⟩) (block_lt_of_cell? W _ c3)).trans c3;have a7:=dH j;have f4:=dH b3;clear cD hV a8 c3 c0 j b3;have d9:okStr x.h.tp:=by
    rcases a7.out with⟨h0,_⟩ | ⟨_,_,rfl⟩
    ·obtain⟨y,hy,_,e⟩:=hdOf_some h0;rw[<-e];exact okStr_kind (hdE_tp (J.out.ok y hy).1)
    ·show 0<=maxLen;unfold maxLen;omega
   have g1:=m.out.look d9;clear d9;(go_wp2_with fail);refine cP.mono ?_;rintro e w1 ⟨rfl,B⟩;have a0:=dH (f4.out.trans (B.mono f4.out.size));have a2:=((Keep.of_below B).row (rowAt_lt a1) sI _ _).trans a1;have G:=((Keep.of_below B).row (rowAt_lt c1) sI _ _).trans c1;have b9:=(B.cell (p:=⟨g,3,none⟩) (block_lt_of_cell? V _ d3)).trans d3;have d2:=hdR_tp G;have d1:=hdR_ht G;clear cP B a1 d3 c1;obtain⟨PB,c9⟩:=eX (paidB Y i)
   obtain⟨PE,c8⟩:=eX (paidE Y i)
   rw[c9,c8];have g8:=dH c9;have f6:=dH c8;clear c9 c8;go_upto_region 5 with fail
   rcases g1 with⟨p,hp,hpt,hl⟩ | ⟨a9,hl⟩
   ·have c5:∀y:Subtype (Bel w1),(Instr.lookup 83 (.map (some bv)) (.string x.h.tp) true).run prog y.1=.ok (.tuple #[.pointer (some ⟨p.2.g,0,none⟩),.bool true]) y.1:=λy=>(hl y.1 [] (Keep.of_below (a0.out.trans (y.2.mono a0.out.size))) sI).1;have Hp:=dH hp;have f0:=dH hpt;clear hl hp hpt;refine lX w1 ?_;intro b8 hS;have b1:=sub_cell b9;have b2:=sub_cell d2;refine lZ ?_;refine wpLx_nil ?_;intro hS;have f8:rowAt w1.drew ga 0 32=some (idC i):=a2;have h6:w1.drew.cell? ⟨gh,1,none⟩=some (.int .i64 x.h.ht):=d1;have R:=dH (a0.out.trans (((Below.refl _ _).drew).mono a0.out.size));clear b8 hS b1 b2 c5 a2 d1 d2 b9 G;cases hpd:paidX Y.D Y.S i with
    | none =>
     have e7:PE=7:=by rw[<-f6.out];unfold paidE;rw[hpd]
     subst e7;have d:=U.out (λv _=>foldI_no (by rw[HD.out,f5.out];exact hpd) v);have s:=dH (show StIn w1.drew g gd gs bo bv Fd Fs M Nk (foldsX X (L.take (k+1))) by rw[d];exact m.out.kept (Keep.of_below R.out) sI sI);have d5:=dH (Keep.trans a4.out ((Keep.of_below (HB.out.trans (R.out.mono HB.out.size))).mono (S':=F) sI) (λy hy=>.inl hy));clear hpd d;(go_wp2_with fail);go_roundw
     case rel=>exact⟨k+1,Nk,oM,by go_num,s,b4,d5⟩
     case measure=>exact sZ
    | some b =>
     have e0:PE=0:=by rw[<-f6.out];unfold paidE;rw[hpd]
     have eb:PB=b:=by rw[<-g8.out];unfold paidB;rw[hpd]
     subst e0;subst eb;have hd0:hdOf Y.D i=some x.h:=by
      rcases a7.out with⟨h0,_⟩ | ⟨h0,_⟩
      ·exact h0
      ·rw[paidX_none h0]at hpd;cases hpd
     have c4:p.1∈Y.V:=by rw[<-m.out.vx];exact mem_map_of_mem Hp.out
     obtain⟨e2,g0⟩:=J.out.view c4;have g2:PB.size<=512:=by
      obtain⟨q,hq,rfl⟩:=paidX_body hpd;exact J.out.body q hq
     have a6:=m.out.kept (Keep.of_below R.out) sI sI;have b7:∀y∈vwF p,y∈F:=λy hy=>by
      rw[HF.out];have h1:vwF p∈N.map vwF:=by rw[<-b4.out];exact mem_map_of_mem Hp.out
      obtain⟨p0,f9,e0⟩:=mem_map.1 h1;exact stFs_mem.2 (.inr (.inr (.inr (.inr (.inr ⟨p0,f9,by rw[e0];exact hy⟩)))))
     have cf:=vw_fold ⟨i,x.h.ht,PB⟩ w1.drew M p (a6.vw p Hp.out) (λy hy=>f7.out y (b7 y hy)) (λy hy=>Nat.lt_of_lt_of_le (hM y hy) (Nat.le_trans a4.out.size (Nat.le_trans HB.out.size R.out.size))) (Z.out.below R.out).parts (λhy=>f2.out.1 (b7 _ hy)) (by show PB.size<=_;omega) e2 oM;have s:=dH a6;have f1:=dH b7;have g4:=dH c4;have f3:=dH hd0;have g3:=dH hpd;clear hpd hd0 c4 e2 g0 g2 a6 b7;obtain⟨⟨vt,vI,vs⟩,⟨vg,vb,vO,vv⟩⟩:=p;(go_wp2_with fail);refine cf.mono ?_;rintro e w3 ⟨⟨bb,rfl⟩,d8,I⟩;clear cf;obtain⟨N',d0,e8⟩:=s.out.turned Hp.out (foldV_t _ _) (by rw[HY.out];exact(HX.out.folds _).nv) I (λy hy=>f7.out y (f1.out y hy)) d8;have d:(⟨Y.q,Y.D,Y.O,Y.S,Y.V.map λv=>if v.t=vt then foldV ⟨i,x.h.ht,PB⟩ ⟨vt,vI,vs⟩ else v⟩:StX)=foldsX X (L.take (k+1)):=by
      rw[b6.out];have e1:Y.V.map (λv=>foldI X.D X.S v i)=Y.V.map λv=>if v.t=vt then foldV ⟨i,x.h.ht,PB⟩ ⟨vt,vI,vs⟩ else v:=by
       rw[map_turn (p:=⟨vt,vI,vs⟩) (by rw[HY.out];exact(HX.out.folds _).nv) g4.out (λv hv=>by rw[HD.out];exact foldI_off f3.out (λe=>hv (e.trans f0.out.symm)))];rw[HD.out,f5.out,foldI_on f3.out g3.out f0.out]
      rw[e1,HY.out];rfl
     rw[d]at d0;have h2:=dH d0;have g9:=dH (e8.trans b4.out);have g5:=dH (Keep.trans (Keep.trans a4.out ((Keep.of_below (HB.out.trans (R.out.mono HB.out.size))).mono (S':=F) sI) (λy hy=>.inl hy)) (I.mono (S':=F) (λy hy=>.inl (f1.out y hy))) (λy hy=>.inl hy));clear d8 I d0 e8 d;(go_wp2_with fail);go_roundw
     case rel=>exact⟨k+1,N',oM,by go_num,h2,g9,g5⟩
     case measure=>exact sZ
   ·have c5:∀y:Subtype (Bel w1),(Instr.lookup 83 (.map (some bv)) (.string x.h.tp) true).run prog y.1=.ok (.tuple #[.pointer none,.bool false]) y.1:=λy=>hl y.1 [] (Keep.of_below (a0.out.trans (y.2.mono a0.out.size))) sI;have d4:=dH a9;clear hl a9;refine lX w1 ?_;intro b8 hS;have b1:=sub_cell b9;have b2:=sub_cell d2;refine lZ ?_;refine wpLx_nil ?_;intro hS;have R:=dH (a0.out.trans (((Below.refl _ _).drew).mono a0.out.size));clear b8 hS b1 b2 c5 a2 d1 d2 b9 G;have d:=U.out (λv hv=>by
     rcases a7.out with⟨h0,_⟩ | ⟨h0,_⟩
     ·rw[HD.out];exact foldI_off h0 (λe=>d4.out (mem_map.2 ⟨v,hv,e⟩))
     ·exact foldI_no (by rw[HD.out];exact paidX_none h0) v)
    have s:=dH (show StIn w1.drew g gd gs bo bv Fd Fs M Nk (foldsX X (L.take (k+1))) by rw[d];exact m.out.kept (Keep.of_below R.out) sI sI);have d5:=dH (Keep.trans a4.out ((Keep.of_below (HB.out.trans (R.out.mono HB.out.size))).mono (S':=F) sI) (λy hy=>.inl hy));clear d;(go_wp2_with fail);go_roundw
    case rel=>exact⟨k+1,Nk,oM,by go_num,s,b4,d5⟩
    case measure=>exact sZ
  ·have e3:L.take k=L:=take_of_length_le oM;rw[e3]at b5;clear e3;(go_wp2_with fail);go_end0;exact⟨rfl,⟨Nk,b5.out,b4.out⟩,a4.out⟩
theorem st_fold(w:World)(g:Nat)(F M:List Nat)(n:Nat)(X:StX)(h:StateAt w g F M X)(hv:Vars w)(hX:StPre n X)(hn:n<=800)(A:Option Addr)(m c:Nat)(L:List Id32)(hL:TagsIn w A m L)(j:m<=1000000)(hA:∀y∈blk A,y∉F) :
  Calls prog 123 #[.pointer (some ⟨g,0,none⟩),.slice A m c] w λe w'=>e=.returned (.tuple #[])/\StateAt w' g F M (foldsX X L)/\Keep F w w':=by
 obtain⟨gd,gs,bo,bv,Fd,Fs,N,f,hF,h2,h3,d⟩:=h;obtain rfl:L.length=m:=by simpa using hL.1
 refine(st_foldIn w g gd gs bo bv Fd Fs F M N n X f hF h2 h3 d hv hX hn A c L hL j hA).mono ?_;rintro e w' ⟨rfl,⟨N',hN,e1⟩,hk⟩;refine⟨rfl,⟨gd,gs,bo,bv,Fd,Fs,N',hN,?_,h2,λx hx=>Nat.lt_of_lt_of_le (h3 x hx) hk.size,d⟩,hk⟩;rw[hF];unfold stFs;rw[e1]
end Go.Proofs.YtplpiicfkbpkaaaGreatDoor
