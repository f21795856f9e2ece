/- Part 13 of the texts that lead to this claim: the walks of the functions and the plain law, in order. -/
import Derived.Test.YtplpiicfkbpkaaaGreatDoorMk12
import Derived.Recover
namespace Go.Proofs.YtplpiicfkbpkaaaGreatDoor
open Go.RowKit
open List hiding and get max min or set
open Go.Proofs.Tryz
open World
set_option maxRecDepth 100000
set_option maxHeartbeats 8000000
variable {w:World}{k:Nat}{s:ByteArray}{p v:Option Addr}{T:TypeId}{cs:Array Value}{P:Program}
theorem lru_behind0(w:World)(g r:Nat)(hg:w.cell? ⟨g,0,none⟩=some (.pointer (some ⟨r,0,none⟩)))(hr:w.cell? ⟨r,33,none⟩=some (.pointer (some ⟨r,0,none⟩))) :
  Calls prog 222 #[.pointer (some ⟨g,0,none⟩),.pointer (some ⟨r,0,none⟩)] w λe w'=>e=.returned (.tuple #[.agg (idC id0),.bool false])/\Below w.heap.size w w':=by
 have hB:Below w.heap.size w (w.alloc (.cells (idC id0) 23)):=bA;have hx:(w.alloc (.cells (idC id0) 23)).heap[w.heap.size]?=some (.cells (idC id0) 23 (0,0)):=heap_alloc_new w _;have c0:=(hB.cell (p:=⟨g,0,none⟩) (block_lt_of_cell? w _ hg)).trans hg;have c1:=(hB.cell (p:=⟨r,33,none⟩) (block_lt_of_cell? w _ hr)).trans hr;obtain⟨ga,f⟩:=eX w.heap.size
 obtain⟨W,hW⟩:=eR (w.alloc (.cells (idC id0) 23))
 rw[<-hW]at hB hx c0 c1;rw[f]at hx;have hq:=λw=>eqN_same r w;have HW:=dH hW;have t:=dH f;have HB:=dH hB;clear hW f hB hg hr;go_enter func222,ntmps222
 go_upto_region 1 with fail
 rw[<-HW.out,t.out];refine lX W ?_;intro y hS;have e0:=sub_cell c0;have e1:=sub_cell c1;refine lZ ?_;refine wpLx_nil ?_;intro hS;have d:Below W.heap.size W W.drew:=hS;obtain⟨V,hV⟩:=eX W.drew
 rw[hV]at d |-;have m:=(d.block ga (aG hx).1).trans hx;obtain⟨w3,A,k,s⟩:=idbox m id0;have j:=HB.out.trans (d.mono HB.out.size);have HF:=dH (j.trans (s.below (B:=w.heap.size) j.size (by simp[t.out])));have Hx:=dH k;clear y hS e0 e1 hV d hx m s j k c0 c1 hq;(go_wp2_with fail);refine bodyPost_ret (results_ct results222 _ _ ga 23 (idC id0) (0,0) _ rfl Hx.out underlying23 rfl (by rw[idC_size];exact infoId)) rfl ?_;exact⟨rfl,HF.out⟩
theorem lru_oldest0(w:World)(g:Nat)(F:List Nat)(h:LruAt w g F []) :
  Calls prog 148 #[.pointer (some ⟨g,0,none⟩)] w λe w'=>e=.returned (.tuple #[.agg (idC id0),.bool false])/\Below w.heap.size w w':=by
 obtain⟨r,b,N,nx,pv,h1,h2,h3,y,h5,h6,h7,h8⟩:=h;obtain rfl:N = []:=map_eq_nil_iff.1 h1;have e:nx r=r:=h5.1;have cg:w.cell? ⟨g,0,none⟩=some (.pointer (some ⟨r,0,none⟩)):=by rw[cell_of_row w g 0 _ _ _ h3];rfl
 have c33:w.cell? ⟨r,33,none⟩=some (.pointer (some ⟨r,0,none⟩)):=by have:=(h6 (id0,r) sI).c33;rw[this];show some (Value.pointer (some ⟨nx r,0,none⟩))=_;rw[e]
 have hB:Below w.heap.size w (w.alloc (.cells (idC id0) 23)):=bA;have hx:(w.alloc (.cells (idC id0) 23)).heap[w.heap.size]?=some (.cells (idC id0) 23 (0,0)):=heap_alloc_new w _;have c0:=(hB.cell (p:=⟨g,0,none⟩) (block_lt_of_cell? w _ cg)).trans cg;have c1:=(hB.cell (p:=⟨r,33,none⟩) (block_lt_of_cell? w _ c33)).trans c33;obtain⟨ga,d⟩:=eX w.heap.size
 obtain⟨W,hW⟩:=eR (w.alloc (.cells (idC id0) 23))
 rw[<-hW]at hB hx c0 c1;rw[d]at hx;have cN:=lru_none W g r c0;have cB:=lru_behind0 W g r c0 c1;have HW:=dH hW;have t:=dH d;have HB:=dH hB;clear hW d hB cg c33 h1 h2 h3 y h5 h6 h7 h8 e c1;go_enter func148,ntmps148
 (go_wp2_with fail);rw[<-HW.out,t.out];refine cN.mono ?_;rintro e w1 ⟨rfl,rfl⟩;(go_wp2_with fail);refine cB.mono ?_;rintro e w2 ⟨rfl,j⟩;have m:=(j.block ga (aG hx).1).trans hx;obtain⟨w3,A,k,s⟩:=idbox m id0;have f:=bel2 HB.out j;have HF:=dH (f.trans (s.below (B:=w.heap.size) f.size (by simp[t.out])));have Hx:=dH k;clear j hx m s f k c0 cN cB;(go_wp2_with fail);refine bodyPost_ret (results_ct results148 _ _ ga 23 (idC id0) (0,0) _ rfl Hx.out underlying23 rfl (by rw[idC_size];exact infoId)) rfl ?_;exact⟨rfl,HF.out⟩
theorem sto_room0(w:World)(g:Nat)(F:List Nat)(q:Int)(h:StoAt w g F q [])(n:Nat)(hn:(n:Int)<=q)(hq:q<=1000000) :
  Calls prog 86 #[.pointer (some ⟨g,0,none⟩),.int .i64 n] w λe w'=>e=.returned (.tuple #[.slice none 0 0,.int .i64 0])/\Below w.heap.size w w':=by
 obtain⟨l,b,Fl,N,h1,h2,h3,h4,_⟩:=h;have c0:w.cell? ⟨g,0,none⟩=some (.pointer (some ⟨l,0,none⟩)):=by rw[cell_of_row w g 0 _ _ _ h3];rfl
 have c2:w.cell? ⟨g,2,none⟩=some (.int .i64 0):=by rw[cell_of_row w g 2 _ _ _ h3];rfl
 have c1:w.cell? ⟨g,1,none⟩=some (.int .i64 q):=by rw[cell_of_row w g 1 _ _ _ h3];rfl
 have c4:w.cell? ⟨g,4,none⟩=some (.map (some b)):=by rw[cell_of_row w g 4 _ _ _ h3];rfl
 have cN:=sto_none w g b c4;have cO:=lru_oldest0 w l Fl h4;have m:=(aG h3).1;have Hd:=dH (show decide ((n:Int)<=q-0)=true by simpa using hn);have Hq:=dH hq;have Hn:=dH hn;clear h1 h2 h3 h4 hn hq;go_enter func86,ntmps86
 (go_wp2_with fail);refine cN.mono ?_;rintro e w1 ⟨rfl,rfl⟩;(go_wp2_with fail);refine cO.mono ?_;rintro e w2 ⟨rfl,f⟩;have d:Below w.heap.size w (w2.alloc (.cells (idC id0) 23)):=f.alloc f.size _;have d1:=(d.cell (p:=⟨g,1,none⟩) m).trans c1;have j:IntKind.i64.wrap (q-0)=q-0:=by rw[IntKind.wrap_i64];have:=Hq.out;have:=Hn.out;omega
 have cF:=sto_fits _ g q 0 n d1 j;rw[Hd.out]at cF;have r:=dH d;clear cN cO f d c0 c1 c2 c4 j;(go_wp2_with fail);refine wp_loop_rounds 1 ?_;rw[rounds_succ];(go_wp2_with fail);refine cF.mono ?_;rintro e w5 ⟨rfl,k⟩;have HF:=dH (bel2 r.out k);clear cF k;(go_wp2_with fail);go_ret2;exact⟨rfl,HF.out⟩
theorem st_room0(w:World)(g:Nat)(F M:List Nat)(X:StX)(h:StateAt w g F M X)(hS:X.S = [])(n:Nat)(hn:(n:Int)<=X.q)(hq:X.q<=1000000) :
  Calls prog 36 #[.pointer (some ⟨g,0,none⟩),.int .i64 n] w λe w'=>e=.returned (.tuple #[.slice none 0 0,.int .i64 0])/\Below w.heap.size w w':=by
 obtain⟨gd,gs,bo,bv,Fd,Fs,N,h⟩:=h.sp;have c0:w.cell? ⟨g,0,none⟩=some (.pointer (some ⟨gd,0,none⟩)):=by rw[cell_of_row w g 0 _ _ _ h.st.heap];rfl
 have c1:w.cell? ⟨g,1,none⟩=some (.pointer (some ⟨gs,0,none⟩)):=by rw[cell_of_row w g 1 _ _ _ h.st.heap];rfl
 have cN:=st_none w g gd c0;have hs:=h.st.sto;rw[hS]at hs;have cR:=sto_room0 w gs Fs X.q hs n hn hq;clear h hs hn hS;go_enter func36,ntmps36
 (go_wp2_with fail);refine cN.mono ?_;rintro e w1 ⟨rfl,rfl⟩;(go_wp2_with fail);refine cR.mono ?_;rintro e w2 ⟨rfl,hb⟩;(go_wp2_with fail);go_ret2;exact⟨rfl,hb⟩
theorem ent_put(w:World)(k:Nat)(hk:k=1\/k=3)(b:ByteArray)(hb:b.size<=1000)(hE:entE ⟨k,⟨#[]⟩,b,id0⟩=0) :
  Calls prog 30 #[.agg (entC ⟨k,⟨#[]⟩,b,id0⟩)] w λe w'=>∃s:ByteArray,e=.returned (.tuple #[.string s,.int .i64 0])/\s.size=b.size+1/\Below w.heap.size w w':=by
 have hB:Below w.heap.size w (w.alloc (.cells (entC ⟨k,⟨#[]⟩,b,id0⟩) 25)):=bA;have hr:rowAt (w.alloc (.cells (entC ⟨k,⟨#[]⟩,b,id0⟩) 25)) w.heap.size 0 35=some (entC ⟨k,⟨#[]⟩,b,id0⟩):=by simp[go_sem]
 obtain⟨ga,A⟩:=eX w.heap.size
 obtain⟨W,hW⟩:=eR (w.alloc (.cells (entC ⟨k,⟨#[]⟩,b,id0⟩) 25))
 rw[<-hW]at hB hr;rw[A]at hr;have c1:=ent_check ⟨k,⟨#[]⟩,b,id0⟩ W (by show b.size<=_;omega) zL;rw[hE]at c1;have HW:=dH hW;have O:=dH A;have HB:=dH hB;have Hb:=dH hb;clear hW A hB hE hb;have t:∃m:Int,entP k=⟨false,false,m,false⟩:=by rcases hk with rfl | rfl <;> exact⟨_,rfl⟩
 obtain⟨m,t⟩:=t;have I:decide (1<=(k:Int)/\(k:Int)<=7)=true:=by rcases hk with rfl | rfl <;> rfl
 have J:k<256:=oM;have Hk:=dH J;clear hk J;go_enter func30,ntmps30
 (go_wp2_with fail);rw[<-HW.out,O.out];refine c1.mono ?_;rintro e w1 ⟨rfl,E⟩;have r:=((Keep.of_below E).row (rowAt_lt hr) sI _ _).trans hr;have q0:w1.cell? ⟨ga,0,none⟩=some (.int .i64 k):=by have:=rowAt_cell r (j:=0) oM;rw[Nat.zero_add]at this;rw[this];simp[entC]
 have c2:=ent_of k w1;rw[t,I]at c2;have R:=dH E;clear c1 E hr t I;(go_wp2_with fail);refine c2.mono ?_;rintro e w2 ⟨rfl,D⟩;have B:Below w2.heap.size w2 (w2.alloc (.cells (prtC ⟨false,false,m,false⟩) 119)):=bA;have f:rowAt (w2.alloc (.cells (prtC ⟨false,false,m,false⟩) 119)) w2.heap.size 0 4=some (prtC ⟨false,false,m,false⟩):=by simp[go_sem]
 have g:=((Keep.of_below (bel2 D B)).row (rowAt_lt r) sI _ _).trans r;obtain⟨W2,F⟩:=eR (w2.alloc (.cells (prtC ⟨false,false,m,false⟩) 119))
 obtain⟨gp,y⟩:=eX w2.heap.size
 have G:=bel2 (bel2 HB.out R.out) (bel2 D B);rw[<-F]at f g G;rw[y]at f;have p0:W2.cell? ⟨gp,0,none⟩=some (.bool false):=by have:=rowAt_cell f (j:=0) oM;rw[Nat.zero_add]at this;rw[this];simp[prtC]
 have p1:W2.cell? ⟨gp,1,none⟩=some (.bool false):=by have:=rowAt_cell f (j:=1) oM;rw[Nat.zero_add]at this;rw[this];simp[prtC]
 have f0:W2.cell? ⟨ga,0,none⟩=some (.int .i64 k):=by have:=rowAt_cell g (j:=0) oM;rw[Nat.zero_add]at this;rw[this];simp[entC]
 have f2:W2.cell? ⟨ga,2,none⟩=some (.string b):=by have:=rowAt_cell g (j:=2) oM;rw[Nat.zero_add]at this;rw[this];simp[entC]
 have T:=dH F;have N:=dH y;have V:=dH G;clear c2 D B f g r F y G q0;go_upto_region 5 with fail
 rw[<-T.out,N.out];refine lX W2 ?_;intro L hS;have e0:=sub_cell f0;refine lQ ?_;intro K hK;refine(wbnew W2 _ hS).mono ?_;rintro e w' ⟨rfl,d⟩;replace hS:=d.1;refine⟨_,rfl,hS,hK _ _ ?_⟩;clear hK K;refine lQ ?_;intro K hK;refine(wbnum W2 _ _ _ d k 1 oM (oH Hk.out) sI).mono ?_;rintro e w' ⟨rfl,d⟩;replace hS:=d.1;refine⟨_,rfl,hS,hK _ _ ?_⟩;clear hK K;refine lZ ?_;refine wpLx_nil ?_;intro hS;have g2:=(hS.cell (p:=⟨ga,2,none⟩) (block_lt_of_cell? W2 _ f2)).trans f2;have r0:=(hS.cell (p:=⟨gp,0,none⟩) (block_lt_of_cell? W2 _ p0)).trans p0;have r1:=(hS.cell (p:=⟨gp,1,none⟩) (block_lt_of_cell? W2 _ p1)).trans p1;have M:=dH d
 rename_i w3
 clear L e0 d hS f0 f2 p0 p1;(go_wp2_with fail);refine(wbraw W2 _ _ _ M.out b (by have:=Hb.out;simp[beL_length];omega)).mono ?_;rintro e w4 ⟨rfl,h4⟩;have H4:=dH h4;clear h4;(go_wp2_with fail);refine(wbdone W2 _ _ _ H4.out).mono ?_;rintro e w5 ⟨rfl,h5⟩;obtain⟨s,hs⟩:∃s:ByteArray,(⟨([]++beL 1 k++b.data.toList).toArray⟩:ByteArray)=s:=⟨_,rfl⟩
 have H:s.size=b.size+1:=by
  rw[<-hs];show(([]++beL 1 k++b.data.toList).toArray).size=_;have e1:b.data.toList.length=b.size:=Array.length_toList;simp only[size_toArray,length_append,length_nil,beL_length,e1];omega
 rw[hs];have HF:=dH (And.intro H (bel2 V.out h5.1));clear h5 hs H g2 r0 r1;(go_wp2_with fail);go_ret2;exact⟨s,rfl,HF.out.1,HF.out.2⟩
structure Kpr where
 a:Int
 q:Int
 s:Option Addr
 v:Option Addr
def kprC(x:Kpr):Array Value:=#[.int .i64 x.a] ++ #[.int .i64 x.q] ++ #[.pointer x.s] ++ #[.pointer x.v]
@[simp] theorem kprC_size(x:Kpr):(kprC x).size=4:=by simp[kprC]
@[go_sem] theorem kprC_g0(x:Kpr):(kprC x)[0]?=some (.int .i64 x.a):=by first | (simp[kprC,Array.getElem?_append];done) | (rw[show kprC x=((#[]:Array Value)) ++ #[.int .i64 x.a]++(#[.int .i64 x.q] ++ #[.pointer x.s] ++ #[.pointer x.v])from by apply Array.ext';simp[kprC]];exact arr_at _ _ _ _ sI)
@[go_sem] theorem kprC_gg0(x:Kpr)(h:0<(kprC x).size):(kprC x)[0]'h=.int .i64 x.a:=Option.some.inj ((Array.getElem?_eq_getElem h).symm.trans (kprC_g0 x))
@[go_sem] theorem kprC_g1(x:Kpr):(kprC x)[1]?=some (.int .i64 x.q):=by first | (simp[kprC,Array.getElem?_append];done) | (rw[show kprC x=(#[.int .i64 x.a]) ++ #[.int .i64 x.q]++(#[.pointer x.s] ++ #[.pointer x.v])from by apply Array.ext';simp[kprC]];exact arr_at _ _ _ _ sI)
@[go_sem] theorem kprC_gg1(x:Kpr)(h:1<(kprC x).size):(kprC x)[1]'h=.int .i64 x.q:=Option.some.inj ((Array.getElem?_eq_getElem h).symm.trans (kprC_g1 x))
@[go_sem] theorem kprC_g2(x:Kpr):(kprC x)[2]?=some (.pointer x.s):=by first | (simp[kprC,Array.getElem?_append];done) | (rw[show kprC x=(#[.int .i64 x.a] ++ #[.int .i64 x.q]) ++ #[.pointer x.s]++(#[.pointer x.v])from by apply Array.ext';simp[kprC]];exact arr_at _ _ _ _ sI)
@[go_sem] theorem kprC_gg2(x:Kpr)(h:2<(kprC x).size):(kprC x)[2]'h=.pointer x.s:=Option.some.inj ((Array.getElem?_eq_getElem h).symm.trans (kprC_g2 x))
@[go_sem] theorem kprC_g3(x:Kpr):(kprC x)[3]?=some (.pointer x.v):=by first | (simp[kprC,Array.getElem?_append];done) | (rw[show kprC x=(#[.int .i64 x.a] ++ #[.int .i64 x.q] ++ #[.pointer x.s]) ++ #[.pointer x.v]++((#[]:Array Value))from by apply Array.ext';simp[kprC]];exact arr_at _ _ _ _ sI)
@[go_sem] theorem kprC_gg3(x:Kpr)(h:3<(kprC x).size):(kprC x)[3]'h=.pointer x.v:=Option.some.inj ((Array.getElem?_eq_getElem h).symm.trans (kprC_g3 x))
def kpr0:Kpr:=⟨0,0,none,none⟩
theorem Kpr_ext{x y:Kpr}(h:x.a=y.a/\x.q=y.q/\x.s=y.s/\x.v=y.v):x=y:=by cases x;cases y;simp_all
instance:DecidableEq Kpr:=λx y=>if h:x.a=y.a/\x.q=y.q/\x.s=y.s/\x.v=y.v then isTrue (Kpr_ext h)else isFalse (λe=>h (by subst e;simp))
@[go_sem ↓] theorem zeroKpr_run(w:World):(zeroValue 34).run prog w=.ok (.agg (kprC kpr0)) w:=by
 have h:(prog.info? 34).bind (·.zero)=some (.agg (kprC kpr0)):=kR;cases hi:prog.info? 34 with
 | none=>rw[hi]at h;cases h
 | some i =>
  rw[hi]at h;have hz:i.zero=some (.agg (kprC kpr0)):=h;simp[zeroValue,typeInfo,hi,hz]
@[go_sem ↓] theorem loadKpr_rw(a:Addr):loadVar 34 a=ldS 34 a:=rfl
@[go_sem ↓] theorem storeKpr_rw(a:Addr)(v:Value):storeVar 34 a v=stS 34 a v:=rfl
theorem fieldsKpr:prog.underlying 34=some (.struct (prog.fieldsOf 34)):=kR
theorem placesKpr(w:World):((prog.fieldsOf 34).mapM fun (f:Field)=>do pure (f.offset,<-sizeOf f.type)).run prog w=.ok #[(0,1),(1,1),(2,1),(3,1)] w:=kR
@[go_sem ↓] theorem buildKpr_rw(parts:Array (Nat×Value)):Instr.build 34 parts=bdS 34 parts:=rfl
@[go_sem] theorem buildKpr_0_1_2(a0:Int)(a1:Int)(a2:Option Addr)(w:World):(bdS 34 #[(0,.int .i64 a0),(1,.int .i64 a1),(2,.pointer a2)]).run prog w=.ok (.agg (kprC ⟨a0,a1,a2,none⟩)) w:=by
 refine run_build w fieldsKpr _ (zeroKpr_run w) _ (placesKpr w) [(0,.int .i64 a0),(1,.int .i64 a1),(2,.pointer a2)] _ ?_;rw[show kprC kpr0=(#[]:Array Value) ++ #[.int .i64 0]++(#[.int .i64 0]++(#[.pointer none]++(#[.pointer none])))from by first | (simp[kprC,kpr0,Array.append_assoc];done) | (apply Array.ext';simp[kprC,kpr0])];rw[fill_step (off:=0) (size:=1) rfl sI sI (by simp[Value.cells])];rw[show(#[]:Array Value)++(Value.int .i64 a0).cells++(#[.int .i64 0]++(#[.pointer none]++(#[.pointer none])))=(#[.int .i64 a0]) ++ #[.int .i64 0]++(#[.pointer none]++(#[.pointer none]))from by first | (simp[Value.cells,Array.append_assoc];done) | (apply Array.ext';simp[Value.cells];done) | (apply Array.ext';simp only[Array.toList_append];simp[Value.cells])];rw[fill_step (off:=1) (size:=1) rfl sI sI (by simp[Value.cells])];rw[show(#[.int .i64 a0])++(Value.int .i64 a1).cells++(#[.pointer none]++(#[.pointer none]))=(#[.int .i64 a0]++(#[.int .i64 a1])) ++ #[.pointer none]++(#[.pointer none])from by first | (simp[Value.cells,Array.append_assoc];done) | (apply Array.ext';simp[Value.cells];done) | (apply Array.ext';simp only[Array.toList_append];simp[Value.cells])];rw[fill_step (off:=2) (size:=1) rfl sI sI (by simp[Value.cells])];first | (simp[Instr.fill,kprC,Array.append_assoc,Value.cells];done) | (simp only[Instr.fill,kprC];congr 1;apply Array.ext';simp[Value.cells];done) | (simp only[Instr.fill,kprC];congr 1;done) | (simp only[Instr.fill,kprC];done)
theorem kp_cell{a q:Int}{s:Option Addr}(h:w.heap[k]?=some (.cells (kprC ⟨a,q,s,v⟩) T (0,0))) :
  w.cell? ⟨k,0,none⟩=some (.int .i64 a)/\w.cell? ⟨k,1,none⟩=some (.int .i64 q)/\w.cell? ⟨k,2,none⟩=some (.pointer s)/\w.cell? ⟨k,3,none⟩=some (.pointer v):=by
 refine⟨?_,?_,?_,?_⟩ <;> rw[cell_of_row w k _ _ _ _ h] <;> simp[go_sem]
theorem kp_set3{a q:Int}{s:Option Addr}(h:w.heap[k]?=some (.cells (kprC ⟨a,q,s,v⟩) T (0,0)))(u:Option Addr):(w.setCell ⟨k,3,none⟩ (.pointer u)).heap[k]?=some (.cells (kprC ⟨a,q,s,u⟩) T (0,0)):=by
 rw[heap_setCell_same h];simp[kprC]
theorem kp_frozen(h:w.heap[k]?=some (.cells cs T (0,0)))(i:Nat):w.frozen? ⟨k,i,none⟩=false:=by simp[frozen?,h]
structure KpAt(w:World)(k g:Nat)(F M:List Nat)(X:StX)(v:Nat)(V:List Nat)(B n c f:Nat):Prop where
 heap:w.heap[k]?=some (.cells (kprC ⟨1,100,some ⟨g,0,none⟩,some ⟨v,0,none⟩⟩) 34 (0,0))
 st:StateAt w g F M X
 vl:VlAt w V B v n c f
 vm:∀x∈V,x∈M
 fv:∀x∈F,x∉V/\x<B/\x≠k
 kv:k∉V
 nv:4∉V/\NoVars V
 cf:4∉F
theorem kp_none(w:World)(k v:Nat)(h:w.cell? ⟨k,3,none⟩=some (.pointer (some ⟨v,0,none⟩))):Calls prog 19 #[.pointer (some ⟨k,0,none⟩)] w λe w'=>e=.returned (.bool false)/\Below w.heap.size w w':=by
 go_enter func19,ntmps19
 (go_wp2_with fail);go_ret;exact⟨rfl,Below.refl _ _⟩
abbrev kX0:StX:=⟨100,[],[],[],[]⟩
abbrev kwH(c:Id32):HdV:=⟨[],1,awT,1,1,5,c⟩
theorem kwH_ok(c:Id32):hdE (kwH c)=0:=by
 unfold hdE;have h1:checkB awT=0:=by decide +kernel
 simp only[h1];rfl
theorem kwH_len(d:Id32):(hdB (kwH d)).length=47:=by
 show(beL 1 0++([]:List Id32).flatMap (·.l)++beL 4 1++beL 1 2++awT.data.toList++beL 1 1++beL 4 1++beL 2 5++d.l).length=47;simp only[length_append,beN_len,flatMap_nil,length_nil,d.h];rfl
def kX1(s:ByteArray):StX:=⟨100,[],[],[⟨shaI s.data.toList,s,false⟩],[]⟩
def kX2(s:ByteArray):StX:=⟨100,[⟨hdI (kwH (shaI s.data.toList)),kwH (shaI s.data.toList)⟩],[hdI (kwH (shaI s.data.toList))],[⟨shaI s.data.toList,s,true⟩],[]⟩
theorem kw_ent3(b:ByteArray)(h:b.size=5):entE ⟨3,⟨#[]⟩,b,id0⟩=0:=aw_ent3 b h
theorem kw_ent1(b:ByteArray)(h1:b.size=47):entE ⟨1,⟨#[]⟩,b,id0⟩=0:=by
 unfold entE;rw[if_neg (by dsimp only;omega),if_neg (by dsimp only;simp;decide),if_neg (by dsimp only;omega),if_neg (by dsimp only;omega),if_neg (by dsimp only;omega)]
theorem kw_app3{E:Int}{Y:StX}(h5:s.size=5)(a:AppS kX0 ⟨3,⟨#[]⟩,s,id0⟩ E Y):E=0/\Y=kX1 s:=by
 have d:putE [] 100 s=0:=by
  unfold putE bodyE;rw[h5];rw[if_neg (by decide),if_neg sI];rfl
 obtain⟨c,hc⟩:=eX (shaI s.data.toList)
 have hX:putX [] 100 s = [⟨c,s,false⟩]:=by unfold putX;rw[d,if_pos ⟨rfl,sI⟩,hc];rfl
 unfold AppS at a;rw[if_neg (by rw[kw_ent3 s h5];decide),if_neg (by dsimp only;omega),if_pos rfl]at a;refine⟨a.1.trans d,a.2.trans ?_⟩;dsimp only;unfold kX1 paySX;dsimp only;rw[hc,if_neg (by rw[d];decide),if_neg (by unfold mineX cmsX;simp),hX];rfl
theorem kw_ver(c:Id32):verX [] (kwH c)=0:=by
 unfold verX;rw[if_neg (by rw[kwH_ok];decide)];rfl
theorem kw_head(s:ByteArray):hedE (kX1 s) (hdB (kwH (shaI s.data.toList)))=0/\hedX (kX1 s) (hdB (kwH (shaI s.data.toList))) true=kX2 s:=by
 obtain⟨c,hc⟩:=eX (shaI s.data.toList)
 unfold kX1 kX2;rw[hc];obtain⟨h1,h2⟩:=hof_put (kwH_ok c);unfold hedE hedX;rw[if_neg (by rw[h1];decide),if_neg (by rw[h1];decide),h2];refine⟨kw_ver c,?_⟩;unfold headX;dsimp only;rw[if_neg (by rw[kw_ver];decide),if_pos rfl];have:addX [] (kwH c) = [⟨hdI (kwH c),kwH c⟩]:=if_pos ⟨kw_ver c,by simp[idsX]⟩;rw[this];have hp:pinX [⟨c,s,false⟩] c = [⟨c,s,true⟩]:=by unfold pinX;simp
 rw[hp];rfl
theorem kw_app1{b:ByteArray}{E:Int}{Y:StX}(hb:b.data.toList=hdB (kwH (shaI s.data.toList)))(h1:b.size=47)(a:AppS (kX1 s) ⟨1,⟨#[]⟩,b,id0⟩ E Y):E=0/\Y=kX2 s:=by
 obtain⟨q1,q2⟩:=kw_head s;obtain⟨h3,h4⟩:=hof_put (kwH_ok (shaI s.data.toList));unfold AppS at a;rw[if_neg (by rw[kw_ent1 b h1];decide),if_pos (by dsimp only;omega)]at a;dsimp only at a;rw[hb,if_neg (by rw[h3];decide)]at a;unfold hedE at q1;unfold hedX at q2;rw[if_neg (by rw[h3];decide)]at q1 q2;exact⟨a.1.trans q1,a.2.trans q2⟩
theorem kw_own(s:ByteArray):((idsX (kX2 s).D).filter λx=>decide (x∈(kX2 s).O)) = [hdI (kwH (shaI s.data.toList))]:=by
 unfold kX2 idsX
 simp
theorem kst_new(w:World)(hv:Vars w) :
  Calls prog 87 #[.int .i64 100] w λe w'=>∃g F,e=.returned (.tuple #[.pointer (some ⟨g,0,none⟩),.int .i64 0])/\StateAt w' g F F kX0/\(∀x∈F,w.heap.size<=x)/\Below w.heap.size w w':=by
 refine(st_new w 100 hv).mono ?_;rintro e w' ⟨h1,h2⟩;rw[if_pos (by decide)]at h1;obtain⟨g,F,h3,h4,h5⟩:=h1;exact⟨g,F,h3,h4,h5,h2⟩
theorem kp_fresh(w:World)(hv:Vars w):Calls prog 49 #[.int .i64 1,.int .i64 100] w λe w'=>∃k g F,e=.returned (.tuple #[.pointer (some ⟨k,0,none⟩),.int .i64 0])/\w'.heap[k]?=some (.cells (kprC ⟨1,100,some ⟨g,0,none⟩,none⟩) 34 (0,0))/\StateAt w' g F ([k]++F) kX0/\(∀x∈F,w.heap.size<=x/\x<k)/\w.heap.size<=k/\Below w.heap.size w w':=by
 have c:=kst_new w hv;go_enter func49,ntmps49
 (go_wp2_with fail);refine c.mono ?_;rintro e w1 ⟨g,F,rfl,d,hF,hb⟩;have f:Below w1.heap.size w1 (w1.alloc (.cells (kprC ⟨1,100,some ⟨g,0,none⟩,none⟩) 34)):=bA;have HF:=dH (And.intro (d.more f [w1.heap.size] (λy hy=>by simp at hy;subst hy;simp)) (And.intro (λx (hx:x∈F)=>And.intro (hF x hx) (d.lt x hx)) (And.intro hb.size (bel2 hb f))));clear c d hF hb f hv;(go_wp2_with fail);go_ret2;exact⟨w1.heap.size,g,F,rfl,heap_alloc_new w1 _,HF.out.1,HF.out.2.1,HF.out.2.2.1,HF.out.2.2.2⟩
theorem VlAt.lt{w:World}{F:List Nat}{B v n c f:Nat}(h:VlAt w F B v n c f):(∀y∈F,y<w.heap.size)/\B<=w.heap.size:=by
 obtain⟨g0,g1,j0,j1,k,rfl,h1,h2,h3,h4,h5,h6⟩:=h;have hl:=h2.lt;refine⟨λy hy=>?_,hl.2.2.2⟩;simp at hy;rcases hy with rfl | rfl | rfl <;> omega
theorem kp_new(w:World)(hv:Vars w)(hc:CrcVar w):Calls prog 17 #[.int .i64 1,.int .i64 100] w λe w'=>∃k g F M v V B,e=.returned (.tuple #[.pointer (some ⟨k,0,none⟩),.int .i64 0])/\KpAt w' k g F M kX0 v V B 22 2 2/\(∀x∈F,w.heap.size<=x)/\(∀x∈V,w.heap.size<=x)/\w.heap.size<=k/\Below w.heap.size w w':=by
 have c:=kp_fresh w hv;have Hc:=dH hc;have Hv:=dH hv;clear hc;go_enter func17,ntmps17
 (go_wp2_with fail);refine c.mono ?_;rintro e w1 ⟨k,g,F,rfl,hk,A,hF,I,hb⟩;have cV:=vl_new w1 (Hc.out.below hb);have L:=(aG hk).1;clear c hv;(go_wp2_with fail);refine cV.mono ?_;rintro e w2 ⟨v,V,B,rfl,t,hV,R,m⟩;have s:=(m.block k L).trans hk;obtain⟨c0,c1,c2,c3⟩:=kp_cell s;have f3:=kp_frozen s 3;have j:=kp_set3 s (some ⟨v,0,none⟩);have r:Keep [k] w2 (w2.setCell ⟨k,3,none⟩ (.pointer (some ⟨v,0,none⟩))):=Keep.setCell w2 ⟨k,3,none⟩ _;have O:∀y∈V,w1.heap.size<=y/\y<w2.heap.size:=λy hy=>⟨hV y hy,t.lt.1 y hy⟩;have E:∀y∈F,y<w1.heap.size:=λy hy=>A.lt y hy;have f:=(A.more m V O).kept r (λx hx hm=>by have h1:=hF x hx;simp at hm;omega) (λx hx=>.inl (by simp at hx;simp[hx]));have D:k∉V:=λhm=>(oH (hV k hm));have d:=t.kept r (λx hx=>by simp at hx;subst hx;exact⟨D,oM⟩);have G:w.heap.size<=w1.heap.size:=hb.size;have H:4∉V/\NoVars V:=by
  have l0:=Hc.out.lt;have l1:=Hv.out.parts.lt;have l2:=Hv.out.sha.ltF;have l3:=Hv.out.sha.ltK;refine⟨λhm=>?_,λhm=>?_,λhm=>?_,λhm=>?_⟩ <;> have:=hV _ hm <;> omega
 have J:KpAt (w2.setCell ⟨k,3,none⟩ (.pointer (some ⟨v,0,none⟩))) k g F (V++([k]++F)) kX0 v V B 22 2 2 :=
  ⟨j,f,d,λx hx=>mem_append_left _ hx,λx hx=>⟨λhm=>by have h1:=hV x hm;have h2:=E x hx;omega,by have h2:=E x hx;omega,λe=>oH (hF x hx)⟩,D,H,λhm=>by have:=(hF _ hm).1;have:=Hc.out.lt;omega⟩
 have N:Below w.heap.size w (w2.setCell ⟨k,3,none⟩ (.pointer (some ⟨v,0,none⟩))):=(bel2 hb m).trans (r.below (B:=w.heap.size) (bel2 hb m).size (by intro y hy;simp at hy;omega));have HF:=dH (And.intro J (And.intro (λx (hx:x∈F)=>(hF x hx).1) (And.intro (λx (hx:x∈V)=>Nat.le_trans G (hV x hx)) (And.intro I N))));clear cV t hV R m s j r O E f D d G H J N A hF I hb hk L c0 c1 c2;(go_wp2_with fail);go_ret2;exact⟨k,g,F,_,v,V,B,rfl,HF.out.1,HF.out.2.1,HF.out.2.2.1,HF.out.2.2.2.1,HF.out.2.2.2.2⟩
theorem kp_commit(w:World)(k g:Nat)(F M:List Nat)(X:StX)(v:Nat)(V:List Nat)(B n c f:Nat)(h:KpAt w k g F M X v V B n c f)(hv:Vars w)(hc:CrcVar w)(m:Nat)(hX:StOk m X)(hm:m<=700)(kd:Nat)(a3:kd=1\/kd=3)(b:ByteArray)(hb:b.size<=1000)(c4:entE ⟨kd,⟨#[]⟩,b,id0⟩=0)(Y:StX)(hA:∀E Z,AppS X ⟨kd,⟨#[]⟩,b,id0⟩ E Z->E=0/\Z=Y)(hn:n<=1000000)(d5:c<=1000) :
  Calls prog 7 #[.pointer (some ⟨k,0,none⟩),.agg (entC ⟨kd,⟨#[]⟩,b,id0⟩)] w λe w'=>∃F' M' B',e=.returned (.int .i64 0)/\KpAt w' k g F' M' Y v V B' (n+(b.size+1+9)) (c+1) f/\(∀x∈F',x∈F\/w.heap.size<=x)/\(∀x∈M,x∈M')/\w.heap.size<=B'/\Keep (F++V) w w':=by
 have hB:Below w.heap.size w (w.alloc (.cells (entC ⟨kd,⟨#[]⟩,b,id0⟩) 25)):=bA;have hr:rowAt (w.alloc (.cells (entC ⟨kd,⟨#[]⟩,b,id0⟩) 25)) w.heap.size 0 35=some (entC ⟨kd,⟨#[]⟩,b,id0⟩):=by simp[go_sem]
 obtain⟨W,hW⟩:=eR (w.alloc (.cells (entC ⟨kd,⟨#[]⟩,b,id0⟩) 25))
 obtain⟨ga,a7⟩:=eX w.heap.size
 rw[<-hW]at hB hr;rw[a7]at hr;have a4:=(hB.block k (aG h.heap).1).trans h.heap;obtain⟨c0,c1,c2,c3⟩:=kp_cell a4;have cN:=kp_none W k v c3;have J:ga∉F:=λhm=>(oH (h.st.lt ga hm));have b5:k∉F:=λhm=>(h.fv k hm).2.2 rfl;have b2:=dH (aG h.heap).1;have H:=dH h;have Hv:=dH hv;have Hc:=dH hc;have HX:=dH hX;have HE:=dH c4;have HA:=dH hA;have HB:=dH hB;have HW:=dH hW;have d4:=dH a7;have d6:=dH a4;have Hb:=dH hb;clear h hv hc hX c4 hA hB hW a7 a4 c0 c1;go_enter func7,ntmps7
 (go_wp2_with fail);rw[<-HW.out,d4.out];refine cN.mono ?_;rintro e w1 ⟨rfl,a1⟩;have c5:=bel2 HB.out a1;have T:=((Keep.of_below a1).row (rowAt_lt hr) sI _ _).trans hr;have d2:=(a1.cell (p:=⟨k,2,none⟩) (block_lt_of_cell? W _ c2)).trans c2;have t:=dH c5;clear cN a1 c5 hr c2 c3;go_upto_region 3 with fail
 refine kX F w1 ?_;intro c8 hS;have e2:=ksub_cell d2 (S:=F) b5;have e3:=ksub_row T (S:=F) J;refine lQ ?_;intro K hK;have a8:Below w.heap.size w w1.drew:=t.out.trans ((Below.refl _ w1).drew.mono t.out.size);refine(st_applyK w1.drew g F M m X (H.out.st.below a8) (Hv.out.below a8) HX.out hm kd (by rcases a3 with rfl | rfl;exact .inl rfl;exact .inr rfl) b oM HE.out).mono ?_;rintro e w2 ⟨E,Z,F2,M2,rfl,ha,U⟩;obtain⟨rfl,rfl⟩:=HA.out E Z ha;have j:Kp F w1 w2:=Keep.trans ((Keep.drew w1).mono (S':=F) sI) U.kp (λy hy=>.inl hy);refine⟨_,rfl,j,hK _ _ ?_⟩;clear hK;refine lZ ?_;refine wpLx_nil ?_;intro hS;have R:w.heap.size<=w1.heap.size:=t.out.size;have a6:k<w1.heap.size:=Nat.lt_of_lt_of_le b2.out R;have a5:w2.heap[k]?=some (.cells (kprC ⟨1,100,some ⟨g,0,none⟩,some ⟨v,0,none⟩⟩) 34 (0,0)):=(j.block k a6 b5).trans ((t.out.block k b2.out).trans H.out.heap);have c7:=(j.row (rowAt_lt T) J _ _).trans T;have D:=(H.out.vl.below t.out).kept j (λx hx=>⟨(H.out.fv x hx).1,(H.out.fv x hx).2.1⟩);have b9:∀x∈F2,x∈F\/w.heap.size<=x:=λx hx=>(U.ff x hx).imp id (λe=>Nat.le_trans R e);have L:=(Hc.out.below t.out).kept j H.out.cf;have d3:=(kp_cell a5).2.2.2;have cP:=ent_put w2 kd a3 b Hb.out HE.out;have HN:=dH U;have c6:=dH j;have b1:=dH a5;have b0:=dH D;have a2:=dH b9;have b3:=dH L;have d1:=dH R;clear c8 hS e2 e3 a8 U ha j R a5 D b9 L d2 T a3 hb;(go_wp2_with fail);refine cP.mono ?_;rintro e w3 ⟨s,rfl,hs,N⟩;have d0:=(N.cell (p:=⟨k,3,none⟩) (block_lt_of_cell? w2 _ d3)).trans d3;have cV:=vl_append w3 (b3.out.below N) V B v n c f (b0.out.below N) H.out.nv.1 s (oH Hb.out) oM oM;have O:=dH N;have Hs:=dH hs;clear cP d3 c7 N hs;(go_wp2_with fail);refine cV.mono ?_;rintro e w4 ⟨rfl,A,a0⟩;have b7:=H.out.vl.lt.1;have a9:∀x∈F2,x∉V:=λx hx hm=>by
  rcases a2.out x hx with e | e
  ·exact(H.out.fv x e).1 hm
  ·have:=b7 x hm;omega
 have d:=(HN.out.st.below O.out)
 have G:=d.kept a0 a9 (λx hx=>.inl (HN.out.mm x (H.out.vm x hx)));have b8:∀x∈F2,x<w3.heap.size:=λx hx=>d.lt x hx;have I:w4.heap[k]?=some (.cells (kprC ⟨1,100,some ⟨g,0,none⟩,some ⟨v,0,none⟩⟩) 34 (0,0)) :=
  (a0.block k (Nat.lt_of_lt_of_le (aG b1.out).1 O.out.size) H.out.kv).trans ((O.out.block k (aG b1.out).1).trans b1.out)
 have c9:=Hc.out.lt;have b4:KpAt w4 k g F2 M2 Z v V w3.heap.size (n+(b.size+1+9)) (c+1) f:=by
  refine⟨I,G,by rw[<-Hs.out];exact A,λx hx=>HN.out.mm x (H.out.vm x hx),λx hx=>⟨a9 x hx,b8 x hx,λe=>?_⟩,H.out.kv,H.out.nv,λhm=>?_⟩
  ·rcases a2.out x hx with e2 | e2
   ·exact(H.out.fv x e2).2.2 e
   ·have:=b2.out;omega
  ·rcases a2.out _ hm with e2 | e2
   ·exact H.out.cf e2
   ·omega
 have b6:Keep (F++V) w w4:=by
  have q1:=(Keep.of_below t.out).mono (S':=F++V) sI;have q2:=Keep.trans q1 (c6.out.mono (S':=F++V) (λy hy=>.inl (mem_append_left _ hy))) (λy hy=>.inl hy);have q3:=Keep.trans q2 ((Keep.of_below O.out).mono (S':=F++V) sI) (λy hy=>.inl hy);exact Keep.trans q3 (a0.mono (S':=F++V) (λy hy=>.inl (mem_append_right _ hy))) (λy hy=>.inl hy)
 have r:=dH (And.intro b4 (And.intro a2.out (And.intro HN.out.mm (And.intro (show w.heap.size<=w3.heap.size from by have z1:=d1.out;have z2:=c6.out.size;have z3:=O.out.size;omega) b6))));clear cV A a0 b7 a9 d G b8 I b4 b6 d0 c9;(go_wp2_with fail);go_ret;exact⟨F2,M2,w3.heap.size,rfl,r.out.1,r.out.2.1,r.out.2.2⟩
theorem infoMem:(prog.info? 126).map (·.size)=some 32:=kR
@[go_sem ↓] theorem loadMem_rw(a:Addr):loadVar 126 a=ldS 126 a:=rfl
@[go_sem] theorem loadMem_run(w:World)(g o:Nat):(ldS 126 ⟨g,o,none⟩).run prog w=match rowAt w g o 32 with | some cs=>.ok (.agg cs) w | none=>(loadVar 126 ⟨g,o,none⟩).run prog w :=
 run_ldS underlying126 rfl infoMem w g o
@[go_sem ↓] theorem storeMem_rw(a:Addr)(v:Value):storeVar 126 a v=stS 126 a v:=rfl
theorem msame(d x:Id32)(w:World):Calls prog 81 #[.agg (idC d),.agg (idC x)] w λe w'=>e=.returned (.bool (d==x))/\Below w.heap.size w w':=by
 have hb:Below w.heap.size w ((w.alloc (.cells (idC d) 126)).alloc (.cells (idC x) 23)):=(bA).alloc sI _;go_enter func81,ntmps81
 (go_wp2_with fail);go_ret;exact⟨rfl,hb⟩
theorem index_id(d:Id32)(A:Option Addr)(n cap:Nat)(R:List Id32)(w:World)(h:TagsIn w A n R)(hn:n<=1000000) :
  Calls prog 100 #[.slice A n cap,.func (.func 81) #[.agg (idC d)] #[]] w λe w'=>∃j:Int,e=.returned (.int .i64 j)/\(0<=j↔d∈R)/\Below w.heap.size w w':=by
 have H:R.length=n:=by simpa using h.1
 go_enter func100,ntmps100
 (go_wp2_with fail);go_loopw [8] (λiv wr=>∃i:Nat,i<=n/\iv=.int .i64 i/\Hid (d∉R.take i)/\Below w.heap.size w wr) (λiv _=>n-(intOf iv).toNat)
 case atStart=>exact⟨0,zL,rfl,(sI:d∉R.take 0),Below.refl _ _⟩
 case round =>
  obtain⟨i,hi,rfl,y,hb⟩:=hrel;by_cases G:i<n
  ·obtain⟨q,o,rfl,r⟩:=TagsIn.get (SlR.below h hb) G oM;have g:=getElem_mem (l:=R) (n:=i) oM;have m:R.take (i+1)=R.take i ++ [R[i]'oM]:=by rw[take_succ_eq_append_getElem oM]
   obtain⟨x,hx⟩:=eX (R[i]'oM)
   rw[hx]at r g m;have I:=dH m;have t:=dH g;clear hx m g;have c1:=msame d x wr;obtain⟨bb,s⟩:=eX (d==x)
   rw[s]at c1;have F:=dH s;clear s;(go_wp2_with fail);refine c1.mono ?_;rintro e w1 ⟨rfl,E⟩;have D:=hb.trans (E.mono hb.size);clear c1 E hb;cases bb with
   | true =>
    have e:d=x:=by simpa using F.out
    have B:d∈R:=by rw[e];exact t.out
    have J:=dH B;clear e B;(go_wp2_with fail);go_ret;exact⟨_,rfl,⟨λ_=>J.out,λ_=>oM⟩,D⟩
   | false =>
    have e:d≠x:=by simpa using F.out
    have f:d∉R.take (i+1):=by rw[I.out,mem_append,mem_singleton];exact λh=>h.elim y.out e
    have k:=dH f;clear f e;(go_wp2_with fail);go_roundw
    case rel=>exact⟨i+1,oM,by go_num,k,D⟩
    case measure=>exact sZ
  ·have e2:R.take i=R:=take_of_length_le oM;have f:=y.out;rw[e2]at f;have k:=dH f;clear e2 f;(go_wp2_with fail);go_ret;exact⟨_,rfl,⟨λh=>oM,λh=>absurd h k.out⟩,hb⟩
theorem ihas(d:Id32)(A:Option Addr)(n cap:Nat)(R:List Id32)(w:World)(h:TagsIn w A n R)(hn:n<=1000000) :
  Calls prog 33 #[.slice A n cap,.agg (idC d)] w λe w'=>e=.returned (.bool (decide (d∈R)))/\Below w.heap.size w w':=by
 have hb:Below w.heap.size w (w.alloc (.cells (idC d) 23)):=bA;have c2:=index_id d A n cap R (w.alloc (.cells (idC d) 23)) (SlR.below h hb) hn;have c1:Calls prog 80 #[.slice A n cap,.func (.func 81) #[.agg (idC d)] #[]] (w.alloc (.cells (idC d) 23)) λe w'=>e=.returned (.bool (decide (d∈R)))/\Below (w.alloc (.cells (idC d) 23)).heap.size (w.alloc (.cells (idC d) 23)) w':=by
  clear hb
  revert c2
  generalize w.alloc (.cells (idC d) 23)=W;intro c2;go_enter func80,ntmps80
  (go_wp2_with fail);refine c2.mono ?_;rintro e w1 ⟨j,rfl,hj,f⟩;have Hj:=dH hj;clear c2 hj;(go_wp2_with fail);go_ret;exact⟨ret_bool (by rw[decide_eq_decide];exact Hj.out),f⟩
 clear c2;go_enter func33,ntmps33
 (go_wp2_with fail);refine c1.mono ?_;rintro e w1 ⟨rfl,f⟩;clear c1;(go_wp2_with fail);go_ret;exact⟨rfl,bel2 hb f⟩
theorem KpAt.below{w w':World}{k g:Nat}{F M:List Nat}{X:StX}{v:Nat}{V:List Nat}{B n c f:Nat}(h:KpAt w k g F M X v V B n c f)(hb:Below w.heap.size w w'):KpAt w' k g F M X v V B n c f :=
 ⟨(hb.block k (aG h.heap).1).trans h.heap,h.st.below hb,h.vl.below hb,h.vm,h.fv,h.kv,h.nv,h.cf⟩
theorem KpAt.more{w w':World}{k g:Nat}{F M:List Nat}{X:StX}{v:Nat}{V:List Nat}{B n c f:Nat}(h:KpAt w k g F M X v V B n c f)(hb:Below w.heap.size w w')(L:List Nat)(hL:∀y∈L,w.heap.size<=y/\y<w'.heap.size):KpAt w' k g F (L++M) X v V B n c f :=
 ⟨(hb.block k (aG h.heap).1).trans h.heap,h.st.more hb L hL,h.vl.below hb,λx hx=>mem_append_right _ (h.vm x hx),h.fv,h.kv,h.nv,h.cf⟩
theorem buildE3b(b:ByteArray)(w:World):(bdS 25 #[(0,.int .i64 3),(2,.string b)]).run prog w=.ok (.agg (entC ⟨3,⟨#[]⟩,b,id0⟩)) w:=kR
theorem kp_insert(w:World)(k g:Nat)(F M:List Nat)(v:Nat)(V:List Nat)(B n c f:Nat)(h:KpAt w k g F M kX0 v V B n c f)(hv:Vars w)(hc:CrcVar w)(b:ByteArray)(hb:b.size=5)(hn:n<=1000000)(a6:c<=1000) :
  Calls prog 8 #[.pointer (some ⟨k,0,none⟩),.string b] w λe w'=>∃F' M' B',e=.returned (.int .i64 0)/\KpAt w' k g F' M' (kX1 b) v V B' (n+(5+1+9)) (c+1) f/\(∀x∈F',x∈F\/w.heap.size<=x)/\(∀x∈M,x∈M')/\w.heap.size<=B'/\Keep (F++V) w w':=by
 obtain⟨c0,c1,c2,c3⟩:=kp_cell h.heap;have cN:=kp_none w k v c3;have q5:=buildE3b;have H:=dH h;have Hv:=dH hv;have Hc:=dH hc;have Hb:=dH hb;clear h hv hc hb c0 c1 c3;go_enter func8,ntmps8
 (go_wp2_with fail);refine cN.mono ?_;rintro e w1 ⟨rfl,U⟩;have Y:Below w1.heap.size w1 (w1.alloc (.cells (entC ⟨3,⟨#[]⟩,b,id0⟩) 25)):=bA;have j:rowAt (w1.alloc (.cells (entC ⟨3,⟨#[]⟩,b,id0⟩) 25)) w1.heap.size 0 35=some (entC ⟨3,⟨#[]⟩,b,id0⟩):=by simp[go_sem]
 obtain⟨W,hW⟩:=eR (w1.alloc (.cells (entC ⟨3,⟨#[]⟩,b,id0⟩) 25))
 obtain⟨ga,O⟩:=eX w1.heap.size
 have m:=bel2 U Y;rw[<-hW]at j m;rw[O]at j;have cE:=ent_check ⟨3,⟨#[]⟩,b,id0⟩ W (by show b.size<=_;have:=Hb.out;omega) zL;rw[kw_ent3 b Hb.out]at cE;have d2:=(m.cell (p:=⟨k,2,none⟩) (block_lt_of_cell? w _ c2)).trans c2;have HW:=dH hW;have a7:=dH O;have a8:=dH m;clear cN U Y hW O m c2;(go_wp2_with fail);rw[<-HW.out,a7.out];refine cE.mono ?_;rintro e w2 ⟨rfl,D⟩;have L:=((Keep.of_below D).row (rowAt_lt j) sI _ _).trans j;have e2:=(D.cell (p:=⟨k,2,none⟩) (block_lt_of_cell? W _ d2)).trans d2;have a4:=dH (bel2 a8.out D);have cH:=st_held w2 g F M kX0 (H.out.st.below a4.out) zL;clear cE D j d2 q5;(go_wp2_with fail);refine cH.mono ?_;rintro e w3 ⟨A,cap,rfl,_,t⟩;have J:=((Keep.of_below t).row (rowAt_lt L) sI _ _).trans L;have e3:=(t.cell (p:=⟨k,2,none⟩) (block_lt_of_cell? w2 _ e2)).trans e2;have a3:=dH (bel2 a4.out t);have cS:=sha_sum w3 b ((Hv.out.below a3.out).sha) (oH Hb.out);clear cH t L e2;(go_wp2_with fail);refine cS.mono ?_;rintro e w4 ⟨rfl,s⟩;have I:=((Keep.of_below s).row (rowAt_lt J) sI _ _).trans J;have e4:=(s.cell (p:=⟨k,2,none⟩) (block_lt_of_cell? w3 _ e3)).trans e3;have a9:=dH (bel2 a3.out s);have cI:=ihas (shaI b.data.toList) A 0 cap [] w4 ⟨rfl,λh=>absurd h (Nat.lt_irrefl 0)⟩ oM;have ht:decide (shaI b.data.toList∈([]:List Id32))=false:=sI;rw[ht]at cI;clear cS s J e3 ht;(go_wp2_with fail);refine cI.mono ?_;rintro e w5 ⟨rfl,r⟩;have G:=((Keep.of_below r).row (rowAt_lt I) sI _ _).trans I;have e5:=(r.cell (p:=⟨k,2,none⟩) (block_lt_of_cell? w4 _ e4)).trans e4;have a2:=dH (bel2 a9.out r);have cR:=st_room0 w5 g F M kX0 (H.out.st.below a2.out) rfl b.size (by have:=Hb.out;show((b.size:Nat):Int)<=100;omega) (by decide);clear cI r I e4;(go_wp2_with fail);refine cR.mono ?_;rintro e w6 ⟨rfl,R⟩;have a5:=((Keep.of_below R).row (rowAt_lt G) sI _ _).trans G;have d:=dH (bel2 a2.out R);have cC:=kp_commit w6 k g F M kX0 v V B n c f (H.out.below d.out) (Hv.out.below d.out) (Hc.out.below d.out) 0 (StOk.new 100 (by decide) (by decide)) oM 3 (.inr rfl) b (oH Hb.out) (kw_ent3 b Hb.out) (kX1 b) (λE Z ha=>kw_app3 Hb.out ha) hn a6;clear cR R G e5;(go_wp2_with fail);refine wp_loop_rounds 1 ?_;rw[rounds_succ];(go_wp2_with fail);refine cC.mono ?_;rintro e w7 ⟨F',M',B',rfl,N,a0,T,a1,X⟩;rw[Hb.out]at N;have HF:=dH (And.intro N (And.intro (λx (hx:x∈F')=>(a0 x hx).imp id (λe=>Nat.le_trans d.out.size e)) (And.intro T (And.intro (Nat.le_trans d.out.size a1) (Keep.trans ((Keep.of_below d.out).mono (S':=F++V) sI) X (λy hy=>.inl hy))))));clear cC N a0 X T a1 a5;(go_wp2_with fail);go_ret;exact⟨F',M',B',rfl,HF.out.1,HF.out.2.1,HF.out.2.2⟩
theorem nm_ins0(fv:Value)(w:World):Calls prog 270 #[.slice none 0 0,.int .i64 0,.int .i64 0,fv] w λe w'=>e=.returned (.tuple #[])/\w'=w:=by
 go_enter func270,ntmps270
 (go_wp2_with fail);refine wp_loop_rounds 1 ?_;rw[rounds_succ];(go_wp2_with fail);go_end0;exact⟨rfl,rfl⟩
theorem nm_stable0(fv:Value)(w:World):Calls prog 234 #[.slice none 0 0,.int .i64 0,fv] w λe w'=>e=.returned (.tuple #[])/\w'=w:=by
 go_enter func234,ntmps234
 (go_wp2_with fail);refine wp_loop_rounds 1 ?_;rw[rounds_succ];(go_wp2_with fail);refine(nm_ins0 _ _).mono ?_;rintro e w1 ⟨rfl,rfl⟩;(go_wp2_with fail);refine wp_loop_rounds 1 ?_;rw[rounds_succ];(go_wp2_with fail);go_end0;exact⟨rfl,rfl⟩
theorem nm_sort0(fv:Value)(w:World):Calls prog 175 #[.slice none 0 0,fv] w λe w'=>e=.returned (.tuple #[])/\w'=w:=by
 go_enter func175,ntmps175
 (go_wp2_with fail);refine(nm_stable0 _ _).mono ?_;rintro e w1 ⟨rfl,rfl⟩;(go_wp2_with fail);go_end0;exact⟨rfl,rfl⟩
theorem nm_rev0(w:World):Calls prog 177 #[.slice none 0 0] w λe w'=>e=.returned (.tuple #[])/\w'=w:=by
 go_enter func177,ntmps177
 (go_wp2_with fail);refine wp_loop_rounds 1 ?_;rw[rounds_succ];(go_wp2_with fail);go_end0;exact⟨rfl,rfl⟩
theorem names0(A:Option Addr)(cap:Nat)(w:World):Calls prog 114 #[.slice A 0 cap] w λe w'=>e=.returned (.tuple #[.slice none 0 0,.int .i64 0])/\w=w':=by
 go_enter func114,ntmps114
 (go_wp2_with fail);refine wp_loop_rounds 1 ?_;rw[rounds_succ];(go_wp2_with fail);refine(nm_sort0 _ _).mono ?_;rintro e w1 ⟨rfl,rfl⟩;(go_wp2_with fail);refine(nm_rev0 _).mono ?_;rintro e w1 ⟨rfl,rfl⟩;(go_wp2_with fail);go_ret2;exact⟨rfl,rfl⟩
theorem stHdC_at(w:World)(g:Nat)(h:w.heap[g]?=some (.cells (hdC hd0) 49 (0,0)))(v:Value)(t:ByteArray)(au sq sz:Int)(d:Id32)(hv:v.oneCell'=true) :
  ∃w2,(stS 49 ⟨g,0,none⟩ (.agg (hdC ⟨v,1,t,au,sq,sz,d⟩))).run prog w=.ok () w2/\rowAt w2 g 0 38=some (hdC ⟨v,1,t,au,sq,sz,d⟩)/\Keep [g] w w2 :=
 ⟨_,run_stS_at (P:=prog) infoHd w g (hdC hd0) (hdC ⟨v,1,t,au,sq,sz,d⟩) _ h sI sI (hdC_one _ hv),by unfold rowAt;rw[setRow_heap w g _ _ _ _ h];simp,kRow w g _⟩
theorem rule_next0(w:World)(A:Option Addr)(cap:Nat)(t:ByteArray)(au sq sz:Nat)(d:Id32)(ht:t.size<=1000)(U:hdE ⟨[],1,t,au,sq,sz,d⟩=0) :
  Calls prog 62 #[.slice A 0 cap,.string t,.int .i64 au,.int .i64 sq,.int .i64 sz,.agg (idC d)] w λe w'=>∃A1 c1,e=.returned (.tuple #[.agg (hdC (hdO ⟨[],1,t,au,sq,sz,d⟩ A1 c1)),.int .i64 0])/\Below w.heap.size w w':=by
 have hB:Below w.heap.size w ((w.alloc (.cells (idC d) 23)).alloc (.cells (hdC hd0) 49)):=(bA).alloc sI _;have H:rowAt ((w.alloc (.cells (idC d) 23)).alloc (.cells (hdC hd0) 49)) w.heap.size 0 32=some (idC d):=by
  rw[rowAt_of_block (Below.heap_alloc _ _ _ sI)];simp[go_sem]
 have G:((w.alloc (.cells (idC d) 23)).alloc (.cells (hdC hd0) 49)).heap[w.heap.size+1]?=some (.cells (hdC hd0) 49 (0,0)):=by have h2:=heap_alloc_new (w.alloc (.cells (idC d) 23)) (.cells (hdC hd0) 49);simpa using h2
 obtain⟨V,hV⟩:=eR ((w.alloc (.cells (idC d) 23)).alloc (.cells (hdC hd0) 49))
 obtain⟨ga,O⟩:=eX w.heap.size
 rw[<-hV]at hB H G;rw[O]at H G;have HV:=dH hV;have a1:=dH O;have HB:=dH hB;have Ht:=dH ht;have a2:=dH U;clear hV O hB ht U;have E:∀W:World,Calls prog 115 #[.slice none 0 0] W λe w'=>∃A' c',e=.returned (.slice A' 0 c')/\Below W.heap.size W w':=λW =>
  (ident_set W none 0 0 [] [] SlR.nil_ (Perm.refl _) Ris.nil oM (λ_=>rfl)).mono λe w' ⟨A',c',h1,_,h2⟩=>⟨A',c',h1,h2⟩
 have L:∀W:World,Calls prog 116 #[.slice none 0 0] W λe w'=>e=.returned (.int .i64 1)/\Below W.heap.size W w':=λW =>
  rule_height W none 0 0 [] SlR.nil_ sI oM
 have qB:=fun (w:World) (A1:Option Addr) (c1:Nat)=>buildHd (.slice A1 0 c1) 1 t au sq sz d rfl w;go_enter func62,ntmps62
 (go_wp2_with fail);rw[<-HV.out,a1.out];refine(names0 _ _ _).mono ?_;rintro e w1 ⟨rfl,rfl⟩;(go_wp2_with fail);refine wp_loop_rounds 1 ?_;rw[rounds_succ];go_upto_region 11 with fail
 go_cut [20] (λp wx=>∃gh A1 c1,p=.pointer (some ⟨gh,0,none⟩)/\rowAt wx gh 0 38=some (hdC ⟨.slice A1 0 c1,1,t,au,sq,sz,d⟩)/\Below V.heap.size V wx)
 case first =>
  refine wp_region_tree (.loose 0 (.loose 2 (.loose 4 (.loose 5 (.loose 6 (.loose 7 (.loose 8 (.two 1 (.two 3 (.loose 9 (.one 10 (.one 11 .done))) 10 (.one 3 (.loose 9 (.one 11 .done)))) 10 (.one 1 (.one 3 (.loose 9 (.one 11 .done)))))))))))) (Bel V) false kR kR kR kR (bel_drew V) ?_;have N:=bel_some V;have hS:=bel_drew V;have b1:=sub_row H;refine tZ ?_;refine wpTx_two ?_ ?_
  ·skip;refine tH ?_;intro K hK;refine(E _).mono ?_;rintro e w3 ⟨A1,c1,rfl,J⟩;replace hS:=bel_next hS J;refine⟨_,rfl,hS,hK _ _ ?_⟩;clear hK K;refine wpTx_two ?_ ?_
   ·skip;refine tH ?_;intro K hK;refine(L _).mono ?_;rintro e w4 ⟨rfl,D⟩;replace hS:=bel_next hS D;refine⟨_,rfl,hS,hK _ _ ?_⟩;clear hK K;refine tZ ?_;have j:=Below.size hS;have xz:=heap_alloc_new w4 (.cells (hdC hd0) 49);have Hn:=dH (bel_next hS ((Below.refl (w4).heap.size w4).alloc lR (.cells (hdC hd0) 49)));refine tH ?_;intro K hK;refine step_keep Hn.out (λg=>?_);refine hK _ _ ?_;clear hK K hS;have hS:=g;have a0:V.heap.size<=(w4).heap.size:=j;clear Hn g j;obtain⟨w8,F,f,k⟩:=stHdC_at _ _ xz (.slice A1 0 c1) t au sq sz d rfl;have H8:=dH (Below.trans hS (k.below (Below.size hS) (by intro y hy;simp at hy;omega)));refine tH ?_;intro K hK;refine step_keep H8.out (λg=>?_);refine hK _ _ ?_;clear hK K hS;have hS:=g;refine tZ ?_;refine wpTx_done ?_;intro hS;have HF:=dH (And.intro f H8.out);clear F f k hS g N;go_wp2_with fail
    go_meet
    exact⟨_,A1,c1,rfl,HF.out.1,HF.out.2⟩
   ·skip;have j:=Below.size hS;have xz:=heap_alloc_new w3 (.cells (hdC hd0) 49);have Hn:=dH (bel_next hS ((Below.refl (w3).heap.size w3).alloc lR (.cells (hdC hd0) 49)));refine tH ?_;intro K hK;refine step_keep Hn.out (λg=>?_);refine hK _ _ ?_;clear hK K hS;have hS:=g;have a0:V.heap.size<=(w3).heap.size:=j;clear Hn g j;refine tH ?_;intro K hK;refine(L _).mono ?_;rintro e w4 ⟨rfl,D⟩;replace hS:=bel_next hS D;refine⟨_,rfl,hS,hK _ _ ?_⟩;clear hK K;have M:=(D.block w3.heap.size (aG xz).1).trans xz;refine tZ ?_;obtain⟨w8,F,f,k⟩:=stHdC_at _ _ M (.slice A1 0 c1) t au sq sz d rfl;have H8:=dH (Below.trans hS (k.below (Below.size hS) (by intro y hy;simp at hy;omega)));refine tH ?_;intro K hK;refine step_keep H8.out (λg=>?_);refine hK _ _ ?_;clear hK K hS;have hS:=g;refine tZ ?_;refine wpTx_done ?_;intro hS;have HF:=dH (And.intro f H8.out);clear F f k hS g N;go_wp2_with fail
    go_meet
    exact⟨_,A1,c1,rfl,HF.out.1,HF.out.2⟩
  ·skip;have j:=Below.size hS;have xz:=heap_alloc_new V.drew (.cells (hdC hd0) 49);have Hn:=dH (bel_next hS ((Below.refl (V.drew).heap.size V.drew).alloc lR (.cells (hdC hd0) 49)));refine tH ?_;intro K hK;refine step_keep Hn.out (λg=>?_);refine hK _ _ ?_;clear hK K hS;have hS:=g;have a0:V.heap.size<=(V.drew).heap.size:=j;clear Hn g j;refine tH ?_;intro K hK;refine(E _).mono ?_;rintro e w3 ⟨A1,c1,rfl,J⟩;replace hS:=bel_next hS J;refine⟨_,rfl,hS,hK _ _ ?_⟩;clear hK K;refine tH ?_;intro K hK;refine(L _).mono ?_;rintro e w4 ⟨rfl,D⟩;replace hS:=bel_next hS D;refine⟨_,rfl,hS,hK _ _ ?_⟩;clear hK K;have M:w4.heap[V.heap.size]?=some (.cells (hdC hd0) 49 (0,0)):=((bel2 J D).block V.drew.heap.size (aG xz).1).trans xz;refine tZ ?_;obtain⟨w8,F,f,k⟩:=stHdC_at _ _ M (.slice A1 0 c1) t au sq sz d rfl;have H8:=dH (Below.trans hS (k.below (Below.size hS) (by intro y hy;simp at hy;omega)));refine tH ?_;intro K hK;refine step_keep H8.out (λg=>?_);refine hK _ _ ?_;clear hK K hS;have hS:=g;refine tZ ?_;refine wpTx_done ?_;intro hS;have HF:=dH (And.intro f H8.out);clear F f k hS g N;go_wp2_with fail
   go_meet
   exact⟨_,A1,c1,rfl,HF.out.1,HF.out.2⟩
 case rest =>
 obtain⟨gh,A1,c1,rfl,m,R⟩:=hcut;obtain⟨Z,rfl⟩:=eR wc
 have cC:Calls prog 65 #[.agg (hdC ⟨.slice A1 0 c1,1,t,au,sq,sz,d⟩)] Z λe w'=>e=.returned (.int .i64 0)/\Below Z.heap.size Z w':=by
  have h:=hd_check Z ⟨[],1,t,au,sq,sz,d⟩ A1 c1 ⟨rfl,λh=>absurd h (Nat.lt_irrefl 0)⟩ zL (by have:=Ht.out;show t.size<=_;omega);rw[a2.out]at h;exact h
 have s:=(R.block (ga+1) (aG G).1).trans G;have a3:=dH R;clear E L qB H G R;(go_wp2_with fail);refine cC.mono ?_;rintro e w5 ⟨rfl,I⟩;have Y:=((Keep.of_below I).row (rowAt_lt m) sI _ _).trans m;have r:=(I.block (ga+1) (aG s).1).trans s;have a4:=run_stS_at (P:=prog) infoHd w5 (ga+1) (hdC hd0) (hdC ⟨.slice A1 0 c1,1,t,au,sq,sz,d⟩) _ r sI sI (hdC_one _ rfl);have X:=dH (setRow_heap w5 (ga+1) _ (hdC ⟨.slice A1 0 c1,1,t,au,sq,sz,d⟩) _ _ r);have hk:=kRow w5 (ga+1) (hdC ⟨.slice A1 0 c1,1,t,au,sq,sz,d⟩);have T:=bel2 (bel2 HB.out a3.out) I;have HF:=dH (T.trans (hk.below (B:=w.heap.size) T.size (by intro y hy;simp at hy;have:=a1.out;omega)));clear cC m s I r hk T;(go_wp2_with fail);refine bodyPost_ret (results_ct results62 _ _ (ga+1) 49 (hdC ⟨.slice A1 0 c1,1,t,au,sq,sz,d⟩) (0,0) _ rfl X.out underlying49 rfl (by rw[hdC_size];exact infoHd)) rfl ?_;exact⟨A1,c1,rfl,HF.out⟩
theorem kp_heads0(w:World)(k g:Nat)(F M:List Nat)(X:StX)(h2:w.cell? ⟨k,2,none⟩=some (.pointer (some ⟨g,0,none⟩)))(h:StateAt w g F M X)(hD:X.D = []):Calls prog 61 #[.pointer (some ⟨k,0,none⟩)] w λe w'=>e=.returned (.slice none 0 0)/\Below w.heap.size w w':=by
 have cH:=st_heads0 w g F M X h hD;clear h;go_enter func61,ntmps61
 (go_wp2_with fail);refine cH.mono ?_;rintro e w1 ⟨A,cap,rfl,hb⟩;clear cH;(go_wp2_with fail);refine wp_loop_rounds 1 ?_;rw[rounds_succ];(go_wp2_with fail);go_ret;exact⟨rfl,hb⟩
theorem results_cc{fn:Func}{p q:Tmp}{ty f:TypeId}(h:fn.results = #[.cell p ty,.cell q f])(tmps:Array Value)(w:World)(g:Nat)(t:TypeId)(cs:Array Value)(fr:Nat×Nat)(d:TypeDesc)(g2:Nat)(t2:TypeId)(j:Array Value)(m:Nat×Nat)(d2:TypeDesc)
  (hp:tmps.getD p undef=.pointer (some ⟨g,0,none⟩))(hg:w.heap[g]?=some (.cells cs t fr))
  (hu:P.underlying ty=some d)(hd:(match d with | .struct _ | .array _ _=>true | _=>false)=true)(hi:(P.info? ty).map (·.size)=some cs.size)
  (s:tmps.getD q undef=.pointer (some ⟨g2,0,none⟩))(A:w.heap[g2]?=some (.cells j t2 m))
  (r:P.underlying f=some d2)(B:(match d2 with | .struct _ | .array _ _=>true | _=>false)=true)(hi2:(P.info? f).map (·.size)=some j.size) :
  (results fn tmps).run P w=.ok (.tuple #[.agg cs,.agg j]) w:=by
 have y:tmps[p]?.getD undef=.pointer (some ⟨g,0,none⟩):=by simpa using hp
 have k:tmps[q]?.getD undef=.pointer (some ⟨g2,0,none⟩):=by simpa using s
 simp[results,h,y,k,asAddr,run_loadVar_row w g t ty cs fr d hg hu hd hi,run_loadVar_row w g2 t2 f j m d2 A r B hi2]
def NoHd(x:HdIn)(E:Int):Prop:=x=hdZ/\E=7
theorem kp_must(w:World):Calls prog 21 #[.int .i64 0] w λe w'=>e=.returned (.tuple #[])/\w=w':=by
 go_enter func21,ntmps21
 (go_wp2_with fail);go_end0;exact⟨rfl,rfl⟩
theorem kst_hget0(w:World)(g:Nat)(F M:List Nat)(X:StX)(h:StateAt w g F M X)(hX:StPre 0 X)(hD:X.D = [])(i:Id32):Calls prog 64 #[.pointer (some ⟨g,0,none⟩),.agg (idC i)] w λe w'=>e=.returned (.tuple #[.agg (hdC hd0),.int .i64 7])/\Below w.heap.size w w':=by
 have hB:Below w.heap.size w ((w.alloc (.cells (idC i) 23)).alloc (.cells (hdC hd0) 49)):=(bA).alloc sI _;have hr:rowAt ((w.alloc (.cells (idC i) 23)).alloc (.cells (hdC hd0) 49)) w.heap.size 0 32=some (idC i):=by
  rw[rowAt_of_block (Below.heap_alloc _ _ _ sI)];simp[go_sem]
 have hg:((w.alloc (.cells (idC i) 23)).alloc (.cells (hdC hd0) 49)).heap[w.heap.size+1]?=some (.cells (hdC hd0) 49 (0,0)):=by have h2:=heap_alloc_new (w.alloc (.cells (idC i) 23)) (.cells (hdC hd0) 49);simpa using h2
 obtain⟨W,hW⟩:=eR ((w.alloc (.cells (idC i) 23)).alloc (.cells (hdC hd0) 49))
 obtain⟨ga,f⟩:=eX w.heap.size
 rw[<-hW]at hB hr hg;rw[f]at hr hg;obtain⟨gd,Fd,c0,hd⟩:=st_gd (h.below hB);have cN:=st_none W g gd c0;have cG:∀U:World,Below W.heap.size W U->Calls prog 117 #[.pointer (some ⟨gd,0,none⟩),.agg (idC i)] U λe w'=>e=.returned (.tuple #[.agg (hdC hd0),.int .i64 7])/\Below U.heap.size U w':=λU hU =>
  (dag_got U gd Fd 0 X (hd.below hU) hX i).mono λe w' ⟨x,E,h1,h2,h3⟩=>by
   rcases h2 with⟨h4,_⟩ | ⟨_,rfl,rfl⟩
   ·rw[hD]at h4;cases h4
   ·exact⟨h1,h3⟩
 have HW:=dH hW;have A:=dH f;have HB:=dH hB;have HG:=dH cG;clear hW f hB h hX hD hd cG;go_enter func64,ntmps64
 (go_wp2_with fail);rw[<-HW.out,A.out];refine cN.mono ?_;rintro e w1 ⟨rfl,rfl⟩;clear cN;go_upto_region 3 with fail
 have I:ga+1<W.heap.size:=(aG hg).1;refine kX [ga+1] W ?_;intro H hS;have hg_ne:g≠ga+1:=λe=>by
  rw[e,cell_of_row W (ga+1) 0 _ _ _ hg]at c0;rw[hdC_g0]at c0;cases c0
 have b0:=ksub_cell c0 (S:=[ga+1]) (by simpa using hg_ne);have b1:=ksub_row hr (S:=[ga+1]) sI;refine lQ ?_;intro K hK;refine(HG.out _ ((Below.refl _ W).drew)).mono ?_;rintro e w1 ⟨rfl,r⟩;have d:Kp [ga+1] W w1:=kp_below hS r;have k:Below W.heap.size W w1:=bel2 (Below.refl _ W).drew r;refine⟨_,rfl,d,hK _ _ ?_⟩;clear hK K hS;have hS:=d;have j:=(k.block (ga+1) I).trans hg;have G:=run_stS_at (P:=prog) infoHd w1 (ga+1) (hdC hd0) (hdC hd0) _ j sI sI (hdC_one _ d0_one);have s:=dH (setRow_heap w1 (ga+1) _ (hdC hd0) _ _ j);have hk:=kRow w1 (ga+1) (hdC hd0);have m:=bel2 HB.out k;have HF:=dH (m.trans (hk.below (B:=w.heap.size) m.size (by intro y hy;simp at hy;have:=A.out;omega)));have HK:=dH (show Kp [ga+1] W (w1.setRow (ga+1) (hdC hd0))from Keep.trans d hk (λy hy=>.inl hy));clear hk m k d;refine lQ ?_;intro K hK;refine step_keep HK.out (λt=>?_);refine hK _ _ ?_;clear hK K hS;have hS:=t;refine lZ ?_;refine wpLx_nil ?_;intro hS;clear H b0 b1 G t hS j r hg hr c0;(go_wp2_with fail);refine bodyPost_ret (results_ct results64 _ _ (ga+1) 49 (hdC hd0) (0,0) _ rfl s.out underlying49 rfl (by rw[hdC_size];exact infoHd)) rfl ?_;exact⟨rfl,HF.out⟩
theorem kpr_next(w:World)(k g:Nat)(F M:List Nat)(X:StX)(v:Nat)(V:List Nat)(B n c f:Nat)(h:KpAt w k g F M X v V B n c f)(hD:X.D = [])(hX:StPre 0 X)(hv:Vars w)(b:ByteArray)(hb:b.size=5) :
  Calls prog 26 #[.pointer (some ⟨k,0,none⟩),.string awT,.string b] w λe w'=>∃A1 c1,e=.returned (.tuple #[.agg (hdC (hdO (kwH (shaI b.data.toList)) A1 c1)),.agg (idC (hdI (kwH (shaI b.data.toList))))])/\Below w.heap.size w w':=by
 obtain⟨c0,c1,c2,c3⟩:=kp_cell h.heap;have hB:Below w.heap.size w ((w.alloc (.cells (hdC hd0) 49)).alloc (.cells (idC id0) 23)):=(bA).alloc sI _;have a8:((w.alloc (.cells (hdC hd0) 49)).alloc (.cells (idC id0) 23)).heap[w.heap.size]?=some (.cells (hdC hd0) 49 (0,0)):=(Below.heap_alloc _ _ _ sI).trans (heap_alloc_new w _);have a7:((w.alloc (.cells (hdC hd0) 49)).alloc (.cells (idC id0) 23)).heap[w.heap.size+1]?=some (.cells (idC id0) 23 (0,0)):=by have h2:=heap_alloc_new (w.alloc (.cells (hdC hd0) 49)) (.cells (idC id0) 23);simpa using h2
 obtain⟨W,hW⟩:=eR ((w.alloc (.cells (hdC hd0) 49)).alloc (.cells (idC id0) 23))
 obtain⟨ga,c6⟩:=eX w.heap.size
 rw[<-hW]at hB a8 a7;rw[c6]at a8 a7;have d0:=(hB.cell (p:=⟨k,0,none⟩) (block_lt_of_cell? w _ c0)).trans c0;have d2:=(hB.cell (p:=⟨k,2,none⟩) (block_lt_of_cell? w _ c2)).trans c2;have H:=dH h;have Hv:=dH hv;have Hb:=dH hb;have HB:=dH hB;have HW:=dH hW;have e5:=dH c6;have HD:=dH hD;have HX:=dH hX;clear h hv hb hB hW c6 hD hX c0 c1 c2 c3;go_enter func26,ntmps26
 go_upto_region 1 with fail
 rw[<-HW.out,e5.out];refine lX W ?_;intro L hS;have e2:=sub_cell d2;refine lQ ?_;intro K hK;have x2:=(Below.cell (show Below W.heap.size W _ from hS) (p:=⟨k,2,none⟩) (block_lt_of_cell? W _ d2)).trans d2;refine(kp_heads0 _ k g F M X x2 (H.out.st.below (bel2 HB.out hS)) HD.out).mono ?_;rintro e w1 ⟨rfl,s⟩;replace hS:=bel_next hS s;refine⟨_,rfl,hS,hK _ _ ?_⟩;clear hK K s x2;refine lQ ?_;intro K hK;refine(st_own01 _ g F M X (H.out.st.below (bel2 HB.out hS)) (by rw[HD.out];decide) [] (by rw[HD.out];rfl)).mono ?_;rintro e w2 ⟨A,cap,rfl,_,G⟩;replace hS:=bel_next hS G;refine⟨_,rfl,hS,hK _ _ ?_⟩;clear hK K G;refine lZ ?_;refine wpLx_nil ?_;intro hS;have e0:=(Below.cell (show Below W.heap.size W w2 from hS) (p:=⟨k,0,none⟩) (block_lt_of_cell? W _ d0)).trans d0;have x2:=(Below.cell (show Below W.heap.size W w2 from hS) (p:=⟨k,2,none⟩) (block_lt_of_cell? W _ d2)).trans d2;have y0:=(Below.block (show Below W.heap.size W w2 from hS) ga (aG a8).1).trans a8;have y1:=(Below.block (show Below W.heap.size W w2 from hS) (ga+1) (aG a7).1).trans a7;have e9:=dH (bel2 HB.out hS);clear L hS e2 d0 d2 a8 a7;have f0:IntKind.i64.wrap 1=1:=by decide
 simp only[f0];(go_wp2_with fail);refine wp_loop_rounds 1 ?_;rw[rounds_succ];have hz:((b.size:Nat):Int)=5:=by rw[Hb.out];rfl
 obtain⟨d,hd⟩:=eX (shaI b.data.toList)
 have Hd:=dH hd;have d5:=(Hv.out.below e9.out).sha;have c8:∀U:World,Below w2.heap.size w2 U->Calls prog 35 #[.string b] U λe w'=>e=.returned (.agg (idC d))/\Below U.heap.size U w':=λU hU=>by
  rw[<-hd];exact sha_sum U b (d5.below hU) (oH Hb.out)
 have b5:∀U:World,Calls prog 62 #[.slice none 0 0,.string awT,.int .i64 1,.int .i64 1,.int .i64 5,.agg (idC d)] U λe w'=>∃A1 c1,e=.returned (.tuple #[.agg (hdC ⟨.slice A1 0 c1,1,awT,1,1,5,d⟩),.int .i64 0])/\Below U.heap.size U w':=λU=>rule_next0 U none 0 awT 1 1 5 d (by decide) (kwH_ok d);clear hd;go_upto_region 2 with fail
 go_cut [10,11] (λp ev wx=>∃gh A1 c1,p=.pointer (some ⟨gh,0,none⟩)/\ev=.int .i64 0/\rowAt wx gh 0 38=some (hdC ⟨.slice A1 0 c1,1,awT,1,1,5,d⟩)/\w2.heap.size<=gh/\Below w2.heap.size w2 wx)
 case first =>
  refine wp_region_tree (.loose 0 (.loose 1 (.loose 2 (.loose 3 (.loose 4 (.loose 5 (.loose 6 (.loose 7 (.loose 8 (.loose 9 (.two 10 (.two 11 (.loose 12 (.loose 13 (.loose 14 (.one 15 (.one 16 (.loose 17 .done)))))) 15 (.one 11 (.loose 12 (.loose 13 (.loose 14 (.one 16 (.loose 17 .done))))))) 15 (.one 10 (.one 11 (.loose 12 (.loose 13 (.loose 14 (.one 16 (.loose 17 .done)))))))))))))))))) (Bel w2) false kR kR kR kR (bel_drew w2) ?_;have L:=bel_some w2;have hS:=bel_drew w2;have b0:=sub_cell e0;refine tZ ?_;refine wpTx_two ?_ ?_
  ·skip;refine tH ?_;intro K hK;refine(c8 _ hS).mono ?_;rintro e w3 ⟨rfl,s⟩;replace hS:=bel_next hS s;refine⟨_,rfl,hS,hK _ _ ?_⟩;clear hK K;refine wpTx_two ?_ ?_
   ·skip;refine tH ?_;intro K hK;refine(b5 _).mono ?_;rintro e w4 ⟨A1,c1,rfl,G⟩;replace hS:=bel_next hS G;refine⟨_,rfl,hS,hK _ _ ?_⟩;clear hK K;refine tZ ?_;have J:=Below.size hS;have xz:=heap_alloc_new w4 (.cells (hdC hd0) 49);have Hn:=dH (bel_next hS ((Below.refl (w4).heap.size w4).alloc lR (.cells (hdC hd0) 49)));refine tH ?_;intro K hK;refine step_keep Hn.out (λj=>?_);refine hK _ _ ?_;clear hK K hS;have hS:=j;have a6:w2.heap.size<=(w4).heap.size:=J;clear Hn j J;obtain⟨w8,a3,m,N⟩:=stHdC_at _ _ xz (.slice A1 0 c1) awT 1 1 5 d rfl;have H8:=dH (Below.trans hS (N.below (Below.size hS) (by intro y hy;simp at hy;omega)));refine tH ?_;intro K hK;refine step_keep H8.out (λj=>?_);refine hK _ _ ?_;clear hK K hS;have hS:=j;refine tZ ?_;refine wpTx_done ?_;intro hS;have HF:=dH (And.intro m H8.out);clear a3 m N hS j L;go_wp2_with fail
    go_meet
    exact⟨_,A1,c1,rfl,rfl,HF.out.1,(by first | exact a6 | exact lR | omega),HF.out.2⟩
   ·skip;have J:=Below.size hS;have xz:=heap_alloc_new w3 (.cells (hdC hd0) 49);have Hn:=dH (bel_next hS ((Below.refl (w3).heap.size w3).alloc lR (.cells (hdC hd0) 49)));refine tH ?_;intro K hK;refine step_keep Hn.out (λj=>?_);refine hK _ _ ?_;clear hK K hS;have hS:=j;have a6:w2.heap.size<=(w3).heap.size:=J;clear Hn j J;refine tH ?_;intro K hK;refine(b5 _).mono ?_;rintro e w4 ⟨A1,c1,rfl,G⟩;replace hS:=bel_next hS G;refine⟨_,rfl,hS,hK _ _ ?_⟩;clear hK K;have b6:=(G.block w3.heap.size (aG xz).1).trans xz;refine tZ ?_;obtain⟨w8,a3,m,N⟩:=stHdC_at _ _ b6 (.slice A1 0 c1) awT 1 1 5 d rfl;have H8:=dH (Below.trans hS (N.below (Below.size hS) (by intro y hy;simp at hy;omega)));refine tH ?_;intro K hK;refine step_keep H8.out (λj=>?_);refine hK _ _ ?_;clear hK K hS;have hS:=j;refine tZ ?_;refine wpTx_done ?_;intro hS;have HF:=dH (And.intro m H8.out);clear a3 m N hS j L;go_wp2_with fail
    go_meet
    exact⟨_,A1,c1,rfl,rfl,HF.out.1,(by first | exact a6 | exact lR | omega),HF.out.2⟩
  ·skip;have J:=Below.size hS;have xz:=heap_alloc_new w2.drew (.cells (hdC hd0) 49);have Hn:=dH (bel_next hS ((Below.refl (w2.drew).heap.size w2.drew).alloc lR (.cells (hdC hd0) 49)));refine tH ?_;intro K hK;refine step_keep Hn.out (λj=>?_);refine hK _ _ ?_;clear hK K hS;have hS:=j;have a6:w2.heap.size<=(w2.drew).heap.size:=J;clear Hn j J;refine tH ?_;intro K hK;refine(c8 _ hS).mono ?_;rintro e w3 ⟨rfl,s⟩;replace hS:=bel_next hS s;refine⟨_,rfl,hS,hK _ _ ?_⟩;clear hK K;refine tH ?_;intro K hK;refine(b5 _).mono ?_;rintro e w4 ⟨A1,c1,rfl,G⟩;replace hS:=bel_next hS G;refine⟨_,rfl,hS,hK _ _ ?_⟩;clear hK K;have b6:w4.heap[w2.heap.size]?=some (.cells (hdC hd0) 49 (0,0)):=((bel2 s G).block w2.drew.heap.size (aG xz).1).trans xz;refine tZ ?_;obtain⟨w8,a3,m,N⟩:=stHdC_at _ _ b6 (.slice A1 0 c1) awT 1 1 5 d rfl;have H8:=dH (Below.trans hS (N.below (Below.size hS) (by intro y hy;simp at hy;omega)));refine tH ?_;intro K hK;refine step_keep H8.out (λj=>?_);refine hK _ _ ?_;clear hK K hS;have hS:=j;refine tZ ?_;refine wpTx_done ?_;intro hS;have HF:=dH (And.intro m H8.out);clear a3 m N hS j L;go_wp2_with fail
   go_meet
   exact⟨_,A1,c1,rfl,rfl,HF.out.1,(by first | exact a6 | exact lR | omega),HF.out.2⟩
 case rest =>
 obtain⟨gh,A1,c1,rfl,rfl,O,e1,r⟩:=hcut;have f2:=dH (show ga+1<gh from Nat.lt_of_lt_of_le (aG y1).1 e1);clear e1;obtain⟨Z,rfl⟩:=eR wc
 obtain⟨I,hI⟩:=eX (hdI (kwH d))
 have e6:=dH (bel2 e9.out r);have z2:=(r.cell (p:=⟨k,2,none⟩) (block_lt_of_cell? w2 _ x2)).trans x2;have v0:=(r.block ga (aG y0).1).trans y0;have v1:=(r.block (ga+1) (aG y1).1).trans y1;have cI:Calls prog 63 #[.agg (hdC ⟨.slice A1 0 c1,1,awT,1,1,5,d⟩)] Z λe w'=>e=.returned (.tuple #[.agg (idC I),.int .i64 0])/\Below Z.heap.size Z w':=by
  have h:=hd_ident Z (kwH d) A1 c1 ((Hv.out.below e6.out).sha) ⟨rfl,λh=>absurd h (Nat.lt_irrefl 0)⟩ zL (show awT.size<=_ by decide);rw[kwH_ok,hI]at h;exact h
 have HI:=dH hI;clear hI e0 x2 y0 y1 d5 c8 b5 r hS hz;(go_wp2_with fail);refine(kp_must _).mono ?_;rintro e w3 ⟨rfl,rfl⟩;(go_wp2_with fail);refine cI.mono ?_;rintro e w4 ⟨rfl,c7⟩;have a9:Below w4.heap.size w4 (w4.alloc (.cells (idC I) 23)):=bA;have a1:rowAt (w4.alloc (.cells (idC I) 23)) w4.heap.size 0 32=some (idC I):=by simp[go_sem]
 obtain⟨U,hU⟩:=eR (w4.alloc (.cells (idC I) 23))
 obtain⟨gi,c5⟩:=eX w4.heap.size
 have a0:=bel2 c7 a9;rw[<-hU]at a0 a1;rw[c5]at a1;have u2:=(a0.cell (p:=⟨k,2,none⟩) (block_lt_of_cell? Z _ z2)).trans z2;have t0:=(a0.block ga (aG v0).1).trans v0;have t1:=(a0.block (ga+1) (aG v1).1).trans v1;have b8:=((Keep.of_below a0).row (rowAt_lt O) sI _ _).trans O;have e7:=dH (bel2 e6.out a0);have HU:=dH hU;have f1:=dH c5;have c9:=dH (show ga+1<gi from by have l1:=(aG v1).1;have l2:=c7.size;omega);clear cI c7 a9 hU c5 a0 z2 v0 v1 O;(go_wp2_with fail);rw[<-HU.out,f1.out];refine(kp_must _).mono ?_;rintro e w5 ⟨rfl,rfl⟩;have d8:StPre 0 X:=by
  have h1:=HX.out;exact h1
 have cD:=fun (V:World) (hV:Below U.heap.size U V)=>(kst_hget0 V g F M X ((H.out.st.below e7.out).below hV) d8 HD.out I).mono (R':=λe w'=>∃x E,e=.returned (.tuple #[.agg (hdR x),.int .i64 E])/\NoHd x E/\Below V.heap.size V w') λe w' ⟨h1,h2⟩=>⟨hdZ,7,h1,⟨rfl,rfl⟩,h2⟩;go_upto_region 6 with fail
 go_cut [13,14] (λp ev wx=>∃gh x E,p=.pointer (some ⟨gh,0,none⟩)/\ev=.int .i64 E/\rowAt wx gh 0 38=some (hdR x)/\NoHd x E/\Below U.heap.size U wx)
 case first =>
  refine wp_region_tree (.loose 0 (.loose 1 (.loose 2 (.loose 3 (.loose 4 (.two 5 (.loose 6 (.loose 7 (.loose 8 (.one 9 (.one 10 (.loose 11 .done)))))) 9 (.one 5 (.loose 6 (.loose 7 (.loose 8 (.one 10 (.loose 11 .done)))))))))))) (Bel U) false kR kR kR kR (bel_drew U) ?_;have L:=bel_some U;have hS:=bel_drew U;have b1:=sub_cell u2;have b2:=sub_row a1;refine tZ ?_;refine wpTx_two ?_ ?_
  ·skip;refine tH ?_;intro K hK;refine(cD _ hS).mono ?_;rintro e w1 ⟨x,E,rfl,Y,s⟩;replace hS:=bel_next hS s;refine⟨_,rfl,hS,hK _ _ ?_⟩;clear hK K;refine tZ ?_;have a9:Below w1.heap.size w1 (w1.alloc (.cells (hdC hd0) 49)):=bA;have xz:=heap_alloc_new w1 (.cells (hdC hd0) 49);have J:=Below.size hS;have Hn:=dH (bel_next hS a9);refine tH ?_;intro K hK;refine step_keep Hn.out (λj=>?_);refine hK _ _ ?_;clear hK K hS;have hS:=j;obtain⟨w3,b9,t,a5⟩:=stHd_at _ _ xz x;have H3:=dH (Below.trans hS (a5.below (Below.size hS) sO));refine tH ?_;intro K hK;refine step_keep H3.out (λj=>?_);refine hK _ _ ?_;clear hK K hS;have hS:=j;refine tZ ?_;refine wpTx_done ?_;intro hS;clear xz a9 b9 a5;go_wp2_with fail
   go_meet
   exact⟨_,x,E,rfl,rfl,t,Y,H3.out⟩
  ·skip;have d1:=dH (show Below U.heap.size U (U.drew.alloc (.cells (hdC hd0) 49))from((Below.refl _ _).drew).alloc lR _);have xz:(U.drew.alloc (.cells (hdC hd0) 49)).heap[U.heap.size]?=some (.cells (hdC hd0) 49 (0,0)):=heap_alloc_new U.drew (.cells (hdC hd0) 49);refine tH ?_;intro K hK;refine step_keep d1.out (λj=>?_);refine hK _ _ ?_;clear hK K hS;have hS:=j;refine tH ?_;intro K hK;refine(cD _ d1.out).mono ?_;rintro e w1 ⟨x,E,rfl,Y,s⟩;have H1:=dH (bel_next d1.out s);refine⟨_,rfl,H1.out,hK _ _ ?_⟩;clear hK K hS;have hS:=H1.out;refine tZ ?_;have d3:=(s.block U.heap.size sI).trans xz;obtain⟨w3,b9,t,a5⟩:=stHd_at _ _ d3 x;have H3:=dH (Below.trans H1.out (a5.below (Below.size H1.out) sI));refine tH ?_;intro K hK;refine step_keep H3.out (λj=>?_);refine hK _ _ ?_;clear hK K hS;have hS:=j;refine tZ ?_;refine wpTx_done ?_;intro hS;clear xz d3 b9 a5;go_wp2_with fail
   go_meet
   exact⟨_,x,E,rfl,rfl,t,Y,H3.out⟩
 case rest =>
 obtain⟨gx,x,E,rfl,rfl,_,⟨rfl,rfl⟩,r⟩:=hcut;obtain⟨Q,rfl⟩:=eR wc
 have s0:=(r.block ga (aG t0).1).trans t0;have s1:=(r.block (ga+1) (aG t1).1).trans t1;have d6:=((Keep.of_below r).row (rowAt_lt b8) sI _ _).trans b8;have d9:=((Keep.of_below r).row (rowAt_lt a1) sI _ _).trans a1;have e8:=dH (bel2 e7.out r);clear cD u2 t0 t1 b8 a1 r d8;go_upto_region 8 with fail
 have a2:=run_stS_at (P:=prog) infoHd Q.drew ga (hdC hd0) (hdC ⟨.slice A1 0 c1,1,awT,1,1,5,d⟩) _ (show Q.drew.heap[ga]?=some (.cells (hdC hd0) 49 (0,0))from s0) sI sI (hdC_one _ rfl);have b4:=kRow Q.drew ga (hdC ⟨.slice A1 0 c1,1,awT,1,1,5,d⟩);have b3:=setRow_heap Q.drew ga _ (hdC ⟨.slice A1 0 c1,1,awT,1,1,5,d⟩) _ _ (show Q.drew.heap[ga]?=some (.cells (hdC hd0) 49 (0,0))from s0);obtain⟨Q1,e4⟩:=eX (Q.drew.setRow ga (hdC ⟨.slice A1 0 c1,1,awT,1,1,5,d⟩))
 rw[e4]at a2 b4 b3;have d4:Q1.heap[ga+1]?=some (.cells (idC id0) 23 (0,0)):=(b4.block (ga+1) (aG s1).1 sI).trans s1;obtain⟨Q2,b7,d7,c4⟩:=idbox d4 I;have a4:=(c4.block ga (aG b3).1 sI).trans b3;have T:Kp [ga,ga+1] Q Q1:=Keep.trans ((Keep.drew Q).mono (S':=[ga,ga+1]) sI) (b4.mono (S':=[ga,ga+1]) sI) (λy hy=>.inl hy);have R:Kp [ga,ga+1] Q Q2:=Keep.trans T (c4.mono (S':=[ga,ga+1]) sI) (λy hy=>.inl hy);have e3:=e8.out.trans (R.below (B:=w.heap.size) e8.out.size (by intro y hy;simp at hy;have:=e5.out;omega));have HF:=dH (And.intro a4 (And.intro d7 e3));have f4:=dH T;have f3:=dH R;clear b4 b3 c4 d7 a4 T R e3 d4 e4;refine kX [ga,ga+1] Q ?_;intro L hS;have b0:=ksub_row d6 (S:=[ga,ga+1]) (oS f2.out);have b1:=ksub_row d9 (S:=[ga,ga+1]) (oS c9.out);refine lQ ?_;intro K hK;refine step_keep f4.out (λj=>?_);refine hK _ _ ?_;clear hK K hS;have hS:=j;refine lH ?_;intro K hK;refine step_keep f3.out (λj=>?_);refine hK _ _ ?_;clear hK K hS;have hS:=j;refine wpLx_nil ?_;intro hS;clear L b0 b1 a2 b7 hS d6 d9 s0 s1;(go_wp2_with fail);refine bodyPost_ret (results_cc results26 _ _ ga 49 (hdC ⟨.slice A1 0 c1,1,awT,1,1,5,d⟩) (0,0) _ (ga+1) 23 (idC I) (0,0) _ rfl HF.out.1 underlying49 rfl (by rw[hdC_size];exact infoHd) rfl HF.out.2.1 underlying23 rfl (by rw[idC_size];exact infoId)) rfl ?_;exact⟨A1,c1,by rw[Hd.out,HI.out];rfl,HF.out.2.2⟩
abbrev op1:OpV:=⟨1,1,⟨#[]⟩,⟨#[]⟩,id0,[]⟩
abbrev op1C:Array Value:=opPC ⟨1,1,⟨#[]⟩,⟨#[]⟩,id0,.slice none 0 0⟩
theorem op_lay1(W w:World)(g:Nat)(bs:List UInt8)(h:WB W g bs w)(hl:bs.length<=100) :
  Calls prog 57 #[.pointer (some ⟨g,0,none⟩),.agg op1C] w λe w'=>e=.returned (.tuple #[])/\WB W g (bs++beL 4 2147483649) w':=by
 have hB:Below w.heap.size w (w.alloc (.cells op1C 28)):=bA;have hr:rowAt (w.alloc (.cells op1C 28)) w.heap.size 0 37=some op1C:=by simp[go_sem]
 obtain⟨V,hV⟩:=eR (w.alloc (.cells op1C 28))
 obtain⟨ga,r⟩:=eX w.heap.size
 rw[<-hV]at hB hr;rw[r]at hr;have x0:V.cell? ⟨ga,0,none⟩=some (.int .i64 1):=by have:=rowAt_cell hr (j:=0) oM;rw[Nat.zero_add]at this;rw[this];exact opPC_g0 _
 have x1:V.cell? ⟨ga,1,none⟩=some (.int .i64 1):=by have:=rowAt_cell hr (j:=1) oM;rw[Nat.zero_add]at this;rw[this];exact opPC_g1 _
 obtain⟨p1,q2,A,cap,p3⟩:=h;have q1:=bel2 p1 hB;have q3:=p3.kept (Keep.of_below hB) sI sI;have G:∀y∈g :: blk A,W.heap.size<=y:=λy hy=>by
  rcases mem_cons.1 hy with rfl | hy
  ·exact q2
  ·have:=(q3.own.at_base hy).1;omega
 have t:ga∉g :: blk A:=by
  intro hm;rcases mem_cons.1 hm with e | hm
  ·have h3:=p3.lt;omega
  ·have h3:=(p3.own.at_base hm).2;omega
 have HV:=dH hV;have F:=dH r;have Hq:=dH (And.intro q1 q2);clear hV r p1 p3 hB hr q1 q2;go_enter func57,ntmps57
 go_upto_region 13 with fail
 rw[<-HV.out,F.out];have k:WStep V (g+1) g A bs V.drew:=⟨A,cap,q3.kept (Keep.drew V) sI sI,(Keep.drew V).mono sI,λx hx=>.inl hx⟩
 refine kX (g :: blk A) V ?_;intro D hS;have b0:=ksub_cell x0 t;have b1:=ksub_cell x1 t;refine lQ ?_;intro K hK;refine(op_shift _ _).mono ?_;rintro e w1 ⟨rfl,rfl⟩;refine⟨_,rfl,hS,hK _ _ ?_⟩;clear hK K;have B:IntKind.i64.wrap 2147483649=2147483649:=by decide
 refine lQ ?_;intro K hK;obtain⟨Ai,E,m,s,d⟩:=k;refine(wnum _ _ _ _ _ _ m 2147483649 4 oM oM oM).mono ?_;rintro e w' ⟨rfl,f⟩;replace k:=wstep_trans m s d f;have hS:=k.choose_spec.choose_spec.2.1;refine⟨_,rfl,hS,hK _ _ ?_⟩;clear hK K m s d f;refine lZ ?_;refine wpLx_nil ?_;intro hS;have HF:=dH (WB.step Hq.out.1 Hq.out.2 q3 k);clear k hS D b0 b1 B x0 x1;(go_wp2_with fail);go_end0;exact⟨rfl,HF.out⟩
theorem op_put1(w:World)(hp:PartsVar w):Calls prog 23 #[.agg op1C] w λe w'=>∃s:ByteArray,e=.returned (.tuple #[.string s,.int .i64 0])/\s.size=5/\Below w.heap.size w w':=by
 have hB:Below w.heap.size w (w.alloc (.cells op1C 28)):=bA;have hr:rowAt (w.alloc (.cells op1C 28)) w.heap.size 0 37=some op1C:=by simp[go_sem]
 obtain⟨V,hV⟩:=eR (w.alloc (.cells op1C 28))
 obtain⟨ga,g⟩:=eX w.heap.size
 rw[<-hV]at hB hr;rw[g]at hr;have cC:Calls prog 54 #[.agg op1C] V λe w'=>e=.returned (.int .i64 0)/\Below V.heap.size V w' :=
  op_check op1 none 0 V (hp.below hB) (.inl ⟨rfl,rfl,rfl,rfl,rfl⟩) SlR.nil_ zL
 have HV:=dH hV;have y:=dH g;have HB:=dH hB;clear hV g hB hp;go_enter func23,ntmps23
 (go_wp2_with fail);rw[<-HV.out,y.out];refine cC.mono ?_;rintro e w1 ⟨rfl,k⟩;have f:=((Keep.of_below k).row (rowAt_lt hr) sI _ _).trans hr;have x0:w1.cell? ⟨ga,0,none⟩=some (.int .i64 1):=by have:=rowAt_cell f (j:=0) oM;rw[Nat.zero_add]at this;rw[this];exact opPC_g0 _
 have A:=dH (bel2 HB.out k);clear cC k hr;go_upto_region 4 with fail
 refine lX w1 ?_;intro t hS;have b0:=sub_cell x0;refine lQ ?_;intro K hK;refine(wbnew w1 _ hS).mono ?_;rintro e w' ⟨rfl,d⟩;replace hS:=d.1;refine⟨_,rfl,hS,hK _ _ ?_⟩;clear hK K;refine lQ ?_;intro K hK;refine(wbnum w1 _ _ _ d 1 1 oM oM sI).mono ?_;rintro e w' ⟨rfl,d⟩;replace hS:=d.1;refine⟨_,rfl,hS,hK _ _ ?_⟩;clear hK K;refine lZ ?_;refine wpLx_nil ?_;intro hS;have r:=((Keep.of_below (show Below w1.heap.size w1 w' from hS)).row (rowAt_lt f) sI _ _).trans f;have cL:=op_lay1 w1 w' _ _ d (by rw[length_append,beL_length];decide);clear t b0 hS d x0 f;(go_wp2_with fail);refine cL.mono ?_;rintro e w4 ⟨rfl,h4⟩;have cD:=wbdone w1 w4 _ _ h4;clear cL h4 r;(go_wp2_with fail);refine cD.mono ?_;rintro e w5 ⟨rfl,h5⟩;obtain⟨s,hs⟩:∃s:ByteArray,(⟨([]++beL 1 1++beL 4 2147483649).toArray⟩:ByteArray)=s:=⟨_,rfl⟩
 rw[hs];have m:s.size=5:=by rw[<-hs];show(([]++beL 1 1++beL 4 2147483649).toArray).size=_;simp[beL_length]
 have HF:=dH (And.intro m (bel2 A.out h5.1));clear cD h5 hs m;(go_wp2_with fail);go_ret2;exact⟨s,rfl,HF.out.1,HF.out.2⟩
theorem results_ci{fn:Func}{p q:Tmp}{ty j:TypeId}(h:fn.results = #[.cell p ty,.cell q j])(tmps:Array Value)(w:World)(g:Nat)(t:TypeId)(cs:Array Value)(fr:Nat×Nat)(d:TypeDesc)(a2:Addr)(v2:Value)
  (hp:tmps.getD p undef=.pointer (some ⟨g,0,none⟩))(hg:w.heap[g]?=some (.cells cs t fr))
  (hu:P.underlying ty=some d)(hd:(match d with | .struct _ | .array _ _=>true | _=>false)=true)(hi:(P.info? ty).map (·.size)=some cs.size)
  (k:tmps.getD q undef=.pointer (some a2))(r:(loadVar j a2).run P w=.ok v2 w) :
  (results fn tmps).run P w=.ok (.tuple #[.agg cs,v2]) w:=by
 have m:tmps[p]?.getD undef=.pointer (some ⟨g,0,none⟩):=by simpa using hp
 have f:tmps[q]?.getD undef=.pointer (some a2):=by simpa using k
 simp[results,h,m,f,asAddr,run_loadVar_row w g t ty cs fr d hg hu hd hi,r]
theorem ta_nil(w:World):(Instr.typeAssert .nilIface 20 35 true).run prog w=.ok (.tuple #[.int .i64 0,.bool false]) w:=kR
theorem pub_d(a b:Addr)(w:World) :
  CallsD prog 20 #[.pointer (some a),.pointer (some b)] .returning w λen u' w'=>en=.returned (.tuple #[])/\u'=.returning/\w'=w:=by
 have d:=ta_nil w;refine callsD_of_wpS func20 rfl λc₀ cs hu=>?_;apply wpS_seq;apply wpS_region;simp[wpOpsS,go_sem,recoverD,hu,ntmps20,Exit.thenS,d];apply wpS_seq;apply wpS_region;simp[wpOpsS,go_sem,recoverD,hu,Exit.thenS];refine wpS_cond (t:=false) (by simp[Act.eval,Array.replicate]) ?_;simp only[Bool.false_eq_true,if_false];refine wpS_of_wp (wp_skip ?_);cases c₀
 simp_all [bodyPostS,results,results20]
theorem kp_publish(w:World)(k g:Nat)(F M:List Nat)(v:Nat)(V:List Nat)(B n c f:Nat)(h:KpAt w k g F M kX0 v V B n c f)(hv:Vars w)(hc:CrcVar w)(hn:n<=1000)(g6:c<=100) :
  Calls prog 5 #[.pointer (some ⟨k,0,none⟩),.string awT,.agg op1C] w λe w'=>∃(s:ByteArray) (F' M':List Nat) (B' n':Nat),e=.returned (.tuple #[.agg (idC (hdI (kwH (shaI s.data.toList)))),.int .i64 0])/\KpAt w' k g F' M' (kX2 s) v V B' n' (c+1+1) f/\n'<=n+1000/\(∀x∈F',x∈F\/w.heap.size<=x)/\Keep (F++V) w w':=by
 have hB:Below w.heap.size w (((w.alloc (.cells op1C 28)).alloc (.cells (idC id0) 23)).alloc (.cells #[.int .i64 0] 35)):=((bA).alloc sI _).alloc sO _;obtain⟨W,hW⟩:=eR (((w.alloc (.cells op1C 28)).alloc (.cells (idC id0) 23)).alloc (.cells #[.int .i64 0] 35))
 obtain⟨ga,A⟩:=eX w.heap.size
 have c4:rowAt W ga 0 37=some op1C:=by
  rw[hW,<-A,rowAt_of_block ((Below.heap_alloc _ _ _ sO).trans (Below.heap_alloc _ _ _ sI))];simp[go_sem]
 have c8:W.heap[ga+1]?=some (.cells (idC id0) 23 (0,0)):=by
  rw[hW,<-A,Below.heap_alloc _ _ _ sI];have h2:=heap_alloc_new (w.alloc (.cells op1C 28)) (.cells (idC id0) 23);simpa using h2
 have c7:W.heap[ga+1+1]?=some (.cells #[.int .i64 0] 35 (0,0)):=by
  rw[hW,<-A];have h2:=heap_alloc_new ((w.alloc (.cells op1C 28)).alloc (.cells (idC id0) 23)) (.cells #[.int .i64 0] 35);simpa using h2
 rw[<-hW]at hB;have h1:=h.below hB;obtain⟨c0,c1,c2,c3⟩:=kp_cell h1.heap;have cN:=kp_none W k v c3;have g5:∀(fn:Fn) (first cap:Array Value) (w:World),(Instr.makeFunc fn first cap).run prog w=.ok (.func fn first cap) w:=λ_ _ _ _=>rfl;have H:=dH h;have Hv:=dH hv;have Hc:=dH hc;have HB:=dH hB;have HW:=dH hW;have a7:=dH A;clear h hv hc hB hW A h1 c0 c1 c2 c3;go_enter_defers func5,ntmps5
 (go_wp2_with fail);rw[<-HW.out,a7.out];refine cN.mono ?_;rintro e w1 ⟨rfl,a5⟩;have g3:=dH (bel2 HB.out a5);have ck:=check_any awT w1 (by decide);rw[show checkB awT=0 by decide +kernel]at ck;have r1:=((Keep.of_below a5).row (rowAt_lt c4) sI _ _).trans c4;have x1:=(a5.block (ga+1) (aG c8).1).trans c8;have y1:=(a5.block (ga+1+1) (aG c7).1).trans c7;clear cN a5 c4 c8 c7;(go_wp2_with fail);refine ck.mono ?_;rintro e w2 ⟨rfl,a4⟩;have f0:=dH (bel2 g3.out a4);have r2:=((Keep.of_below a4).row (rowAt_lt r1) sI _ _).trans r1;have x2:=(a4.block (ga+1) (aG x1).1).trans x1;have y2:=(a4.block (ga+1+1) (aG y1).1).trans y1;have cP:=op_put1 w2 (Hv.out.below f0.out).parts;clear ck a4 r1 x1 y1;(go_wp2_with fail);refine(kp_must _).mono ?_;rintro e w' ⟨rfl,rfl⟩;(go_wp2_with fail);refine cP.mono ?_;rintro e w3 ⟨s,rfl,hs,a3⟩;have g2:=dH (bel2 f0.out a3);have r3:=((Keep.of_below a3).row (rowAt_lt r2) sI _ _).trans r2;have x3:=(a3.block (ga+1) (aG x2).1).trans x2;have y3:=(a3.block (ga+1+1) (aG y2).1).trans y2;have q3:w3.cell? ⟨ga,0,none⟩=some (.int .i64 1):=by have:=rowAt_cell r3 (j:=0) oM;rw[Nat.zero_add]at this;rw[this];exact opPC_g0 _
 have cB:=op_belongs 1 w3 (by decide);rw[show belongs 1=1 by decide +kernel]at cB;have cK:=kind_any awT w3 (by decide);rw[awT_kind]at cK;have Hs:=dH hs;clear cP a3 r2 x2 y2 hs;(go_wp2_with fail);refine(kp_must _).mono ?_;rintro e w' ⟨rfl,rfl⟩;(go_wp2_with fail);refine cB.mono ?_;rintro e w' ⟨rfl,rfl⟩;(go_wp2_with fail);refine cK.mono ?_;rintro e w4 ⟨rfl,b1⟩;have b3:=dH (bel2 g2.out b1);have x4:=(b1.block (ga+1) (aG x3).1).trans x3;have y4:=(b1.block (ga+1+1) (aG y3).1).trans y3;have cX:=kpr_next w4 k g F M kX0 v V B n c f (H.out.below b3.out) rfl (StOk.new 100 (by decide) (by decide)).pre (Hv.out.below b3.out) s Hs.out;clear cB cK b1 r3 x3 y3 q3;(go_wp2_with fail);refine cX.mono ?_;rintro e w5 ⟨A1,c1,rfl,d0⟩;obtain⟨O,hO⟩:=eX (hdO (kwH (shaI s.data.toList)) A1 c1)
 obtain⟨I,hI⟩:=eX (hdI (kwH (shaI s.data.toList)))
 have e0:O.ps.oneCell'=true:=by rw[<-hO];rfl
 rw[hO,hI];have HO:=dH hO;have HI:=dH hI;clear hO hI cX;have b8:=heap_alloc_new w5 (.cells (hdC hd0) 49);have c9:Below w5.heap.size w5 (w5.alloc (.cells (hdC hd0) 49)):=bA;have d7:=run_stS_at (P:=prog) infoHd (w5.alloc (.cells (hdC hd0) 49)) w5.heap.size (hdC hd0) (hdC O) _ b8 sI sI (hdC_one _ e0);have X:=setRow_heap (w5.alloc (.cells (hdC hd0) 49)) w5.heap.size _ (hdC O) _ _ b8;have c5:=kRow (w5.alloc (.cells (hdC hd0) 49)) w5.heap.size (hdC O);obtain⟨X1,d9⟩:=eX ((w5.alloc (.cells (hdC hd0) 49)).setRow w5.heap.size (hdC O))
 rw[d9]at d7 X c5;have a2:Below w5.heap.size w5 X1:=c9.trans (c5.below (B:=w5.heap.size) c9.size sI);obtain⟨gh,c6⟩:=eX w5.heap.size
 rw[c6]at X;have D:=bel2 d0 a2;have x5:=(D.block (ga+1) (aG x4).1).trans x4;have y5:=(D.block (ga+1+1) (aG y4).1).trans y4;have l1:ga+1+1<w4.heap.size:=(aG y4).1;have r:ga+1+1<gh:=oH d0.size;obtain⟨X2,b9,x6,k6⟩:=idbox x5 I;have b0:=(k6.block gh (aG X).1 sO).trans X;have y6:=(k6.block (ga+1+1) (aG y5).1 sI).trans y5;have L:=b3.out.trans (D.mono b3.out.size);have G:=dH (L.trans (k6.below (B:=w.heap.size) L.size (by intro y hy;simp at hy;have:=a7.out;omega)));have cI:=kp_insert X2 k g F ([ga+1,ga+1+1]++M) v V B n c f (H.out.more G.out [ga+1,ga+1+1] (λy hy=>by have e1:=a7.out;have e2:=k6.size;have e3:=(aG y5).1;simp at hy;omega)) (Hv.out.below G.out) (Hc.out.below G.out) s Hs.out oM oM;have f8:=dH c6;have a6:=dH r;clear L b8 c9 X c5 d9 a2 D x5 y5 k6 x4 y4 d0 c6 r e0 l1;(go_wp2_with fail);rw[f8.out];refine cI.mono ?_;rintro e w7 ⟨F7,M7,B7,rfl,a1,e8,e5,f5,k7⟩;have b2:∀y∈F++V,y<w.heap.size:=λy hy=>(mem_append.1 hy).elim (H.out.st.lt y) (H.out.vl.lt.1 y);have A:=a7.out;have r:=a6.out;have h7:=(k7.block gh (aG b0).1 (λhm=>oH (b2 _ hm))).trans b0;have x7:=(k7.block (ga+1) (aG x6).1 (λhm=>oH (b2 _ hm))).trans x6;have y7:=(k7.block (ga+1+1) (aG y6).1 (λhm=>oH (b2 _ hm))).trans y6;have d5:Vars w7:=by
  have h1:=(Hv.out.below G.out)
  refine h1.kept k7 ?_;have n1:=H.out.st.no;have n2:=H.out.nv.2;exact⟨λhm=>(mem_append.1 hm).elim n1.1 n2.1,λhm=>(mem_append.1 hm).elim n1.2.1 n2.2.1,λhm=>(mem_append.1 hm).elim n1.2.2 n2.2.2⟩
 have d8:CrcVar w7:=(Hc.out.below G.out).kept k7 (λhm=>(mem_append.1 hm).elim H.out.cf H.out.nv.1);have cU:Calls prog 27 #[.agg (hdC O)] w7 λe w'=>∃z:ByteArray,e=.returned (.tuple #[.string z,.int .i64 0])/\z.data.toList=hdB (kwH (shaI s.data.toList))/\Below w7.heap.size w7 w':=by
  have h1:=hd_put w7 (kwH (shaI s.data.toList)) A1 c1 ⟨rfl,λh=>absurd h (Nat.lt_irrefl 0)⟩ zL (show awT.size<=_ by decide);rw[kwH_ok,HO.out]at h1;exact h1.mono λe w' ⟨z,z1,z2,z3⟩=>⟨z,z1,z2 rfl,z3⟩
 have f2:rowAt w7 gh 0 38=some (hdC O):=by unfold rowAt;rw[h7];simp
 have g0:=dH a1;have d4:=dH e8;have K7:=dH k7;have f9:=dH d5;have g1:=dH d8;have f7:=dH (show gh<X2.heap.size from(aG b0).1);clear cI a1 e8 k7 d5 d8 d7 b9 x6 y6 b0 A r b2;(go_wp2_with fail);refine(kp_must _).mono ?_;rintro e w' ⟨rfl,rfl⟩;(go_wp2_with fail);refine cU.mono ?_;rintro e w8 ⟨z,rfl,hz,N⟩;have t:z.size=47:=by
  have e1:z.data.toList.length=z.size:=rfl;rw[hz,kwH_len]at e1;exact e1.symm
 have x8:=(N.block (ga+1) (aG x7).1).trans x7;have y8:=(N.block (ga+1+1) (aG y7).1).trans y7;have Y:StOk 1 (kX1 s):=by
  have ha:AppS kX0 ⟨3,⟨#[]⟩,s,id0⟩ (putE [] 100 s) (paySX kX0 s):=appS_3 (kw_ent3 s Hs.out);obtain⟨q1,q2⟩:=kw_app3 Hs.out ha;rw[q2]at ha;exact appS_ok (StOk.new 100 (by decide) (by decide)) ha (by have:=Hs.out;show s.size<=3000;omega)
 have cC:=kp_commit w8 k g F7 M7 (kX1 s) v V B7 _ (c+1) f (g0.out.below N) (f9.out.below N) (g1.out.below N) 1 Y oM 1 (.inl rfl) z oM (kw_ent1 z t) (kX2 s) (λE Z ha=>kw_app1 hz t ha) oM oM;have q4:=fun (b:ByteArray) (w:World)=>(kR:(bdS 25 #[(0,.int .i64 1),(2,.string b)]).run prog w=.ok (.agg (entC ⟨1,⟨#[]⟩,b,id0⟩)) w);have e9:=dH N;have d3:=dH t;clear cU N hz t Y f2 x7 y7 h7;(go_wp2_with fail);refine(kp_must _).mono ?_;rintro e w' ⟨rfl,rfl⟩;(go_wp2_with fail);refine cC.mono ?_;rintro e w9 ⟨F9,M9,B9,rfl,d,d2,e4,f4,k9⟩;have A:=a7.out;have r:=a6.out;have f1:=f7.out;have d1:∀y∈V,y<w.heap.size:=H.out.vl.lt.1;have e6:∀y∈F,y<w.heap.size:=H.out.st.lt;have n7:∀y,w.heap.size<=y->y<X2.heap.size->y∉F7++V:=λy h1 h2 hm=>by
  rcases mem_append.1 hm with hm | hm
  ·rcases d4.out y hm with e | e
   ·have:=e6 y e;omega
   ·omega
  ·have:=d1 y hm;omega
 have x9:=(k9.block (ga+1) (aG x8).1 (n7 _ oM oM)).trans x8;have y9:=(k9.block (ga+1+1) (aG y8).1 (n7 _ oM oM)).trans y8;have z8:X2.heap.size<=w8.heap.size:=Nat.le_trans K7.out.size e9.out.size;have n9:∀y,w.heap.size<=y->y<X2.heap.size->y∉F9:=λy h1 h2 hm=>by
  rcases d2 y hm with e | e
  ·exact n7 y h1 h2 (mem_append_left _ e)
  ·omega
 obtain⟨J,d6,b6,b7⟩:=idbox x9 I;have a8:=(b7.block (ga+1+1) (aG y9).1 sI).trans y9;have g8:J.cell? ⟨ga+1+1,0,none⟩=some (.int .i64 0):=by rw[cell_of_row J (ga+1+1) 0 _ _ _ a8];rfl
 have g7:=va_frozen a8 0;have a9:Keep [ga+1+1] J (J.setCell ⟨ga+1+1,0,none⟩ (.int .i64 0)):=Keep.setCell J ⟨ga+1+1,0,none⟩ _;have b4:(J.setCell ⟨ga+1+1,0,none⟩ (.int .i64 0)).heap[ga+1+1]?=some (.cells #[.int .i64 0] 35 (0,0)):=by rw[heap_setCell_same a8];rfl
 have b5:=(a9.block (ga+1) (aG b6).1 sI).trans b6;obtain⟨U,hU⟩:=eX (J.setCell ⟨ga+1+1,0,none⟩ (.int .i64 0))
 rw[hU]at a9 b4 b5;have kU:Keep [ga+1,ga+1+1] w9 U:=Keep.trans (b7.mono (S':=[ga+1,ga+1+1]) sI) (a9.mono (S':=[ga+1,ga+1+1]) sI) (λy hy=>.inl hy);have m:∀y∈[ga+1,ga+1+1],w.heap.size<=y/\y<X2.heap.size:=λy hy=>(by simp at hy;omega);have a0:KpAt U k g F9 M9 (kX2 s) v V B9 (n+(5+1+9)+(z.size+1+9)) (c+1+1) f:=by
  refine⟨(kU.block k (aG d.heap).1 (λhm=>?_)).trans d.heap,d.st.kept kU (λx hx hm=>n9 x (m x hm).1 (m x hm).2 hx) (λx hx=>.inl (e4 x (e5 x (mem_append_left _ hx)))),d.vl.kept kU (λx hx=>⟨λhm=>by have:=d1 x hm;have:=(m x hx).1;omega,oH ((m x hx).2)⟩),d.vm,d.fv,d.kv,d.nv,d.cf⟩;have h1:=(m k hm).1;have h2:k<w.heap.size:=(aG H.out.heap).1;omega
 have T:Keep (F++V) w U:=by
  have q1:=(Keep.of_below G.out).mono (S':=F++V) sI;have q2:=Keep.trans q1 K7.out (λy hy=>.inl hy);have q3:=Keep.trans q2 ((Keep.of_below e9.out).mono (S':=F++V) sI) (λy hy=>.inl hy);have q4:Keep (F++V) w w9:=Keep.trans q3 k9 (λy hy=>by
   rcases mem_append.1 hy with hy | hy
   ·rcases d4.out y hy with e | e
    ·exact .inl (mem_append_left _ e)
    ·exact .inr (Nat.le_trans G.out.size e)
   ·exact .inl (mem_append_right _ hy))
  exact Keep.trans q4 kU (λy hy=>.inr (m y hy).1)
 have e7:∀x∈F9,x∈F\/w.heap.size<=x:=λx hx=>by
  rcases d2 x hx with e | e
  ·rcases d4.out x e with e | e
   ·exact .inl e
   ·exact .inr (Nat.le_trans G.out.size e)
  ·have:=G.out.size;exact .inr oM
 have R:=dH (And.intro a0 (And.intro e7 T));have HU:=dH hU;have HX:=dH (And.intro b5 b4);have r9:rowAt w9 (ga+1) 0 32=some (idC I):=by unfold rowAt;rw[x9];simp
 clear cC d d2 e4 f4 k9 A r f1 d1 e6 n7 x9 y9 z8 n9 b6 b7 a8 a9 b4 b5 kU m a0 T e7 e5 f5 x8 y8 q4;(go_wp2_with fail);refine(kp_must _).mono ?_;rintro e w' ⟨rfl,rfl⟩;(go_wp2_with fail);have f6:U.cell? ⟨ga+1+1,0,none⟩=some (.int .i64 0):=by rw[cell_of_row U (ga+1+1) 0 _ _ _ HX.out.2];rfl
 have f3:(loadVar 35 ⟨ga+1+1,0,none⟩).run prog U=.ok (.int .i64 0) U:=by simp[go_sem,f6]
 refine leaves_cons (f:=20) (args:=#[.pointer (some ⟨ga+1,0,none⟩),.pointer (some ⟨ga+1+1,0,none⟩)]) sI (by simp[go_sem]) ?_;refine(pub_d _ _ _).mono ?_;rintro e u' g4 ⟨rfl,rfl,rfl⟩;refine⟨_,results_ci results5 _ _ (ga+1) 23 (idC I) (0,0) _ ⟨ga+1+1,0,none⟩ (.int .i64 0) rfl HX.out.1 underlying23 rfl (by rw[idC_size];exact infoId) rfl f3,?_⟩;exact⟨s,F9,M9,B9,_,by rw[HI.out],R.out.1,oH d3.out,R.out.2.1,R.out.2.2⟩
theorem kp_state(w:World)(k g:Nat)(F M:List Nat)(X:StX)(v:Nat)(V:List Nat)(B n c f:Nat)(h:KpAt w k g F M X v V B n c f):Calls prog 14 #[.pointer (some ⟨k,0,none⟩)] w λe w'=>e=.returned (.pointer (some ⟨g,0,none⟩))/\Below w.heap.size w w':=by
 obtain⟨c0,c1,c2,c3⟩:=kp_cell h.heap;have cN:=kp_none w k v c3;clear h;go_enter func14,ntmps14
 (go_wp2_with fail);refine cN.mono ?_;rintro e w1 ⟨rfl,hb⟩;have d2:=(hb.cell (p:=⟨k,2,none⟩) (block_lt_of_cell? w _ c2)).trans c2;(go_wp2_with fail);go_ret;exact⟨rfl,hb⟩
theorem kp_sync(w:World)(k g:Nat)(F M:List Nat)(X:StX)(v:Nat)(V:List Nat)(B n c f:Nat)(h:KpAt w k g F M X v V B n c f)(hn:n<=1000000)(hc:f<=c/\c<=1000000):Calls prog 12 #[.pointer (some ⟨k,0,none⟩)] w λe w'=>e=.returned (.int .i64 ((c:Int)-f))/\Keep V w w':=by
 obtain⟨c0,c1,c2,c3⟩:=kp_cell h.heap;have cN:=kp_none w k v c3;have H:=dH h;clear h;go_enter func12,ntmps12
 (go_wp2_with fail);refine cN.mono ?_;rintro e w1 ⟨rfl,hb⟩;have d3:=(hb.cell (p:=⟨k,3,none⟩) (block_lt_of_cell? w _ c3)).trans c3;have cV:=vl_sync w1 V B v n c f (H.out.vl.below hb) oM hc;(go_wp2_with fail);refine cV.mono ?_;rintro e w2 ⟨rfl,_,hk⟩;have d:Keep V w w2:=Keep.trans ((Keep.of_below hb).mono sI) hk (λy hy=>.inl hy);clear cV hk hb cN;(go_wp2_with fail);go_ret;exact⟨rfl,d⟩
theorem awake34(w:World)(hv:Vars w)(hc:CrcVar w):Calls prog 4 #[] w λe w'=>e=.returned (.bool true)/\Below w.heap.size w w':=by
 have q1:=fun (w:World)=>(kR:(bdS 28 #[(0,.int .i64 1),(1,.int .i64 1)]).run prog w=.ok (.agg op1C) w);have c3:(⟨#[99,97]⟩:ByteArray)=awT:=rfl;have cN:=kp_new w hv hc;have Hv:=dH hv;have Hc:=dH hc;clear hv hc;go_enter func4,ntmps4
 (go_wp2_with fail);refine cN.mono ?_;rintro e w1 ⟨k,g,F,M,v,V,B,rfl,N,hF,hV,b5,J⟩;have cP:=kp_publish w1 k g F M v V B 22 2 2 N (Hv.out.below J) (Hc.out.below J) oM oM;have HF:=dH hF;have HV:=dH hV;have a9:=dH J;have b7:=dH N;clear cN N hF hV b5 J;(go_wp2_with fail);refine cP.mono ?_;rintro e w2 ⟨s,F2,M2,B2,n2,rfl,r,b4,b6,R⟩;obtain⟨I,hI⟩:=eX (hdI (kwH (shaI s.data.toList)))
 rw[hI];have D:=dH (show w1.heap.size<=w2.heap.size from R.size);have a6:Below w.heap.size w w2:=a9.out.trans (R.below (B:=w.heap.size) a9.out.size (λy hy=>(mem_append.1 hy).elim (HF.out y) (HV.out y)));have G:Below w2.heap.size w2 (w2.alloc (.cells (idC I) 23)):=bA;have m:rowAt (w2.alloc (.cells (idC I) 23)) w2.heap.size 0 32=some (idC I):=by simp[go_sem]
 obtain⟨U,hU⟩:=eR (w2.alloc (.cells (idC I) 23))
 obtain⟨gi,X⟩:=eX w2.heap.size
 have Y:=bel2 a6 G;have E:=r.below G;have d:=G.size;rw[<-hU]at Y m E d;have a2:=dH d;rw[X]at m;have cS:=kp_state U k g F2 M2 (kX2 s) v V B2 n2 _ _ E;have HU:=dH hU;have a7:=dH X;have c1:=dH Y;have b8:=dH E;have HI:=dH hI;clear cP r b6 R a6 G d hU X Y E hI;(go_wp2_with fail);rw[<-HU.out,a7.out];refine cS.mono ?_;rintro e w3 ⟨rfl,t⟩;have j:=((Keep.of_below t).row (rowAt_lt m) sI _ _).trans m;have O:=b8.out.below t;have cO:=st_own01 w3 g F2 M2 (kX2 s) O.st (by show 1<=1;omega) [I] (by rw[kw_own,HI.out]);have a3:=dH (show w1.heap.size<=w3.heap.size from Nat.le_trans (Nat.le_trans D.out a2.out) t.size);have c2:=dH (bel2 c1.out t);have c0:=dH O;clear cS m O t q1;(go_wp2_with fail);refine cO.mono ?_;rintro e w4 ⟨A,cap,rfl,ho,H⟩;have L:=((Keep.of_below H).row (rowAt_lt j) sI _ _).trans j;obtain⟨qg,qo,rfl,f⟩:=TagsIn.get ho.slr (i:=0) (Nat.zero_lt_one) (Nat.zero_lt_one);have f:rowAt w4 qg qo 32=some (idC I):=by simpa using f
 have a0:∀y∈V,y<w1.heap.size:=b7.out.vl.lt.1;have T:gi∉V:=λhm=>(by have h1:=a0 _ hm;have h2:=a7.out;have h3:=D.out;omega);have b2:qg∉V:=λhm=>(by have h1:=a0 _ hm;have h2:=(ho.at_base (x:=qg) (by simp[blk])).1;have h3:=a3.out;omega);have a8:=dH (bel2 c2.out H);have b9:=dH (c0.out.below H);have cY:=fun (Z:World) (hZ:Below w4.heap.size w4 Z)=>kp_sync Z k g F2 M2 (kX2 s) v V B2 n2 _ _ (b9.out.below hZ) oM oM;clear cO j H ho a0 b4;go_upto_region 4 with fail
 refine wp_region_tree (.loose 0 (.loose 1 (.loose 2 (.loose 3 (.loose 4 (.loose 5 (.loose 6 (.loose 7 (.loose 8 (.loose 9 (.loose 10 (.loose 11 (.loose 12 (.loose 13 (.loose 14 (.loose 15 (.loose 16 (.loose 17 (.loose 18 (.loose 19 (.one 20 (.loose 21 (.loose 22 (.loose 23 .done)))))))))))))))))))))))) (Kp V w4) false kR kR kR kR (kp_drew V w4) ?_;have b3:=kp_some V w4;have hS:=kp_drew V w4;have b0:=ksub_row L (S:=V) T;have b1:=ksub_row f (S:=V) b2;refine tZ ?_;refine tH ?_;intro K hK;refine(cY _ ((Below.refl _ w4).drew)).mono ?_;rintro e w5 ⟨rfl,a5⟩;have a1:Kp V w4 w5:=Keep.trans ((Keep.drew w4).mono (S':=V) sI) a5 (λy hy=>.inl hy);refine⟨_,rfl,a1,hK _ _ ?_⟩;clear hK K;have h2:(((2+1+1:Nat):Int)-((2:Nat):Int))=2:=by decide
 rw[h2];refine tZ ?_;refine wpTx_done ?_;intro hS;have a4:=dH (a8.out.trans (a1.below (B:=w.heap.size) a8.out.size HV.out));clear b3 hS b0 b1 a5 a1 cY h2;(go_wp2_with fail);go_ret;exact⟨rfl,a4.out⟩
def KNo(w:World)(p:Option Addr):Prop:=p=none\/∃k,p=some ⟨k,0,none⟩/\w.cell? ⟨k,3,none⟩=some (.pointer none)
theorem KNo.bel{w':World}(h:KNo w p)(hb:Below w.heap.size w w'):KNo w' p:=h.imp id fun ⟨k,e,hz⟩=>⟨k,e,(hb.cell (p:=⟨k,3,none⟩) (block_lt_of_cell? w _ hz)).trans hz⟩
theorem kz_none(w:World)(p:Option Addr)(h:KNo w p):Calls prog 19 #[.pointer p] w λe w'=>e=.returned (.bool true)/\w=w':=by
 rcases h with rfl | ⟨k,rfl,hz⟩
 ·go_enter func19,ntmps19
  (go_wp2_with fail);go_ret;exact⟨rfl,rfl⟩
 ·go_enter func19,ntmps19
  (go_wp2_with fail);go_ret;exact⟨rfl,rfl⟩
theorem kz_files(w:World)(p:Option Addr)(h:KNo w p):Calls prog 6 #[.pointer p] w λe w'=>e=.returned (.tuple #[.string ⟨#[]⟩,.string ⟨#[]⟩])/\Below w.heap.size w w':=by
 go_enter func6,ntmps6
 (go_wp2_with fail);refine(kz_none _ p h).mono ?_;rintro e w1 ⟨rfl,rfl⟩;(go_wp2_with fail);go_ret2;exact⟨rfl,Below.refl _ _⟩
theorem kz_insert(w:World)(p:Option Addr)(h:KNo w p)(b:ByteArray):Calls prog 8 #[.pointer p,.string b] w λe w'=>e=.returned (.int .i64 8)/\Below w.heap.size w w':=by
 go_enter func8,ntmps8
 (go_wp2_with fail);refine(kz_none _ p h).mono ?_;rintro e w1 ⟨rfl,rfl⟩;(go_wp2_with fail);go_ret;exact⟨rfl,Below.refl _ _⟩
theorem kz_crash(w:World)(p:Option Addr)(h:KNo w p)(n:Int):Calls prog 9 #[.pointer p,.int .i64 n] w λe w'=>e=.returned (.int .i64 8)/\Below w.heap.size w w':=by
 go_enter func9,ntmps9
 (go_wp2_with fail);refine(kz_none _ p h).mono ?_;rintro e w1 ⟨rfl,rfl⟩;(go_wp2_with fail);go_ret;exact⟨rfl,Below.refl _ _⟩
theorem kz_texts(w:World)(p:Option Addr)(h:KNo w p):Calls prog 39 #[.pointer p] w λe w'=>e=.returned (.tuple #[.slice none 0 0,.int .i64 8])/\Below w.heap.size w w':=by
 go_enter func39,ntmps39
 (go_wp2_with fail);refine(kz_none _ p h).mono ?_;rintro e w1 ⟨rfl,rfl⟩;(go_wp2_with fail);go_ret2;exact⟨rfl,Below.refl _ _⟩
theorem kz_sync(w:World)(p:Option Addr)(h:KNo w p):Calls prog 12 #[.pointer p] w λe w'=>e=.returned (.int .i64 0)/\Below w.heap.size w w':=by
 go_enter func12,ntmps12
 (go_wp2_with fail);refine(kz_none _ p h).mono ?_;rintro e w1 ⟨rfl,rfl⟩;(go_wp2_with fail);go_ret;exact⟨rfl,Below.refl _ _⟩
theorem kz_size(w:World)(p:Option Addr)(h:KNo w p):Calls prog 13 #[.pointer p] w λe w'=>e=.returned (.int .i64 0)/\Below w.heap.size w w':=by
 go_enter func13,ntmps13
 (go_wp2_with fail);refine(kz_none _ p h).mono ?_;rintro e w1 ⟨rfl,rfl⟩;(go_wp2_with fail);go_ret;exact⟨rfl,Below.refl _ _⟩
theorem kz_state(w:World)(p:Option Addr)(h:KNo w p):Calls prog 14 #[.pointer p] w λe w'=>e=.returned (.pointer none)/\Below w.heap.size w w':=by
 go_enter func14,ntmps14
 (go_wp2_with fail);refine(kz_none _ p h).mono ?_;rintro e w1 ⟨rfl,rfl⟩;(go_wp2_with fail);go_ret;exact⟨rfl,Below.refl _ _⟩
theorem kz_commit(w:World)(p:Option Addr)(h:KNo w p)(x:EntX):Calls prog 7 #[.pointer p,.agg (entR x)] w λe w'=>e=.returned (.int .i64 8)/\Below w.heap.size w w':=by
 have hB:Below w.heap.size w (w.alloc (.cells (entR x) 25)):=bA;go_enter func7,ntmps7
 (go_wp2_with fail);refine(kz_none _ p (h.bel hB)).mono ?_;rintro e w1 ⟨rfl,rfl⟩;(go_wp2_with fail);go_ret;exact⟨rfl,hB⟩
theorem kz_snap(w:World)(p:Option Addr)(h:KNo w p):Calls prog 10 #[.pointer p] w λe w'=>e=.returned (.int .i64 8)/\Below w.heap.size w w':=by
 go_enter func10,ntmps10
 (go_wp2_with fail);refine(kz_texts _ p h).mono ?_;rintro e w1 ⟨rfl,hb⟩;(go_wp2_with fail);go_ret;exact⟨rfl,hb⟩
theorem kz_die(w:World)(p:Option Addr)(h:KNo w p)(n:Int):Calls prog 11 #[.pointer p,.int .i64 n] w λe w'=>e=.returned (.int .i64 8)/\Below w.heap.size w w':=by
 go_enter func11,ntmps11
 (go_wp2_with fail);refine(kz_texts _ p h).mono ?_;rintro e w1 ⟨rfl,hb⟩;(go_wp2_with fail);go_ret;exact⟨rfl,hb⟩
theorem kz_publish(w:World)(p:Option Addr)(h:KNo w p)(t:ByteArray)(x:Array Value):Calls prog 5 #[.pointer p,.string t,.agg x] w λe w'=>e=.returned (.tuple #[.agg (idC id0),.int .i64 8])/\Below w.heap.size w w':=by
 have hB:Below w.heap.size w (((w.alloc (.cells x 28)).alloc (.cells (idC id0) 23)).alloc (.cells #[.int .i64 0] 35)):=((bA).alloc sI _).alloc sO _;obtain⟨W,hW⟩:=eR (((w.alloc (.cells x 28)).alloc (.cells (idC id0) 23)).alloc (.cells #[.int .i64 0] 35))
 obtain⟨ga,j⟩:=eX w.heap.size
 have E:W.heap[ga+1]?=some (.cells (idC id0) 23 (0,0)):=by
  rw[hW,<-j,Below.heap_alloc _ _ _ sI];have h2:=heap_alloc_new (w.alloc (.cells x 28)) (.cells (idC id0) 23);simpa using h2
 have A:W.heap[ga+1+1]?=some (.cells #[.int .i64 0] 35 (0,0)):=by
  rw[hW,<-j];have h2:=heap_alloc_new ((w.alloc (.cells x 28)).alloc (.cells (idC id0) 23)) (.cells #[.int .i64 0] 35);simpa using h2
 rw[<-hW]at hB;have cN:=kz_none W p (h.bel hB);obtain⟨d,D,r,s⟩:=idbox E id0;have f:=(s.block (ga+1+1) (aG A).1 sI).trans A;have L:d.cell? ⟨ga+1+1,0,none⟩=some (.int .i64 0):=by rw[cell_of_row d (ga+1+1) 0 _ _ _ f];rfl
 have J:=va_frozen f 0;have g:Keep [ga+1+1] d (d.setCell ⟨ga+1+1,0,none⟩ (.int .i64 8)):=Keep.setCell d ⟨ga+1+1,0,none⟩ _;have k:(d.setCell ⟨ga+1+1,0,none⟩ (.int .i64 8)).heap[ga+1+1]?=some (.cells #[.int .i64 8] 35 (0,0)):=by rw[heap_setCell_same f];rfl
 have m:=(g.block (ga+1) (aG r).1 sI).trans r;obtain⟨U,hU⟩:=eX (d.setCell ⟨ga+1+1,0,none⟩ (.int .i64 8))
 rw[hU]at g k m;have F:Below w.heap.size w U:=by
  have t1:=hB.trans (s.below (B:=w.heap.size) hB.size (by intro y hy;simp at hy;omega));exact t1.trans (g.below (B:=w.heap.size) t1.size (by intro y hy;simp at hy;omega))
 have HF:=dH F;have HX:=dH (And.intro m k);have HW:=dH hW;have I:=dH j;clear hB hW j E A r s f g k m F h;go_enter_defers func5,ntmps5
 (go_wp2_with fail);rw[<-HW.out,I.out];refine cN.mono ?_;rintro e w1 ⟨rfl,rfl⟩;(go_wp2_with fail);have H:U.cell? ⟨ga+1+1,0,none⟩=some (.int .i64 8):=by rw[cell_of_row U (ga+1+1) 0 _ _ _ HX.out.2];rfl
 have G:(loadVar 35 ⟨ga+1+1,0,none⟩).run prog U=.ok (.int .i64 8) U:=by simp[go_sem,H]
 refine⟨_,results_ci results5 _ _ (ga+1) 23 (idC id0) (0,0) _ ⟨ga+1+1,0,none⟩ (.int .i64 8) rfl HX.out.1 underlying23 rfl (by rw[idC_size];exact infoId) rfl G,?_⟩;exact⟨rfl,HF.out⟩
theorem buildEZ(w:World):(bdS 25 #[]).run prog w=.ok (.agg (entC ⟨0,⟨#[]⟩,⟨#[]⟩,id0⟩)) w:=kR
theorem buildHZ(w:World):(bdS 49 #[]).run prog w=.ok (.agg (hdC ⟨.slice none 0 0,0,⟨#[]⟩,0,0,0,id0⟩)) w:=kR
theorem has14_0(w:World):Calls prog 44 #[.int .i64 0] w λe w'=>e=.returned (.string ⟨#[]⟩)/\w=w':=by
 go_enter func44,ntmps44
 (go_wp2_with fail);go_ret;exact⟨rfl,rfl⟩
theorem check14_0(w:World):Calls prog 15 #[.agg (entC ⟨0,⟨#[]⟩,⟨#[]⟩,id0⟩)] w λe w'=>e=.returned (.int .i64 10)/\Below w.heap.size w w':=by
 have hB:Below w.heap.size w (w.alloc (.cells (entC ⟨0,⟨#[]⟩,⟨#[]⟩,id0⟩) 25)):=bA;go_enter func15,ntmps15
 (go_wp2_with fail);refine(has14_0 _).mono ?_;rintro e w1 ⟨rfl,rfl⟩;(go_wp2_with fail);go_ret;exact⟨rfl,hB⟩
theorem check08_0(w:World):Calls prog 16 #[.agg (hdC ⟨.slice none 0 0,0,⟨#[]⟩,0,0,0,id0⟩)] w λe w'=>e=.returned (.int .i64 12)/\Below w.heap.size w w':=by
 have hB:Below w.heap.size w (w.alloc (.cells (hdC ⟨.slice none 0 0,0,⟨#[]⟩,0,0,0,id0⟩) 49)):=bA;have x1:(w.alloc (.cells (hdC ⟨.slice none 0 0,0,⟨#[]⟩,0,0,0,id0⟩) 49)).cell? ⟨w.heap.size,1,none⟩=some (.int .i64 0):=by simp[go_sem,hdC]
 go_enter func16,ntmps16
 (go_wp2_with fail);refine(show Calls prog 48 #[.slice none 0 0] _ λe w'=>e=.returned (.bool true)/\Below (World.heap _).size _ w' from ris6 _ none 0 0 [] SlR.nil_ (by decide)).mono ?_;rintro e w1 ⟨rfl,d⟩;have c1:=(d.cell (p:=⟨w.heap.size,1,none⟩) sI).trans x1;replace hB:=bel2 hB d;clear d;(go_wp2_with fail);go_ret;exact⟨rfl,hB⟩
end Go.Proofs.YtplpiicfkbpkaaaGreatDoor
