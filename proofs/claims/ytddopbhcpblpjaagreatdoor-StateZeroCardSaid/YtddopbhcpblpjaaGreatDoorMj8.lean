/- Part 8 of the texts that lead to this claim: the walks of the functions and the plain law, in order. -/
import Derived.Test.YtddopbhcpblpjaaGreatDoorMj7
namespace Go.Proofs.YtddopbhcpblpjaaGreatDoor
open Go.RowKit
open List hiding and get max min or set
open Go.Proofs.Tryz
open World
set_option maxRecDepth 100000
set_option maxHeartbeats 8000000
variable {w:World}{α:Type}{N:List zS}
structure pQ where
 id:zA
 node:fG
def yE(x:pQ):Array Value:=idC x.id++zO x.node
@[simp] theorem tA(x:pQ):(yE x).size=66:=by simp[yE]
@[go_sem] theorem pY(x:pQ):(yE x).extract 0 32=idC x.id:=by
 have h:yE x=((#[]:Array Value))++idC x.id++(zO x.node):=by first | (simp[yE,Array.append_assoc];done) | (apply Array.ext';simp[yE];done)
 rw[h];exact bZ _ _ _ _ _ sI sI
@[go_sem] theorem XV(x:pQ):(yE x).extract 32 66=zO x.node:=by
 have h:yE x=(idC x.id)++zO x.node++((#[]:Array Value)):=by first | (simp[yE,Array.append_assoc];done) | (apply Array.ext';simp[yE];done)
 rw[h];exact bZ _ _ _ _ _ sI sI
@[go_sem] theorem nNodeC_all(x:pQ):(yE x).extract 0 66=yE x:=by have:=Array.extract_size (xs:=yE x);rwa [tA]at this
theorem XU(x:pQ):∀u∈(yE x).toList,u.oneCell'=true:=by
 intro u hu;simp only[yE,Array.toList_append,mem_append]at hu;rcases hu with hu | hu
 ·exact yN _ u hu
 ·exact X4 _ u hu
def sJ:pQ:=⟨id0,qU⟩
theorem NNode_ext{x y:pQ}(h:x.id=y.id/\x.node=y.node):x=y:=by cases x;cases y;simp_all
instance:DecidableEq pQ:=λx y=>if h:x.id=y.id/\x.node=y.node then isTrue (NNode_ext h)else isFalse (λe=>h (by subst e;simp))
theorem K3:(prog.info? 303).map (·.size)=some 66:=kR
@[go_sem ↓] theorem J5(w:World):(zeroValue 303).run prog w=.ok (.agg (yE sJ)) w:=by
 have h:(prog.info? 303).bind (·.zero)=some (.agg (yE sJ)):=kR;cases hi:prog.info? 303 with
 | none=>rw[hi]at h;cases h
 | some i =>
  rw[hi]at h;have hz:i.zero=some (.agg (yE sJ)):=h;simp[zeroValue,typeInfo,hi,hz]
@[go_sem ↓] theorem loadNNode_rw(a:Addr):loadVar 303 a=ldS 303 a:=rfl
@[go_sem ↓] theorem storeNNode_rw(a:Addr)(v:Value):storeVar 303 a v=stS 303 a v:=rfl
@[go_sem] theorem loadNNode_run(w:World)(g o:Nat):(ldS 303 ⟨g,o,none⟩).run prog w=match z9 w g o 66 with | some cs=>.ok (.agg cs) w | none=>(loadVar 303 ⟨g,o,none⟩).run prog w :=
 jD underlying303 rfl K3 w g o
@[go_sem] theorem storeNNode_run(w:World)(g:Nat)(hg:g=w.heap.size)(z:Array Value)(hz:z.size=66)(x:pQ)(e:TypeId):(stS 303 ⟨g,0,none⟩ (.agg (yE x))).run prog (w.alloc (.cells z e))=.ok () (w.alloc (.cells (yE x) e)) :=
 hg ▸ xW K3 w z (yE x) hz (tA x) (XU x)
theorem jx:prog.underlying 303=some (.struct (prog.fieldsOf 303)):=kR
theorem xy(w:World):((prog.fieldsOf 303).mapM fun (f:Field)=>do pure (f.offset,<-sizeOf f.type)).run prog w=.ok #[(0,32),(32,34)] w:=kR
@[go_sem ↓] theorem buildNNode_rw(parts:Array (Nat×Value)):Instr.build 303 parts=bdS 303 parts:=rfl
@[go_sem] theorem buildNNode_0(a0:zA)(w:World):(bdS 303 #[(0,.agg (idC a0))]).run prog w=.ok (.agg (yE ⟨a0,qU⟩)) w:=by
 refine qO w jx _ (J5 w) _ (xy w) [(0,.agg (idC a0))] _ ?_;rw[show yE sJ=(#[]:Array Value)++idC id0++(zO qU)from by first | (simp[yE,sJ,Array.append_assoc];done) | (apply Array.ext';simp[yE,sJ])];rw[yW (off:=0) (size:=32) rfl sI sI (by simp[Value.cells])];first | (simp[Instr.fill,yE,Array.append_assoc,Value.cells];done) | (simp only[Instr.fill,yE];congr 1;apply Array.ext';simp[Value.cells];done) | (simp only[Instr.fill,yE];congr 1;done) | (simp only[Instr.fill,yE];done)
abbrev nnC(n:zS):Array Value:=yE ⟨n.id,xH n⟩
theorem nnC_one(n:zS):∀u∈(nnC n).toList,u.oneCell'=true:=XU _
theorem einfoNN:yT prog 299 303 66 88 :=
 .of (z:=.agg (yE sJ)) underlying299 kR kR kR (tA _) oM
@[go_sem ↓] theorem bsNN_rw(n:Nat)(parts:Array (Nat×Value)):Instr.buildSlice 299 n parts=bsS 299 n parts:=rfl
@[go_sem] theorem bsNN_run(w:World)(x:pQ):(bsS 299 1 #[(0,.agg (yE x))]).run prog w=.ok (.slice (some ⟨w.heap.size,0,none⟩) 1 1) (w.alloc (.cells (yE x) 303)) :=
 gS einfoNN oM w (yE x) (tA x)
def nP:RowP zS :=
 ⟨λl e=>⟨xQ (yX 32 l e),((yZ 4 (zM 32 l e) (zN 32 l e):Nat):Int),xQ (yX 32 (zM 4 (zM 32 l e) (zN 32 l e)) (zN 4 (zM 32 l e) (zN 32 l e))),txV (zM 32 (zM 4 (zM 32 l e) (zN 32 l e)) (zN 4 (zM 32 l e) (zN 32 l e))) (zN 32 (zM 4 (zM 32 l e) (zN 32 l e)) (zN 4 (zM 32 l e) (zN 32 l e)))⟩,
  λl e=>txL (zM 32 (zM 4 (zM 32 l e) (zN 32 l e)) (zN 4 (zM 32 l e) (zN 32 l e))) (zN 32 (zM 4 (zM 32 l e) (zN 32 l e)) (zN 4 (zM 32 l e) (zN 32 l e))),
  λl e=>txE (zM 32 (zM 4 (zM 32 l e) (zN 32 l e)) (zN 4 (zM 32 l e) (zN 32 l e))) (zN 32 (zM 4 (zM 32 l e) (zN 32 l e)) (zN 4 (zM 32 l e) (zN 32 l e))),rS,
  λx=>0<=x.h/\x.h<4294967296/\x.val.size<=255⟩
theorem nP_eq{l:List UInt8}{e:Int}{l1 l2 l3:List UInt8}{e1 e2 e3:Int}(h1:zM 32 l e=l1)(k1:zN 32 l e=e1)(h2:zM 4 l1 e1=l2)(k2:zN 4 l1 e1=e2)(h3:zM 32 l2 e2=l3)(k3:zN 32 l2 e2=e3) :
  nP.one l e=⟨xQ (yX 32 l e),((yZ 4 l1 e1:Nat):Int),xQ (yX 32 l2 e2),txV l3 e3⟩/\nP.oL l e=txL l3 e3/\nP.oE l e=txE l3 e3:=by
 subst h1;subst k1;subst h2;subst k2;subst h3;subst k3;exact⟨rfl,rfl,rfl⟩
theorem nLaw:pP nP where
 split l e h:=by
  obtain⟨h1,h2⟩:=tW (show txE _ _=0 from h);obtain⟨h3,h4⟩:=eU h1;obtain⟨h5,h6⟩:=dV h3;obtain⟨h7,h8⟩:=eU h5;refine⟨h7,?_⟩;obtain⟨a1,a2,a3⟩:=nP_eq (l:=l) (e:=e) rfl rfl rfl rfl rfl rfl;rw[a1,a2];show rS _++_=l;unfold rS;simp only[append_assoc,Int.toNat_natCast];rw[h2,h4,h6,h8]
 back x t hx:=by
  obtain⟨d,h,r,v⟩:=x;obtain⟨g,f,hv⟩:=hx;simp only at g f hv;obtain⟨m,rfl⟩:∃m:Nat,h=m:=⟨h.toNat,oM⟩
  have e0:nP.put ⟨d,m,r,v⟩++t=d.l++(beL 4 m++(r.l++(beL 1 v.size++(v.data.toList++t)))):=by show rS _++t=_;simp[rS]
  rw[e0];obtain⟨a1,a2,a3⟩:=eW (d:=d) (beL 4 m++(r.l++(beL 1 v.size++(v.data.toList++t))));obtain⟨b1,b2,b3⟩:=mD (M:=4) (n:=m) oM (r.l++(beL 1 v.size++(v.data.toList++t)));obtain⟨c1,c2,c3⟩:=eW (d:=r) (beL 1 v.size++(v.data.toList++t));obtain⟨d1,d2,d3⟩:=KX (s:=v) oM t;obtain⟨f1,f2,f3⟩:=nP_eq a2 a3 b2 b3 c2 c3;rw[f1,f2,f3,a1,b1,c1,d1,d2,d3];exact⟨rfl,rfl,rfl⟩
 some_ x:=by show 1<=(rS x).length;rw[VP];omega
def yP(l:List UInt8):mX zS:=j2 nP l 0
def xD(l:List UInt8):mX zA:=j2 idP (yP l).l (yP l).e
def kr(R:List zS):Prop:=∀x∈R,0<=x.h/\x.h<4294967296/\x.val.size<=255
theorem fitsN_step{R:List zS}(h:kr R)(l:List UInt8)(e:Int):kr (R ++ [nP.one l e]):=λx hx=>by
 rcases mem_append.1 hx with h' | h'
 ·exact h x h'
 ·simp only[mem_singleton]at h';subst h';have:=xL 4 (zM 32 l e) (zN 32 l e);obtain⟨a1,_,_⟩:=nP_eq (l:=l) (e:=e) rfl rfl rfl rfl rfl rfl;rw[a1];exact⟨by simp only;omega,by simp only;omega,wF _ _⟩
theorem sq_id(w:World)(g:Nat)(l:List UInt8)(e:Int)(h:q7 w g l e) :
  Calls prog 278 #[.pointer (some ⟨g,0,none⟩)] w λen w'=>en=.returned (.agg (idC (xQ (yX 32 l e))))/\tS w g (zM 32 l e) (zN 32 l e) w':=by
 have s:Below w.heap.size w ((w.alloc (.cells (idC id0) 23)).alloc (.cells (idC id0) 23)):=(bA).alloc sI _;have F:((w.alloc (.cells (idC id0) 23)).alloc (.cells (idC id0) 23)).heap[w.heap.size]?=some (.cells (idC id0) 23 (0,0)):=by
  rw[Below.heap_alloc _ _ _ sI];exact heap_alloc_new w _
 have r:((w.alloc (.cells (idC id0) 23)).alloc (.cells (idC id0) 23)).heap[w.heap.size+1]?=some (.cells (idC id0) 23 (0,0)):=by
  have:=heap_alloc_new (w.alloc (.cells (idC id0) 23)) (.cells (idC id0) 23);simpa using this
 have Y:=h.lt;have t:=h.below s;have k:((w.alloc (.cells (idC id0) 23)).alloc (.cells (idC id0) 23)).heap.size=w.heap.size+2:=sI;have G:=dH k;clear k h;go_enter func278,ntmps278
 go_upto_region 2 with fail
 obtain⟨ga,O⟩:=eX w.heap.size
 have a1:=dH O;obtain⟨W,hW⟩:=eR ((w.alloc (.cells (idC id0) 23)).alloc (.cells (idC id0) 23))
 rw[<-hW]at s F r t G |-;rw[O]at F r Y |-;clear hW;have E:ga+1<W.heap.size:=(aG r).1;have c1:=wI W.drew g l e (t.kept (z8.drew W) sI);refine kX [g,ga+1] W ?_;intro X hS;refine lQ ?_;intro K hK;refine c1.mono ?_;rintro en w1 ⟨rfl,L,D⟩;replace hS:=yA hS D sI;have m:w1.heap[ga+1]?=_:=(D.block (ga+1) (by show _<W.drew.heap.size;exact E) sO).trans r;refine⟨_,rfl,hS,hK _ _ ?_⟩;clear hK K c1;obtain⟨w2,m2,Z,f,B⟩:=pI (yX 32 l e) (m9 _ _) 3 32 m;refine lH ?_;intro K hK;refine zH (yA hS B sI) (λR=>?_);refine hK _ _ ?_;clear hK K;refine zC ?_;intro hS;have y:z8 [g,ga+1] W w2:=R;have J:=L.kept B sO;have j:=(y.block ga oM sO).trans F;clear Z hS R X D B L t m;obtain⟨d,hd⟩:=eX (xQ (yX 32 l e))
 rw[hd]at f;have Hd:=dH hd;clear hd;have V:z9 w2 (ga+1) 0 32=some (idC d):=by unfold z9;rw[f];simp[go_sem]
 have T:=zX (P:=prog) xP w2 ga (idC id0) (idC d) _ j sI sI (yN _);have A:z8 [ga] w2 (w2.setRow ga (idC d)):=⟨rfl,rfl,rfl,by simp[setRow],λx _ hx=>setRow_other w2 ga x _ (by simpa using hx)⟩
 have H:=dH (setRow_heap w2 ga _ (idC d) _ _ j);have I:=J.kept A sO;have N:z8 [g,ga,ga+1] w (w2.setRow ga (idC d)):=z8.trans (z8.trans ((z8.of_below s).mono (S':=[g,ga,ga+1]) sI) (y.mono (S':=[g,ga,ga+1]) sI) iL) (A.mono (S':=[g,ga,ga+1]) sI) iL;have M:z8 [g] w (w2.setRow ga (idC d)):=N.narrow (λx hx=>by have:=a1.out;simp at hx |-;omega);have U:=dH I;have a0:=dH M;clear I J N M A j f s y;(go_wp2_with fail);exact bodyPost_ret (results_cell_row results278 _ _ ga 23 (idC d) (0,0) _ rfl H.out underlying23 rfl (by rw[xM];exact xP)) rfl ⟨by rw[Hd.out],U.out,a0.out⟩
@[go_sem] theorem nnode_g32(d:zA)(h:Int)(r:zA)(v:ByteArray):(yE ⟨d,⟨h,r,v⟩⟩)[32]?=some (.int .i64 h):=by
 have e:yE ⟨d,⟨h,r,v⟩⟩=idC d ++ #[Value.int .i64 h]++(idC r ++ #[Value.string v]):=by simp[yE,zO]
 rw[e];exact xJ _ _ _ _ sI
@[go_sem] theorem iQ(d:zA)(h:Int)(r:zA)(v:ByteArray):(yE ⟨d,⟨h,r,v⟩⟩)[65]?=some (.string v):=by
 have e:yE ⟨d,⟨h,r,v⟩⟩=(idC d ++ #[Value.int .i64 h]++idC r) ++ #[Value.string v]:=by simp[yE,zO]
 rw[e];have hs:(idC d ++ #[Value.int .i64 h]++idC r).size=65:=sI;rw[Array.getElem?_append,if_neg oM,hs];rfl
theorem qn(d:zA)(h h':Int)(r:zA)(v:ByteArray):(yE ⟨d,⟨h,r,v⟩⟩).setIfInBounds 32 (.int .i64 h')=yE ⟨d,⟨h',r,v⟩⟩:=by
 apply Array.ext';simp[yE,zO]
theorem ql(d:zA)(h:Int)(r:zA)(v v':ByteArray):(yE ⟨d,⟨h,r,v⟩⟩).setIfInBounds 65 (.string v')=yE ⟨d,⟨h,r,v'⟩⟩:=by
 apply Array.ext';simp[yE,zO]
theorem qm(d:zA)(h:Int)(r r':zA)(v:ByteArray):((yE ⟨d,⟨h,r,v⟩⟩).toList.take (33+0)++(idC r').toList++(yE ⟨d,⟨h,r,v⟩⟩).toList.drop (33+0+(idC r').toList.length)).toArray=yE ⟨d,⟨h,r',v⟩⟩:=by
 apply Array.ext';have h1:(idC r').toList.length=32:=sI;have h2:(idC r).toList.length=32:=sI;have h3:(idC d).toList.length=32:=sI;rw[h1];have e:∀x,(yE ⟨d,⟨h,x,v⟩⟩).toList=(idC d).toList++([.int .i64 h]++((idC x).toList ++ [.string v])):=λx=>(by simp[yE,zO]);rw[e,e];simp[take_append,drop_append,h2,h3];rw[take_of_length_le oM,drop_eq_nil_of_le oM]
 simp
theorem store_refN{g:Nat}{d r:zA}{h:Int}{v:ByteArray}(r':zA)(hg:w.heap[g]?=some (.cells (yE ⟨d,⟨h,r,v⟩⟩) 303 (0,0))) :
  (stS 23 ⟨g,33,none⟩ (.agg (idC r'))).run prog w=.ok () (w.setRow g (yE ⟨d,⟨h,r',v⟩⟩)):=by
 have f:=run_storeCells_at prog g 33 303 (idC r').toList 0 (yE ⟨d,⟨h,r,v⟩⟩) w hg sI (yN r');rw[qm]at f;unfold stS storeVar;have hi:=xP;cases hinfo:prog.info? 23 with
 | none=>rw[hinfo]at hi;cases hi
 | some i =>
  rw[hinfo]at hi;have hk:i.size=32:=by simpa using hi
  simp[Value.cells,sizeOf,typeInfo,hinfo,hk];simpa using f
theorem sqread(w:World)(g:Nat)(l:List UInt8)(g4:q7 w g l 0) :
  Calls prog 212 #[.pointer (some ⟨g,0,none⟩)] w λe w'=>∃A cap B cap',e=.returned (.tuple #[.slice A (yP l).rows.length cap,.slice B (xD l).rows.length cap'])/\Own w' w.heap.size 303 66 A (yP l).rows.length cap ((yP l).rows.map nnC)/\Own w' w.heap.size 23 32 B (xD l).rows.length cap' ((xD l).rows.map idC)/\q7 w' g (xD l).l (xD l).e/\z8 [g] w w'/\kr (yP l).rows:=by
 have c0:=kH _ _ l 0 g4;have hN:=xL 4 l 0;obtain⟨N,i2⟩:=eX (yZ 4 l 0)
 have j1:Hid (yP l=qF nP N ⟨[],zM 4 l 0,zN 4 l 0⟩):=by show _=_;rw[<-i2];rfl
 rw[i2]at c0 hN;clear i2;have m5:=g4.lt;go_enter func212,ntmps212
 (go_wp2_with fail);refine c0.mono ?_;rintro e w1 ⟨rfl,j2,h6⟩;have l8:=dH h6;have l0:=h6.size;clear c0 g4 h6;(go_wp2_with fail);go_loopw [2,5,6] (λout i _ wr=>∃(k:Nat) (R:List zS) (l1:List UInt8) (e1:Int) (A1:Option Addr) (c8:Nat),k<=N/\i=.int .i64 k/\out=.slice A1 R.length c8/\R.length=k/\Own wr w1.heap.size 303 66 A1 R.length c8 (R.map nnC)/\q7 wr g l1 e1/\Hid (qF nP N ⟨[],zM 4 l 0,zN 4 l 0⟩=qF nP (N-k) ⟨R,l1,e1⟩)/\Hid (kr R)/\z8 [g] w1 wr) (λ_ i _ _=>N-(intOf i).toNat)
 case atStart=>exact⟨0,[],_,_,none,0,zL,rfl,rfl,rfl,Own.nil _ _ _ _,j2,(show _=_ from rfl),(show kr [] by intro x hx;cases hx),z8.refl _ _⟩
 case round =>
  clear j2;obtain⟨k,R,l1,e1,A1,c8,m0,rfl,rfl,j5,L,hr,e7,e9,hk⟩:=hrel;have l9:=dH j5;have m7:R.length<=N:=oM;clear j5;have j0:=hk.size;by_cases hgo:k<N/\e1=0
  ·obtain⟨l4,rfl⟩:=hgo;have E:=e7.out;rw[(oM:N-k=(N-(k+1))+1),jZ _ _ rfl]at E;have b1:=dH E;have d9:=fitsN_step e9.out l1 0;have i6:=dH d9;clear e7 E e9 d9;have m4:=hr.lt;have l5:g∉blk A1:=λhx=>(oH ((L.at_base hx).1));(go_wp2_with fail);refine(xI _ g l1 0 hr).mono ?_;rintro e w5 ⟨rfl,rfl⟩;(go_wp2_with fail);refine(sq_id _ g l1 0 hr).mono ?_;rintro e w6 ⟨rfl,b5,b3⟩;obtain⟨d,hd⟩:=eX (xQ (yX 32 l1 0))
   obtain⟨m1,h0⟩:=eX (zM 32 l1 0)
   obtain⟨x1,f7⟩:=eX (zN 32 l1 0)
   have e4:q7 w6 g m1 x1:=by rw[<-h0,<-f7];exact b5
   have c5:z8 [g] wr w6:=b3;rw[hd];have Hd:=dH hd;have k7:=dH h0;have k0:=dH f7;have h8:=heap_alloc_new w6 (.cells (yE ⟨d,qU⟩) 303);have i4:=e4.kept (z8.alloc w6 (.cells (yE ⟨d,qU⟩) 303)) sI;have h4:z8 [g] wr (w6.alloc (.cells (yE ⟨d,qU⟩) 303)):=z8.trans c5 (z8.alloc w6 _) sI;have k9:=c5.size;have h7:=b5.lt;clear hd b5 e4 c5 b3 hr h0 f7;go_upto_region 6 with fail
   obtain⟨g8,j3⟩:=eX w6.heap.size
   obtain⟨W,hW⟩:=eX (w6.alloc (.cells (yE ⟨d,qU⟩) 303))
   rw[hW]at h8 i4 h4;rw[hW];rw[j3]at h8 k9 h7 |-;have c2:g8∉[g]:=sO;have g6:g∉[g8]:=sO;clear hW j3;(go_wp2_with fail);refine(kH _ g m1 x1 i4).mono ?_;rintro e w2 ⟨rfl,M,d0⟩;obtain⟨nv,g5⟩:=eX (yZ 4 m1 x1)
   obtain⟨m2,g9⟩:=eX (zM 4 m1 x1)
   obtain⟨x2,f6⟩:=eX (zN 4 m1 x1)
   have d7:q7 w2 g m2 x2:=by rw[<-g9,<-f6];exact M
   have k4:=dH g5;have k6:=dH g9;have j9:=dH f6;rw[g5];have f2:=(d0.block g8 (aG h8).1 c2).trans h8;have x0:w2.cell? ⟨g8,32,none⟩=some (.int .i64 0):=by rw[cell_of_row w2 g8 _ _ _ _ f2];exact nnode_g32 _ _ _ _
   have f0:w2.frozen? ⟨g8,32,none⟩=false:=by simp[frozen?,f2]
   have b4:=zE f2 32 (.int .i64 (nv:Int));have d1:(yE ⟨d,qU⟩).setIfInBounds 32 (.int .i64 (nv:Int))=yE ⟨d,⟨nv,id0,⟨#[]⟩⟩⟩:=qn _ _ _ _ _;rw[d1]at b4;have a4:=z8.setCell w2 ⟨g8,32,none⟩ (.int .i64 (nv:Int));have g3:=d7.kept a4 g6;have a0:z8 [g,g8] wr (w2.setCell ⟨g8,32,none⟩ (.int .i64 (nv:Int))):=z8.trans (z8.trans (h4.mono (S':=[g,g8]) sI) (d0.mono (S':=[g,g8]) sI) iL) (a4.mono (S':=[g,g8]) sI) iL;clear g5 g9 f6 M d7 d0 h8 i4 h4 f2 a4 d1;go_upto_region 7 with fail
   obtain⟨V,hV⟩:=eX (w2.setCell ⟨g8,32,none⟩ (.int .i64 (nv:Int)))
   rw[hV]at b4 g3 a0;rw[hV];clear hV f0 x0;(go_wp2_with fail);refine(sq_id _ g m2 x2 g3).mono ?_;rintro e w3 ⟨rfl,d6,c9⟩;obtain⟨rv,g1⟩:=eX (xQ (yX 32 m2 x2))
   obtain⟨m3,g7⟩:=eX (zM 32 m2 x2)
   obtain⟨x3,f5⟩:=eX (zN 32 m2 x2)
   have d5:q7 w3 g m3 x3:=by rw[<-g7,<-f5];exact d6
   have k3:=dH g1;have k5:=dH g7;have j8:=dH f5;rw[g1];have b6:=(c9.block g8 (aG b4).1 c2).trans b4;have f9:=store_refN rv b6;have f1:=setRow_heap w3 g8 _ (yE ⟨d,⟨(nv:Int),rv,⟨#[]⟩⟩⟩) _ _ b6;have a4:z8 [g8] w3 (w3.setRow g8 (yE ⟨d,⟨(nv:Int),rv,⟨#[]⟩⟩⟩)):=⟨rfl,rfl,rfl,by simp[setRow],λx _ hx=>setRow_other w3 g8 x _ (by simpa using hx)⟩
   have g2:=d5.kept a4 g6;have c7:z8 [g,g8] wr (w3.setRow g8 (yE ⟨d,⟨(nv:Int),rv,⟨#[]⟩⟩⟩)):=z8.trans (z8.trans a0 (c9.mono (S':=[g,g8]) sI) iL) (a4.mono (S':=[g,g8]) sI) iL;clear g1 g7 f5 d6 d5 c9 b4 b6 g3 a0 a4;go_upto_region 8 with fail
   obtain⟨V2,hV⟩:=eX (w3.setRow g8 (yE ⟨d,⟨(nv:Int),rv,⟨#[]⟩⟩⟩))
   rw[hV]at f1 g2 c7;rw[hV];clear hV f9;have l3:=xL 1 (m3) (x3);(go_wp2_with fail);refine(fL _ g _ _ g2).mono ?_;rintro e w2 ⟨rfl,M,d0⟩;(go_wp2_with fail);refine(dC _ g _ _ _ M oM).mono ?_;rintro e w3 ⟨rfl,d6,c9⟩;have j6:q7 w3 g (txL (m3) (x3)) (txE (m3) (x3)):=d6;have c6:z8 [g] V2 w3:=z8.trans d0 c9 iL;have b4:=(c6.block g8 (aG f1).1 c2).trans f1;obtain⟨vv,h1⟩:=eX (mkB (yX (yZ 1 (m3) (x3)) (zM 1 (m3) (x3)) (zN 1 (m3) (x3))))
   have k1:=dH (show txV (m3) (x3)=vv from h1);rw[h1];have x0:w3.cell? ⟨g8,65,none⟩=some (.string ⟨#[]⟩):=by rw[cell_of_row w3 g8 _ _ _ _ b4];first | exact iQ _ _ _ _ | (simp[go_sem];done)
   have f0:w3.frozen? ⟨g8,65,none⟩=false:=by simp[frozen?,b4]
   have b6:=zE b4 65 (.string vv);rw[ql]at b6;have a4:=z8.setCell w3 ⟨g8,65,none⟩ (.string vv);have i5:=j6.kept a4 g6;have a0:z8 [g,g8] V2 (w3.setCell ⟨g8,65,none⟩ (.string vv)):=z8.trans (c6.mono (S':=[g,g8]) sI) (a4.mono (S':=[g,g8]) sI) iL;clear M d6 d0 c9 h1 j6 l3 b4 a4 c6 g2 f1;go_upto_region 9 with fail
   obtain⟨Z,hZ⟩:=eX (w3.setCell ⟨g8,65,none⟩ (.string vv))
   rw[hZ]at b6 i5 a0;rw[hZ];have e8:z8 [g,g8] wr Z:=z8.trans c7 a0 iL;clear hZ x0 f0 a0 c7;have j7:∀x∈blk A1,x∉[g,g8]:=λx hx=>(oS (L.at_base hx));have b9:=L.kept e8 j7;have h5:z8 [g] wr Z:=e8.mono (by intro x hx;simp at hx;rcases hx with rfl | rfl <;> simp;omega);obtain⟨y1,y2,y3⟩:=nP_eq k7.out k0.out k6.out j9.out k5.out j8.out;have hx:nP.one l1 0=⟨d,(nv:Int),rv,vv⟩:=by rw[y1,Hd.out,k4.out,k3.out,k1.out]
   have b8:gP nP ⟨R,l1,0⟩=⟨R ++ [⟨d,(nv:Int),rv,vv⟩],txL m3 x3,txE m3 x3⟩:=by unfold gP;simp only;rw[hx,y2,y3]
   rw[b8]at b1;rw[hx]at i6;obtain⟨xx,f4⟩:∃xx:zS,⟨d,(nv:Int),rv,vv⟩=xx:=⟨_,rfl⟩
   have i9:yE ⟨d,⟨(nv:Int),rv,vv⟩⟩=nnC xx:=by rw[<-f4];rfl
   rw[i9]at b6;rw[f4]at i6 b1;clear f4 i9 hx L j7 b8 Hd k1 y1 y2 y3 k4 k3 k7 k0 k6 j9 k5 j8;have d4:z9 Z g8 0 66=some (nnC xx):=by unfold z9;rw[b6];simp[go_sem]
   have a8:Below Z.heap.size Z (Z.alloc (.cells (nnC xx) 303)):=bA;have f:=b9.below a8;have s:z9 (Z.alloc (.cells (nnC xx) 303)) Z.heap.size 0 66=some (nnC xx):=by simp[go_sem]
   have d2:w1.heap.size<=Z.heap.size:=oH e8.size;clear b9 b6 e8;go_wp2_with (at_builtin;refine xS einfoNN rfl f rfl s (nnC_one _) oM oM sO ?_;intro e6 T b7 t F H)
   have a6:z8 (blk A1) Z b7:=z8.trans ((z8.of_below a8).mono (S':=blk A1) sI) F iL;have a9:=i5.kept a6 l5;have d8:z8 [g] w1 b7:=z8.trans (z8.trans hk h5 iL) a6 (λx hx=>.inr (oH ((f.at_base hx).1)));rw[(sI:R.map nnC ++ [nnC xx]=(R ++ [xx]).map nnC)]at t;have y:(R ++ [xx]).length=R.length+1:=sI;have j:=dH y;clear y a6 F H f s a8 d4 i5;(go_wp2_with fail);go_roundw
   case rel=>exact⟨k+1,R ++ [xx],_,_,e6,T,oM,by go_num,(by rw[j.out]),(by rw[j.out,l9.out]),(by rw[j.out];exact t),a9,b1,i6,d8⟩
   case measure=>exact sZ
  ·have e0:yP l=⟨R,l1,e1⟩:=by
    rw[j1.out,e7.out];by_cases he:e1=0
    ·rw[(oM:N-k=0)];rfl
    ·exact jY _ _ he
   have D:=dH e0;have j4:=e9.out;have f3:=dH j4;clear e0 e7 j1 e9 j4;have h3:z8 [g] w wr:=z8.trans l8.out hk iL;have k8:=dH h3;have d3:=h3.size;clear h3;obtain⟨wA,rfl⟩:∃wA,wA=wr:=⟨wr,rfl⟩
   by_cases l4:k<N
   ·have he:e1≠0:=oM;have m6:(e1==0)=false:=by simpa using he
    clear hgo;(go_wp2_with fail);refine(xI _ g l1 e1 hr).mono ?_;rintro e w5 ⟨rfl,rfl⟩;(go_wp2_with fail);refine(kH _ g l1 e1 hr).mono ?_;rintro e w9 ⟨rfl,c1,c4⟩;have i3:=xL 4 l1 e1;obtain⟨N2,a1⟩:=eX (yZ 4 l1 e1)
    have a3:Hid (xD l=qF idP N2 ⟨[],zM 4 l1 e1,zN 4 l1 e1⟩):=by show _=_;rw[<-a1];unfold xD;rw[D.out];rfl
    rw[a1]at i3 |-;have J:=L.kept c4 (λx hx=>oS ((L.at_base hx).1));have b2:=dH (z8.trans k8.out c4 iL);have g0:w.heap.size<=w9.heap.size:=b2.out.size;have b0:=dH (J.mono (B':=w.heap.size) oM);have i8:=dH (λx (hx:x∈blk A1)=>J.at_base hx);have l6:=c1.lt;clear a1 L J c4 hr hk j0 d3;(go_wp2_with fail);go_loopw [3,7] (λout i wq=>∃(k:Nat) (G:List zA) (l2:List UInt8) (e2:Int) (B1:Option Addr) (a2:Nat),k<=N2/\i=.int .i64 k/\out=.slice B1 G.length a2/\G.length=k/\Own wq w9.heap.size 23 32 B1 G.length a2 (G.map idC)/\q7 wq g l2 e2/\Hid (qF idP N2 ⟨[],zM 4 l1 e1,zN 4 l1 e1⟩=qF idP (N2-k) ⟨G,l2,e2⟩)/\z8 [g] w9 wq) (λ_ i _=>N2-(intOf i).toNat)
    case atStart=>exact⟨0,[],_,_,none,0,zL,rfl,rfl,rfl,Own.nil _ _ _ _,c1,(show _=_ from rfl),z8.refl _ _⟩
    case round =>
     clear c1;obtain⟨k2,G,l2,e2,B1,a2,h2,rfl,rfl,e3,m,M,E,a5⟩:=hrel;have i7:=dH e3;have l7:G.length<=N2:=oM;clear e3;have f8:=a5.size;by_cases a7:k2<N2/\e2=0
     ·obtain⟨c3,rfl⟩:=a7;have U:=E.out;rw[(oM:N2-k2=(N2-(k2+1))+1),jZ _ _ rfl]at U;have b1:=dH U;clear U E;have h9:g∉blk B1:=λhx=>(oH ((m.at_base hx).1));(go_wp2_with fail);refine(xI _ g l2 0 M).mono ?_;rintro e w5 ⟨rfl,rfl⟩;(go_wp2_with fail);refine(sq_id _ g l2 0 M).mono ?_;rintro e w6 ⟨rfl,b5,b3⟩;have b8:gP idP ⟨G,l2,0⟩=⟨G ++ [xQ (yX 32 l2 0)],zM 32 l2 0,zN 32 l2 0⟩:=rfl;rw[b8]at b1;obtain⟨d,hd⟩:=eX (xQ (yX 32 l2 0))
      rw[hd]at b1 |-;have I:=m.kept b3 (λx hx=>oS ((m.at_base hx).1));have a8:Below w6.heap.size w6 (w6.alloc (.cells (idC d) 23)):=bA;have f:=I.below a8;have s:z9 (w6.alloc (.cells (idC d) 23)) w6.heap.size 0 32=some (idC d):=by simp[go_sem]
      have d2:w9.heap.size<=w6.heap.size:=oH b3.size;clear hd b8 m I M;go_wp2_with (at_builtin;refine xS yO rfl f rfl s (yN _) oM oM sO ?_;intro e6 T b7 t F H)
      have a6:z8 (blk B1) w6 b7:=z8.trans ((z8.of_below a8).mono (S':=blk B1) sI) F iL;have a9:=q7.kept b5 a6 h9;have d8:z8 [g] w9 b7:=z8.trans (z8.trans a5 b3 iL) a6 (λx hx=>.inr (oH ((f.at_base hx).1)));rw[(sI:G.map idC ++ [idC d]=(G ++ [d]).map idC)]at t;have y:(G ++ [d]).length=G.length+1:=sI;have j:=dH y;clear y a6 F H f s a8 b5;(go_wp2_with fail);go_roundw
      case rel=>exact⟨k2+1,G ++ [d],_,_,e6,T,oM,by go_num,(by rw[j.out]),(by rw[j.out,i7.out]),(by rw[j.out];exact t),a9,b1,d8⟩
      case measure=>exact sZ
     ·have O:xD l=⟨G,l2,e2⟩:=by
       rw[a3.out,E.out];by_cases he:e2=0
       ·rw[(oM:N2-k2=0)];rfl
       ·exact jY _ _ he
      have r:=dH O;clear O E a3;have e5:=dH (z8.trans b2.out a5 iL);have Y:=dH (b0.out.kept a5 (λx hx=>oS ((i8.out x hx).1)));have X:=dH (m.mono (B':=w.heap.size) g0);clear m a5;by_cases c3:k2<N2
      ·have i1:e2≠0:=oM;have i0:(e2==0)=false:=by simpa using i1
       clear a7;(go_wp2_with fail);refine(xI _ g l2 e2 M).mono ?_;rintro e w5 ⟨rfl,rfl⟩;(go_wp2_with fail);go_ret2;exact⟨_,_,_,_,(by rw[D.out,r.out];rfl),by rw[D.out];exact Y.out,by rw[r.out];exact X.out,by rw[r.out];exact M,e5.out,by rw[D.out];exact f3.out⟩
      ·(go_wp2_with fail);go_ret2;exact⟨_,_,_,_,(by rw[D.out,r.out];rfl),by rw[D.out];exact Y.out,by rw[r.out];exact X.out,by rw[r.out];exact M,e5.out,by rw[D.out];exact f3.out⟩
   ·(go_wp2_with fail);refine(kH _ g l1 e1 hr).mono ?_;rintro e w9 ⟨rfl,c1,c4⟩;have i3:=xL 4 l1 e1;obtain⟨N2,a1⟩:=eX (yZ 4 l1 e1)
    have a3:Hid (xD l=qF idP N2 ⟨[],zM 4 l1 e1,zN 4 l1 e1⟩):=by show _=_;rw[<-a1];unfold xD;rw[D.out];rfl
    rw[a1]at i3 |-;have J:=L.kept c4 (λx hx=>oS ((L.at_base hx).1));have b2:=dH (z8.trans k8.out c4 iL);have g0:w.heap.size<=w9.heap.size:=b2.out.size;have b0:=dH (J.mono (B':=w.heap.size) oM);have i8:=dH (λx (hx:x∈blk A1)=>J.at_base hx);have l6:=c1.lt;clear a1 L J c4 hr hk j0 d3;(go_wp2_with fail);go_loopw [3,7] (λout i wq=>∃(k:Nat) (G:List zA) (l2:List UInt8) (e2:Int) (B1:Option Addr) (a2:Nat),k<=N2/\i=.int .i64 k/\out=.slice B1 G.length a2/\G.length=k/\Own wq w9.heap.size 23 32 B1 G.length a2 (G.map idC)/\q7 wq g l2 e2/\Hid (qF idP N2 ⟨[],zM 4 l1 e1,zN 4 l1 e1⟩=qF idP (N2-k) ⟨G,l2,e2⟩)/\z8 [g] w9 wq) (λ_ i _=>N2-(intOf i).toNat)
    case atStart=>exact⟨0,[],_,_,none,0,zL,rfl,rfl,rfl,Own.nil _ _ _ _,c1,(show _=_ from rfl),z8.refl _ _⟩
    case round =>
     clear c1;obtain⟨k2,G,l2,e2,B1,a2,h2,rfl,rfl,e3,m,M,E,a5⟩:=hrel;have i7:=dH e3;have l7:G.length<=N2:=oM;clear e3;have f8:=a5.size;by_cases a7:k2<N2/\e2=0
     ·obtain⟨c3,rfl⟩:=a7;have U:=E.out;rw[(oM:N2-k2=(N2-(k2+1))+1),jZ _ _ rfl]at U;have b1:=dH U;clear U E;have h9:g∉blk B1:=λhx=>(oH ((m.at_base hx).1));(go_wp2_with fail);refine(xI _ g l2 0 M).mono ?_;rintro e w5 ⟨rfl,rfl⟩;(go_wp2_with fail);refine(sq_id _ g l2 0 M).mono ?_;rintro e w6 ⟨rfl,b5,b3⟩;have b8:gP idP ⟨G,l2,0⟩=⟨G ++ [xQ (yX 32 l2 0)],zM 32 l2 0,zN 32 l2 0⟩:=rfl;rw[b8]at b1;obtain⟨d,hd⟩:=eX (xQ (yX 32 l2 0))
      rw[hd]at b1 |-;have I:=m.kept b3 (λx hx=>oS ((m.at_base hx).1));have a8:Below w6.heap.size w6 (w6.alloc (.cells (idC d) 23)):=bA;have f:=I.below a8;have s:z9 (w6.alloc (.cells (idC d) 23)) w6.heap.size 0 32=some (idC d):=by simp[go_sem]
      have d2:w9.heap.size<=w6.heap.size:=oH b3.size;clear hd b8 m I M;go_wp2_with (at_builtin;refine xS yO rfl f rfl s (yN _) oM oM sO ?_;intro e6 T b7 t F H)
      have a6:z8 (blk B1) w6 b7:=z8.trans ((z8.of_below a8).mono (S':=blk B1) sI) F iL;have a9:=q7.kept b5 a6 h9;have d8:z8 [g] w9 b7:=z8.trans (z8.trans a5 b3 iL) a6 (λx hx=>.inr (oH ((f.at_base hx).1)));rw[(sI:G.map idC ++ [idC d]=(G ++ [d]).map idC)]at t;have y:(G ++ [d]).length=G.length+1:=sI;have j:=dH y;clear y a6 F H f s a8 b5;(go_wp2_with fail);go_roundw
      case rel=>exact⟨k2+1,G ++ [d],_,_,e6,T,oM,by go_num,(by rw[j.out]),(by rw[j.out,i7.out]),(by rw[j.out];exact t),a9,b1,d8⟩
      case measure=>exact sZ
     ·have O:xD l=⟨G,l2,e2⟩:=by
       rw[a3.out,E.out];by_cases he:e2=0
       ·rw[(oM:N2-k2=0)];rfl
       ·exact jY _ _ he
      have r:=dH O;clear O E a3;have e5:=dH (z8.trans b2.out a5 iL);have Y:=dH (b0.out.kept a5 (λx hx=>oS ((i8.out x hx).1)));have X:=dH (m.mono (B':=w.heap.size) g0);clear m a5;by_cases c3:k2<N2
      ·have i1:e2≠0:=oM;have i0:(e2==0)=false:=by simpa using i1
       clear a7;(go_wp2_with fail);refine(xI _ g l2 e2 M).mono ?_;rintro e w5 ⟨rfl,rfl⟩;(go_wp2_with fail);go_ret2;exact⟨_,_,_,_,(by rw[D.out,r.out];rfl),by rw[D.out];exact Y.out,by rw[r.out];exact X.out,by rw[r.out];exact M,e5.out,by rw[D.out];exact f3.out⟩
      ·(go_wp2_with fail);go_ret2;exact⟨_,_,_,_,(by rw[D.out,r.out];rfl),by rw[D.out];exact Y.out,by rw[r.out];exact X.out,by rw[r.out];exact M,e5.out,by rw[D.out];exact f3.out⟩
def mP:RowP qN :=
 ⟨λl e=>⟨xQ (yX 32 l e),txV (zM 32 l e) (zN 32 l e),txV (txL (zM 32 l e) (zN 32 l e)) (txE (zM 32 l e) (zN 32 l e))⟩,
  λl e=>txL (txL (zM 32 l e) (zN 32 l e)) (txE (zM 32 l e) (zN 32 l e)),
  λl e=>txE (txL (zM 32 l e) (zN 32 l e)) (txE (zM 32 l e) (zN 32 l e)),vT,λx=>x.key.size<=255/\x.val.size<=255⟩
theorem mLaw:pP mP where
 split l e h:=by
  obtain⟨h1,h2⟩:=tW (show txE (txL (zM 32 l e) (zN 32 l e)) (txE (zM 32 l e) (zN 32 l e))=0 from h);obtain⟨h3,h4⟩:=tW h1;obtain⟨h5,h6⟩:=eU h3;refine⟨h5,?_⟩;show vT _++_=l;unfold vT;simp only[append_assoc];show(xQ (yX 32 l e)).l++(beL 1 (txV (zM 32 l e) (zN 32 l e)).size++((txV (zM 32 l e) (zN 32 l e)).data.toList++(beL 1 (txV (txL (zM 32 l e) (zN 32 l e)) (txE (zM 32 l e) (zN 32 l e))).size++((txV (txL (zM 32 l e) (zN 32 l e)) (txE (zM 32 l e) (zN 32 l e))).data.toList++txL (txL (zM 32 l e) (zN 32 l e)) (txE (zM 32 l e) (zN 32 l e))))))=l;rw[h2,h4,h6]
 back x t hx:=by
  obtain⟨d,k,v⟩:=x;obtain⟨hk,hv⟩:=hx;have e0:vT ⟨d,k,v⟩++t=d.l++(beL 1 k.size++(k.data.toList++(beL 1 v.size++(v.data.toList++t)))):=by simp[vT]
  show(⟨xQ (yX 32 (vT ⟨d,k,v⟩++t) 0),txV (zM 32 (vT ⟨d,k,v⟩++t) 0) (zN 32 (vT ⟨d,k,v⟩++t) 0),txV (txL (zM 32 (vT ⟨d,k,v⟩++t) 0) (zN 32 (vT ⟨d,k,v⟩++t) 0)) (txE (zM 32 (vT ⟨d,k,v⟩++t) 0) (zN 32 (vT ⟨d,k,v⟩++t) 0))⟩:qN)=_/\txL (txL (zM 32 (vT ⟨d,k,v⟩++t) 0) (zN 32 (vT ⟨d,k,v⟩++t) 0)) (txE (zM 32 (vT ⟨d,k,v⟩++t) 0) (zN 32 (vT ⟨d,k,v⟩++t) 0))=_/\txE (txL (zM 32 (vT ⟨d,k,v⟩++t) 0) (zN 32 (vT ⟨d,k,v⟩++t) 0)) (txE (zM 32 (vT ⟨d,k,v⟩++t) 0) (zN 32 (vT ⟨d,k,v⟩++t) 0))=0;rw[e0];obtain⟨a1,a2,a3⟩:=eW (d:=d) (beL 1 k.size++(k.data.toList++(beL 1 v.size++(v.data.toList++t))));obtain⟨b1,b2,b3⟩:=KX (s:=k) (by simp at hk;omega) (beL 1 v.size++(v.data.toList++t));obtain⟨c1,c2,c3⟩:=KX (s:=v) (by simp at hv;omega) t;rw[a1,a2,a3,b1,b2,b3,c1,c2,c3];exact⟨rfl,rfl,rfl⟩
 some_ x:=by show 1<=(vT x).length;rw[V9];omega
def xT(l:List UInt8):mX qN:=j2 mP l 0
def q9(l:List UInt8):mX zA:=j2 idP (xT l).l (xT l).e
def ks(R:List qN):Prop:=∀x∈R,x.key.size<=255/\x.val.size<=255
theorem fitsM_step{R:List qN}(h:ks R)(l:List UInt8)(e:Int):ks (R ++ [mP.one l e]):=λx hx=>by
 rcases mem_append.1 hx with h' | h'
 ·exact h x h'
 ·simp at h';subst h';exact⟨wF _ _,wF _ _⟩
theorem ml_id(w:World)(g:Nat)(l:List UInt8)(e:Int)(h:q7 w g l e) :
  Calls prog 277 #[.pointer (some ⟨g,0,none⟩)] w λen w'=>en=.returned (.agg (idC (xQ (yX 32 l e))))/\tS w g (zM 32 l e) (zN 32 l e) w':=by
 have s:Below w.heap.size w ((w.alloc (.cells (idC id0) 23)).alloc (.cells (idC id0) 23)):=(bA).alloc sI _;have F:((w.alloc (.cells (idC id0) 23)).alloc (.cells (idC id0) 23)).heap[w.heap.size]?=some (.cells (idC id0) 23 (0,0)):=by
  rw[Below.heap_alloc _ _ _ sI];exact heap_alloc_new w _
 have r:((w.alloc (.cells (idC id0) 23)).alloc (.cells (idC id0) 23)).heap[w.heap.size+1]?=some (.cells (idC id0) 23 (0,0)):=by
  have:=heap_alloc_new (w.alloc (.cells (idC id0) 23)) (.cells (idC id0) 23);simpa using this
 have Y:=h.lt;have t:=h.below s;have k:((w.alloc (.cells (idC id0) 23)).alloc (.cells (idC id0) 23)).heap.size=w.heap.size+2:=sI;have G:=dH k;clear k h;go_enter func277,ntmps277
 go_upto_region 2 with fail
 obtain⟨ga,O⟩:=eX w.heap.size
 have a1:=dH O;obtain⟨W,hW⟩:=eR ((w.alloc (.cells (idC id0) 23)).alloc (.cells (idC id0) 23))
 rw[<-hW]at s F r t G |-;rw[O]at F r Y |-;clear hW;have E:ga+1<W.heap.size:=(aG r).1;have c1:=wI W.drew g l e (t.kept (z8.drew W) sI);refine kX [g,ga+1] W ?_;intro X hS;refine lQ ?_;intro K hK;refine c1.mono ?_;rintro en w1 ⟨rfl,L,D⟩;replace hS:=yA hS D sI;have m:w1.heap[ga+1]?=_:=(D.block (ga+1) (by show _<W.drew.heap.size;exact E) sO).trans r;refine⟨_,rfl,hS,hK _ _ ?_⟩;clear hK K c1;obtain⟨w2,m2,Z,f,B⟩:=pI (yX 32 l e) (m9 _ _) 3 32 m;refine lH ?_;intro K hK;refine zH (yA hS B sI) (λR=>?_);refine hK _ _ ?_;clear hK K;refine zC ?_;intro hS;have y:z8 [g,ga+1] W w2:=R;have J:=L.kept B sO;have j:=(y.block ga oM sO).trans F;clear Z hS R X D B L t m;obtain⟨d,hd⟩:=eX (xQ (yX 32 l e))
 rw[hd]at f;have Hd:=dH hd;clear hd;have V:z9 w2 (ga+1) 0 32=some (idC d):=by unfold z9;rw[f];simp[go_sem]
 have T:=zX (P:=prog) xP w2 ga (idC id0) (idC d) _ j sI sI (yN _);have A:z8 [ga] w2 (w2.setRow ga (idC d)):=⟨rfl,rfl,rfl,by simp[setRow],λx _ hx=>setRow_other w2 ga x _ (by simpa using hx)⟩
 have H:=dH (setRow_heap w2 ga _ (idC d) _ _ j);have I:=J.kept A sO;have N:z8 [g,ga,ga+1] w (w2.setRow ga (idC d)):=z8.trans (z8.trans ((z8.of_below s).mono (S':=[g,ga,ga+1]) sI) (y.mono (S':=[g,ga,ga+1]) sI) iL) (A.mono (S':=[g,ga,ga+1]) sI) iL;have M:z8 [g] w (w2.setRow ga (idC d)):=N.narrow (λx hx=>by have:=a1.out;simp at hx |-;omega);have U:=dH I;have a0:=dH M;clear I J N M A j f s y;(go_wp2_with fail);exact bodyPost_ret (results_cell_row results277 _ _ ga 23 (idC d) (0,0) _ rfl H.out underlying23 rfl (by rw[xM];exact xP)) rfl ⟨by rw[Hd.out],U.out,a0.out⟩
theorem qt(d:zA)(k k' v:ByteArray):(zQ ⟨d,k,v⟩).setIfInBounds 32 (.string k')=zQ ⟨d,k',v⟩:=by
 apply Array.ext';simp[zQ]
theorem qs(d:zA)(k v v':ByteArray):(zQ ⟨d,k,v⟩).setIfInBounds 33 (.string v')=zQ ⟨d,k,v'⟩:=by
 apply Array.ext';simp[zQ]
theorem mlread(w:World)(g:Nat)(l:List UInt8)(f1:q7 w g l 0) :
  Calls prog 211 #[.pointer (some ⟨g,0,none⟩)] w λe w'=>∃A cap B cap',e=.returned (.tuple #[.slice A (xT l).rows.length cap,.slice B (q9 l).rows.length cap'])/\Own w' w.heap.size 189 34 A (xT l).rows.length cap ((xT l).rows.map zQ)/\Own w' w.heap.size 23 32 B (q9 l).rows.length cap' ((q9 l).rows.map idC)/\q7 w' g (q9 l).l (q9 l).e/\z8 [g] w w'/\ks (xT l).rows:=by
 have c0:=kH _ _ l 0 f1;have hN:=xL 4 l 0;obtain⟨N,g1⟩:=eX (yZ 4 l 0)
 have h1:Hid (xT l=qF mP N ⟨[],zM 4 l 0,zN 4 l 0⟩):=by show _=_;rw[<-g1];rfl
 rw[g1]at c0 hN;clear g1;have j4:=f1.lt;go_enter func211,ntmps211
 (go_wp2_with fail);refine c0.mono ?_;rintro e w1 ⟨rfl,h2,f7⟩;have j0:=dH f7;have i5:=f7.size;clear c0 f1 f7;(go_wp2_with fail);go_loopw [2,5,6] (λout i _ wr=>∃(k:Nat) (R:List qN) (l1:List UInt8) (e1:Int) (A1:Option Addr) (c7:Nat),k<=N/\i=.int .i64 k/\out=.slice A1 R.length c7/\R.length=k/\Own wr w1.heap.size 189 34 A1 R.length c7 (R.map zQ)/\q7 wr g l1 e1/\Hid (qF mP N ⟨[],zM 4 l 0,zN 4 l 0⟩=qF mP (N-k) ⟨R,l1,e1⟩)/\Hid (ks R)/\z8 [g] w1 wr) (λ_ i _ _=>N-(intOf i).toNat)
 case atStart=>exact⟨0,[],_,_,none,0,zL,rfl,rfl,rfl,Own.nil _ _ _ _,h2,(show _=_ from rfl),(show ks [] by intro x hx;cases hx),z8.refl _ _⟩
 case round =>
  clear h2;obtain⟨k,R,l1,e1,A1,c7,j2,rfl,rfl,h7,L,hr,e4,e6,hk⟩:=hrel;have j1:=dH h7;have j6:R.length<=N:=oM;clear h7;have h0:=hk.size;by_cases hgo:k<N/\e1=0
  ·obtain⟨i6,rfl⟩:=hgo;have E:=e4.out;rw[(oM:N-k=(N-(k+1))+1),jZ _ _ rfl]at E;have b2:=dH E;have d6:=fitsM_step e6.out l1 0;have g5:=dH d6;clear e4 E e6 d6;have j3:=hr.lt;have i7:g∉blk A1:=λhx=>(oH ((L.at_base hx).1));(go_wp2_with fail);refine(xI _ g l1 0 hr).mono ?_;rintro e w5 ⟨rfl,rfl⟩;(go_wp2_with fail);refine(ml_id _ g l1 0 hr).mono ?_;rintro e w6 ⟨rfl,b9,a6⟩;obtain⟨d,hd⟩:=eX (xQ (yX 32 l1 0))
   rw[hd];have Hd:=dH hd;have h8:=heap_alloc_new w6 (.cells (zQ ⟨d,⟨#[]⟩,⟨#[]⟩⟩) 189);have g3:=q7.kept b9 (z8.alloc w6 (.cells (zQ ⟨d,⟨#[]⟩,⟨#[]⟩⟩) 189)) sI;have f5:z8 [g] wr (w6.alloc (.cells (zQ ⟨d,⟨#[]⟩,⟨#[]⟩⟩) 189)):=z8.trans a6 (z8.alloc w6 _) sI;have i4:=a6.size;clear hd b9 a6 hr;go_upto_region 6 with fail
   obtain⟨g8,h5⟩:=eX w6.heap.size
   obtain⟨W,hW⟩:=eX (w6.alloc (.cells (zQ ⟨d,⟨#[]⟩,⟨#[]⟩⟩) 189))
   rw[hW]at h8 g3 f5;rw[hW];rw[h5]at h8 i4 |-;have d2:g8∉[g]:=sO;have h3:g∉[g8]:=sO;clear hW h5;have f2:=xL 1 (zM 32 l1 0) (zN 32 l1 0);(go_wp2_with fail);refine(fL _ g _ _ g3).mono ?_;rintro e w2 ⟨rfl,M,d5⟩;(go_wp2_with fail);refine(dC _ g _ _ _ M oM).mono ?_;rintro e w3 ⟨rfl,d1,d4⟩;have d9:q7 w3 g (txL (zM 32 l1 0) (zN 32 l1 0)) (txE (zM 32 l1 0) (zN 32 l1 0)):=d1;have a0:z8 [g] W w3:=z8.trans d5 d4 iL;have b5:=(a0.block g8 (aG h8).1 d2).trans h8;obtain⟨kv,c3⟩:=eX (mkB (yX (yZ 1 (zM 32 l1 0) (zN 32 l1 0)) (zM 1 (zM 32 l1 0) (zN 32 l1 0)) (zN 1 (zM 32 l1 0) (zN 32 l1 0))))
   have i2:=dH (show txV (zM 32 l1 0) (zN 32 l1 0)=kv from c3);rw[c3];have x0:w3.cell? ⟨g8,32,none⟩=some (.string ⟨#[]⟩):=by rw[cell_of_row w3 g8 _ _ _ _ b5];first | exact iQ _ _ _ _ | (simp[go_sem];done)
   have f0:w3.frozen? ⟨g8,32,none⟩=false:=by simp[frozen?,b5]
   have b4:=zE b5 32 (.string kv);rw[qt]at b4;have c4:=z8.setCell w3 ⟨g8,32,none⟩ (.string kv);have c6:=d9.kept c4 h3;have a1:z8 [g,g8] W (w3.setCell ⟨g8,32,none⟩ (.string kv)):=z8.trans (a0.mono (S':=[g,g8]) sI) (c4.mono (S':=[g,g8]) sI) iL;clear M d1 d5 d4 c3 d9 f2 b5 c4 a0 g3 h8;go_upto_region 7 with fail
   obtain⟨V,hV⟩:=eX (w3.setCell ⟨g8,32,none⟩ (.string kv))
   rw[hV]at b4 c6 a1;rw[hV];have h4:z8 [g,g8] wr V:=z8.trans (f5.mono (S':=[g,g8]) sI) a1 iL;have h9:=c6;have g4:=b4;clear hV x0 f0 b4 c6 a1 f5;have f2:=xL 1 (txL (zM 32 l1 0) (zN 32 l1 0)) (txE (zM 32 l1 0) (zN 32 l1 0));(go_wp2_with fail);refine(fL _ g _ _ h9).mono ?_;rintro e w2 ⟨rfl,M,d5⟩;(go_wp2_with fail);refine(dC _ g _ _ _ M oM).mono ?_;rintro e w3 ⟨rfl,d1,d4⟩;have d9:q7 w3 g (txL (txL (zM 32 l1 0) (zN 32 l1 0)) (txE (zM 32 l1 0) (zN 32 l1 0))) (txE (txL (zM 32 l1 0) (zN 32 l1 0)) (txE (zM 32 l1 0) (zN 32 l1 0))):=d1;have a0:z8 [g] V w3:=z8.trans d5 d4 iL;have b5:=(a0.block g8 (aG g4).1 d2).trans g4;obtain⟨vv,c3⟩:=eX (mkB (yX (yZ 1 (txL (zM 32 l1 0) (zN 32 l1 0)) (txE (zM 32 l1 0) (zN 32 l1 0))) (zM 1 (txL (zM 32 l1 0) (zN 32 l1 0)) (txE (zM 32 l1 0) (zN 32 l1 0))) (zN 1 (txL (zM 32 l1 0) (zN 32 l1 0)) (txE (zM 32 l1 0) (zN 32 l1 0)))))
   have i1:=dH (show txV (txL (zM 32 l1 0) (zN 32 l1 0)) (txE (zM 32 l1 0) (zN 32 l1 0))=vv from c3);rw[c3];have x0:w3.cell? ⟨g8,33,none⟩=some (.string ⟨#[]⟩):=by rw[cell_of_row w3 g8 _ _ _ _ b5];first | exact iQ _ _ _ _ | (simp[go_sem];done)
   have f0:w3.frozen? ⟨g8,33,none⟩=false:=by simp[frozen?,b5]
   have b4:=zE b5 33 (.string vv);rw[qs]at b4;have c4:=z8.setCell w3 ⟨g8,33,none⟩ (.string vv);have c6:=d9.kept c4 h3;have a1:z8 [g,g8] V (w3.setCell ⟨g8,33,none⟩ (.string vv)):=z8.trans (a0.mono (S':=[g,g8]) sI) (c4.mono (S':=[g,g8]) sI) iL;clear M d1 d5 d4 c3 d9 f2 b5 c4 a0 h9 g4;go_upto_region 8 with fail
   obtain⟨Z,hZ⟩:=eX (w3.setCell ⟨g8,33,none⟩ (.string vv))
   rw[hZ]at b4 c6 a1;rw[hZ];have e5:z8 [g,g8] wr Z:=z8.trans h4 a1 iL;clear hZ x0 f0 a1 h4;have i0:∀x∈blk A1,x∉[g,g8]:=λx hx=>(oS (L.at_base hx));have b8:=L.kept e5 i0;have f6:z8 [g] wr Z:=e5.mono (by intro x hx;simp at hx;rcases hx with rfl | rfl <;> simp;omega);have hx:mP.one l1 0=⟨d,kv,vv⟩:=by
    show(⟨xQ (yX 32 l1 0),txV (zM 32 l1 0) (zN 32 l1 0),txV (txL (zM 32 l1 0) (zN 32 l1 0)) (txE (zM 32 l1 0) (zN 32 l1 0))⟩:qN)=_;rw[Hd.out,i2.out,i1.out]
   have b7:gP mP ⟨R,l1,0⟩=⟨R ++ [⟨d,kv,vv⟩],txL (txL (zM 32 l1 0) (zN 32 l1 0)) (txE (zM 32 l1 0) (zN 32 l1 0)),txE (txL (zM 32 l1 0) (zN 32 l1 0)) (txE (zM 32 l1 0) (zN 32 l1 0))⟩:=by unfold gP;rw[hx];rfl
   rw[b7]at b2;rw[hx]at g5;obtain⟨xx,g9⟩:∃xx:qN,⟨d,kv,vv⟩=xx:=⟨_,rfl⟩
   rw[g9]at b4 g5 b2;clear g9 hx L i0 b7 Hd i2 i1;have d0:z9 Z g8 0 34=some (zQ xx):=by unfold z9;rw[b4];simp[go_sem]
   have a9:Below Z.heap.size Z (Z.alloc (.cells (zQ xx) 189)):=bA;have f:=b8.below a9;have s:z9 (Z.alloc (.cells (zQ xx) 189)) Z.heap.size 0 34=some (zQ xx):=by simp[go_sem]
   have c8:w1.heap.size<=Z.heap.size:=oH e5.size;clear b8 b4 e5;go_wp2_with (at_builtin;refine xS r5 rfl f rfl s (lM _) oM oM sO ?_;intro e3 T b6 t F H)
   have a7:z8 (blk A1) Z b6:=z8.trans ((z8.of_below a9).mono (S':=blk A1) sI) F iL;have b0:=c6.kept a7 i7;have d3:z8 [g] w1 b6:=z8.trans (z8.trans hk f6 iL) a7 (λx hx=>.inr (oH ((f.at_base hx).1)));rw[(sI:R.map zQ ++ [zQ xx]=(R ++ [xx]).map zQ)]at t;have y:(R ++ [xx]).length=R.length+1:=sI;have j:=dH y;clear y a7 F H f s a9 d0 c6;(go_wp2_with fail);go_roundw
   case rel=>exact⟨k+1,R ++ [xx],_,_,e3,T,oM,by go_num,(by rw[j.out]),(by rw[j.out,j1.out]),(by rw[j.out];exact t),b0,b2,g5,d3⟩
   case measure=>exact sZ
  ·have d7:xT l=⟨R,l1,e1⟩:=by
    rw[h1.out,e4.out];by_cases he:e1=0
    ·rw[(oM:N-k=0)];rfl
    ·exact jY _ _ he
   have D:=dH d7;have h6:=e6.out;have e7:=dH h6;clear d7 e4 h1 e6 h6;have f4:z8 [g] w wr:=z8.trans j0.out hk iL;have i3:=dH f4;have c9:=f4.size;clear f4;obtain⟨wA,rfl⟩:∃wA,wA=wr:=⟨wr,rfl⟩
   by_cases i6:k<N
   ·have he:e1≠0:=oM;have j5:(e1==0)=false:=by simpa using he
    clear hgo;(go_wp2_with fail);refine(xI _ g l1 e1 hr).mono ?_;rintro e w5 ⟨rfl,rfl⟩;(go_wp2_with fail);refine(kH _ g l1 e1 hr).mono ?_;rintro e w9 ⟨rfl,c1,c5⟩;have g2:=xL 4 l1 e1;obtain⟨N2,a2⟩:=eX (yZ 4 l1 e1)
    have a4:Hid (q9 l=qF idP N2 ⟨[],zM 4 l1 e1,zN 4 l1 e1⟩):=by show _=_;rw[<-a2];unfold q9;rw[D.out];rfl
    rw[a2]at g2 |-;have J:=L.kept c5 (λx hx=>oS ((L.at_base hx).1));have b3:=dH (z8.trans i3.out c5 iL);have e9:w.heap.size<=w9.heap.size:=b3.out.size;have b1:=dH (J.mono (B':=w.heap.size) oM);have g7:=dH (λx (hx:x∈blk A1)=>J.at_base hx);have i8:=c1.lt;clear a2 L J c5 hr hk h0 c9;(go_wp2_with fail);go_loopw [3,7] (λout i wq=>∃(k:Nat) (G:List zA) (l2:List UInt8) (e2:Int) (B1:Option Addr) (a3:Nat),k<=N2/\i=.int .i64 k/\out=.slice B1 G.length a3/\G.length=k/\Own wq w9.heap.size 23 32 B1 G.length a3 (G.map idC)/\q7 wq g l2 e2/\Hid (qF idP N2 ⟨[],zM 4 l1 e1,zN 4 l1 e1⟩=qF idP (N2-k) ⟨G,l2,e2⟩)/\z8 [g] w9 wq) (λ_ i _=>N2-(intOf i).toNat)
    case atStart=>exact⟨0,[],_,_,none,0,zL,rfl,rfl,rfl,Own.nil _ _ _ _,c1,(show _=_ from rfl),z8.refl _ _⟩
    case round =>
     clear c1;obtain⟨k2,G,l2,e2,B1,a3,f3,rfl,rfl,d8,m,M,E,a5⟩:=hrel;have g6:=dH d8;have i9:G.length<=N2:=oM;clear d8;have e8:=a5.size;by_cases a8:k2<N2/\e2=0
     ·obtain⟨c2,rfl⟩:=a8;have U:=E.out;rw[(oM:N2-k2=(N2-(k2+1))+1),jZ _ _ rfl]at U;have b2:=dH U;clear U E;have f8:g∉blk B1:=λhx=>(oH ((m.at_base hx).1));(go_wp2_with fail);refine(xI _ g l2 0 M).mono ?_;rintro e w5 ⟨rfl,rfl⟩;(go_wp2_with fail);refine(ml_id _ g l2 0 M).mono ?_;rintro e w6 ⟨rfl,b9,a6⟩;have b7:gP idP ⟨G,l2,0⟩=⟨G ++ [xQ (yX 32 l2 0)],zM 32 l2 0,zN 32 l2 0⟩:=rfl;rw[b7]at b2;obtain⟨d,hd⟩:=eX (xQ (yX 32 l2 0))
      rw[hd]at b2 |-;have I:=m.kept a6 (λx hx=>oS ((m.at_base hx).1));have a9:Below w6.heap.size w6 (w6.alloc (.cells (idC d) 23)):=bA;have f:=I.below a9;have s:z9 (w6.alloc (.cells (idC d) 23)) w6.heap.size 0 32=some (idC d):=by simp[go_sem]
      have c8:w9.heap.size<=w6.heap.size:=oH a6.size;clear hd b7 m I M;go_wp2_with (at_builtin;refine xS yO rfl f rfl s (yN _) oM oM sO ?_;intro e3 T b6 t F H)
      have a7:z8 (blk B1) w6 b6:=z8.trans ((z8.of_below a9).mono (S':=blk B1) sI) F iL;have b0:=q7.kept b9 a7 f8;have d3:z8 [g] w9 b6:=z8.trans (z8.trans a5 a6 iL) a7 (λx hx=>.inr (oH ((f.at_base hx).1)));rw[(sI:G.map idC ++ [idC d]=(G ++ [d]).map idC)]at t;have y:(G ++ [d]).length=G.length+1:=sI;have j:=dH y;clear y a7 F H f s a9 b9;(go_wp2_with fail);go_roundw
      case rel=>exact⟨k2+1,G ++ [d],_,_,e3,T,oM,by go_num,(by rw[j.out]),(by rw[j.out,g6.out]),(by rw[j.out];exact t),b0,b2,d3⟩
      case measure=>exact sZ
     ·have O:q9 l=⟨G,l2,e2⟩:=by
       rw[a4.out,E.out];by_cases he:e2=0
       ·rw[(oM:N2-k2=0)];rfl
       ·exact jY _ _ he
      have r:=dH O;clear O E a4;have e0:=dH (z8.trans b3.out a5 iL);have Y:=dH (b1.out.kept a5 (λx hx=>oS ((g7.out x hx).1)));have X:=dH (m.mono (B':=w.heap.size) e9);clear m a5;by_cases c2:k2<N2
      ·have g0:e2≠0:=oM;have f9:(e2==0)=false:=by simpa using g0
       clear a8;(go_wp2_with fail);refine(xI _ g l2 e2 M).mono ?_;rintro e w5 ⟨rfl,rfl⟩;(go_wp2_with fail);go_ret2;exact⟨_,_,_,_,(by rw[D.out,r.out];rfl),by rw[D.out];exact Y.out,by rw[r.out];exact X.out,by rw[r.out];exact M,e0.out,by rw[D.out];exact e7.out⟩
      ·(go_wp2_with fail);go_ret2;exact⟨_,_,_,_,(by rw[D.out,r.out];rfl),by rw[D.out];exact Y.out,by rw[r.out];exact X.out,by rw[r.out];exact M,e0.out,by rw[D.out];exact e7.out⟩
   ·(go_wp2_with fail);refine(kH _ g l1 e1 hr).mono ?_;rintro e w9 ⟨rfl,c1,c5⟩;have g2:=xL 4 l1 e1;obtain⟨N2,a2⟩:=eX (yZ 4 l1 e1)
    have a4:Hid (q9 l=qF idP N2 ⟨[],zM 4 l1 e1,zN 4 l1 e1⟩):=by show _=_;rw[<-a2];unfold q9;rw[D.out];rfl
    rw[a2]at g2 |-;have J:=L.kept c5 (λx hx=>oS ((L.at_base hx).1));have b3:=dH (z8.trans i3.out c5 iL);have e9:w.heap.size<=w9.heap.size:=b3.out.size;have b1:=dH (J.mono (B':=w.heap.size) oM);have g7:=dH (λx (hx:x∈blk A1)=>J.at_base hx);have i8:=c1.lt;clear a2 L J c5 hr hk h0 c9;(go_wp2_with fail);go_loopw [3,7] (λout i wq=>∃(k:Nat) (G:List zA) (l2:List UInt8) (e2:Int) (B1:Option Addr) (a3:Nat),k<=N2/\i=.int .i64 k/\out=.slice B1 G.length a3/\G.length=k/\Own wq w9.heap.size 23 32 B1 G.length a3 (G.map idC)/\q7 wq g l2 e2/\Hid (qF idP N2 ⟨[],zM 4 l1 e1,zN 4 l1 e1⟩=qF idP (N2-k) ⟨G,l2,e2⟩)/\z8 [g] w9 wq) (λ_ i _=>N2-(intOf i).toNat)
    case atStart=>exact⟨0,[],_,_,none,0,zL,rfl,rfl,rfl,Own.nil _ _ _ _,c1,(show _=_ from rfl),z8.refl _ _⟩
    case round =>
     clear c1;obtain⟨k2,G,l2,e2,B1,a3,f3,rfl,rfl,d8,m,M,E,a5⟩:=hrel;have g6:=dH d8;have i9:G.length<=N2:=oM;clear d8;have e8:=a5.size;by_cases a8:k2<N2/\e2=0
     ·obtain⟨c2,rfl⟩:=a8;have U:=E.out;rw[(oM:N2-k2=(N2-(k2+1))+1),jZ _ _ rfl]at U;have b2:=dH U;clear U E;have f8:g∉blk B1:=λhx=>(oH ((m.at_base hx).1));(go_wp2_with fail);refine(xI _ g l2 0 M).mono ?_;rintro e w5 ⟨rfl,rfl⟩;(go_wp2_with fail);refine(ml_id _ g l2 0 M).mono ?_;rintro e w6 ⟨rfl,b9,a6⟩;have b7:gP idP ⟨G,l2,0⟩=⟨G ++ [xQ (yX 32 l2 0)],zM 32 l2 0,zN 32 l2 0⟩:=rfl;rw[b7]at b2;obtain⟨d,hd⟩:=eX (xQ (yX 32 l2 0))
      rw[hd]at b2 |-;have I:=m.kept a6 (λx hx=>oS ((m.at_base hx).1));have a9:Below w6.heap.size w6 (w6.alloc (.cells (idC d) 23)):=bA;have f:=I.below a9;have s:z9 (w6.alloc (.cells (idC d) 23)) w6.heap.size 0 32=some (idC d):=by simp[go_sem]
      have c8:w9.heap.size<=w6.heap.size:=oH a6.size;clear hd b7 m I M;go_wp2_with (at_builtin;refine xS yO rfl f rfl s (yN _) oM oM sO ?_;intro e3 T b6 t F H)
      have a7:z8 (blk B1) w6 b6:=z8.trans ((z8.of_below a9).mono (S':=blk B1) sI) F iL;have b0:=q7.kept b9 a7 f8;have d3:z8 [g] w9 b6:=z8.trans (z8.trans a5 a6 iL) a7 (λx hx=>.inr (oH ((f.at_base hx).1)));rw[(sI:G.map idC ++ [idC d]=(G ++ [d]).map idC)]at t;have y:(G ++ [d]).length=G.length+1:=sI;have j:=dH y;clear y a7 F H f s a9 b9;(go_wp2_with fail);go_roundw
      case rel=>exact⟨k2+1,G ++ [d],_,_,e3,T,oM,by go_num,(by rw[j.out]),(by rw[j.out,g6.out]),(by rw[j.out];exact t),b0,b2,d3⟩
      case measure=>exact sZ
     ·have O:q9 l=⟨G,l2,e2⟩:=by
       rw[a4.out,E.out];by_cases he:e2=0
       ·rw[(oM:N2-k2=0)];rfl
       ·exact jY _ _ he
      have r:=dH O;clear O E a4;have e0:=dH (z8.trans b3.out a5 iL);have Y:=dH (b1.out.kept a5 (λx hx=>oS ((g7.out x hx).1)));have X:=dH (m.mono (B':=w.heap.size) e9);clear m a5;by_cases c2:k2<N2
      ·have g0:e2≠0:=oM;have f9:(e2==0)=false:=by simpa using g0
       clear a8;(go_wp2_with fail);refine(xI _ g l2 e2 M).mono ?_;rintro e w5 ⟨rfl,rfl⟩;(go_wp2_with fail);go_ret2;exact⟨_,_,_,_,(by rw[D.out,r.out];rfl),by rw[D.out];exact Y.out,by rw[r.out];exact X.out,by rw[r.out];exact M,e0.out,by rw[D.out];exact e7.out⟩
      ·(go_wp2_with fail);go_ret2;exact⟨_,_,_,_,(by rw[D.out,r.out];rfl),by rw[D.out];exact Y.out,by rw[r.out];exact X.out,by rw[r.out];exact M,e0.out,by rw[D.out];exact e7.out⟩
theorem xh{c:α->α->Int}(T:qJ c){L:List α}{x:α}:Ris c (L ++ [x])↔Ris c L/\∀y∈L,c y x<0:=by
 unfold Ris;rw[pairwise_append];constructor
 ·rintro⟨h1,_,h3⟩;exact⟨h1,λy hy=>h3 y hy x sI⟩
 ·rintro⟨h1,h2⟩;exact⟨h1,pairwise_singleton _ _,λy hy z hz=>by rw[mem_singleton]at hz;rw[hz];exact h2 y hy⟩
theorem ris_next{c:α->α->Int}(T:qJ c)(R:List α)(k:Nat)(hk:k+1<R.length):Ris c (R.take (k+2))↔Ris c (R.take (k+1))/\c (R[k]'oM) (R[k+1]'hk)<0:=by
 have e1:R.take (k+2)=R.take (k+1) ++ [R[k+1]'hk]:=by rw[take_add_one,getElem?_eq_getElem hk];rfl
 have e2:R.take (k+1)=R.take k ++ [R[k]'oM]:=by rw[take_add_one,getElem?_eq_getElem oM];rfl
 rw[e1,xh T];constructor
 ·rintro⟨h1,h2⟩;exact⟨h1,h2 _ (by rw[e2];exact mem_append_right _ (mem_singleton.2 rfl))⟩
 ·rintro⟨h1,h2⟩;refine⟨h1,λy hy=>?_⟩;rw[e2]at hy h1;rcases mem_append.1 hy with hy | hy
  ·exact T.trans _ _ _ ((xh T).1 h1 |>.2 y hy) h2
  ·rw[mem_singleton]at hy;rw[hy];exact h2
theorem ris_one{c:α->α->Int}(R:List α)(hk:0<R.length):Ris c (R.take 1):=by
 have e1:R.take 1 = [R[0]'hk]:=by
  cases R with
  | nil=>simp at hk
  | cons a R=>rfl
 rw[e1];exact pairwise_singleton _ _
def J3(R:List qN):Prop:=∃x∈R,¬fB x
def GoodM(l:List UInt8):Prop:=jE (q9 l).l (q9 l).e=0/\kD (q9 l).rows=true/\Ris jU (xT l).rows/\∀x∈(xT l).rows,x.id∉(q9 l).rows
def KR(l:List UInt8)(e:Int):Prop :=
 ((q9 l).e≠0/\e=(q9 l).e)\/((q9 l).e=0/\J3 (xT l).rows/\e=3)\/((q9 l).e=0/\¬J3 (xT l).rows/\((GoodM l/\e=0)\/(¬GoodM l/\e=4)))
theorem mload(w:World)(s:ByteArray)(hs:s.size<=1000000) :
  Calls prog 162 #[.string s] w λe w'=>∃P E,e=.returned (.tuple #[.pointer P,.int .i64 E])/\KR s.data.toList E/\(E=0->∃g bl bo,P=some ⟨g,0,none⟩/\xN w' g bl bo (xT s.data.toList).rows (q9 s.data.toList).rows/\w.heap.size<=g/\w.heap.size<=bl/\w.heap.size<=bo)/\(E≠0->P=none)/\Below w.heap.size w w':=by
 obtain⟨l,hl⟩:=eX s.data.toList
 have p8:l.length<=1000000:=by rw[<-hl];exact hs
 have c0:=dP s w oM;rw[hl]at c0 |-;clear hl;go_enter func162,ntmps162
 (go_wp2_with fail);refine c0.mono ?_;rintro e w1 ⟨rfl,d1,f8⟩;obtain⟨gr,i0⟩:=eX w.heap.size
 have I:=dH i0;rw[i0]at d1 f8 |-;clear i0 c0;(go_wp2_with fail);refine(mlread w1 gr l d1).mono ?_;rintro e w2 ⟨A,cap,B,b6,rfl,hA,hB,b8,g9,f7⟩;have j1:Below gr w w2:=f8.trans (g9.below (oH d1.lt) sI);have q0:=d1.lt;have n9:=f8.size;have o2:=VH (p:=mP) l 0;have o1:=VH (p:=idP) (xT l).l (xT l).e;obtain⟨R,hR⟩:=eX ((xT l).rows)
 obtain⟨G,hG⟩:=eX ((q9 l).rows)
 obtain⟨l2,c2⟩:=eX ((q9 l).l)
 obtain⟨e2,d9⟩:=eX ((q9 l).e)
 have e5:e2=0->R.length<=1000000/\G.length<=1000000:=λh0=>by
  obtain⟨h4,_⟩:=vN nC (show(j2 idP (xT l).l (xT l).e).e=0 from d9.trans h0);have h5:=jQ nC (show(j2 idP (xT l).l (xT l).e).e=0 from d9.trans h0);have h6:=jQ mLaw (show(j2 mP l 0).e=0 from h4);have h7:(q9 l).rows.length+(q9 l).l.length<=(xT l).l.length:=h5;have h8:(xT l).rows.length+(xT l).l.length<=l.length:=h6;rw[hR]at h8;rw[hG]at h7;omega
 have l9:∀E,KR l E↔(e2≠0/\E=e2)\/(e2=0/\J3 R/\E=3)\/(e2=0/\¬J3 R/\(((jE l2 e2=0/\kD G=true/\Ris jU R/\∀x∈R,x.id∉G)/\E=0)\/(¬(jE l2 e2=0/\kD G=true/\Ris jU R/\∀x∈R,x.id∉G)/\E=4))):=λE=>by
  unfold KR GoodM;rw[hR,hG,c2,d9]
 have g2:=dH l9;have k5:=dH e5;have HR:=dH hR;have HG:=dH hG;rw[hR]at hA f7;rw[hG]at hB;rw[c2,d9]at b8;have l8:(Value.tuple #[.slice A (xT l).rows.length cap,.slice B (q9 l).rows.length b6])=.tuple #[.slice A R.length cap,.slice B G.length b6]:=by rw[hR,hG]
 rw[l8];clear hR hG c2 d9 l9 e5 l8 o2 o1 d1 f8 g9;(go_wp2_with fail);refine(xI _ gr l2 e2 b8).mono ?_;rintro e w3 ⟨rfl,rfl⟩;by_cases h0:e2=0
 ·subst h0;obtain⟨p6,p7⟩:=k5.out rfl;have q6:=dH f7;clear f7;(go_wp2_with fail);refine(mnew w2).mono ?_;rintro e w4 ⟨g,bl,bo,rfl,hM,hg,q3,q2,e6⟩;have m7:=hA.below e6;have m3:=hB.below e6;have g1:∀x∈blk A,x<w2.heap.size:=λx hx=>(hA.at_base hx).2;have m4:∀x∈blk B,x<w2.heap.size:=λx hx=>(hB.at_base hx).2;have k8:=b8.below e6;have q1:=b8.lt;have b5:Below gr w w4:=j1.trans (e6.mono oM);have d2:=hM.nel;have a6:=hM.neo;have g7:=hM.ne;have d6:=hM.lt.1;clear hA hB b8 j1 e6;(go_wp2_with fail);go_loopw [28] (λi wr=>∃k:Nat,k<=G.length/\i=.int .i64 k/\jM wr bo (G.take k)/\z8 [bo] w4 wr) (λi _=>G.length-(intOf i).toNat)
  case atStart=>exact⟨0,zL,rfl,hM.over,z8.refl _ _⟩
  case round =>
   obtain⟨k,hk,rfl,ho,f⟩:=hrel;have O:wr.cell? ⟨g,1,none⟩=some (.map (some bo)):=(f.cell (p:=⟨g,1,none⟩) d6 (by simpa using a6)).trans hM.cell1;have g0:=m3.kept f (λx hx=>oS (m4 x hx));by_cases d3:k<G.length
   ·obtain⟨q,o,rfl,H⟩:=zW.get g0.slr d3 d3;have b7:G.take (k+1)=G.take k ++ [G[k]'d3]:=by rw[take_add_one,getElem?_eq_getElem d3];rfl
    obtain⟨x,hx⟩:=eX (G[k]'d3)
    rw[hx]at H b7;have f0:=dH b7;have J:Below wr.heap.size wr (wr.alloc (.cells (idC x) 23)):=bA;have X:=yJ.below ho J;have i6:=(J.cell (p:=⟨g,1,none⟩) (block_lt_of_cell? wr _ O)).trans O;have t:z9 (wr.alloc (.cells (idC x) 23)) wr.heap.size 0 32=some (idC x):=by simp[go_sem]
    have c4:z8 [bo] w4 (wr.alloc (.cells (idC x) 23)):=z8.trans f (z8.of_below J) sI;have i8:bo<wr.heap.size:=ho.lt;clear hx b7;go_upto_region 9 with fail
    obtain⟨gb,d7⟩:=eX wr.heap.size
    obtain⟨W1,e8⟩:=eR (wr.alloc (.cells (idC x) 23))
    rw[<-e8]at X i6 t c4 |-;rw[d7]at t i8 |-;clear e8 d7 H g0 O J ho;obtain⟨w5,a4,l0,d4⟩:=jb (x:=x) (X.kept (z8.drew W1) sI);have i2:g∉[bo]:=by simpa using a6
    refine kX [bo] W1 ?_;intro c1 hS;have b1:=zF i6 i2;have b2:=zY t (S:=[bo]) sO;refine lQ ?_;intro K hK;refine zH (yA hS d4 sI) (λhS=>?_);refine hK _ _ ?_;clear hK K;refine zC ?_;intro hS;have e9:z8 [bo] W1 w5:=hS;have g8:z8 [bo] w4 w5:=z8.trans c4 e9 iL;have f5:jM w5 bo (G.take (k+1)):=yJ.congr l0 (λy=>by rw[f0.out,mem_append,mem_singleton,mem_cons];exact Or.comm);clear b1 b2 c1 hS d4 a4 i6 t l0 e9 X;(go_wp2_with fail);go_roundw
    case rel=>exact⟨k+1,oM,by go_num,f5,g8⟩
    case measure=>exact sZ
   ·have e2:G.take k=G:=take_of_length_le oM;rw[e2]at ho;have c7:=m7.kept f (λx hx=>oS (g1 x hx));have c3:=hM.live.kept f (by simpa using g7);have a8:=(f.block g d6 (by simpa using a6)).trans hM.blk;have k7:=k8.kept f sO;have N:Below gr w wr:=b5.trans (f.below (B:=gr) (by have:=b5.size;have:=I.out;omega) sO);clear e2 O m7 hM k8 b5;(go_wp2_with fail);refine(dD _ gr l2 0 k7).mono ?_;rintro e w6 ⟨rfl,a9⟩;have m2:=g0.below a9;have m6:=c7.below a9;have f5:=yJ.below ho a9;have f6:=yJ.below c3 a9;have M:=(a9.block g (aG a8).1).trans a8;have b0:Below gr w w6:=N.trans (a9.mono (by have:=N.size;have:=I.out;omega));clear g0 c7 ho c3 a8 k7 N a9;(go_wp2_with fail);refine(iU _ B _ b6 G m2.slr oM).mono ?_;rintro e w7 ⟨rfl,c6⟩;have m5:=m6.below c6;have k9:=yJ.below f5 c6;have l4:=yJ.below f6 c6;have Z:=(c6.block g (aG M).1).trans M;have e7:Below gr w w7:=b0.trans (c6.mono (by have:=b0.size;have:=I.out;omega));clear m2 m6 f5 f6 M b0 c6 m3;obtain⟨rb,g6⟩:=eX (kD G)
    obtain⟨E0,f9⟩:=eX (jE l2 0)
    rw[g6,f9];have j7:=dH g6;have n5:=dH f9;have m1:E0=0\/E0=4:=by rw[<-f9];unfold jE;rw[if_pos rfl];split <;> simp
    have n4:=dH m1;clear g6 f9 m1
    go_upto_if 42 with(fail)
    go_cut [10] (λv wx=>wx=w7/\∃e0:Int,v=.int .i64 e0/\Hid (e0=0\/e0=4)/\Hid (e0=0↔(jE l2 0=0/\kD G=true)))
    case first =>
     cases rb with
     | true =>
      go_wp2_with fail
      go_meet
      exact⟨rfl,E0,rfl,n4,(show _↔_ by rw[n5.out,j7.out];simp)⟩
     | false =>
      go_wp2_with fail
      go_meet
      exact⟨rfl,4,rfl,(show _\/_ from .inr rfl),(show _↔_ by rw[j7.out];simp)⟩
    case rest =>
    obtain⟨n8,e0,rfl,p1,f2⟩:=hcut;have g4:=n8.symm;subst g4;have i1:=(aG Z).1;have j3:∀x∈blk A,x<w2.heap.size:=g1;have p2:=dH m5;have o9:=dH k9;have p3:=dH g1;clear m4 g1 j3 n4 j7 n5 m5 k9 f;(go_wp2_with fail);go_loopw [10,11,12,45] (λev _ _ iv wr=>∃(k:Nat) (e1:Int),k<=R.length/\iv=.int .i64 k/\ev=.int .i64 e1/\Y6 wr bl (R.take k)/\Hid (e1=0\/e1=4)/\Hid (e1=0↔((jE l2 0=0/\kD G=true)/\Ris jU (R.take k)/\∀x∈R.take k,x.id∉G))/\Hid (∀x∈R.take k,fB x)/\z8 [bl] w7 wr) (λ_ _ _ iv _=>R.length-(intOf iv).toNat)
    case atStart=>exact⟨0,e0,zL,rfl,rfl,by simpa using l4,p1,(show _↔_ by rw[f2.out];simp[Ris]),(sI:∀x∈R.take 0,_),z8.refl _ _⟩
    case round =>
     clear l4;obtain⟨k2,e1,g9,rfl,rfl,hl,k3,j9,j6,f⟩:=hrel;have N:Below gr w wr:=e7.trans (f.below (B:=gr) (by have:=e7.size;have:=I.out;omega) sO);have d:=(f.block g i1 (by simpa using d2)).trans Z;have b9:=o9.out.kept f (by simpa using λe=>g7 e.symm);by_cases L:k2<R.length
     ·have c7:=(p2.out.kept f (λx hx=>oS (p3.out x hx))).slr;obtain⟨q,o,rfl,H⟩:=SlR.at_ c7 L;rw[getElem_map]at H;have b7:R.take (k2+1)=R.take k2 ++ [R[k2]'L]:=by rw[take_add_one,getElem?_eq_getElem L];rfl
      have f0:=dH b7;have F:Hid (∀(h1:0<k2),z9 wr q (o+(k2-1)*34) 34=some (zQ (R[k2-1]'oM))):=by
       intro h1;obtain⟨q',o',e',d0⟩:=SlR.at_ c7 (oM:k2-1<R.length);injection e' with e';injection e' with o8 o7
       subst o8;subst o7
       rwa [getElem_map]at d0
      obtain⟨x,hx⟩:=eX (R[k2]'L)
      rw[hx]at H;have Hx:=dH hx;have J:Below wr.heap.size wr (wr.alloc (.cells (zQ x) 189)):=bA;have t:z9 (wr.alloc (.cells (zQ x) 189)) wr.heap.size 0 34=some (zQ x):=by simp[go_sem]
      clear hx b7 c7;by_cases T:fB x
      ·obtain⟨c8,p5⟩:=id T;have j4:=dH T;clear T;go_upto_region 17 with fail
       obtain⟨gb,d7⟩:=eX wr.heap.size
       obtain⟨W1,e8⟩:=eR (wr.alloc (.cells (zQ x) 189))
       have c3:=yJ.below hl J;have X:=yJ.below b9 J;have r:=(J.block g (aG d).1).trans d;have c4:z8 [bl] w7 (wr.alloc (.cells (zQ x) 189)):=z8.trans f (z8.of_below J) sI;have i9:bl<wr.heap.size:=hl.lt;have D:Hid (∀(h1:0<k2),z9 (wr.alloc (.cells (zQ x) 189)) q (o+(k2-1)*34) 34=some (zQ (R[k2-1]'oM))):=λh1=>(zG (J.block q (zD (F.out h1))) _ _).trans (F.out h1);rw[<-e8]at c3 X r c4 t D |-;rw[d7]at t i9 |-;clear e8 d7 J hl b9 d f F H N;have x1:=zB t (j:=32) oM;have x2:=zB t (j:=33) oM;rw[iT,Nat.zero_add]at x1;rw[iS,Nat.zero_add]at x2;go_upto_region 19 with fail
       go_cut [80] (λv wx=>∃bb:Bool,v=.bool bb/\Hid (bb=true↔((∃h1:0<k2,0<=jU (R[k2-1]'oM) x)\/x.id∈G))/\Below W1.heap.size W1 wx)
       case first =>
        have i7:W1.cell? ⟨g,1,none⟩=some (.map (some bo)):=by rw[cell_of_row W1 g 1 _ _ _ r];rfl
        have l3:∀z:Subtype (Bel W1),(Instr.lookup 29 (.map (some bo)) (.agg (idC x.id)) false).run prog z.1=.ok (.bool (decide (x.id∈G))) z.1:=λz=>jg (yJ.below X z.2);have a5:z9 W1 gb 0 32=some (idC x.id):=by have:=yD t (j:=0) (m:=32) oM;rwa [XX]at this
        obtain⟨hb,h9⟩:=eX (decide (x.id∈G))
        rw[h9]at l3;have m9:=dH h9;clear h9;by_cases d5:0<k2
        ·have o3:k2-1<R.length:=oM;obtain⟨y,hy⟩:=eX (R[k2-1]'o3)
         have Hy:=dH hy;have f4:=D.out d5;rw[hy]at f4;obtain⟨k1,l7⟩:=eX (k2-1)
         have p9:((k2:Int)-1)=(k1:Int):=oM;have p4:IntKind.i64.wrap (k1:Int)=(k1:Int):=IntWalk.i64_in _ oM;have o5:decide (0<k2)=true:=sO;rw[l7]at f4;have o4:k1<R.length:=oM;have co:=(morder y x W1.drew).mono (R':=λe w'=>e=.returned (.int .i64 (jU y x))/\Below W1.drew.heap.size W1.drew w') (λe w' h=>⟨h.1,h.2.below⟩);obtain⟨c,hc⟩:=eX (jU y x)
         rw[hc]at co;have Hc:=dH hc;have j8:=dH d5;clear hy hc d5 l7;by_cases a7:c<0
         ·have o6:decide (0<=c)=false:=sO;have k4:=dH a7;clear a7;refine lX W1 ?_;intro c1 hS;have b1:=zV f4;have b2:=zV t;have b3:=zJ i7;have b4:=zV a5;refine lZ ?_;refine lC (co) ?_;clear hS;intro w' hS;refine lZ ?_;refine zC ?_;intro hS;go_wp2_with fail
          go_meet
          exact⟨hb,rfl,(show _↔_ by rw[<-m9.out,decide_eq_true_iff];exact⟨.inr,λh=>h.elim (fun ⟨_,h2⟩=>by have h3:=k4.out;rw[<-Hc.out,<-Hy.out]at h3;omega) id⟩),hS⟩
         ·have o6:decide (0<=c)=true:=sO;have k4:=dH a7;have p0:=dH j8.out;clear a7 l3;refine lX W1 ?_;intro c1 hS;have b1:=zV f4;have b2:=zV t;have b3:=zJ i7;have b4:=zV a5;refine lZ ?_;refine lC (co) ?_;clear hS;intro w' hS;refine lZ ?_;refine zC ?_;intro hS;go_wp2_with fail
          go_meet
          exact⟨true,rfl,(show _↔_ from⟨λ_=>.inl ⟨p0.out,by rw[Hy.out,Hc.out];have:=k4.out;omega⟩,λ_=>rfl⟩),hS⟩
        ·have o5:decide (0<k2)=false:=sO;have j8:=dH d5;clear d5;refine lX W1 ?_;intro c1 hS;have b2:=zV t;have b3:=zJ i7;have b4:=zV a5;refine lQ ?_;intro K hK;refine hK _ _ ?_;clear hK K;refine lZ ?_;refine zC ?_;intro hS;go_wp2_with fail
         go_meet
         exact⟨hb,rfl,(show _↔_ by rw[<-m9.out,decide_eq_true_iff];exact⟨.inr,λh=>h.elim (fun ⟨h1,_⟩=>absurd h1 j8.out) id⟩),hS⟩
       case rest =>
       obtain⟨bb,rfl,k6,c5⟩:=hcut;obtain⟨wz,rfl⟩:∃wz,wz=wc:=⟨wc,rfl⟩
       have c2:=yJ.below c3 c5;have o0:=yJ.below X c5;have U:=(c5.block g (aG r).1).trans r;have c9:z9 wz gb 0 34=some (zQ x):=(zG (c5.block gb (zD t)) _ _).trans t;have l6:z8 [bl] w7 wz:=z8.trans c4 (z8.of_below c5) sI;have f1:Hid ((if bb=true then(4:Int)else e1)=0↔((jE l2 0=0/\kD G=true)/\Ris jU (R.take (k2+1))/\∀y∈R.take (k2+1),y.id∉G)):=by
        show _↔_;have g5:Ris jU (R.take (k2+1))↔Ris jU (R.take k2)/\∀h1:0<k2,jU (R[k2-1]'oM) x<0:=by
         rcases Nat.eq_zero_or_pos k2 with h1 | h1
         ·subst h1;exact⟨λ_=>⟨by simp[Ris],λh=>absurd h oM⟩,λ_=>ris_one R oM⟩
         ·obtain⟨j,rfl⟩:∃j,k2=j+1:=⟨k2-1,oM⟩
          have h2:=ris_next YT R j L;rw[Hx.out]at h2;exact h2.trans ⟨λh=>⟨h.1,λ_=>h.2⟩,λh=>⟨h.1,h.2 h1⟩⟩
        rw[g5,f0.out,Hx.out];cases bb with
        | true =>
         have j0:=k6.out.1 rfl;simp only[if_true];refine⟨λh=>oM,λh=>?_⟩;rcases j0 with⟨h1,h2⟩ | h1
         ·have:=h.2.1.2 h1;omega
         ·exact absurd h1 (h.2.2 x sI)
        | false =>
         have Y:¬((∃h1:0<k2,0<=jU (R[k2-1]'oM) x)\/x.id∈G):=λh=>(by have:=k6.out.2 h;cases this);rw[if_neg sI,j9.out];constructor
         ·rintro⟨a1,a2,a3⟩;refine⟨a1,⟨a2,λh1=>Classical.byContradiction λhn=>Y (.inl ⟨h1,oM⟩)⟩,λy hy=>?_⟩;rcases mem_append.1 hy with hy | hy
          ·exact a3 y hy
          ·rw[mem_singleton]at hy;rw[hy];exact λh=>Y (.inr h)
         ·rintro⟨a1,a2,a3⟩;exact⟨a1,a2.1,λy hy=>a3 y (mem_append_left _ hy)⟩
       have a0:Hid ((if bb=true then(4:Int)else e1)=0\/(if bb=true then(4:Int)else e1)=4):=by
        show _\/_;cases bb with
        | true=>exact .inr rfl
        | false=>exact k3.out
       have j5:Hid (∀y∈R.take (k2+1),fB y):=by
        show ∀y∈R.take (k2+1),fB y;intro y hy;rw[f0.out]at hy;rcases mem_append.1 hy with hy | hy
        ·exact j6.out y hy
        ·rw[mem_singleton]at hy;rw[hy,Hx.out];exact j4.out
       obtain⟨e3,i5⟩:∃e3,(if bb=true then(4:Int)else e1)=e3:=⟨_,rfl⟩
       rw[i5]at f1 a0;have n1:=dH i5;clear i5 k6 c5 c3 X r c4 t D k3 j9 j6 x1 x2 o0
       go_upto_if 80 with(fail)
       go_cut [10] (λv wy=>wy=wz/\v=.int .i64 e3)
       case first =>
        cases bb with
        | true =>
         go_wp2_with fail
         go_meet
         exact⟨rfl,by rw[<-n1.out];rfl⟩
        | false =>
         go_wp2_with fail
         go_meet
         exact⟨rfl,by rw[<-n1.out];rfl⟩
       case rest =>
       obtain⟨n7,rfl⟩:=hcut;have g3:=n7.symm;subst g3;have a7:wz.cell? ⟨g,0,none⟩=some (.map (some bl)):=by rw[cell_of_row wz g 0 _ _ _ U];rfl
       obtain⟨w5,a4,l5,d4⟩:=mput (x:=x) (c2.kept (z8.drew wz) sI) j4.out;go_upto_region 21 with fail
       have i3:g∉[bl]:=by simpa using d2
       refine kX [bl] wz ?_;intro c1 hS;have b1:=zF a7 i3;have b2:=zY c9 (S:=[bl]) sO;refine lQ ?_;intro K hK;refine zH (yA hS d4 sI) (λhS=>?_);refine hK _ _ ?_;clear hK K;refine zC ?_;intro hS;have e9:z8 [bl] wz w5:=hS;have f6:Y6 w5 bl (R.take (k2+1)):=yJ.congr l5 (λy=>by rw[f0.out,Hx.out,mem_append,mem_singleton,mem_cons];exact Or.comm);have g8:z8 [bl] w7 w5:=z8.trans l6 e9 iL;clear b1 b2 c1 hS d4 a4 a7 l5 e9 c2 U c9 l6;(go_wp2_with fail);go_roundw
       case rel=>exact⟨k2+1,e3,oM,by go_num,rfl,f6,a0,f1,j5,g8⟩
       case measure=>exact sZ
      ·have j4:=dH T;have f3:Hid (J3 R):=(show ∃x∈R,¬fB x from⟨x,by rw[<-Hx.out];exact getElem_mem _,T⟩)
       have m0:=(g2.out 3).2 (.inr (.inl ⟨sI,f3.out,rfl⟩));have n3:=dH m0;have e4:Below gr w (wr.alloc (.cells (zQ x) 189)):=N.trans (J.mono (by have:=N.size;have:=I.out;omega));have n2:=dH e4;clear m0 e4 hl b9 d f N F;by_cases q5:16<x.key.size
       ·clear T;(go_wp2_with fail);go_ret2;exact⟨none,3,rfl,n3.out,λh=>oM,λ_=>rfl,by rw[I.out];exact n2.out⟩
       ·have q4:16<x.val.size:=by unfold fB at T;omega
        clear T;(go_wp2_with fail);go_ret2;exact⟨none,3,rfl,n3.out,λh=>oM,λ_=>rfl,by rw[I.out];exact n2.out⟩
     ·have e2:R.take k2=R:=take_of_length_le oM;rw[e2]at hl;have i4:=j9.out;have c8:=j6.out;rw[e2]at i4 c8;have l1:¬J3 R:=fun ⟨x,hx,hn⟩=>hn (c8 x hx);have m8:=dH l1;have n0:=dH i4;have j5:=dH c8;have n6:=dH N;clear i4 c8 l1 e2 N;rcases k3.out with h4 | h4
      ·subst h4;have V:=n0.out.1 rfl;have hL:=(g2.out 0).2 (.inr (.inr ⟨sI,m8.out,.inl ⟨⟨V.1.1,V.1.2,V.2.1,V.2.2⟩,rfl⟩⟩));have d8:xN wr g bl bo R G:=⟨d,hl,b9,g7,V.2.1,(YC G).1 V.1.2,j5.out,V.2.2⟩
       have HL:=dH hL;have k0:=dH d8;clear hL d8 V hl b9 d f;(go_wp2_with fail);go_ret2;exact⟨_,0,rfl,HL.out,λ_=>⟨g,rfl,bl,bo,by rw[HR.out,HG.out];exact k0.out,oH I.out,oH I.out,oH I.out⟩,λh=>absurd rfl h,by rw[I.out];exact n6.out⟩
      ·subst h4;have hL:=(g2.out 4).2 (.inr (.inr ⟨sI,m8.out,.inr ⟨λh=>oH (n0.out.2 ⟨⟨h.1,h.2.1⟩,h.2.2.1,h.2.2.2⟩),rfl⟩⟩));have HL:=dH hL;clear hL hl b9 d f;(go_wp2_with fail);go_ret2;exact⟨none,4,rfl,HL.out,λh=>oM,λ_=>rfl,by rw[I.out];exact n6.out⟩
 ·have hb:(e2 != 0)=true:=by simpa using h0
  have hL:=(g2.out e2).2 (.inl ⟨h0,rfl⟩);have HL:=dH hL;have H0:=dH h0;clear hA hB f7 hL h0;(go_wp2_with fail);refine(xI _ gr l2 e2 b8).mono ?_;rintro e w4 ⟨rfl,rfl⟩;(go_wp2_with fail);go_ret2;exact⟨none,e2,rfl,HL.out,λh=>absurd h H0.out,λ_=>rfl,by rw[I.out];exact j1⟩
def GoodS(l:List UInt8):Prop:=(xD l).e=0/\(xD l).l = []/\kD (xD l).rows=true/\Ris vk (yP l).rows/\(∀x∈(yP l).rows,vP x=0)/\ko (yP l).rows
theorem goodS_put{l:List UInt8}(h:GoodS l):putSB (yP l).rows (xD l).rows=l:=by
 obtain⟨h1,h2,h3,h4,_⟩:=h;obtain⟨h5,h6⟩:=vN nC (show(j2 idP (yP l).l (yP l).e).e=0 from h1);obtain⟨_,h7⟩:=vN nLaw (show(j2 nP l 0).e=0 from h5);have h8:xt idP (xD l).rows++(xD l).l=(yP l).l:=h6;rw[h2,append_nil]at h8;have h9:xt nP (yP l).rows++(yP l).l=l:=h7;rw[<-h8]at h9;unfold putSB;have e:sortN (yP l).rows=(yP l).rows:=V6 totM h4;rw[e];exact h9
theorem xE.gone_new{w':World}{M:List Nat}{g bn bb bg:Nat}{G G':List zA}(h:xE w M g bn bb bg N G)(hk:z8 [bg] w w')(hG:jM w' bg G'):xE w' M g bn bb bg N G':=by
 obtain⟨es,m,hn⟩:=h.nodes;obtain⟨BM,k,d,hb,f,j⟩:=h.behind;refine⟨(hk.block g h.ltg (by simpa using h.neg.2.2)).trans h.blk,⟨es,m,hn.kept hk (by simpa using h.ne.2.1)⟩,⟨BM,k,d,hb.kept hk (by simpa using h.ne.2.2),λp hp=>?_,j⟩,hG,h.inM,h.ne,h.one,h.ok⟩;obtain⟨s1,s2⟩:=f p hp;exact⟨s1.kept hk (λx hx hm=>by rw[mem_singleton]at hm;subst hm;exact(s2 x hx).1 h.inM.2.2),λx hx=>⟨(s2 x hx).1,Nat.lt_of_lt_of_le (s2 x hx).2 hk.size⟩⟩
theorem ris_ids(h:Ris vk N)(h1:ko N){i j:Nat}(hj:j<N.length)(hi:i<j):yC (N[i]'oM).id (N[j]'hj).id<0:=by
 have h2:vk (N[i]'oM) (N[j]'hj)<0:=pairwise_iff_getElem.1 h i j oM hj hi;have d:(N[i]'oM).id≠(N[j]'hj).id:=λe=>by
  have:=h1 _ (getElem_mem oM) _ (getElem_mem hj) e;rw[this,(totM.zero _ _).2 rfl]at h2;omega
 have h3:yC (N[i]'oM).id (N[j]'hj).id≠0:=λe=>d ((gD _ _).1 e);unfold vk orC at h2
 rwa [if_neg h3]at h2
theorem sqload_ok(w:World)(s:ByteArray)(hs:s.size<=90000)(V:GoodS s.data.toList)(M0:List Nat)(e8:∀x∈M0,x<w.heap.size) :
  Calls prog 163 #[.string s] w λe w'=>∃g bn bb bg,e=.returned (.tuple #[.pointer (some ⟨g,0,none⟩),.int .i64 0])/\xE w' (M0 ++ [g,bn,bb,bg]) g bn bb bg (yP s.data.toList).rows (xD s.data.toList).rows/\w.heap.size<=g/\w.heap.size<=bn/\w.heap.size<=bb/\w.heap.size<=bg/\Below w.heap.size w w':=by
 obtain⟨l,hl⟩:=eX s.data.toList
 have m4:l.length<=90000:=by rw[<-hl];exact hs
 have c0:=dP s w oM;rw[hl]at c0 V |-;clear hl;go_enter func163,ntmps163
 (go_wp2_with fail);refine c0.mono ?_;rintro e w1 ⟨rfl,a7,c3⟩;obtain⟨gr,d6⟩:=eX w.heap.size
 have L:=dH d6;rw[d6]at a7 c3 e8 |-;clear d6 c0;(go_wp2_with fail);refine(sqread w1 gr l a7).mono ?_;rintro e w2 ⟨A,cap,B,a0,rfl,hA,hB,a6,d5,g7⟩;have h0:Below gr w w2:=c3.trans (d5.below (oH a7.lt) sI);have m6:=a7.lt;have j7:=c3.size;obtain⟨R,hR⟩:=eX ((yP l).rows)
 obtain⟨G,hG⟩:=eX ((xD l).rows)
 obtain⟨g1,g2,g3,g4,g5,g6⟩:=V;have e4:R.length<=90000/\G.length<=90000:=by
  obtain⟨h4,_⟩:=vN nC (show(j2 idP (yP l).l (yP l).e).e=0 from g1);have h5:=jQ nC (show(j2 idP (yP l).l (yP l).e).e=0 from g1);have h6:=jQ nLaw (show(j2 nP l 0).e=0 from h4);have h7:(xD l).rows.length+(xD l).l.length<=(yP l).l.length:=h5;have h8:(yP l).rows.length+(yP l).l.length<=l.length:=h6;rw[hR]at h8;rw[hG]at h7;omega
 obtain⟨m2,m3⟩:=e4;have i4:(Value.tuple #[.slice A (yP l).rows.length cap,.slice B (xD l).rows.length a0])=.tuple #[.slice A R.length cap,.slice B G.length a0]:=by rw[hR,hG]
 rw[i4];rw[hR]at hA g7 g4 g5 g6;rw[hG]at hB g3;rw[g1,g2]at a6;have HR:=dH hR;have HG:=dH hG;have b8:=dH g4;have l4:=dH g5;have b9:=dH g6;have l3:=dH g3;clear hR hG i4 a7 c3 d5 g1 g2 g3 g4 g5 g6 g7;(go_wp2_with fail);refine(xI _ gr [] 0 a6).mono ?_;rintro e w3 ⟨rfl,rfl⟩;(go_wp2_with fail);refine(sqnew w2).mono ?_;rintro e w4 ⟨g,bn,bb,bg,rfl,h9,hg,m9,n1,n0,b4⟩;have a4:xE w4 (M0 ++ [g,bn,bb,bg]) g bn bb bg [] []:=h9 _ sI sI sI;have j3:=hA.below b4;have i9:=hB.below b4;have j4:∀x∈blk A,x<w2.heap.size:=λx hx=>(hA.at_base hx).2;have j0:∀x∈blk B,x<w2.heap.size:=λx hx=>(hB.at_base hx).2;have f5:=a6.below b4;have m8:=a6.lt;have T:Below gr w w4:=h0.trans (b4.mono oM);have i6:∀x∈M0 ++ [g,bn,bb,bg],x<w4.heap.size:=λx hx=>by
  obtain⟨es,l2,hn⟩:=a4.nodes;obtain⟨BM,k9,f1,e6,_⟩:=a4.behind;rcases mem_append.1 hx with hx | hx
  ·have:=e8 x hx;have:=T.size;have:=L.out;omega
  ·have k1:=a4.ltg;have k2:=hn.lt;have k3:=e6.lt;have k4:=a4.gone.lt;simp at hx;rcases hx with rfl | rfl | rfl | rfl <;> omega
 have k7:∀x∈[bn,bb],gr<=x:=by intro x hx;simp at hx;omega
 clear hA hB a6 h0 h9;(go_wp2_with fail);refine(dD _ gr [] 0 f5).mono ?_;rintro e w5 ⟨rfl,a3⟩;have i2:=a4.below a3;have j1:=j3.below a3;have i8:=i9.below a3;have b6:Below gr w w5:=T.trans (a3.mono (by have:=T.size;have:=L.out;omega));have i5:∀x∈M0 ++ [g,bn,bb,bg],x<w5.heap.size:=λx hx=>Nat.lt_of_lt_of_le (i6 x hx) a3.size;have l7:=dH i5;have l9:=dH j1;have l8:=dH i8;have m0:=dH j4;have j5:=dH j0;have g8:jE [] 0=0:=rfl;rw[g8];clear a4 j3 i9 f5 T b4 a3 g8 i6 i5 j1 i8 j4 j0 e8;(go_wp2_with fail);go_loopw [8,9,10,11,31] (λev _ _ _ iv wr=>∃k:Nat,k<=R.length/\iv=.int .i64 k/\ev=.int .i64 0/\xE wr (M0 ++ [g,bn,bb,bg]) g bn bb bg (R.take k) []/\z8 [bn,bb] w5 wr) (λ_ _ _ _ iv _=>R.length-(intOf iv).toNat)
 case atStart=>exact⟨0,zL,rfl,rfl,by simpa using i2,z8.refl _ _⟩
 case round =>
  clear i2;obtain⟨k,hk,rfl,rfl,U,r⟩:=hrel;by_cases M:k<R.length
  ·have f0:=(l9.out.kept r (λx hx=>oS (m0.out x hx))).slr;obtain⟨q,o,rfl,f⟩:=SlR.at_ f0 M;rw[getElem_map]at f;have a1:R.take (k+1)=R.take k ++ [R[k]'M]:=by rw[take_add_one,getElem?_eq_getElem M];rfl
   have f2:=dH a1;have I:Hid (∀(h1:0<k),z9 wr q (o+(k-1)*66) 66=some (nnC (R[k-1]'oM))):=by
    intro h1;obtain⟨q',o',e',a5⟩:=SlR.at_ f0 (oM:k-1<R.length);injection e' with e';injection e' with l1 l0
    subst l1;subst l0
    rwa [getElem_map]at a5
   have l5:Hid (∀(h1:0<k),yC (R[k-1]'oM).id (R[k]'M).id<0):=λh1=>ris_ids b8.out b9.out M oM;have Z:(R[k]'M).id∉(R.take k).map zS.id:=λhm=>by
    obtain⟨a,ha,e⟩:=mem_map.1 hm;obtain⟨j,hj,rfl⟩:=getElem_of_mem ha;have k5:j<k:=by simp at hj;omega
    rw[getElem_take]at e;have:=ris_ids b8.out b9.out M k5;rw[e,(gD _ _).2 rfl]at this;omega
   have hE:=l4.out _ (getElem_mem M);obtain⟨x,hx⟩:=eX (R[k]'M)
   rw[hx]at f Z hE;have Hx:=dH hx;have O:Below wr.heap.size wr (wr.alloc (.cells (nnC x) 303)):=bA;have J:z9 (wr.alloc (.cells (nnC x) 303)) wr.heap.size 0 66=some (nnC x):=by simp[go_sem]
   have e7:=U.below O;have a2:z8 [bn,bb] w5 (wr.alloc (.cells (nnC x) 303)):=z8.trans r (z8.of_below O) sI;have f4:wr.heap.size<(wr.alloc (.cells (nnC x) 303)).heap.size:=sI;clear hx a1 f0;go_upto_region 10 with fail
   obtain⟨gb,a9⟩:=eX wr.heap.size
   obtain⟨W1,b7⟩:=eR (wr.alloc (.cells (nnC x) 303))
   have d:Hid (∀(h1:0<k),z9 (wr.alloc (.cells (nnC x) 303)) q (o+(k-1)*66) 66=some (nnC (R[k-1]'oM))):=λh1=>(zG (O.block q (zD (I.out h1))) _ _).trans (I.out h1);rw[<-b7]at e7 a2 J f4 d |-;have e5:bn<wr.heap.size/\bb<wr.heap.size:=by
    obtain⟨es,l2,hn⟩:=U.nodes;obtain⟨BM,k9,f1,e6,_⟩:=U.behind;exact⟨hn.lt,e6.lt⟩
   rw[a9]at J f4 e5 |-;clear b7 a9 O U r I f;have d0:z9 W1 gb 0 32=some (idC x.id):=by have:=yD J (j:=0) (m:=32) oM;rwa [pY]at this
   have c8:z9 W1 gb 32 34=some (zO (xH x)):=by have:=yD J (j:=32) (m:=34) oM;rwa [XV]at this
   have cc:=BA x.id x rfl W1 (oH ((XT hE).2.1));rw[hE]at cc;(go_wp2_with fail);refine cc.mono ?_;rintro e w6 ⟨rfl,t⟩;have X:=e7.below t;have D:=(zG (t.block gb (zD d0)) _ _).trans d0;have Y:=(zG (t.block gb (zD c8)) _ _).trans c8;have f8:z8 [bn,bb] w5 w6:=z8.trans a2 (z8.of_below t) sI;have H:Hid (∀(h1:0<k),z9 w6 q (o+(k-1)*66) 32=some (idC (R[k-1]'oM).id)):=λh1=>by
    have h2:=(zG (t.block q (zD (d.out h1))) (o+(k-1)*66) 66).trans (d.out h1);have h3:=yD h2 (j:=0) (m:=32) oM
    rwa [pY]at h3
   have j6:=t.size;clear cc e7 d0 c8 a2 d t J;go_upto_region 13 with fail
   go_cut [57] (λv wx=>v=.bool false/\Below w6.heap.size w6 wx)
   case first =>
    by_cases c1:0<k
    ·have j9:k-1<R.length:=oM;obtain⟨y,hy⟩:=eX (R[k-1]'j9)
     have c6:=H.out c1;have c2:=l5.out c1;rw[hy]at c6 c2;rw[Hx.out]at c2;obtain⟨k1,g0⟩:=eX (k-1)
     have m5:((k:Int)-1)=(k1:Int):=oM;have m1:IntKind.i64.wrap (k1:Int)=(k1:Int):=IntWalk.i64_in _ oM;have k6:decide (0<k)=true:=sO;rw[g0]at c6;have k0:k1<R.length:=oM;have co:=aH y.id x.id w6.drew;obtain⟨c,hc⟩:=eX (yC y.id x.id)
     rw[hc]at co c2;have m7:decide (0<=c)=false:=sO;clear hy hc c1 g0 c2;refine lX w6 ?_;intro d2 hS;have b1:=zV c6;have b2:=zV D;refine lZ ?_;refine lC (co) ?_;clear hS;intro w' hS;refine lZ ?_;refine zC ?_;intro hS;go_wp2_with fail
     go_meet
     exact⟨rfl,hS⟩
    ·have k6:decide (0<k)=false:=sO;clear c1;refine lX w6 ?_;intro d2 hS;have b2:=zV D;refine lQ ?_;intro K hK;refine hK _ _ ?_;clear hK K;refine lZ ?_;refine zC ?_;intro hS;go_wp2_with fail
     go_meet
     exact⟨rfl,hS⟩
   case rest =>
   obtain⟨rfl,b3⟩:=hcut;obtain⟨w7,rfl⟩:∃w7,w7=wc:=⟨wc,rfl⟩
   have i1:=X.below b3;have c9:=(zG (b3.block gb (zD D)) _ _).trans D;have c7:=(zG (b3.block gb (zD Y)) _ _).trans Y;have d4:z8 [bn,bb] w5 w7:=z8.trans f8 (z8.of_below b3) sI;have ch:=sqhang x w7 _ g bn bb bg (R.take k) [] i1 (λy hy=>Nat.lt_of_lt_of_le (l7.out y hy) d4.size) Z hE (by rw[length_take];omega);clear X D Y f8 b3 H i1 Z;(go_wp2_with fail);refine ch.mono ?_;rintro e w8 ⟨rfl,i0,f7⟩;have e1:R.take k ++ [x]=R.take (k+1):=by rw[f2.out,Hx.out]
   rw[e1]at i0;have d3:z8 [bn,bb] w5 w8:=z8.trans d4 f7 (λy hy=>.inl hy);clear ch e1 d4 f7 c9 c7;(go_wp2_with fail);go_roundw
   case rel=>exact⟨k+1,oM,by go_num,rfl,i0,d3⟩
   case measure=>exact sZ
  ·have e2:R.take k=R:=take_of_length_le oM;rw[e2]at U;have e9:=l8.out.kept r (λx hx=>oS (j5.out x hx));have e0:Below gr w wr:=b6.trans (r.below (B:=gr) (by have:=b6.size;have:=L.out;omega) k7);have ci:=iU wr B G.length a0 G e9.slr oM;rw[l3.out]at ci;clear e2;(go_wp2_with fail);refine ci.mono ?_;rintro e w6 ⟨rfl,t⟩;have X:=U.below t;have k8:=e9.below t;have b5:Below gr w w6:=e0.trans (t.mono (by have:=e0.size;have:=L.out;omega));have d7:=X.ltg;have a8:=X.neg.2.2;clear ci t e9 e0 U r;(go_wp2_with fail);go_loopw [74] (λi wr=>∃k:Nat,k<=G.length/\i=.int .i64 k/\jM wr bg (G.take k)/\z8 [bg] w6 wr) (λi _=>G.length-(intOf i).toNat)
   case atStart=>exact⟨0,zL,rfl,X.gone,z8.refl _ _⟩
   case round =>
    obtain⟨k2,d5,rfl,ho,r⟩:=hrel;have F:=(r.block g d7 (by simpa using a8)).trans X.blk;have N:wr.cell? ⟨g,2,none⟩=some (.map (some bg)):=by rw[cell_of_row wr g 2 _ _ _ F];rfl
    by_cases E:k2<G.length
    ·have i7:=k8.kept r (λx hx=>oS (j5.out x hx));obtain⟨q,o,rfl,f⟩:=zW.get i7.slr E E;have a1:G.take (k2+1)=G.take k2 ++ [G[k2]'E]:=by rw[take_add_one,getElem?_eq_getElem E];rfl
     obtain⟨x,hx⟩:=eX (G[k2]'E)
     rw[hx]at f a1;have f2:=dH a1;have O:Below wr.heap.size wr (wr.alloc (.cells (idC x) 23)):=bA;have d1:=yJ.below ho O;have d9:=(O.cell (p:=⟨g,2,none⟩) (block_lt_of_cell? wr _ N)).trans N;have J:z9 (wr.alloc (.cells (idC x) 23)) wr.heap.size 0 32=some (idC x):=by simp[go_sem]
     have a2:z8 [bg] w6 (wr.alloc (.cells (idC x) 23)):=z8.trans r (z8.of_below O) sI;have e3:bg<wr.heap.size:=ho.lt;clear hx a1 i7;go_upto_region 22 with fail
     obtain⟨gb,a9⟩:=eX wr.heap.size
     obtain⟨W1,b7⟩:=eR (wr.alloc (.cells (idC x) 23))
     rw[<-b7]at d1 d9 J a2 |-;rw[a9]at J e3 |-;clear b7 a9 f N O ho F;obtain⟨c4,c5,f6,f9⟩:=jb (x:=x) (d1.kept (z8.drew W1) sI);have d8:g∉[bg]:=by simpa using a8
     refine kX [bg] W1 ?_;intro d2 hS;have b1:=zF d9 d8;have b2:=zY J (S:=[bg]) sO;refine lQ ?_;intro K hK;refine zH (yA hS f9 sI) (λhS=>?_);refine hK _ _ ?_;clear hK K;refine zC ?_;intro hS;have i3:z8 [bg] W1 c4:=hS;have d3:z8 [bg] w6 c4:=z8.trans a2 i3 iL;have j8:jM c4 bg (G.take (k2+1)):=yJ.congr f6 (λy=>by rw[f2.out,mem_append,mem_singleton,mem_cons];exact Or.comm);clear b1 b2 d2 hS f9 c5 d9 J f6 i3 d1;(go_wp2_with fail);go_roundw
     case rel=>exact⟨k2+1,oM,by go_num,j8,d3⟩
     case measure=>exact sZ
    ·have e2:G.take k2=G:=take_of_length_le oM;rw[e2]at ho;have b0:=X.gone_new r ho;have g9:Below gr w wr:=b5.trans (r.below (B:=gr) (by have:=b5.size;have:=L.out;omega) (by intro x hx;simp at hx;omega));have f3:=dH b0;have l6:=dH g9;clear e2 ho r F N b0 g9;(go_wp2_with fail);go_ret2;exact⟨g,bn,bb,bg,rfl,by rw[HR.out,HG.out];exact f3.out,oH L.out,oH L.out,oH L.out,oH L.out,by rw[L.out];exact l6.out⟩
end Go.Proofs.YtddopbhcpblpjaaGreatDoor
