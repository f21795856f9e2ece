/- Part 6 of the texts that lead to this claim: the walks of the functions and the plain law, in order. -/
import Derived.Test.YtgfpjjppeldhbaaGreatDoorMv5
import Derived.Test.YtgfpjjppeldhbaaGreatDoorLayGrow
import Derived.LoopN
import Derived.Shelf.SlSortCmp.NoneTotal
namespace Go.Proofs.YtgfpjjppeldhbaaGreatDoor
open Go.RowKit
set_option maxRecDepth 100000
set_option maxHeartbeats 8000000
section
open Go.RowKit
structure fD where
 h:Int
 ref:zE
 val:ByteArray
def zW(x:fD):Array Value:=#[.int .i64 x.h]++idC x.ref ++ #[.string x.val]
@[simp] theorem m9(x:fD):(zW x).size=34:=by simp[zW]
@[go_sem] theorem n0(x:fD):(zW x)[0]?=some (.int .i64 x.h):=by first | (simp[zW,Array.getElem?_append];done) | (rw[show zW x=((#[]:Array Value)) ++ #[.int .i64 x.h]++(idC x.ref ++ #[.string x.val])from by apply Array.ext';simp[zW]];exact qO _ _ _ _ sI)
@[go_sem] theorem sNodeC_gg0(x:fD)(h:0<(zW x).size):(zW x)[0]'h=.int .i64 x.h:=Option.some.inj ((Array.getElem?_eq_getElem h).symm.trans (n0 x))
@[go_sem] theorem fU(x:fD):(zW x).extract 1 33=idC x.ref:=by
 have h:zW x=(#[.int .i64 x.h])++idC x.ref++(#[.string x.val]):=by first | (simp[zW,Array.append_assoc];done) | (apply Array.ext';simp[zW];done)
 rw[h];exact bP _ _ _ _ _ sI sI
@[go_sem] theorem iC(x:fD):(zW x)[33]?=some (.string x.val):=by first | (simp[zW,Array.getElem?_append];done) | (rw[show zW x=(#[.int .i64 x.h]++idC x.ref) ++ #[.string x.val]++((#[]:Array Value))from by apply Array.ext';simp[zW]];exact qO _ _ _ _ sI)
@[go_sem] theorem sNodeC_gg33(x:fD)(h:33<(zW x).size):(zW x)[33]'h=.string x.val:=Option.some.inj ((Array.getElem?_eq_getElem h).symm.trans (iC x))
@[go_sem] theorem sNodeC_all(x:fD):(zW x).extract 0 34=zW x:=by have:=Array.extract_size (xs:=zW x);rwa [m9]at this
theorem iB(x:fD):∀u∈(zW x).toList,u.oneCell'=true:=by
 intro u hu;simp only[zW,Array.toList_append,List.mem_append]at hu;rcases hu with(hu | hu) | hu
 ·simp at hu;subst hu;rfl
 ·exact xG _ u hu
 ·simp at hu;subst hu;rfl
def j8:fD:=⟨0,id0,⟨#[]⟩⟩
theorem vt{x y:fD}(h:x.h=y.h/\x.ref=y.ref/\x.val=y.val):x=y:=by cases x;cases y;simp_all
instance:DecidableEq fD:=λx y=>if h:x.h=y.h/\x.ref=y.ref/\x.val=y.val then isTrue (vt h)else isFalse (λe=>h (by subst e;simp))
theorem YZ:(Tryz.prog.info? 193).map (·.size)=some 34:=kR
@[go_sem ↓] theorem nK(w:World):(zeroValue 193).run Tryz.prog w=.ok (.agg (zW j8)) w:=by
 have h:(Tryz.prog.info? 193).bind (·.zero)=some (.agg (zW j8)):=kR;cases hi:Tryz.prog.info? 193 with
 | none=>rw[hi]at h;cases h
 | some i =>
  rw[hi]at h;have hz:i.zero=some (.agg (zW j8)):=h;simp[zeroValue,typeInfo,hi,hz]
@[go_sem ↓] theorem loadSNode_rw(a:Addr):loadVar 193 a=ldS 193 a:=rfl
@[go_sem ↓] theorem storeSNode_rw(a:Addr)(v:Value):storeVar 193 a v=stS 193 a v:=rfl
@[go_sem] theorem loadSNode_run(w:World)(g o:Nat):(ldS 193 ⟨g,o,none⟩).run Tryz.prog w=match z7 w g o 34 with | some cs=>.ok (.agg cs) w | none=>(loadVar 193 ⟨g,o,none⟩).run Tryz.prog w :=
 vZ Tryz.underlying193 rfl YZ w g o
@[go_sem] theorem dX(w:World)(g:Nat)(hg:g=w.heap.size)(z:Array Value)(hz:z.size=34)(x:fD)(e:TypeId):(stS 193 ⟨g,0,none⟩ (.agg (zW x))).run Tryz.prog (w.alloc (.cells z e))=.ok () (w.alloc (.cells (zW x) e)) :=
 hg ▸ qY YZ w z (zW x) hz (m9 x) (iB x)
theorem VO:Tryz.prog.underlying 193=some (.struct (Tryz.prog.fieldsOf 193)):=kR
theorem JM(w:World):((Tryz.prog.fieldsOf 193).mapM fun (f:Field)=>do pure (f.offset,<-sizeOf f.type)).run Tryz.prog w=.ok #[(0,1),(1,32),(33,1)] w:=kR
@[go_sem ↓] theorem buildSNode_rw(parts:Array (Nat×Value)):Instr.build 193 parts=bdS 193 parts:=rfl
@[go_sem ↓] theorem fieldSNode_0(x:fD)(w:World):(Instr.field 193 (.agg (zW x)) 0).run Tryz.prog w=.ok (.int .i64 x.h) w:=by
 unfold Instr.field;simp only[Sem.run_bind,run_underlying Tryz.underlying193,Result.andThen_ok,part,asAgg,isAgg];simp[go_sem]
@[go_sem ↓] theorem fieldSNode_2(x:fD)(w:World):(Instr.field 193 (.agg (zW x)) 2).run Tryz.prog w=.ok (.string x.val) w:=by
 unfold Instr.field;simp only[Sem.run_bind,run_underlying Tryz.underlying193,Result.andThen_ok,part,asAgg,isAgg];simp[go_sem]
@[go_sem] theorem buildSNode(a0:Int)(a1:zE)(a2:ByteArray)(w:World):(bdS 193 #[(0,.int .i64 a0),(1,.agg (idC a1)),(2,.string a2)]).run Tryz.prog w=.ok (.agg (zW ⟨a0,a1,a2⟩)) w:=by
 refine qP w VO _ (nK w) _ (JM w) [(0,.int .i64 a0),(1,.agg (idC a1)),(2,.string a2)] _ ?_;rw[show zW j8=(#[]:Array Value) ++ #[.int .i64 0]++(idC id0++(#[.string ⟨#[]⟩]))from by first | (simp[zW,j8,Array.append_assoc];done) | (apply Array.ext';simp[zW,j8])];rw[yJ (off:=0) (size:=1) rfl sI sI (by simp[Value.cells])];rw[show(#[]:Array Value)++(Value.int .i64 a0).cells++(idC id0++(#[.string ⟨#[]⟩]))=(#[.int .i64 a0])++idC id0++(#[.string ⟨#[]⟩])from by first | (simp[Value.cells,Array.append_assoc];done) | (apply Array.ext';simp[Value.cells];done) | (apply Array.ext';simp only[Array.toList_append];simp[Value.cells])];rw[yJ (off:=1) (size:=32) rfl sI sI (by simp[Value.cells])];rw[show(#[.int .i64 a0])++(Value.agg (idC a1)).cells++(#[.string ⟨#[]⟩])=(#[.int .i64 a0]++(idC a1)) ++ #[.string ⟨#[]⟩]++(#[]:Array Value)from by first | (simp[Value.cells,Array.append_assoc];done) | (apply Array.ext';simp[Value.cells];done) | (apply Array.ext';simp only[Array.toList_append];simp[Value.cells])];rw[yJ (off:=33) (size:=1) rfl sI sI (by simp[Value.cells])];first | (simp[Instr.fill,zW,Array.append_assoc,Value.cells];done) | (simp only[Instr.fill,zW];congr 1;apply Array.ext';simp[Value.cells];done) | (simp only[Instr.fill,zW];congr 1;done) | (simp only[Instr.fill,zW];done)
def pN(x:fD):Value:=.agg (zW x)
def q4(n:zO):fD:=⟨n.h,n.ref,n.val⟩
structure Sl where
 A:Option Addr
 n:Nat
 c:Nat
def slV(s:Sl):Value:=.slice s.A s.n s.c
structure q7(w:World)(M:List Nat)(g bn bb bg:Nat)(N:List zO)(G:List zE):Prop where
 blk:w.heap[g]?=some (.cells #[.map (some bn),.map (some bb),.map (some bg)] 191 (0,0))
 nodes:∃es clk,qG w bn idV pN gP (N.map λn=>(n.id,q4 n)) es clk
 behind:∃BM es clk,qG w bb idV slV gP BM es clk/\(∀p∈BM,SlW w p.2.A p.2.n p.2.c 32 (((qF N p.1).map zO.id).map idC)/\∀x∈Go.Proofs.YtgfpjjppeldhbaaGreatDoor.blk p.2.A,x∉M/\x<w.heap.size)/\∀r,r∉BM.map (·.1)->qF N r = []
 gone:bK w bg G
 inM:bn∈M/\bb∈M/\bg∈M
 ne:bn≠bb/\bn≠bg/\bb≠bg
 one:s7 N
 ok:∀n∈N,qX n=0
section
variable {w w':World} {M:List Nat} {g bn bb bg:Nat} {N:List zO} {G:List zE}
theorem q7.cell0(h:q7 w M g bn bb bg N G):w.cell? ⟨g,0,none⟩=some (.map (some bn)):=by rw[cell_of_row w g 0 _ _ _ h.blk];rfl
theorem q7.cell1(h:q7 w M g bn bb bg N G):w.cell? ⟨g,1,none⟩=some (.map (some bb)):=by rw[cell_of_row w g 1 _ _ _ h.blk];rfl
theorem q7.cell2(h:q7 w M g bn bb bg N G):w.cell? ⟨g,2,none⟩=some (.map (some bg)):=by rw[cell_of_row w g 2 _ _ _ h.blk];rfl
theorem q7.ltg(h:q7 w M g bn bb bg N G):g<w.heap.size:=(aG h.blk).1
theorem rJ{κ ν:Type}{kv:κ->Value}{vv:ν->Value}{ok:κ->Prop}{w:World}{b g:Nat}{X:List (κ×ν)}{es:Array MapEntry}{d:Nat}{cs:Array Value}{t:TypeId}{f:Nat×Nat}(h:qG w b kv vv ok X es d)(hg:w.heap[g]?=some (.cells cs t f)):g≠b:=by
 rintro rfl;rw[h.heap]at hg;cases hg
theorem q7.neg(h:q7 w M g bn bb bg N G):g≠bn/\g≠bb/\g≠bg:=by
 obtain⟨es,f,hn⟩:=h.nodes;obtain⟨BM,j,d,hb,_⟩:=h.behind;refine⟨rJ hn h.blk,rJ hb h.blk,?_⟩;rintro rfl;obtain⟨M',es,f,hm,_⟩:=h.gone;have:=h.blk.symm.trans hm.heap;cases this
theorem q7.lt(h:q7 w M g bn bb bg N G):bn<w.heap.size/\bb<w.heap.size/\bg<w.heap.size:=by
 obtain⟨es,j,hn⟩:=h.nodes;obtain⟨BM,f,d,hb,_⟩:=h.behind;exact⟨hn.lt,hb.lt,h.gone.lt⟩
theorem q7.kept{S:List Nat}(h:q7 w M g bn bb bg N G)(k:z6 S w w')(hS:∀x∈S,x∈M\/w.heap.size<=x)(hg:g∉S)(h1:bn∉S)(h2:bb∉S)(h3:bg∉S):q7 w' M g bn bb bg N G:=by
 obtain⟨es,s,hn⟩:=h.nodes;obtain⟨BM,r,d,hb,f,m⟩:=h.behind;refine⟨(k.block g h.ltg hg).trans h.blk,⟨es,s,hn.kept k h1⟩,⟨BM,r,d,hb.kept k h2,λp hp=>?_,m⟩,h.gone.kept k h3,h.inM,h.ne,h.one,h.ok⟩;obtain⟨s1,s2⟩:=f p hp;refine⟨?_,λx hx=>⟨(s2 x hx).1,Nat.lt_of_lt_of_le (s2 x hx).2 k.size⟩⟩;refine⟨⟨s1.rd.1,λh0=>?_⟩,s1.le,s1.nil,s1.plain⟩;obtain⟨q,o,e,hc⟩:=s1.rd.2 h0;refine⟨q,o,e,λi hi=>?_⟩;have j:=zD (hc i hi);rw[k.row j (λhm=>(hS q hm).elim (s2 q (by simp[Go.Proofs.YtgfpjjppeldhbaaGreatDoor.blk,e])).1 oM) _ _];exact hc i hi
theorem q7.below(h:q7 w M g bn bb bg N G)(k:Below w.heap.size w w'):q7 w' M g bn bb bg N G:=h.kept (z6.of_below k) sI sI sI sI sI
end
theorem wU(w:World)(g b:Nat)(h:w.cell? ⟨g,0,none⟩=some (.map (some b))):Calls Tryz.prog 203 #[.pointer (some ⟨g,0,none⟩)] w λe w'=>e=.returned (.bool false)/\w=w':=by
 have hn:=λr=>run_eql_map_nil (P:=Tryz.prog) w 188 39 193 r Tryz.underlying188;go_enter Tryz.func203,Tryz.ntmps203
 (go_wp2_with fail);go_ret;exact⟨rfl,rfl⟩
theorem sqnew(w:World):Calls Tryz.prog 119 #[] w λe w'=>∃g bn bb bg,e=.returned (.pointer (some ⟨g,0,none⟩))/\(∀M,bn∈M->bb∈M->bg∈M->q7 w' M g bn bb bg [] [])/\w.heap.size<=g/\w.heap.size<=bn/\w.heap.size<=bb/\w.heap.size<=bg/\Below w.heap.size w w':=by
 have d:=@run_makeMap Tryz.prog;go_enter Tryz.func119,Tryz.ntmps119
 (go_wp2_with fail);go_ret;have k1:=qG.new (kv:=idV) (vv:=pN) (ok:=gP) w w.heap.size rfl;have k2:=qG.new (kv:=idV) (vv:=slV) (ok:=gP) (w.alloc (.map #[] 0)) (w.heap.size+1) sI;have k3:=yS.new (kv:=idV) (ok:=gP) ((w.alloc (.map #[] 0)).alloc (.map #[] 0)) (w.heap.size+2) sI;refine⟨w.heap.size+3,w.heap.size,w.heap.size+1,w.heap.size+2,rfl,λM i1 i2 i3=>⟨?_,⟨_,_,((k1.kept (z6.alloc _ _) sI).kept (z6.alloc _ _) sI).kept (z6.alloc _ _) sI⟩,⟨[],_,_,(k2.kept (z6.alloc _ _) sI).kept (z6.alloc _ _) sI,sI,λr _=>rfl⟩,k3.kept (z6.alloc _ _) sI,⟨i1,i2,i3⟩,oM,λa ha=>by simp at ha,sI⟩,oM,oM,oM,oM,(((bA).alloc sI _).alloc sO _).alloc sO _⟩;have:=heap_alloc_new (((w.alloc (.map #[] 0)).alloc (.map #[] 0)).alloc (.map #[] 0)) (.cells #[.map (some w.heap.size),.map (some (w.heap.size+1)),.map (some (w.heap.size+2))] 191 (0,0));simpa using this
theorem XW(d:zE)(n:zO)(hd:d=n.id)(w:World)(hv:n.val.size<=9223372036854775807) :
  Calls Tryz.prog 214 #[.agg (idC d),.agg (zW (q4 n))] w λe w'=>e=.returned (.int .i64 (qX n))/\Below w.heap.size w w':=by
 subst hd;obtain⟨d,h,ref,val⟩:=n;unfold q4;have hB:Below w.heap.size w ((w.alloc (.cells (idC d) 39)).alloc (.cells (zW ⟨h,ref,val⟩) 193)):=(bA).alloc sI _;have hE:qX ⟨d,h,ref,val⟩=if 16<val.size then 3 else if h<1\/1073741824<h\/d=id0 then 5 else 0:=rfl;have HE:=dH hE;clear hE;dsimp only at *;obtain⟨b,hb⟩:=eX (d==id0)
 have Hb:=dH hb;cases b
 all_goals
  clear hb;go_enter Tryz.func214,Tryz.ntmps214
  go_wp2_with fail
  all_goals
   go_ret;exact⟨yA (by rw[HE.out];have f:=Hb.out;(repeat' split) <;> first | rfl | omega | (simp_all;done) | (simp_all;omega)),hB⟩
theorem hahead(ah:Int)(a:zE)(bh:Int)(b:zE)(w:World) :
  Calls Tryz.prog 113 #[.int .i64 ah,.agg (idC a),.int .i64 bh,.agg (idC b)] w λe w'=>e=.returned (.bool (mT ah a bh b))/\Below w.heap.size w w':=by
 have hB:Below w.heap.size w ((w.alloc (.cells (idC a) 39)).alloc (.cells (idC b) 39)):=(bA).alloc sI _;have hA:mT ah a bh b=if ah=bh then decide (zI a b<0)else decide (ah<bh):=rfl;have HA:=dH hA;clear hA;by_cases h:ah=bh
 ·subst h;go_enter Tryz.func113,Tryz.ntmps113
  (go_wp2_with fail);refine(aY a b _).mono ?_;rintro e w1 ⟨rfl,d⟩;have f:=yE hB d;clear hB d;(go_wp2_with fail);go_ret;exact⟨yF (by rw[HA.out];simp),f⟩
 ·have hn:(ah != bh)=true:=by simpa using h
  have g:(ah==bh)=false:=by simpa using h
  have Hh:=dH h;clear h;go_enter Tryz.func113,Tryz.ntmps113
  (go_wp2_with fail);go_ret;exact⟨yF (by rw[HA.out,if_neg Hh.out]),hB⟩
theorem sqdel(d:zE)(w:World)(M:List Nat)(g bn bb bg:Nat)(N:List zO)(G:List zE)(h:q7 w M g bn bb bg N G) :
  Calls Tryz.prog 143 #[.pointer (some ⟨g,0,none⟩),.agg (idC d)] w λe w'=>e=.returned (.int .i64 0)/\q7 w' M g bn bb bg N (xS zI G d)/\z6 [bg] w w':=by
 have hB:Below w.heap.size w (w.alloc (.cells (idC d) 39)):=bA;have h1:=h.below hB;have hr:z7 (w.alloc (.cells (idC d) 39)) w.heap.size 0 32=some (idC d):=by simp[go_sem]
 have F:=h.lt;go_enter Tryz.func143,Tryz.ntmps143
 go_upto_region 1 with fail
 obtain⟨ga,k⟩:=eX w.heap.size
 have L:=dH k;rw[k]at hr hB F |-;obtain⟨W,hW⟩:=eR (w.alloc (.cells (idC d) 39))
 rw[<-hW]at h1 hr hB |-;clear hW k;(go_wp2_with fail);refine(wU W g bn h1.cell0).mono ?_;rintro e w1 ⟨rfl,rfl⟩;go_upto_region 3 with fail
 have B:=h1.cell2;obtain⟨w2,j,D,y⟩:=jq (x:=d) (h1.gone.kept (z6.drew W) sI);have A:g∉[bg]:=by simpa using h1.neg.2.2
 refine kX [bg] W ?_;intro E hS;have b1:=zP B A;have b2:=y9 hr (S:=[bg]) sO;refine lZ ?_;refine lH ?_;intro K hK;refine zG (xA hS y sI) (λhS=>?_);refine hK _ _ ?_;clear hK K;refine zC ?_;intro hS;have f:z6 [bg] W w2:=hS;obtain⟨es,J,hn⟩:=h1.nodes;obtain⟨BM,I,r,hb,s,t⟩:=h1.behind;have m:q7 w2 M g bn bb bg N (xS zI G d):=by
  refine⟨(f.block g h1.ltg A).trans h1.blk,⟨es,J,hn.kept f (by simpa using h1.ne.2.1)⟩,⟨BM,I,r,hb.kept f (by simpa using h1.ne.2.2),λp hp=>?_,t⟩,yS.congr D (λx=>by rw[qN q6,List.mem_cons]),h1.inM,h1.ne,h1.one,h1.ok⟩;obtain⟨s1,s2⟩:=s p hp;exact⟨s1.kept f (λx hx hm=>by have e:x=bg:=by simpa using hm
                                                                                                                                                                                                                                                                            subst e;exact(s2 x hx).1 h1.inM.2.2),λx hx=>⟨(s2 x hx).1,Nat.lt_of_lt_of_le (s2 x hx).2 f.size⟩⟩
 have H:z6 [bg] w w2:=z6.trans ((z6.of_below (hB.mono (by rw[L.out];exact lR))).mono (S':=[bg]) sI) f iL;clear b1 b2 E hS y j hr B h1 hB D hn hb s t f;(go_wp2_with fail);go_ret;exact⟨rfl,m,H⟩
end
section
open Go.RowKit Go.Shelf
theorem wV{P:Program}{T E:TypeId}{k bytes:Nat}(I:xH P T E k bytes)(w:World)(A:Option Addr)(n cap m:Nat)(hm:m<=cap) :
  (slS T (.slice A n cap) none (some (.int .i64 m)) (some (.int .i64 m))).run P w=.ok (.slice A m m) w:=by
 rw[lD I];unfold Instr.slice Instr.sliceBounds;simp only[Sem.run_bind,run_underlying I.und,Result.andThen_ok,Sem.run_pure,bX w m cap hm,bX w m m lR,I.sizeOf_run w];have e:(if m=0 then A else A.map λa=>a.add (0*k))=A:=by
  split
  ·rfl
  ·cases A with
   | none=>rfl
   | some a=>simp[Addr.add]
 simp only[Nat.sub_zero,e]
theorem grow0(w:World)(n:Nat)(h0:0<n)(hn:n<=1000000) :
  Calls Tryz.prog 297 #[.slice none 0 0,.int .i64 n] w λe w'=>∃A cap,e=.returned (.slice A 0 cap)/\Own w' w.heap.size 39 32 A 0 cap []/\Below w.heap.size w w':=by
 obtain⟨i,z,hi,hz,s,r,m⟩:=xI.info;have c:=Any8.slices_Grow_grow Tryz.layGrowId i z hi hz oM none 0 0 n [] w lR oM (by rw[r];omega) oM sI (λ_=>rfl) sI;have k:Tryz.layGrowId_ren.t 25=39:=rfl;have hG:=grownCap_ge w (0+n) 0 39;have hM:=grownCap_le_maxLen w (0+n) 0 39 (by unfold maxLen;omega);rw[k]at c;obtain⟨G,j⟩:=eX (grownCap w (0+n) 0 39)
 rw[j]at c hG hM;clear j k;refine c.mono ?_;rintro e w' ⟨rfl,rfl⟩;obtain⟨cs,g⟩:=eX (#[]++Builtin.zeroCells z.cells (0+n-0)++Builtin.zeroCells z.cells (G-(0+n)):Array Value)
 have d:cs.size=G*32:=by
  rw[<-g,Array.size_append,Array.size_append,size_zeroCells,size_zeroCells,m];simp only[List.size_toArray,List.length_nil,Nat.zero_add,Nat.sub_zero];rw[<-Nat.add_mul,show n+(G-n)=G from by omega]
 have f:(([]:List Value).toArray++Builtin.zeroCells z.cells (0+n-0)++Builtin.zeroCells z.cells (G-(0+n)):Array Value)=cs:=g;rw[f];refine⟨some ⟨w.heap.size,0,none⟩,G,rfl,⟨⟨rfl,.inr ⟨w.heap.size,G,cs,rfl,lR,heap_alloc_new w.drew _,zL,hM,d,rfl⟩⟩,rfl,sI⟩,((Below.refl _ _).drew).alloc lR _⟩
theorem eP(w:World)(q c0:Nat)(A1 A2 A3:Option Addr)(n1 n2 n3 c1 c2 c3:Nat)(R1 R2 R3:List zE)(h1:zY w A1 n1 R1)(h2:zY w A2 n2 R2)(h3:zY w A3 n3 R3)(f1:A1=none->c1=0)(f2:A2=none->c2=0)(f3:A3=none->c3=0)
  (k0:w.cell? ⟨q,0,none⟩=some (.slice A1 n1 c1))(k1:w.cell? ⟨q,1,none⟩=some (.slice A2 n2 c2))(k2:w.cell? ⟨q,2,none⟩=some (.slice A3 n3 c3))(hp:0<n1+n2+n3)(hn:n1+n2+n3<=1000000) :
  Calls Tryz.prog 264 #[.slice (some ⟨q,0,none⟩) 3 c0] w λe w'=>∃A cap,e=.returned (.slice A (n1+n2+n3) cap)/\Own w' w.heap.size 39 32 A (n1+n2+n3) cap ((R1++R2++R3).map idC)/\Below w.heap.size w w':=by
 have cg:=grow0 w (n1+n2+n3) hp hn;rw[show((n1+n2+n3:Nat):Int)=(n1:Int)+(n2:Int)+(n3:Int)from by omega]at cg;go_enter Tryz.func264,Tryz.ntmps264
 (go_wp2_with fail);refine wp_loop_rounds 4 ?_;rw[rounds_succ];(go_wp2_with fail);rw[rounds_succ];(go_wp2_with fail);rw[rounds_succ];(go_wp2_with fail);rw[rounds_succ];(go_wp2_with fail);refine cg.mono ?_;rintro e w1 ⟨A,cap,rfl,j,hb⟩;have U:=(hb.cell (World.block_lt_of_cell? w _ k0)).trans k0;have X:=(hb.cell (World.block_lt_of_cell? w _ k1)).trans k1;have O:=(hb.cell (World.block_lt_of_cell? w _ k2)).trans k2;have t1:zY w1 A1 n1 R1:=SlR.below h1 hb;have t2:zY w1 A2 n2 R2:=SlR.below h2 hb;have t3:zY w1 A3 n3 R3:=SlR.below h3 hb;have hq:q<w.heap.size:=World.block_lt_of_cell? w _ k0;have D:∀R:List zE,∀r∈R.map idC,∀u∈r.toList,u.oneCell'=true:=λR r hr=>by
  obtain⟨x,_,rfl⟩:=List.mem_map.1 hr;exact xG x
 have a3:=hb.size;have m:=dH D;clear cg D;(go_wp2_with fail);refine wp_loop_rounds 4 ?_;rw[rounds_succ];go_wp2_with (at_builtin;refine yD xI rfl j rfl t1 f1 (m.out _) oM oM oM ?_;intro B1 d1 w2 f H B)
 simp only[Nat.zero_add,List.nil_append]at f;have k:Below w.heap.size w w2:=hb.trans (H.below (oH hb.size) (λx hx=>(j.at_base hx).1));have a1:=k.size;have V:=(k.cell (World.block_lt_of_cell? w _ k1)).trans k1;have N:=(k.cell (World.block_lt_of_cell? w _ k2)).trans k2;have Z:=(k.cell (World.block_lt_of_cell? w _ k0)).trans k0;have L:zY w2 A2 n2 R2:=SlR.below h2 k;clear H B j U X O;rw[rounds_succ];go_wp2_with (at_builtin;refine yD xI rfl f rfl L f2 (m.out _) oM oM oM ?_;intro B3 d3 w3 d G y)
 simp only[<-List.map_append]at d;have s:Below w.heap.size w w3:=k.trans (G.below (oH k.size) (λx hx=>(f.at_base hx).1));have a0:=s.size;have T:=(s.cell (World.block_lt_of_cell? w _ k1)).trans k1;have M:=(s.cell (World.block_lt_of_cell? w _ k2)).trans k2;have Y:=(s.cell (World.block_lt_of_cell? w _ k0)).trans k0;have J:zY w3 A3 n3 R3:=SlR.below h3 s;clear G y f Z V N;rw[rounds_succ];go_wp2_with (at_builtin;refine yD xI rfl d rfl J f3 (m.out _) oM oM oM ?_;intro B4 d4 w4 g F t)
 have I:Below w.heap.size w w4:=s.trans (F.below oM (λx hx=>(d.at_base hx).1));rw[<-List.map_append]at g;have E:=dH g;have a2:=(I.cell (World.block_lt_of_cell? w _ k0)).trans k0;clear F t d Y T M g;rw[rounds_succ];(go_wp2_with fail);go_ret;exact⟨B4,d4,rfl,E.out,I⟩
end
theorem dP(N:List zO)(n:zO)(r:zE):qF (N ++ [n]) r=if n.ref=r then xS fO (qF N r) n else qF N r:=by
 rw[<-jo];exact aC (λx=>by simp[or_comm]) r
theorem rI{κ ν:Type}[DecidableEq κ]{M:List (κ×ν)}{k:κ}{v:ν}{p:κ×ν}(h:p∈m6 M k v):p=(k,v)\/(p∈M/\p.1≠k):=by
 unfold m6 at h;split at h
 ·obtain⟨q,hq,rfl⟩:=List.mem_map.1 h;split
  ·exact .inl rfl
  ·rename_i hne;exact .inr ⟨hq,hne⟩
 ·rename_i hno
  rcases List.mem_append.1 h with h | h
  ·exact .inr ⟨h,λe=>hno (List.mem_map.2 ⟨p,h,e⟩)⟩
  ·exact .inl (by simpa using h)
theorem YX{κ ν:Type}[DecidableEq κ]{M:List (κ×ν)}{k r:κ}{v:ν}(h:r∉(m6 M k v).map (·.1)):r∉M.map (·.1)/\r≠k:=by
 unfold m6 at h;split at h
 ·rename_i hin
  have e:(M.map λp=>if p.1=k then(k,v)else p).map (·.1)=M.map (·.1):=by
   rw[List.map_map];refine List.map_congr_left λp _=>?_;simp only[Function.comp_apply];split
   ·rename_i h;exact h.symm
   ·rfl
  rw[e]at h;exact⟨h,λe=>h (by rw[e];exact hin)⟩
 ·rw[List.map_append,List.mem_append]at h;exact⟨λh1=>h (.inl h1),λe=>h (.inr (by simp[e]))⟩
theorem Y5(w:World):(zeroValue 50).run Tryz.prog w=.ok (.slice none 0 0) w:=kR
theorem blook{w:World}{M:List Nat}{bb:Nat}{N:List zO}{BM:List (zE×Sl)}{es:Array MapEntry}{f:Nat}(hb:qG w bb idV slV gP BM es f)
  (d:∀p∈BM,SlW w p.2.A p.2.n p.2.c 32 (((qF N p.1).map zO.id).map idC)/\∀x∈blk p.2.A,x∉M/\x<w.heap.size)(g:∀r,r∉BM.map (·.1)->qF N r = [])(r:zE) :
  ∃s:Sl,SlW w s.A s.n s.c 32 (((qF N r).map zO.id).map idC)/\(∀x∈blk s.A,x∉M/\x<w.heap.size) /\
   ∀w',qG w' bb idV slV gP BM es f->(Instr.lookup 189 (.map (some bb)) (.agg (idC r)) false).run Tryz.prog w'=.ok (.slice s.A s.n s.c) w':=by
 by_cases h:r∈BM.map (·.1)
 ·obtain⟨p,hp,rfl⟩:=List.mem_map.1 h;exact⟨p.2,(d p hp).1,(d p hp).2,λw' hm=>hm.hit fK Tryz.underlying189 trivial hp false⟩
 ·refine⟨⟨none,0,0⟩,?_,by simp[blk],λw' hm=>hm.miss fK Tryz.underlying189 (Y5 w') trivial h false⟩;rw[g r h];exact SlW.none_
theorem zx{w:World}{bn:Nat}{N:List zO}{es:Array MapEntry}{f:Nat}(hn:qG w bn idV pN gP (N.map λn=>(n.id,q4 n)) es f){y:zO}(hy:y∈N)(d:Bool) :
  (Instr.lookup 188 (.map (some bn)) (.agg (idC y.id)) d).run Tryz.prog w=.ok (if d then .tuple #[.agg (zW (q4 y)),.bool true]else .agg (zW (q4 y))) w :=
 hn.hit fK Tryz.underlying188 trivial (List.mem_map.2 ⟨y,hy,rfl⟩) d
@[go_sem ↓] theorem slIdC_rw(x:Value)(lo hi mx:Option Value):Instr.sliceAt 50 x lo hi mx=slS 50 x lo hi mx:=rfl
@[go_sem ↓] theorem bsIds3_run(w:World)(A B C:Option Addr)(n m k a b c:Nat):(Instr.buildSlice 370 3 #[(0,.slice A n a),(1,.slice B m b),(2,.slice C k c)]).run Tryz.prog w=.ok (.slice (some ⟨w.heap.size,0,none⟩) 3 3) (w.alloc (.cells #[.slice A n a,.slice B m b,.slice C k c] 50)):=kR
theorem sqhang(n:zO)(w:World)(M:List Nat)(g bn bb bg:Nat)(N:List zO)(G:List zE)(h:q7 w M g bn bb bg N G)(hM:∀x∈M,x<w.heap.size)(J:n.id∉N.map zO.id)(hE:qX n=0)(hl:N.length<=100000) :
  Calls Tryz.prog 215 #[.pointer (some ⟨g,0,none⟩),.agg (idC n.id),.agg (zW (q4 n))] w λe w'=>e=.returned (.tuple #[])/\q7 w' M g bn bb bg (N ++ [n]) G/\z6 [bn,bb] w w':=by
 have hB:Below w.heap.size w ((w.alloc (.cells (idC n.id) 39)).alloc (.cells (zW (q4 n)) 193)):=(bA).alloc sI _;have h1:=h.below hB;have f7:z7 ((w.alloc (.cells (idC n.id) 39)).alloc (.cells (zW (q4 n)) 193)) w.heap.size 0 32=some (idC n.id):=by simp[go_sem]
 have e0:z7 ((w.alloc (.cells (idC n.id) 39)).alloc (.cells (zW (q4 n)) 193)) (w.heap.size+1) 0 34=some (zW (q4 n)):=by simp[go_sem]
 have g7:=h.lt;have k8:=h.ltg;go_enter Tryz.func215,Tryz.ntmps215
 go_upto_region 1 with fail
 obtain⟨ga,h4⟩:=eX w.heap.size
 have k3:=dH h4;rw[h4]at f7 e0 hB g7 k8 hM |-;obtain⟨W,hW⟩:=eR ((w.alloc (.cells (idC n.id) 39)).alloc (.cells (zW (q4 n)) 193))
 rw[<-hW]at h1 f7 e0 hB |-;clear hW h4;have g4:z7 W (ga+1) 1 32=some (idC n.ref):=by have:=zX e0 (j:=1) (m:=32) oM;rw[fU]at this;simpa[q4]using this
 have j4:W.cell? ⟨ga+1,0,none⟩=some (.int .i64 n.h):=by have:=z8 e0 (j:=0) oM;rw[n0]at this;simpa[q4]using this
 obtain⟨es,l6,hn⟩:=h1.nodes;obtain⟨BM,l5,l2,hb,j0,j1⟩:=h1.behind;obtain⟨⟨A,sn,sc⟩,f9,g1,a8⟩:=blook hb j0 j1 n.ref;dsimp only at f9 g1 a8;have i1:∀y∈qF N n.ref,y∈N:=λy hy=>(wI.1 hy).1;have j8:=gU N n.ref;have j7:n∉qF N n.ref:=λhm=>J (List.mem_map.2 ⟨n,i1 n hm,rfl⟩);have c5:=h1.cell1;have hk:∀x:Subtype (Bel W),(Instr.lookup 189 (.map (some bb)) (.agg (idC n.ref)) false).run Tryz.prog x.1=.ok (.slice A sn sc) x.1:=λx=>a8 x.1 (hb.kept (z6.of_below x.2) sI);refine lX W ?_;intro L hS;have b1:=zJ c5;have b2:=zU g4;refine lZ ?_;refine zC ?_;intro hS;have i2:Below ga w W.drew:=hB.drew;have h2:q7 W.drew M g bn bb bg N G:=h1.below (yZ W);have j2:=hn.kept (z6.drew W) sI;have Y:=f9.below (yZ W);have O:z7 W.drew ga 0 32=some (idC n.id):=f7;have Z:z7 W.drew (ga+1) 0 34=some (zW (q4 n)):=e0;have g3:z7 W.drew (ga+1) 1 32=some (idC n.ref):=g4;have f2:W.drew.cell? ⟨ga+1,0,none⟩=some (.int .i64 n.h):=j4;clear b1 b2 L hS hk a8 c5 hb j0 j1 hn f9 f7 e0 g4 j4 h1 hB;have c9:(qF N n.ref).length=sn:=by have:=Y.len;simpa using this
 obtain⟨K,hK⟩:=eX (qF N n.ref)
 rw[hK]at Y i1 j8 j7 c9;have HK:=dH hK;have b8:=dH c9;have k5:sn<=100000:=oM;clear hK c9 j8;obtain⟨W1,h9⟩:=eX W.drew
 rw[h9]at i2 h2 j2 Y O Z g3 f2 |-;have f5:W1.heap.size=W.heap.size:=by rw[<-h9];rfl
 rw[<-f5]at g1;clear h9 f5;(go_wp2_with fail);go_loopw [7] (λj wj=>∃m:Nat,m<=sn/\j=.int .i64 m/\Hid (∀i (hi:i<K.length),i<m->fO K[i] n<0)/\Below W1.heap.size W1 wj) (λj _=>sn-(intOf j).toNat)
 case atStart=>exact⟨0,zL,rfl,(show ∀i (hi:i<K.length),i<0->_ from λi _ h=>absurd h oM),Below.refl _ _⟩
 case round =>
  obtain⟨m,c4,rfl,c8,c3⟩:=hrel;have b9:z7 wr ga 0 32=some (idC n.id):=(z9 (c3.block ga (zD O)) _ _).trans O;have d2:wr.cell? ⟨ga+1,0,none⟩=some (.int .i64 n.h):=(c3.cell (p:=⟨ga+1,0,none⟩) (zD Z)).trans f2;have g0:=h2.below c3;have c6:=Y.below c3;by_cases U:m<sn
  ·obtain⟨q,o,rfl,f8⟩:=c6.rd.at_ U;rw[List.getElem_map,List.getElem_map]at f8;have c0:K[m]'(by rw[b8.out];exact U)∈K:=List.getElem_mem _;obtain⟨y,hy⟩:=eX (K[m]'(by rw[b8.out];exact U))
   rw[hy]at f8 c0;have i9:=i1 y c0;have e5:n.id≠y.id:=λe=>J (List.mem_map.2 ⟨y,i9,e.symm⟩);have h5:=aZ (a:=n) (b:=y) e5;have k7:∀x:Subtype (Bel wr),(Instr.lookup 188 (.map (some bn)) (.agg (idC y.id)) false).run Tryz.prog x.1=.ok (.agg (zW ⟨y.h,y.ref,y.val⟩)) x.1:=λx=>zx ((j2.kept (z6.of_below c3) sI).kept (z6.of_below x.2) sI) i9 false;have j5:=g0.cell0;have c2:=hahead n.h n.id y.h y.id wr.drew;obtain⟨c,hc⟩:=eX (mT n.h n.id y.h y.id)
   rw[hc]at c2 h5;have Hy:=dH hy;have k4:=dH h5;have i7:=dH c0;clear hc hy h5 c0 e5;go_upto_region 3 with fail
   refine lX wr ?_;intro L hS;have b1:=zU b9;have b2:=zU f8;have b3:=zJ d2;have b4:=zJ j5;refine lZ ?_;refine lC (c2) ?_;clear hS;intro w' hS;refine lZ ?_;refine zC ?_;intro hS;have j6:Below wr.heap.size wr w':=hS;have R:=yE c3 j6;clear b1 b2 b3 b4 L hS c2 k7 j5;cases c with
   | true =>
    (go_wp2_with fail);go_roundw
    case rel =>
     refine⟨m+1,oM,by go_num,(show ∀i (hi:i<K.length),i<m+1->fO K[i] n<0 from λi hi l4=>?_),R⟩;by_cases e:i=m
     ·subst e;rw[Hy.out];exact of_decide_eq_true k4.out
     ·exact c8.out i hi oM
    case measure=>exact sZ
   | false =>
    have f4:=vE (c:=fO) K n m (by rw[b8.out];exact c4) c8.out (λj3=>by
     rw[Hy.out];have h1:¬fO y n<0:=of_decide_eq_false k4.out;have h2:fO y n≠0:=λe=>j7 (by rw[<-(XT.zero _ _).1 e];exact i7.out);omega)
    have i8:=dH f4;have d:=h2.below R;have f:=Y.below R;have I:z7 w' ga 0 32=some (idC n.id):=(z9 (R.block ga (zD O)) _ _).trans O;have H:z7 w' (ga+1) 0 34=some (zW (q4 n)):=(z9 (R.block (ga+1) (zD Z)) _ _).trans Z;have e3:Below ga w w':=i2.trans (R.mono (oH (zD O)));have e4:=R.size;clear f4 f8 b9 d2 g0 c6 c3 R j6;obtain⟨V,rfl⟩:∃V,V=w':=⟨w',rfl⟩
    obtain⟨A,j9⟩:=eX (some ⟨q,o,none⟩:Option Addr)
    rw[j9]at f g1 |-;clear j9;have a3:z7 V (ga+1) 1 32=some (idC n.ref):=by have:=zX H (j:=1) (m:=32) oM;rw[fU]at this;simpa[q4]using this
    have c5:=d.cell1;have g6:m<=sc:=Nat.le_trans c4 f.le;have g5:∀w0:World,(slS 50 (.slice A sn sc) none (some (.int .i64 m)) (some (.int .i64 m))).run Tryz.prog w0=.ok (.slice A m m) w0:=λw0=>wV xI w0 A sn sc m g6;obtain⟨Ah,ch,h0,f0,h3⟩:=f.hi (P:=Tryz.prog) xI (m:=m) c4;have b0:g∉[bb]:=by simpa using d.neg.2.1
    go_upto_region 5 with fail
    refine kX [bb] V ?_;intro L hS;have b1:=zP c5 b0;have b2:=y9 I (S:=[bb]) sO;have b3:=y9 a3 (S:=[bb]) sO;refine lZ ?_;refine lH ?_;intro K hK;refine zG (xP hS _) (λhS=>?_);refine hK _ _ ?_;clear hK K;refine lZ ?_;refine lH ?_;intro K hK;refine zG (xP hS _) (λhS=>?_);refine hK _ _ ?_;clear hK K;have b6:Below V.heap.size V ((V.alloc (.cells (idC n.id) 39)).alloc (.cells #[.slice A m m,.slice (some ⟨V.heap.size,0,none⟩) 1 1,.slice Ah (sn-m) ch] 50)).drew:=((bA).alloc sI _).drew;have t1:zY ((V.alloc (.cells (idC n.id) 39)).alloc (.cells #[.slice A m m,.slice (some ⟨V.heap.size,0,none⟩) 1 1,.slice Ah (sn-m) ch] 50)).drew A m ((K.map zO.id).take m):=by
     have:=(f.rd.below b6).take_ c4
     rwa [<-List.map_take]at this
    have t3:zY ((V.alloc (.cells (idC n.id) 39)).alloc (.cells #[.slice A m m,.slice (some ⟨V.heap.size,0,none⟩) 1 1,.slice Ah (sn-m) ch] 50)).drew Ah (sn-m) ((K.map zO.id).drop m):=by
     have:=f0 _ (f.rd.below b6)
     rwa [<-List.map_drop]at this
    have t2:zY ((V.alloc (.cells (idC n.id) 39)).alloc (.cells #[.slice A m m,.slice (some ⟨V.heap.size,0,none⟩) 1 1,.slice Ah (sn-m) ch] 50)).drew (some ⟨V.heap.size,0,none⟩) 1 [n.id]:=⟨rfl,λ_=>⟨V.heap.size,0,rfl,λi hi=>by
     have:i=0:=by simpa using hi
     subst this;simp[go_sem]⟩⟩
    have k0:((V.alloc (.cells (idC n.id) 39)).alloc (.cells #[.slice A m m,.slice (some ⟨V.heap.size,0,none⟩) 1 1,.slice Ah (sn-m) ch] 50)).drew.cell? ⟨V.heap.size+1,0,none⟩=some (.slice A m m):=by simp[go_sem]
    have k1:((V.alloc (.cells (idC n.id) 39)).alloc (.cells #[.slice A m m,.slice (some ⟨V.heap.size,0,none⟩) 1 1,.slice Ah (sn-m) ch] 50)).drew.cell? ⟨V.heap.size+1,1,none⟩=some (.slice (some ⟨V.heap.size,0,none⟩) 1 1):=by simp[go_sem]
    have k2:((V.alloc (.cells (idC n.id) 39)).alloc (.cells #[.slice A m m,.slice (some ⟨V.heap.size,0,none⟩) 1 1,.slice Ah (sn-m) ch] 50)).drew.cell? ⟨V.heap.size+1,2,none⟩=some (.slice Ah (sn-m) ch):=by simp[go_sem]
    have h8:((V.alloc (.cells (idC n.id) 39)).alloc (.cells #[.slice A m m,.slice (some ⟨V.heap.size,0,none⟩) 1 1,.slice Ah (sn-m) ch] 50)).drew.heap.size=V.heap.size+2:=by simp[World.drew]
    have k6:=e3.size;have d0:=zD I;obtain⟨X,hX⟩:=eX (((V.alloc (.cells (idC n.id) 39)).alloc (.cells #[.slice A m m,.slice (some ⟨V.heap.size,0,none⟩) 1 1,.slice Ah (sn-m) ch] 50)).drew)
    rw[hX]at b6 t1 t2 t3 k0 k1 k2 h8 hS |-;clear hX;have cc:=eP X (V.heap.size+1) 3 A (some ⟨V.heap.size,0,none⟩) Ah m 1 (sn-m) m 1 ch _ _ _ t1 t2 t3 (λe=>oH (f.nil e)) (λe=>by cases e) h3 k0 k1 k2 oM oM;refine lZ ?_;refine lH ?_;intro K hK;refine cc.mono ?_;rintro e wC ⟨A5,T,rfl,t,d7⟩;replace hS:=rO hS d7;refine⟨_,rfl,hS,hK _ _ ?_⟩;clear hK K cc k0 k1 k2 t1 t2 t3;have k9:z6 [bb] V wC:=hS;obtain⟨l3,l1,i6,h6,a2,a7⟩:=d.behind;have f6:=yE b6 d7;have f3:=h6.kept (z6.of_below f6) sI;have i0:((K.map zO.id).take m ++ [n.id]++(K.map zO.id).drop m)=(xS fO K n).map zO.id:=by rw[i8.out];simp[List.map_take,List.map_drop]
    rw[i0]at t;have a1:=t.slw;have E:∀x∈blk A5,x∉M/\x<wC.heap.size:=λx hx=>by
     obtain⟨h1,h2⟩:=t.at_base hx;exact⟨λhm=>oH (hM x hm),h2⟩
    obtain⟨wD,i4,d9,s,e8,c1⟩:=f3.update (P:=Tryz.prog) (v:=(⟨A5,m+1+(sn-m),T⟩:Sl)) fK Tryz.underlying189 (k:=n.ref) trivial;change (Instr.mapUpdate 189 (.map (some bb)) (.agg (idC n.ref)) (.slice A5 (m+1+(sn-m)) T)).run Tryz.prog wC=.ok () wD at s;refine lH ?_;intro K hK;refine zG (xA hS c1 sI) (λhS=>?_);refine hK _ _ ?_;clear hK K;refine zC ?_;intro hS;have D:z6 [bb] V wD:=hS;have B:=(D.block g d.ltg b0).trans d.blk;have d3:bn∉[bb]:=by simpa using d.ne.1
    have d5:bg∉[bb]:=by simpa using λe=>d.ne.2.2 e.symm
    obtain⟨l0,i5,e6⟩:=d.nodes;have e7:=e6.kept D d3;have f1:=d.gone.kept D d5;have a0:SlW wD A5 (m+1+(sn-m)) T 32 (((xS fO K n).map zO.id).map idC):=a1.kept c1 (λx hx hm=>by
     have e:x=bb:=by simpa using hm
     subst e;exact(E _ hx).1 d.inM.2.1)
    have a5:z7 wD ga 0 32=some (idC n.id):=(D.row d0 sO _ _).trans I;have a4:z7 wD (ga+1) 0 34=some (zW (q4 n)):=(D.row (zD H) sO _ _).trans H;have b5:wD.cell? ⟨g,0,none⟩=some (.map (some bn)):=by rw[cell_of_row wD g 0 _ _ _ B];rfl
    have g2:=D.size;clear b1 b2 b3 L hS s f3 e6 a1 d7 b6 f6 g5 h0 f0 a3 c5;go_upto_region 6 with fail
    obtain⟨wE,i3,d8,s,c7,e9⟩:=(e7.kept (z6.drew wD) sI).update (P:=Tryz.prog) (v:=q4 n) fK Tryz.underlying188 (k:=n.id) trivial;change (Instr.mapUpdate 188 (.map (some bn)) (.agg (idC n.id)) (.agg (zW (q4 n)))).run Tryz.prog wD.drew=.ok () wE at s;have a9:g∉[bn]:=by simpa using d.neg.1
    refine kX [bn] wD ?_;intro L hS;have b1:=zP b5 a9;have b2:=y9 a5 (S:=[bn]) sO;have b3:=y9 a4 (S:=[bn]) sO;refine lZ ?_;refine lH ?_;intro K hK;refine zG (xA hS e9 sI) (λhS=>?_);refine hK _ _ ?_;clear hK K;refine zC ?_;intro hS;have F:z6 [bn] wD wE:=hS;have a6:m6 (N.map λn=>(n.id,q4 n)) n.id (q4 n)=(N ++ [n]).map λn=>(n.id,q4 n):=by
     unfold m6;rw[if_neg (by rw[List.map_map];exact J),List.map_append];rfl
    rw[a6]at c7;have d4:bb∉[bn]:=by simpa using λe=>d.ne.1 e.symm
    have d6:bg∉[bn]:=by simpa using λe=>d.ne.2.1 e.symm
    have d1:q7 wE M g bn bb bg (N ++ [n]) G:=by
     refine⟨(F.block g (oH d.ltg) a9).trans B,⟨i3,d8,c7⟩,⟨_,i4,d9,e8.kept F d4,λp hp=>?_,λr hr=>?_⟩,f1.kept F d6,d.inM,d.ne,?_,?_⟩
     ·rcases rI hp with e | ⟨hp,L⟩
      ·subst e;dsimp only;have g8:qF (N ++ [n]) n.ref=xS fO (qF N n.ref) n:=by rw[dP,if_pos rfl]
       rw[g8,HK.out];exact⟨a0.kept F (λx hx hm=>by
        have e:x=bn:=by simpa using hm
        subst e;exact(E _ hx).1 d.inM.1),λx hx=>⟨(E x hx).1,Nat.lt_of_lt_of_le (E x hx).2 (Nat.le_trans c1.size F.size)⟩⟩
      ·obtain⟨s1,s2⟩:=a2 p hp;rw[dP,if_neg (λe=>L e.symm)];refine⟨(s1.kept D (λx hx hm=>?_)).kept F (λx hx hm=>?_),λx hx=>⟨(s2 x hx).1,Nat.lt_of_lt_of_le (s2 x hx).2 (Nat.le_trans D.size F.size)⟩⟩
       ·have e:x=bb:=by simpa using hm
        subst e;exact(s2 _ hx).1 d.inM.2.1
       ·have e:x=bn:=by simpa using hm
        subst e;exact(s2 _ hx).1 d.inM.1
     ·obtain⟨h1,h2⟩:=YX hr;rw[dP,if_neg (λe=>h2 e.symm)];exact a7 r h1
     ·intro a ha b h7 e;rcases List.mem_append.1 ha with ha1 | ha1 <;> rcases List.mem_append.1 h7 with b7 | b7
      ·exact d.one a ha1 b b7 e
      ·have e2:b=n:=by simpa using b7
       rw[e2]at e;exact absurd (List.mem_map.2 ⟨a,ha1,e⟩) J
      ·have e2:a=n:=by simpa using ha1
       rw[e2]at e;exact absurd (List.mem_map.2 ⟨b,b7,e.symm⟩) J
      ·have e1:a=n:=by simpa using ha1
       have e2:b=n:=by simpa using b7
       rw[e1,e2]
     ·intro x hx;rcases List.mem_append.1 hx with hx | hx
      ·exact d.ok x hx
      ·have e:x=n:=by simpa using hx
       rw[e];exact hE
    have g9:z6 [bn,bb] w wE:=z6.trans (z6.trans ((z6.of_below (e3.mono (by rw[k3.out];exact lR))).mono (S':=[bn,bb]) sI) (D.mono (S':=[bn,bb]) sI) iL) (F.mono (S':=[bn,bb]) sI) iL;clear b1 b2 b3 L hS e9 c1 s c7 e8 e7 f1 a0 a5 a4 b5 B a2 a7 F D d a6;(go_wp2_with fail);go_end0;exact⟨rfl,d1,g9⟩
  ·have hd:decide (m<sn)=false:=by simpa using U
   have f4:=vE (c:=fO) K n m (by rw[b8.out];exact c4) c8.out (λj3=>absurd (by rw[<-b8.out];exact j3) U);have i8:=dH f4;clear f4;go_upto_region 3 with fail
   refine lX wr ?_;intro L hS;refine lZ ?_;refine lH ?_;intro K hK;refine hK _ _ ?_;clear hK K;refine lZ ?_;refine zC ?_;intro hS;have R:=c3.drew;have d:=h2.below R;have f:=Y.below R;have I:z7 wr.drew ga 0 32=some (idC n.id):=b9;have H:z7 wr.drew (ga+1) 0 34=some (zW (q4 n)):=(z9 (R.block (ga+1) (zD Z)) _ _).trans Z;have e3:Below ga w wr.drew:=i2.trans (R.mono (oH (zD O)));have e4:=R.size;clear L hS R c3 U hd g0 c6 d2 b9;obtain⟨V,hV⟩:=eX wr.drew
   rw[hV]at d f I H e3 e4 |-;clear hV;have a3:z7 V (ga+1) 1 32=some (idC n.ref):=by have:=zX H (j:=1) (m:=32) oM;rw[fU]at this;simpa[q4]using this
   have c5:=d.cell1;have g6:m<=sc:=Nat.le_trans c4 f.le;have g5:∀w0:World,(slS 50 (.slice A sn sc) none (some (.int .i64 m)) (some (.int .i64 m))).run Tryz.prog w0=.ok (.slice A m m) w0:=λw0=>wV xI w0 A sn sc m g6;obtain⟨Ah,ch,h0,f0,h3⟩:=f.hi (P:=Tryz.prog) xI (m:=m) c4;have b0:g∉[bb]:=by simpa using d.neg.2.1
   go_upto_region 5 with fail
   refine kX [bb] V ?_;intro L hS;have b1:=zP c5 b0;have b2:=y9 I (S:=[bb]) sO;have b3:=y9 a3 (S:=[bb]) sO;refine lZ ?_;refine lH ?_;intro K hK;refine zG (xP hS _) (λhS=>?_);refine hK _ _ ?_;clear hK K;refine lZ ?_;refine lH ?_;intro K hK;refine zG (xP hS _) (λhS=>?_);refine hK _ _ ?_;clear hK K;have b6:Below V.heap.size V ((V.alloc (.cells (idC n.id) 39)).alloc (.cells #[.slice A m m,.slice (some ⟨V.heap.size,0,none⟩) 1 1,.slice Ah (sn-m) ch] 50)).drew:=((bA).alloc sI _).drew;have t1:zY ((V.alloc (.cells (idC n.id) 39)).alloc (.cells #[.slice A m m,.slice (some ⟨V.heap.size,0,none⟩) 1 1,.slice Ah (sn-m) ch] 50)).drew A m ((K.map zO.id).take m):=by
    have:=(f.rd.below b6).take_ c4
    rwa [<-List.map_take]at this
   have t3:zY ((V.alloc (.cells (idC n.id) 39)).alloc (.cells #[.slice A m m,.slice (some ⟨V.heap.size,0,none⟩) 1 1,.slice Ah (sn-m) ch] 50)).drew Ah (sn-m) ((K.map zO.id).drop m):=by
    have:=f0 _ (f.rd.below b6)
    rwa [<-List.map_drop]at this
   have t2:zY ((V.alloc (.cells (idC n.id) 39)).alloc (.cells #[.slice A m m,.slice (some ⟨V.heap.size,0,none⟩) 1 1,.slice Ah (sn-m) ch] 50)).drew (some ⟨V.heap.size,0,none⟩) 1 [n.id]:=⟨rfl,λ_=>⟨V.heap.size,0,rfl,λi hi=>by
    have:i=0:=by simpa using hi
    subst this;simp[go_sem]⟩⟩
   have k0:((V.alloc (.cells (idC n.id) 39)).alloc (.cells #[.slice A m m,.slice (some ⟨V.heap.size,0,none⟩) 1 1,.slice Ah (sn-m) ch] 50)).drew.cell? ⟨V.heap.size+1,0,none⟩=some (.slice A m m):=by simp[go_sem]
   have k1:((V.alloc (.cells (idC n.id) 39)).alloc (.cells #[.slice A m m,.slice (some ⟨V.heap.size,0,none⟩) 1 1,.slice Ah (sn-m) ch] 50)).drew.cell? ⟨V.heap.size+1,1,none⟩=some (.slice (some ⟨V.heap.size,0,none⟩) 1 1):=by simp[go_sem]
   have k2:((V.alloc (.cells (idC n.id) 39)).alloc (.cells #[.slice A m m,.slice (some ⟨V.heap.size,0,none⟩) 1 1,.slice Ah (sn-m) ch] 50)).drew.cell? ⟨V.heap.size+1,2,none⟩=some (.slice Ah (sn-m) ch):=by simp[go_sem]
   have h8:((V.alloc (.cells (idC n.id) 39)).alloc (.cells #[.slice A m m,.slice (some ⟨V.heap.size,0,none⟩) 1 1,.slice Ah (sn-m) ch] 50)).drew.heap.size=V.heap.size+2:=by simp[World.drew]
   have k6:=e3.size;have d0:=zD I;obtain⟨X,hX⟩:=eX (((V.alloc (.cells (idC n.id) 39)).alloc (.cells #[.slice A m m,.slice (some ⟨V.heap.size,0,none⟩) 1 1,.slice Ah (sn-m) ch] 50)).drew)
   rw[hX]at b6 t1 t2 t3 k0 k1 k2 h8 hS |-;clear hX;have cc:=eP X (V.heap.size+1) 3 A (some ⟨V.heap.size,0,none⟩) Ah m 1 (sn-m) m 1 ch _ _ _ t1 t2 t3 (λe=>oH (f.nil e)) (λe=>by cases e) h3 k0 k1 k2 oM oM;refine lZ ?_;refine lH ?_;intro K hK;refine cc.mono ?_;rintro e wC ⟨A5,T,rfl,t,d7⟩;replace hS:=rO hS d7;refine⟨_,rfl,hS,hK _ _ ?_⟩;clear hK K cc k0 k1 k2 t1 t2 t3;have k9:z6 [bb] V wC:=hS;obtain⟨l3,l1,i6,h6,a2,a7⟩:=d.behind;have f6:=yE b6 d7;have f3:=h6.kept (z6.of_below f6) sI;have i0:((K.map zO.id).take m ++ [n.id]++(K.map zO.id).drop m)=(xS fO K n).map zO.id:=by rw[i8.out];simp[List.map_take,List.map_drop]
   rw[i0]at t;have a1:=t.slw;have E:∀x∈blk A5,x∉M/\x<wC.heap.size:=λx hx=>by
    obtain⟨h1,h2⟩:=t.at_base hx;exact⟨λhm=>oH (hM x hm),h2⟩
   obtain⟨wD,i4,d9,s,e8,c1⟩:=f3.update (P:=Tryz.prog) (v:=(⟨A5,m+1+(sn-m),T⟩:Sl)) fK Tryz.underlying189 (k:=n.ref) trivial;change (Instr.mapUpdate 189 (.map (some bb)) (.agg (idC n.ref)) (.slice A5 (m+1+(sn-m)) T)).run Tryz.prog wC=.ok () wD at s;refine lH ?_;intro K hK;refine zG (xA hS c1 sI) (λhS=>?_);refine hK _ _ ?_;clear hK K;refine zC ?_;intro hS;have D:z6 [bb] V wD:=hS;have B:=(D.block g d.ltg b0).trans d.blk;have d3:bn∉[bb]:=by simpa using d.ne.1
   have d5:bg∉[bb]:=by simpa using λe=>d.ne.2.2 e.symm
   obtain⟨l0,i5,e6⟩:=d.nodes;have e7:=e6.kept D d3;have f1:=d.gone.kept D d5;have a0:SlW wD A5 (m+1+(sn-m)) T 32 (((xS fO K n).map zO.id).map idC):=a1.kept c1 (λx hx hm=>by
    have e:x=bb:=by simpa using hm
    subst e;exact(E _ hx).1 d.inM.2.1)
   have a5:z7 wD ga 0 32=some (idC n.id):=(D.row d0 sO _ _).trans I;have a4:z7 wD (ga+1) 0 34=some (zW (q4 n)):=(D.row (zD H) sO _ _).trans H;have b5:wD.cell? ⟨g,0,none⟩=some (.map (some bn)):=by rw[cell_of_row wD g 0 _ _ _ B];rfl
   have g2:=D.size;clear b1 b2 b3 L hS s f3 e6 a1 d7 b6 f6 g5 h0 f0 a3 c5;go_upto_region 6 with fail
   obtain⟨wE,i3,d8,s,c7,e9⟩:=(e7.kept (z6.drew wD) sI).update (P:=Tryz.prog) (v:=q4 n) fK Tryz.underlying188 (k:=n.id) trivial;change (Instr.mapUpdate 188 (.map (some bn)) (.agg (idC n.id)) (.agg (zW (q4 n)))).run Tryz.prog wD.drew=.ok () wE at s;have a9:g∉[bn]:=by simpa using d.neg.1
   refine kX [bn] wD ?_;intro L hS;have b1:=zP b5 a9;have b2:=y9 a5 (S:=[bn]) sO;have b3:=y9 a4 (S:=[bn]) sO;refine lZ ?_;refine lH ?_;intro K hK;refine zG (xA hS e9 sI) (λhS=>?_);refine hK _ _ ?_;clear hK K;refine zC ?_;intro hS;have F:z6 [bn] wD wE:=hS;have a6:m6 (N.map λn=>(n.id,q4 n)) n.id (q4 n)=(N ++ [n]).map λn=>(n.id,q4 n):=by
    unfold m6;rw[if_neg (by rw[List.map_map];exact J),List.map_append];rfl
   rw[a6]at c7;have d4:bb∉[bn]:=by simpa using λe=>d.ne.1 e.symm
   have d6:bg∉[bn]:=by simpa using λe=>d.ne.2.1 e.symm
   have d1:q7 wE M g bn bb bg (N ++ [n]) G:=by
    refine⟨(F.block g (oH d.ltg) a9).trans B,⟨i3,d8,c7⟩,⟨_,i4,d9,e8.kept F d4,λp hp=>?_,λr hr=>?_⟩,f1.kept F d6,d.inM,d.ne,?_,?_⟩
    ·rcases rI hp with e | ⟨hp,L⟩
     ·subst e;dsimp only;have g8:qF (N ++ [n]) n.ref=xS fO (qF N n.ref) n:=by rw[dP,if_pos rfl]
      rw[g8,HK.out];exact⟨a0.kept F (λx hx hm=>by
       have e:x=bn:=by simpa using hm
       subst e;exact(E _ hx).1 d.inM.1),λx hx=>⟨(E x hx).1,Nat.lt_of_lt_of_le (E x hx).2 (Nat.le_trans c1.size F.size)⟩⟩
     ·obtain⟨s1,s2⟩:=a2 p hp;rw[dP,if_neg (λe=>L e.symm)];refine⟨(s1.kept D (λx hx hm=>?_)).kept F (λx hx hm=>?_),λx hx=>⟨(s2 x hx).1,Nat.lt_of_lt_of_le (s2 x hx).2 (Nat.le_trans D.size F.size)⟩⟩
      ·have e:x=bb:=by simpa using hm
       subst e;exact(s2 _ hx).1 d.inM.2.1
      ·have e:x=bn:=by simpa using hm
       subst e;exact(s2 _ hx).1 d.inM.1
    ·obtain⟨h1,h2⟩:=YX hr;rw[dP,if_neg (λe=>h2 e.symm)];exact a7 r h1
    ·intro a ha b h7 e;rcases List.mem_append.1 ha with ha1 | ha1 <;> rcases List.mem_append.1 h7 with b7 | b7
     ·exact d.one a ha1 b b7 e
     ·have e2:b=n:=by simpa using b7
      rw[e2]at e;exact absurd (List.mem_map.2 ⟨a,ha1,e⟩) J
     ·have e2:a=n:=by simpa using ha1
      rw[e2]at e;exact absurd (List.mem_map.2 ⟨b,b7,e.symm⟩) J
     ·have e1:a=n:=by simpa using ha1
      have e2:b=n:=by simpa using b7
      rw[e1,e2]
    ·intro x hx;rcases List.mem_append.1 hx with hx | hx
     ·exact d.ok x hx
     ·have e:x=n:=by simpa using hx
      rw[e];exact hE
   have g9:z6 [bn,bb] w wE:=z6.trans (z6.trans ((z6.of_below (e3.mono (by rw[k3.out];exact lR))).mono (S':=[bn,bb]) sI) (D.mono (S':=[bn,bb]) sI) iL) (F.mono (S':=[bn,bb]) sI) iL;clear b1 b2 b3 L hS e9 c1 s c7 e8 e7 f1 a0 a5 a4 b5 B a2 a7 F D d a6;(go_wp2_with fail);go_end0;exact⟨rfl,d1,g9⟩
def s6(N:List zO)(n:zO):List zO:=if qX n=0 then(if n.id∈N.map zO.id then N else N ++ [n])else N
@[go_sem] theorem XL(w:World):(zeroValue 193).run Tryz.prog w=.ok (.agg (zW j8)) w:=kR
theorem sqinsert(n:zO)(w:World)(M:List Nat)(g bn bb bg:Nat)(N:List zO)(G:List zE)(h:q7 w M g bn bb bg N G)(hM:∀x∈M,x<w.heap.size)(hv:n.val.size<=9223372036854775807)(hl:N.length<=100000) :
  Calls Tryz.prog 142 #[.pointer (some ⟨g,0,none⟩),.agg (idC n.id),.int .i64 n.h,.agg (idC n.ref),.string n.val] w λe w'=>e=.returned (.int .i64 (qX n))/\q7 w' M g bn bb bg (s6 N n) G/\z6 [bn,bb] w w':=by
 have A:Below w.heap.size w (((w.alloc (.cells (idC n.id) 39)).alloc (.cells (idC n.ref) 39)).alloc (.cells (zW ⟨n.h,n.ref,n.val⟩) 193)):=((bA).alloc sI _).alloc sO _;have h0:=h.below A;have F:z7 (((w.alloc (.cells (idC n.id) 39)).alloc (.cells (idC n.ref) 39)).alloc (.cells (zW ⟨n.h,n.ref,n.val⟩) 193)) w.heap.size 0 32=some (idC n.id):=by simp[go_sem];intro e;omega
 have D:z7 (((w.alloc (.cells (idC n.id) 39)).alloc (.cells (idC n.ref) 39)).alloc (.cells (zW ⟨n.h,n.ref,n.val⟩) 193)) (w.heap.size+2) 0 34=some (zW ⟨n.h,n.ref,n.val⟩):=by simp[go_sem]
 have H:((w.alloc (.cells (idC n.id) 39)).alloc (.cells (idC n.ref) 39)).cell? ⟨g,0,none⟩=some (.map (some bn)):=((((Below.refl w.heap.size w).alloc lR (.cells (idC n.id) 39)).alloc sI (.cells (idC n.ref) 39)).cell (p:=⟨g,0,none⟩) h.ltg).trans h.cell0;have a2:zW (q4 n)=zW ⟨n.h,n.ref,n.val⟩:=rfl;go_enter Tryz.func142,Tryz.ntmps142
 (go_wp2_with fail);refine(wU _ g bn H).mono ?_;rintro e w1 ⟨rfl,rfl⟩;go_upto_region 4 with fail
 obtain⟨ga,Y⟩:=eX w.heap.size
 have O:=dH Y;rw[Y]at F D A hM |-;obtain⟨W,hW⟩:=eR (((w.alloc (.cells (idC n.id) 39)).alloc (.cells (idC n.ref) 39)).alloc (.cells (zW ⟨n.h,n.ref,n.val⟩) 193))
 rw[<-hW]at h0 F D A |-;clear hW Y H;have cc:=XW n.id n rfl W hv;rw[a2]at cc;obtain⟨E,hE⟩:=eX (qX n)
 rw[hE]at cc;have HE:=dH hE;have t:Hid (s6 N n=if qX n=0 then(if n.id∈N.map zO.id then N else N ++ [n])else N):=rfl;clear hE;(go_wp2_with fail);refine cc.mono ?_;rintro e w2 ⟨rfl,I⟩;have L:Below ga w w2:=A.trans (I.mono (by have:=A.size;have:=O.out;omega));have h2:=h0.below I;have d:z7 w2 ga 0 32=some (idC n.id):=(z9 (I.block ga (zD F)) _ _).trans F;have f:z7 w2 (ga+2) 0 34=some (zW ⟨n.h,n.ref,n.val⟩):=(z9 (I.block (ga+2) (zD D)) _ _).trans D;clear cc I F D h0 A;by_cases V:E=0
 ·subst V;go_upto_region 7 with fail
  have T:=h2.cell0;obtain⟨es,a8,hn⟩:=h2.nodes;by_cases r:n.id∈N.map zO.id
  ·obtain⟨y,a3,U⟩:=List.mem_map.1 r;have hk:∀x:Subtype (Bel w2),(Instr.lookup 188 (.map (some bn)) (.agg (idC n.id)) true).run Tryz.prog x.1=.ok (.tuple #[.agg (zW ⟨y.h,y.ref,y.val⟩),.bool true]) x.1:=λx=>by
    have:=zx (hn.kept (z6.of_below x.2) sI) a3 true;rw[U]at this;exact this
   have Z:=dH r;clear r U hn;have X:(stS 193 ⟨w2.heap.size,0,none⟩ (.agg (zW ⟨y.h,y.ref,y.val⟩))).run Tryz.prog (w2.alloc (.cells (zW j8) 193)).drew=.ok () (w2.alloc (.cells (zW ⟨y.h,y.ref,y.val⟩) 193)).drew:=dX w2.drew _ rfl _ sI ⟨y.h,y.ref,y.val⟩ _;have J:Hid (Bel w2 (w2.alloc (.cells (zW ⟨y.h,y.ref,y.val⟩) 193)).drew):=(bA).drew;refine lX w2 ?_;intro R hS;have b1:=zJ T;have b2:=zU d;refine lZ ?_;refine lH ?_;intro K hK;refine zG (c5 hS _) (λhS=>?_);refine hK _ _ ?_;clear hK K;refine lZ ?_;refine lH ?_;intro K hK;first | refine zG J.out (λhS=>?_) | skip
   refine hK _ _ ?_;clear hK K;refine lZ ?_;refine zC ?_;intro hS;have j:Below w2.heap.size w2 (w2.alloc (.cells (zW ⟨y.h,y.ref,y.val⟩) 193)).drew:=hS;have h3:=h2.below j;have s:=L.trans (j.mono (oH (zD d)));have m:z7 (w2.alloc (.cells (zW ⟨y.h,y.ref,y.val⟩) 193)).drew ga 0 32=some (idC n.id):=(z9 (j.block ga (zD d)) _ _).trans d;have k:z7 (w2.alloc (.cells (zW ⟨y.h,y.ref,y.val⟩) 193)).drew (ga+2) 0 34=some (zW ⟨n.h,n.ref,n.val⟩):=(z9 (j.block (ga+2) (zD f)) _ _).trans f;clear b1 b2 R hS j X J hk T d f h2 L;obtain⟨w3,B⟩:=eX ((w2.alloc (.cells (zW ⟨y.h,y.ref,y.val⟩) 193)).drew)
   rw[B]at h3 s m k |-;clear B;(go_wp2_with fail);go_ret;have e1:s6 N n=N:=by rw[t.out,if_pos HE.out,if_pos Z.out]
   exact⟨yA (by rw[HE.out]),by rw[e1];exact h3,(z6.of_below (s.mono (by rw[O.out];exact lR))).mono sI⟩
  ·have a0:n.id∉(N.map λn=>(n.id,q4 n)).map (·.1):=by rw[List.map_map];exact r
   have hk:∀x:Subtype (Bel w2),(Instr.lookup 188 (.map (some bn)) (.agg (idC n.id)) true).run Tryz.prog x.1=.ok (.tuple #[.agg (zW j8),.bool false]) x.1:=λx =>
    (hn.kept (z6.of_below x.2) sI).miss fK Tryz.underlying188 (XL x.1) trivial a0 true
   have Z:=dH r;clear a0 hn;have X:(stS 193 ⟨w2.heap.size,0,none⟩ (.agg (zW j8))).run Tryz.prog (w2.alloc (.cells (zW j8) 193)).drew=.ok () (w2.alloc (.cells (zW j8) 193)).drew:=dX w2.drew _ rfl _ sI j8 _;have J:Hid (Bel w2 (w2.alloc (.cells (zW j8) 193)).drew):=(bA).drew;refine lX w2 ?_;intro R hS;have b1:=zJ T;have b2:=zU d;refine lZ ?_;refine lH ?_;intro K hK;refine zG (c5 hS _) (λhS=>?_);refine hK _ _ ?_;clear hK K;refine lZ ?_;refine lH ?_;intro K hK;first | refine zG J.out (λhS=>?_) | skip
   refine hK _ _ ?_;clear hK K;refine lZ ?_;refine zC ?_;intro hS;have j:Below w2.heap.size w2 (w2.alloc (.cells (zW j8) 193)).drew:=hS;have h3:=h2.below j;have s:=L.trans (j.mono (oH (zD d)));have m:z7 (w2.alloc (.cells (zW j8) 193)).drew ga 0 32=some (idC n.id):=(z9 (j.block ga (zD d)) _ _).trans d;have k:z7 (w2.alloc (.cells (zW j8) 193)).drew (ga+2) 0 34=some (zW ⟨n.h,n.ref,n.val⟩):=(z9 (j.block (ga+2) (zD f)) _ _).trans f;clear b1 b2 R hS j X J hk T d f h2 L;obtain⟨w3,B⟩:=eX ((w2.alloc (.cells (zW j8) 193)).drew)
   rw[B]at h3 s m k |-;clear B;have a7:=s.size;have a5:∀x∈M,x<w3.heap.size:=λx hx=>(by have:=hM x hx;have:=O.out;omega);have ch:=sqhang n w3 M g bn bb bg N G h3 a5 r HE.out hl;rw[a2]at ch;clear r;(go_wp2_with fail);refine ch.mono ?_;rintro e w4 ⟨rfl,h4,a1⟩;have a4:z6 [bn,bb] w w4:=z6.trans ((z6.of_below (s.mono (by rw[O.out];exact lR))).mono (S':=[bn,bb]) sI) a1 iL;clear ch a1 h3 s m k;(go_wp2_with fail);go_ret;have e1:s6 N n=N ++ [n]:=by rw[t.out,if_pos HE.out,if_neg Z.out]
   exact⟨yA (by rw[HE.out]),by rw[e1];exact h4,a4⟩
 ·have R:(E != 0)=true:=by simpa using V
  have a6:=dH V;clear V;(go_wp2_with fail);go_ret;have e1:s6 N n=N:=by rw[t.out,if_neg (by rw[HE.out];exact a6.out)]
  exact⟨yA (by rw[HE.out]),by rw[e1];exact h2,(z6.of_below (L.mono (by rw[O.out];exact lR))).mono sI⟩
theorem kz(w:World):Calls Tryz.prog 55 #[.int .i64 2] w λe w'=>∃gs,e=.returned (.iface 102 (.pointer (some ⟨gs,0,none⟩)))/\(∃bl bg,jC w' gs bl bg [] []/\w.heap.size<=gs/\w.heap.size<=bl/\w.heap.size<=bg)/\Below w.heap.size w w':=by
 go_enter Tryz.func55,Tryz.ntmps55
 (go_wp2_with fail);refine(bnew w).mono ?_;rintro e w1 ⟨g,bl,bg,rfl,h1,h2,h3,h4,hb⟩;have H:=dH (And.intro h1 (And.intro h2 (And.intro h3 h4)));clear h1 h2 h3 h4;(go_wp2_with fail);go_ret;exact⟨_,rfl,⟨bl,bg,H.out⟩,hb⟩
theorem ky(w:World):Calls Tryz.prog 55 #[.int .i64 3] w λe w'=>∃gs,e=.returned (.iface 104 (.pointer (some ⟨gs,0,none⟩)))/\(∃b,xR w' gs b []/\w.heap.size<=gs/\w.heap.size<=b)/\Below w.heap.size w w':=by
 go_enter Tryz.func55,Tryz.ntmps55
 (go_wp2_with fail);refine(lnew w).mono ?_;rintro e w1 ⟨g,b,rfl,h1,h2,h3,hb⟩;have H:=dH (And.intro h1 (And.intro h2 h3));clear h1 h2 h3;(go_wp2_with fail);go_ret;exact⟨_,rfl,⟨b,H.out⟩,hb⟩
theorem kx(w:World):Calls Tryz.prog 55 #[.int .i64 4] w λe w'=>∃gs,e=.returned (.iface 105 (.pointer (some ⟨gs,0,none⟩)))/\(∃bl bo,qB w' gs bl bo [] []/\w.heap.size<=gs/\w.heap.size<=bl/\w.heap.size<=bo)/\Below w.heap.size w w':=by
 go_enter Tryz.func55,Tryz.ntmps55
 (go_wp2_with fail);refine(mnew w).mono ?_;rintro e w1 ⟨g,bl,bg,rfl,h1,h2,h3,h4,hb⟩;have H:=dH (And.intro h1 (And.intro h2 (And.intro h3 h4)));clear h1 h2 h3 h4;(go_wp2_with fail);go_ret;exact⟨_,rfl,⟨bl,bg,H.out⟩,hb⟩
theorem kw(w:World):Calls Tryz.prog 55 #[.int .i64 5] w λe w'=>∃gs,e=.returned (.iface 106 (.pointer (some ⟨gs,0,none⟩)))/\(∃bn bb bg,(∀M,bn∈M->bb∈M->bg∈M->q7 w' M gs bn bb bg [] [])/\w.heap.size<=gs/\w.heap.size<=bn/\w.heap.size<=bb/\w.heap.size<=bg)/\Below w.heap.size w w':=by
 go_enter Tryz.func55,Tryz.ntmps55
 (go_wp2_with fail);refine(sqnew w).mono ?_;rintro e w1 ⟨g,bn,bb,bg,rfl,h1,h2,h3,h4,h5,hb⟩;have H:=dH (And.intro h1 (And.intro h2 (And.intro h3 (And.intro h4 h5))));clear h1 h2 h3 h4 h5;(go_wp2_with fail);go_ret;exact⟨_,rfl,⟨bn,bb,bg,H.out⟩,hb⟩
theorem vdoes_b2(m:yW)(o:OpV)(A:Option Addr)(c:Nat)(w:World)(g gt bl bg:Nat)(t:ByteArray)(b:Nat)(I:List zE)(L G:List yH)(h:xE w g t b I (.iface 102 (.pointer (some ⟨gt,0,none⟩))))(hT:jC w gt bl bg L G)(hk:o.k=2)(hv:o.val.size<=16) :
  Calls Tryz.prog 64 #[.pointer (some ⟨g,0,none⟩),.agg (zN m),.agg (opC o A c)] w λe w'=>e=.returned (.tuple #[])/\jC w' gt bl bg (mU L G ⟨m.id,o.val⟩) G/\z6 [bl] w w':=by
 obtain⟨k,n,key,val,ref,refs⟩:=o;dsimp only at *;unfold opC at *;dsimp only at *;have hB:Below w.heap.size w ((w.alloc (.cells (zN m) 41)).alloc (.cells (zB ⟨k,n,key,val,ref,.slice A refs.length c⟩) 52)):=(bA).alloc sI _;have hc:=(h.below hB).cell2;have s:=hT.below hB;have f:z7 ((w.alloc (.cells (zN m) 41)).alloc (.cells (zB ⟨k,n,key,val,ref,.slice A refs.length c⟩) 52)) w.heap.size 0 34=some (zN m):=((z6.alloc (w.alloc (.cells (zN m) 41)) _).row sI sI 0 34).trans (by simp[go_sem]);have y:z7 ((w.alloc (.cells (zN m) 41)).alloc (.cells (zB ⟨k,n,key,val,ref,.slice A refs.length c⟩) 52)) w.heap.size 0 32=some (idC m.id):=by have:=zX f (j:=0) (m:=32) oM;rwa [qZ]at this
 have B:((k:Int)==2)=true:=by rw[hk];rfl
 clear hk;have ci:=λw' (h':jC w' gt bl bg L G)=>badd m.id val w' gt bl bg L G h' oM;clear hT h;have Hv:=dH hv;clear hv;go_enter Tryz.func64,Tryz.ntmps64
 (go_wp2_with fail);refine(ci _ s).mono ?_;rintro e w1 ⟨rfl,h1,r⟩;have d:z6 [bl] w w1:=z6.trans ((z6.of_below hB).mono (S':=[bl]) sI) r iL;clear hB hc s ci r f y;(go_wp2_with fail);go_end0;exact⟨rfl,h1,d⟩
theorem vdoes_b3(m:yW)(o:OpV)(A:Option Addr)(c:Nat)(w:World)(g gt bl bg:Nat)(t:ByteArray)(b:Nat)(I:List zE)(L G:List yH)(h:xE w g t b I (.iface 102 (.pointer (some ⟨gt,0,none⟩))))(hT:jC w gt bl bg L G)(hk:(o.k==2)=false)(hv:o.val.size<=16)(hA:zY w A o.refs.length o.refs)(hn:o.refs.length<=8) :
  Calls Tryz.prog 64 #[.pointer (some ⟨g,0,none⟩),.agg (zN m),.agg (opC o A c)] w λe w'=>e=.returned (.tuple #[])/\jC w' gt bl bg (lF L o.val o.refs) (lG G o.val o.refs)/\z6 [bl,bg] w w':=by
 obtain⟨k,n,key,val,ref,refs⟩:=o;dsimp only at *;unfold opC at *;dsimp only at *;have hB:Below w.heap.size w ((w.alloc (.cells (zN m) 41)).alloc (.cells (zB ⟨k,n,key,val,ref,.slice A refs.length c⟩) 52)):=(bA).alloc sI _;have hc:=(h.below hB).cell2;have s:=hT.below hB;have f:z7 ((w.alloc (.cells (zN m) 41)).alloc (.cells (zB ⟨k,n,key,val,ref,.slice A refs.length c⟩) 52)) w.heap.size 0 34=some (zN m):=((z6.alloc (w.alloc (.cells (zN m) 41)) _).row sI sI 0 34).trans (by simp[go_sem]);have B:z7 ((w.alloc (.cells (zN m) 41)).alloc (.cells (zB ⟨k,n,key,val,ref,.slice A refs.length c⟩) 52)) w.heap.size 0 32=some (idC m.id):=by have:=zX f (j:=0) (m:=32) oM;rwa [qZ]at this
 have y:zY _ A refs.length refs:=SlR.below hA hB;have ci:=λw' (h':jC w' gt bl bg L G) (hA':zY w' A refs.length refs)=>brem_ok val A refs.length c refs w' gt bl bg L G h' hA' hv oM;have HA:=dH y;clear hT h hA hn y;have Hv:=dH hv;clear hv;go_enter Tryz.func64,Tryz.ntmps64
 (go_wp2_with fail);refine(ci _ s HA.out).mono ?_;rintro e w1 ⟨rfl,h1,r⟩;have d:z6 [bl,bg] w w1:=z6.trans ((z6.of_below hB).mono (S':=[bl,bg]) sI) r iL;clear hB hc s ci r f B HA;(go_wp2_with fail);go_end0;exact⟨rfl,h1,d⟩
theorem vdoes_l(m:yW)(o:OpV)(A:Option Addr)(c:Nat)(w:World)(g gt bl:Nat)(t:ByteArray)(b:Nat)(I:List zE)(L:List jE)(h:xE w g t b I (.iface 104 (.pointer (some ⟨gt,0,none⟩))))(hT:xR w gt bl L)(hk:o.key.size<=16)(hv:o.val.size<=16) :
  Calls Tryz.prog 64 #[.pointer (some ⟨g,0,none⟩),.agg (zN m),.agg (opC o A c)] w λe w'=>e=.returned (.tuple #[])/\xR w' gt bl (sD L o.key ⟨o.val,o.n,m.id⟩)/\z6 [bl] w w':=by
 obtain⟨k,n,key,val,ref,refs⟩:=o;dsimp only at *;unfold opC at *;dsimp only at *;have hB:Below w.heap.size w ((w.alloc (.cells (zN m) 41)).alloc (.cells (zB ⟨k,n,key,val,ref,.slice A refs.length c⟩) 52)):=(bA).alloc sI _;have hc:=(h.below hB).cell2;have s:=hT.below hB;have f:z7 ((w.alloc (.cells (zN m) 41)).alloc (.cells (zB ⟨k,n,key,val,ref,.slice A refs.length c⟩) 52)) w.heap.size 0 34=some (zN m):=((z6.alloc (w.alloc (.cells (zN m) 41)) _).row sI sI 0 34).trans (by simp[go_sem]);have y:z7 ((w.alloc (.cells (zN m) 41)).alloc (.cells (zB ⟨k,n,key,val,ref,.slice A refs.length c⟩) 52)) w.heap.size 0 32=some (idC m.id):=by have:=zX f (j:=0) (m:=32) oM;rwa [qZ]at this
 have ci:=λw' (h':xR w' gt bl L)=>lset key val n m.id w' gt bl L h' oM oM;clear hT h;have Hv:=dH (And.intro hk hv);clear hv hk;go_enter Tryz.func64,Tryz.ntmps64
 (go_wp2_with fail);refine(ci _ s).mono ?_;rintro e w1 ⟨rfl,h1,r⟩;have d:z6 [bl] w w1:=z6.trans ((z6.of_below hB).mono (S':=[bl]) sI) r iL;clear hB hc s ci r f y;(go_wp2_with fail);go_end0;exact⟨rfl,h1,d⟩
theorem vdoes_m(m:yW)(o:OpV)(A:Option Addr)(c:Nat)(w:World)(g gt bl bo:Nat)(t:ByteArray)(b:Nat)(I:List zE)(X:List xW)(O:List zE)(h:xE w g t b I (.iface 105 (.pointer (some ⟨gt,0,none⟩))))(hT:qB w gt bl bo X O)(hk:o.key.size<=16)(hv:o.val.size<=16)(hA:zY w A o.refs.length o.refs)(hn:o.refs.length<=8)(hX:X.length<1000000) :
  Calls Tryz.prog 64 #[.pointer (some ⟨g,0,none⟩),.agg (zN m),.agg (opC o A c)] w λe w'=>e=.returned (.tuple #[])/\qB w' gt bl bo (ZQ X O ⟨m.id,o.key,o.val⟩ o.refs) (lJ O o.refs)/\z6 [bl,bo] w w':=by
 obtain⟨k,n,key,val,ref,refs⟩:=o;dsimp only at *;unfold opC at *;dsimp only at *;have hB:Below w.heap.size w ((w.alloc (.cells (zN m) 41)).alloc (.cells (zB ⟨k,n,key,val,ref,.slice A refs.length c⟩) 52)):=(bA).alloc sI _;have hc:=(h.below hB).cell2;have s:=hT.below hB;have f:z7 ((w.alloc (.cells (zN m) 41)).alloc (.cells (zB ⟨k,n,key,val,ref,.slice A refs.length c⟩) 52)) w.heap.size 0 34=some (zN m):=((z6.alloc (w.alloc (.cells (zN m) 41)) _).row sI sI 0 34).trans (by simp[go_sem]);have B:z7 ((w.alloc (.cells (zN m) 41)).alloc (.cells (zB ⟨k,n,key,val,ref,.slice A refs.length c⟩) 52)) w.heap.size 0 32=some (idC m.id):=by have:=zX f (j:=0) (m:=32) oM;rwa [qZ]at this
 have y:zY _ A refs.length refs:=SlR.below hA hB;have ci:=λw' (h':qB w' gt bl bo X O) (hA':zY w' A refs.length refs)=>mset m.id key val A refs.length c refs w' gt bl bo X O h' hA' hk hv oM hX;have HA:=dH y;clear hT h hA hn y hX;have Hv:=dH (And.intro hk hv);clear hv hk;go_enter Tryz.func64,Tryz.ntmps64
 (go_wp2_with fail);refine(ci _ s HA.out).mono ?_;rintro e w1 ⟨rfl,h1,r⟩;have d:z6 [bl,bo] w w1:=z6.trans ((z6.of_below hB).mono (S':=[bl,bo]) sI) r iL;clear hB hc s ci r f B HA;(go_wp2_with fail);go_end0;exact⟨rfl,h1,d⟩
theorem vdoes_s6(m:yW)(o:OpV)(A:Option Addr)(c:Nat)(w:World)(g gt bn bb bg:Nat)(t:ByteArray)(b:Nat)(I:List zE)(M:List Nat)(N:List zO)(G:List zE)(h:xE w g t b I (.iface 106 (.pointer (some ⟨gt,0,none⟩))))(hT:q7 w M gt bn bb bg N G)(hM:∀x∈M,x<w.heap.size)(hk:o.k=6)(hv:o.val.size<=16)(hN:N.length<=100000) :
  Calls Tryz.prog 64 #[.pointer (some ⟨g,0,none⟩),.agg (zN m),.agg (opC o A c)] w λe w'=>e=.returned (.tuple #[])/\q7 w' M gt bn bb bg (s6 N ⟨m.id,m.h,o.ref,o.val⟩) G/\z6 [bn,bb] w w':=by
 obtain⟨k,n,key,val,ref,refs⟩:=o;dsimp only at *;unfold opC at *;dsimp only at *;have hB:Below w.heap.size w ((w.alloc (.cells (zN m) 41)).alloc (.cells (zB ⟨k,n,key,val,ref,.slice A refs.length c⟩) 52)):=(bA).alloc sI _;have hc:=(h.below hB).cell2;have s:=hT.below hB;have d:z7 ((w.alloc (.cells (zN m) 41)).alloc (.cells (zB ⟨k,n,key,val,ref,.slice A refs.length c⟩) 52)) w.heap.size 0 34=some (zN m):=((z6.alloc (w.alloc (.cells (zN m) 41)) _).row sI sI 0 34).trans (by simp[go_sem]);have D:z7 ((w.alloc (.cells (zN m) 41)).alloc (.cells (zB ⟨k,n,key,val,ref,.slice A refs.length c⟩) 52)) w.heap.size 0 32=some (idC m.id):=by have:=zX d (j:=0) (m:=32) oM;rwa [qZ]at this
 have E:((k:Int)==6)=true:=by rw[hk];rfl
 clear hk;have y:Hid (∀x∈M,x<_):=dH λx hx=>Nat.lt_of_lt_of_le (hM x hx) hB.size;have B:=z8 d (j:=33-1) oM;have ci:=λw' (h':q7 w' M gt bn bb bg N G) (hM':∀x∈M,x<w'.heap.size)=>sqinsert ⟨m.id,m.h,ref,val⟩ w' M gt bn bb bg N G h' hM' (by simp only;omega) hN;clear hT h hM hN;have Hv:=dH hv;clear hv;go_enter Tryz.func64,Tryz.ntmps64
 (go_wp2_with fail);refine(ci _ s y.out).mono ?_;rintro e w1 ⟨rfl,h1,r⟩;have f:z6 [bn,bb] w w1:=z6.trans ((z6.of_below hB).mono (S':=[bn,bb]) sI) r iL;clear hB hc s ci r d D B y;(go_wp2_with fail);go_end0;exact⟨rfl,h1,f⟩
theorem vdoes_s7(m:yW)(o:OpV)(A:Option Addr)(c:Nat)(w:World)(g gt bn bb bg:Nat)(t:ByteArray)(b:Nat)(I:List zE)(M:List Nat)(N:List zO)(G:List zE)(h:xE w g t b I (.iface 106 (.pointer (some ⟨gt,0,none⟩))))(hT:q7 w M gt bn bb bg N G)(hk:(o.k==6)=false) :
  Calls Tryz.prog 64 #[.pointer (some ⟨g,0,none⟩),.agg (zN m),.agg (opC o A c)] w λe w'=>e=.returned (.tuple #[])/\q7 w' M gt bn bb bg N (xS zI G o.ref)/\z6 [bg] w w':=by
 obtain⟨k,n,key,val,ref,refs⟩:=o;dsimp only at *;unfold opC at *;dsimp only at *;have hB:Below w.heap.size w ((w.alloc (.cells (zN m) 41)).alloc (.cells (zB ⟨k,n,key,val,ref,.slice A refs.length c⟩) 52)):=(bA).alloc sI _;have hc:=(h.below hB).cell2;have s:=hT.below hB;have f:z7 ((w.alloc (.cells (zN m) 41)).alloc (.cells (zB ⟨k,n,key,val,ref,.slice A refs.length c⟩) 52)) w.heap.size 0 34=some (zN m):=((z6.alloc (w.alloc (.cells (zN m) 41)) _).row sI sI 0 34).trans (by simp[go_sem]);have y:z7 ((w.alloc (.cells (zN m) 41)).alloc (.cells (zB ⟨k,n,key,val,ref,.slice A refs.length c⟩) 52)) w.heap.size 0 32=some (idC m.id):=by have:=zX f (j:=0) (m:=32) oM;rwa [qZ]at this
 have ci:=λw' (h':q7 w' M gt bn bb bg N G)=>sqdel ref w' M gt bn bb bg N G h';clear hT h;go_enter Tryz.func64,Tryz.ntmps64
 (go_wp2_with fail);refine(ci _ s).mono ?_;rintro e w1 ⟨rfl,h1,r⟩;have d:z6 [bg] w w1:=z6.trans ((z6.of_below hB).mono (S':=[bg]) sI) r iL;clear hB hc s ci r f y;(go_wp2_with fail);go_end0;exact⟨rfl,h1,d⟩
structure jM where
 key:ByteArray
 val:ByteArray
def zS(x:jM):Array Value:=#[.string x.key] ++ #[.string x.val]
@[simp] theorem bS(x:jM):(zS x).size=2:=by simp[zS]
@[go_sem] theorem rG(x:jM):(zS x)[0]?=some (.string x.key):=by first | (simp[zS,Array.getElem?_append];done) | (rw[show zS x=((#[]:Array Value)) ++ #[.string x.key]++(#[.string x.val])from by apply Array.ext';simp[zS]];exact qO _ _ _ _ sI)
@[go_sem] theorem pairC_gg0(x:jM)(h:0<(zS x).size):(zS x)[0]'h=.string x.key:=Option.some.inj ((Array.getElem?_eq_getElem h).symm.trans (rG x))
@[go_sem] theorem iT(x:jM):(zS x)[1]?=some (.string x.val):=by first | (simp[zS,Array.getElem?_append];done) | (rw[show zS x=(#[.string x.key]) ++ #[.string x.val]++((#[]:Array Value))from by apply Array.ext';simp[zS]];exact qO _ _ _ _ sI)
@[go_sem] theorem pairC_gg1(x:jM)(h:1<(zS x).size):(zS x)[1]'h=.string x.val:=Option.some.inj ((Array.getElem?_eq_getElem h).symm.trans (iT x))
@[go_sem] theorem pairC_all(x:jM):(zS x).extract 0 2=zS x:=by have:=Array.extract_size (xs:=zS x);rwa [bS]at this
theorem qD(x:jM):∀u∈(zS x).toList,u.oneCell'=true:=by
 intro u hu;simp only[zS,Array.toList_append,List.mem_append]at hu;rcases hu with hu | hu
 ·simp at hu;subst hu;rfl
 ·simp at hu;subst hu;rfl
def wG:jM:=⟨⟨#[]⟩,⟨#[]⟩⟩
theorem K8{x y:jM}(h:x.key=y.key/\x.val=y.val):x=y:=by cases x;cases y;simp_all
instance:DecidableEq jM:=λx y=>if h:x.key=y.key/\x.val=y.val then isTrue (K8 h)else isFalse (λe=>h (by subst e;simp))
theorem aI:(Tryz.prog.info? 98).map (·.size)=some 2:=kR
@[go_sem ↓] theorem r6(w:World):(zeroValue 98).run Tryz.prog w=.ok (.agg (zS wG)) w:=by
 have h:(Tryz.prog.info? 98).bind (·.zero)=some (.agg (zS wG)):=kR;cases hi:Tryz.prog.info? 98 with
 | none=>rw[hi]at h;cases h
 | some i =>
  rw[hi]at h;have hz:i.zero=some (.agg (zS wG)):=h;simp[zeroValue,typeInfo,hi,hz]
@[go_sem ↓] theorem loadPair_rw(a:Addr):loadVar 98 a=ldS 98 a:=rfl
@[go_sem ↓] theorem storePair_rw(a:Addr)(v:Value):storeVar 98 a v=stS 98 a v:=rfl
@[go_sem] theorem loadPair_run(w:World)(g o:Nat):(ldS 98 ⟨g,o,none⟩).run Tryz.prog w=match z7 w g o 2 with | some cs=>.ok (.agg cs) w | none=>(loadVar 98 ⟨g,o,none⟩).run Tryz.prog w :=
 vZ Tryz.underlying98 rfl aI w g o
@[go_sem] theorem ZO(w:World)(g:Nat)(hg:g=w.heap.size)(z:Array Value)(hz:z.size=2)(x:jM)(e:TypeId):(stS 98 ⟨g,0,none⟩ (.agg (zS x))).run Tryz.prog (w.alloc (.cells z e))=.ok () (w.alloc (.cells (zS x) e)) :=
 hg ▸ qY aI w z (zS x) hz (bS x) (qD x)
theorem pX:Tryz.prog.underlying 98=some (.struct (Tryz.prog.fieldsOf 98)):=kR
theorem iP(w:World):((Tryz.prog.fieldsOf 98).mapM fun (f:Field)=>do pure (f.offset,<-sizeOf f.type)).run Tryz.prog w=.ok #[(0,1),(1,1)] w:=kR
@[go_sem ↓] theorem buildPair_rw(parts:Array (Nat×Value)):Instr.build 98 parts=bdS 98 parts:=rfl
@[go_sem] theorem buildPair(a0:ByteArray)(a1:ByteArray)(w:World):(bdS 98 #[(0,.string a0),(1,.string a1)]).run Tryz.prog w=.ok (.agg (zS ⟨a0,a1⟩)) w:=by
 refine qP w pX _ (r6 w) _ (iP w) [(0,.string a0),(1,.string a1)] _ ?_;rw[show zS wG=(#[]:Array Value) ++ #[.string ⟨#[]⟩]++(#[.string ⟨#[]⟩])from by first | (simp[zS,wG,Array.append_assoc];done) | (apply Array.ext';simp[zS,wG])];rw[yJ (off:=0) (size:=1) rfl sI sI (by simp[Value.cells])];rw[show(#[]:Array Value)++(Value.string a0).cells++(#[.string ⟨#[]⟩])=(#[.string a0]) ++ #[.string ⟨#[]⟩]++(#[]:Array Value)from by first | (simp[Value.cells,Array.append_assoc];done) | (apply Array.ext';simp[Value.cells];done) | (apply Array.ext';simp only[Array.toList_append];simp[Value.cells])];rw[yJ (off:=1) (size:=1) rfl sI sI (by simp[Value.cells])];first | (simp[Instr.fill,zS,Array.append_assoc,Value.cells];done) | (simp only[Instr.fill,zS];congr 1;apply Array.ext';simp[Value.cells];done) | (simp only[Instr.fill,zS];congr 1;done) | (simp only[Instr.fill,zS];done)
@[go_sem] theorem buildPair_0(a0:ByteArray)(w:World):(bdS 98 #[(0,.string a0)]).run Tryz.prog w=.ok (.agg (zS ⟨a0,⟨#[]⟩⟩)) w:=by
 refine qP w pX _ (r6 w) _ (iP w) [(0,.string a0)] _ ?_;rw[show zS wG=(#[]:Array Value) ++ #[.string ⟨#[]⟩]++(#[.string ⟨#[]⟩])from by first | (simp[zS,wG,Array.append_assoc];done) | (apply Array.ext';simp[zS,wG])];rw[yJ (off:=0) (size:=1) rfl sI sI (by simp[Value.cells])];first | (simp[Instr.fill,zS,Array.append_assoc,Value.cells];done) | (simp only[Instr.fill,zS];congr 1;apply Array.ext';simp[Value.cells];done) | (simp only[Instr.fill,zS];congr 1;done) | (simp only[Instr.fill,zS];done)
theorem yP:xH Tryz.prog 23 98 2 32 :=
 .of (z:=.agg (zS wG)) Tryz.underlying23 kR kR kR (bS _) oM
@[go_sem ↓] theorem bsPair_rw(n:Nat)(parts:Array (Nat×Value)):Instr.buildSlice 23 n parts=bsS 23 n parts:=rfl
@[go_sem] theorem bsPair_run(w:World)(x:jM):(bsS 23 1 #[(0,.agg (zS x))]).run Tryz.prog w=.ok (.slice (some ⟨w.heap.size,0,none⟩) 1 1) (w.alloc (.cells (zS x) 98)) :=
 bF yP oM w (zS x) (bS x)
theorem kl(w:World)(g gt:Nat)(t:ByteArray)(b:Nat)(I:List zE)(h:xE w g t b I (.iface 102 (.pointer (some ⟨gt,0,none⟩))))(ht:t.size<=9223372036854775807)(hk:yC t=2)(n:Nat)(L:List (Array Value))
  (hl:∀w',Below w.heap.size w w'->Calls Tryz.prog 58 #[.pointer (some ⟨gt,0,none⟩)] w' λe Z=>∃A cap,e=.returned (.slice A n cap)/\Own Z w'.heap.size 98 2 A n cap L/\Below w'.heap.size w' Z) :
  Calls Tryz.prog 24 #[.pointer (some ⟨g,0,none⟩)] w λe w'=>∃A cap,e=.returned (.agg (zQ ⟨2,0,.slice A n cap⟩))/\Own w' w.heap.size 98 2 A n cap L/\Below w.heap.size w w':=by
 have hB:Below w.heap.size w (w.alloc (.cells (zQ xZ) 25)):=bA;have h1:=h.below hB;have r:(w.alloc (.cells (zQ xZ) 25)).heap[w.heap.size]?=some (.cells (zQ xZ) 25 (0,0)):=heap_alloc_new w _;have c2:=λw=>bI t w ht;rw[hk]at c2;go_enter Tryz.func24,Tryz.ntmps24
 go_upto_region 1 with fail
 obtain⟨ga,V⟩:=eX w.heap.size
 have M:=dH V;rw[V]at r hB hl |-;obtain⟨W,hW⟩:=eR (w.alloc (.cells (zQ xZ) 25))
 rw[<-hW]at h1 r hB |-;clear hW V;have a2:=h1.cell1;(go_wp2_with fail);refine(j7 W g b a2).mono ?_;rintro e w1 ⟨rfl,rfl⟩;have b2:=h1.cell0;(go_wp2_with fail);refine(c2 _).mono ?_;rintro e w2 ⟨rfl,G⟩;have h2:=h1.below G;have X:=(G.block ga (aG r).1).trans r;have a6:Below ga w w2:=hB.trans (G.mono (by have:=hB.size;have:=M.out;omega));have U:ga<w2.heap.size:=(aG X).1;clear b2 a2 h1 r hB G h c2;have F:Below w2.heap.size w2 (w2.alloc (.cells (zQ ⟨2,0,.slice none 0 0⟩) 25)):=bA;have h3:=h2.below F;have E:=(F.block ga U).trans X;have J:Below ga w (w2.alloc (.cells (zQ ⟨2,0,.slice none 0 0⟩) 25)):=a6.trans (F.mono oM);have j:(w2.alloc (.cells (zQ ⟨2,0,.slice none 0 0⟩) 25)).heap[w2.heap.size]?=some (.cells (zQ ⟨2,0,.slice none 0 0⟩) 25 (0,0)):=heap_alloc_new w2 _;obtain⟨gv,T⟩:=eX w2.heap.size
 have b5:=dH T;clear h2 X a6 F;go_upto_region 4 with fail
 rw[T]at j U;obtain⟨W3,a4⟩:=eR (w2.alloc (.cells (zQ ⟨2,0,.slice none 0 0⟩) 25))
 rw[<-a4]at h3 E J j |-;clear a4 T;have b1:=h3.cell2;go_upto_region 10 with fail
 have a0:=hl W3 J;(go_wp2_with fail);refine a0.mono ?_;rintro e w4 ⟨A,cap,rfl,f,s⟩;have R:gv<W3.heap.size:=(aG j).1;have m:ga<W3.heap.size:=(aG E).1;have y:=(s.block gv R).trans j;have a1:=(s.block ga m).trans E;have a8:=s.size;have a5:Below ga w w4:=J.trans (s.mono oM);have hf:w4.frozen? ⟨gv,2,none⟩=false:=by simp[World.frozen?,y]
 have b0:w4.cell? ⟨gv,2,none⟩=some (.slice none 0 0):=by rw[cell_of_row w4 gv 2 _ _ _ y];simp[go_sem]
 have k:(zQ ⟨2,0,.slice none 0 0⟩).setIfInBounds 2 (.slice A n cap)=zQ ⟨2,0,.slice A n cap⟩:=by apply Array.ext';simp[zQ]
 have N:(w4.setCell ⟨gv,2,none⟩ (.slice A n cap)).heap[gv]?=some (.cells (zQ ⟨2,0,.slice A n cap⟩) 25 (0,0)):=by rw[zA y,k]
 have B:=z6.setCell w4 ⟨gv,2,none⟩ (.slice A n cap);have D:(w4.setCell ⟨gv,2,none⟩ (.slice A n cap)).heap[ga]?=some (.cells (zQ xZ) 25 (0,0)):=(B.block ga oM sO).trans a1;have H:Below ga w (w4.setCell ⟨gv,2,none⟩ (.slice A n cap)):=a5.trans (B.below oM sO);have d:=f.kept B (λx hx=>oS (f.at_base hx));clear k B a1 a5 h3 b1 f s E J hl a0;go_upto_region 20 with fail
 obtain⟨W4,a3⟩:=eR (w4.setCell ⟨gv,2,none⟩ (.slice A n cap))
 rw[<-a3]at N D H d |-;clear a3 hf y b0 j;have b3:=dH (And.intro m a8);have a9:z7 W4 gv 0 3=some (zQ ⟨2,0,.slice A n cap⟩):=by unfold z7;rw[N];simp[go_sem]
 have a7:=yU (P:=Tryz.prog) qT W4 ga (zQ xZ) (zQ ⟨2,0,.slice A n cap⟩) _ D sI sI (vT _ rfl);have O:z6 [ga] W4 (W4.setRow ga (zQ ⟨2,0,.slice A n cap⟩)):=⟨rfl,rfl,rfl,by simp[World.setRow],λx _ hx=>setRow_other W4 ga x _ (by simpa using hx)⟩
 have Y:=dH (setRow_heap W4 ga _ (zQ ⟨2,0,.slice A n cap⟩) _ _ D);have b4:=dH (H.trans (O.below (by have:=H.size;have:=M.out;omega) sI));have HO:=dH (d.kept O (λx hx=>oS (d.at_base hx)));clear O D H N d;(go_wp2_with fail);refine bodyPost_ret (results_cell_row Tryz.results24 _ _ ga 25 (zQ ⟨2,0,.slice A n cap⟩) (0,0) _ rfl Y.out Tryz.underlying25 rfl (by rw[v4];exact qT)) rfl ?_;exact⟨A,cap,rfl,HO.out.mono (by have:=b3.out;have:=M.out;omega),by rw[M.out];exact b4.out⟩
theorem kj(w:World)(g gt:Nat)(t:ByteArray)(b:Nat)(I:List zE)(h:xE w g t b I (.iface 104 (.pointer (some ⟨gt,0,none⟩))))(ht:t.size<=9223372036854775807)(hk:yC t=3)(n:Nat)(L:List (Array Value))
  (hl:∀w',Below w.heap.size w w'->Calls Tryz.prog 59 #[.pointer (some ⟨gt,0,none⟩)] w' λe Z=>∃A cap,e=.returned (.slice A n cap)/\Own Z w'.heap.size 98 2 A n cap L/\Below w'.heap.size w' Z) :
  Calls Tryz.prog 24 #[.pointer (some ⟨g,0,none⟩)] w λe w'=>∃A cap,e=.returned (.agg (zQ ⟨3,0,.slice A n cap⟩))/\Own w' w.heap.size 98 2 A n cap L/\Below w.heap.size w w':=by
 have hB:Below w.heap.size w (w.alloc (.cells (zQ xZ) 25)):=bA;have h1:=h.below hB;have r:(w.alloc (.cells (zQ xZ) 25)).heap[w.heap.size]?=some (.cells (zQ xZ) 25 (0,0)):=heap_alloc_new w _;have c2:=λw=>bI t w ht;rw[hk]at c2;go_enter Tryz.func24,Tryz.ntmps24
 go_upto_region 1 with fail
 obtain⟨ga,V⟩:=eX w.heap.size
 have M:=dH V;rw[V]at r hB hl |-;obtain⟨W,hW⟩:=eR (w.alloc (.cells (zQ xZ) 25))
 rw[<-hW]at h1 r hB |-;clear hW V;have a2:=h1.cell1;(go_wp2_with fail);refine(j7 W g b a2).mono ?_;rintro e w1 ⟨rfl,rfl⟩;have b2:=h1.cell0;(go_wp2_with fail);refine(c2 _).mono ?_;rintro e w2 ⟨rfl,G⟩;have h2:=h1.below G;have X:=(G.block ga (aG r).1).trans r;have a6:Below ga w w2:=hB.trans (G.mono (by have:=hB.size;have:=M.out;omega));have U:ga<w2.heap.size:=(aG X).1;clear b2 a2 h1 r hB G h c2;have F:Below w2.heap.size w2 (w2.alloc (.cells (zQ ⟨3,0,.slice none 0 0⟩) 25)):=bA;have h3:=h2.below F;have E:=(F.block ga U).trans X;have J:Below ga w (w2.alloc (.cells (zQ ⟨3,0,.slice none 0 0⟩) 25)):=a6.trans (F.mono oM);have j:(w2.alloc (.cells (zQ ⟨3,0,.slice none 0 0⟩) 25)).heap[w2.heap.size]?=some (.cells (zQ ⟨3,0,.slice none 0 0⟩) 25 (0,0)):=heap_alloc_new w2 _;obtain⟨gv,T⟩:=eX w2.heap.size
 have b5:=dH T;clear h2 X a6 F;go_upto_region 4 with fail
 rw[T]at j U;obtain⟨W3,a4⟩:=eR (w2.alloc (.cells (zQ ⟨3,0,.slice none 0 0⟩) 25))
 rw[<-a4]at h3 E J j |-;clear a4 T;have b1:=h3.cell2;go_upto_region 13 with fail
 have a0:=hl W3 J;(go_wp2_with fail);refine a0.mono ?_;rintro e w4 ⟨A,cap,rfl,f,s⟩;have R:gv<W3.heap.size:=(aG j).1;have m:ga<W3.heap.size:=(aG E).1;have y:=(s.block gv R).trans j;have a1:=(s.block ga m).trans E;have a8:=s.size;have a5:Below ga w w4:=J.trans (s.mono oM);have hf:w4.frozen? ⟨gv,2,none⟩=false:=by simp[World.frozen?,y]
 have b0:w4.cell? ⟨gv,2,none⟩=some (.slice none 0 0):=by rw[cell_of_row w4 gv 2 _ _ _ y];simp[go_sem]
 have k:(zQ ⟨3,0,.slice none 0 0⟩).setIfInBounds 2 (.slice A n cap)=zQ ⟨3,0,.slice A n cap⟩:=by apply Array.ext';simp[zQ]
 have N:(w4.setCell ⟨gv,2,none⟩ (.slice A n cap)).heap[gv]?=some (.cells (zQ ⟨3,0,.slice A n cap⟩) 25 (0,0)):=by rw[zA y,k]
 have B:=z6.setCell w4 ⟨gv,2,none⟩ (.slice A n cap);have D:(w4.setCell ⟨gv,2,none⟩ (.slice A n cap)).heap[ga]?=some (.cells (zQ xZ) 25 (0,0)):=(B.block ga oM sO).trans a1;have H:Below ga w (w4.setCell ⟨gv,2,none⟩ (.slice A n cap)):=a5.trans (B.below oM sO);have d:=f.kept B (λx hx=>oS (f.at_base hx));clear k B a1 a5 h3 b1 f s E J hl a0;go_upto_region 20 with fail
 obtain⟨W4,a3⟩:=eR (w4.setCell ⟨gv,2,none⟩ (.slice A n cap))
 rw[<-a3]at N D H d |-;clear a3 hf y b0 j;have b3:=dH (And.intro m a8);have a9:z7 W4 gv 0 3=some (zQ ⟨3,0,.slice A n cap⟩):=by unfold z7;rw[N];simp[go_sem]
 have a7:=yU (P:=Tryz.prog) qT W4 ga (zQ xZ) (zQ ⟨3,0,.slice A n cap⟩) _ D sI sI (vT _ rfl);have O:z6 [ga] W4 (W4.setRow ga (zQ ⟨3,0,.slice A n cap⟩)):=⟨rfl,rfl,rfl,by simp[World.setRow],λx _ hx=>setRow_other W4 ga x _ (by simpa using hx)⟩
 have Y:=dH (setRow_heap W4 ga _ (zQ ⟨3,0,.slice A n cap⟩) _ _ D);have b4:=dH (H.trans (O.below (by have:=H.size;have:=M.out;omega) sI));have HO:=dH (d.kept O (λx hx=>oS (d.at_base hx)));clear O D H N d;(go_wp2_with fail);refine bodyPost_ret (results_cell_row Tryz.results24 _ _ ga 25 (zQ ⟨3,0,.slice A n cap⟩) (0,0) _ rfl Y.out Tryz.underlying25 rfl (by rw[v4];exact qT)) rfl ?_;exact⟨A,cap,rfl,HO.out.mono (by have:=b3.out;have:=M.out;omega),by rw[M.out];exact b4.out⟩
theorem ki(w:World)(g gt:Nat)(t:ByteArray)(b:Nat)(I:List zE)(h:xE w g t b I (.iface 105 (.pointer (some ⟨gt,0,none⟩))))(ht:t.size<=9223372036854775807)(hk:yC t=4)(n:Nat)(L:List (Array Value))
  (hl:∀w',Below w.heap.size w w'->Calls Tryz.prog 60 #[.pointer (some ⟨gt,0,none⟩)] w' λe Z=>∃A cap,e=.returned (.slice A n cap)/\Own Z w'.heap.size 98 2 A n cap L/\Below w'.heap.size w' Z) :
  Calls Tryz.prog 24 #[.pointer (some ⟨g,0,none⟩)] w λe w'=>∃A cap,e=.returned (.agg (zQ ⟨4,0,.slice A n cap⟩))/\Own w' w.heap.size 98 2 A n cap L/\Below w.heap.size w w':=by
 have hB:Below w.heap.size w (w.alloc (.cells (zQ xZ) 25)):=bA;have h1:=h.below hB;have r:(w.alloc (.cells (zQ xZ) 25)).heap[w.heap.size]?=some (.cells (zQ xZ) 25 (0,0)):=heap_alloc_new w _;have c2:=λw=>bI t w ht;rw[hk]at c2;go_enter Tryz.func24,Tryz.ntmps24
 go_upto_region 1 with fail
 obtain⟨ga,V⟩:=eX w.heap.size
 have M:=dH V;rw[V]at r hB hl |-;obtain⟨W,hW⟩:=eR (w.alloc (.cells (zQ xZ) 25))
 rw[<-hW]at h1 r hB |-;clear hW V;have a2:=h1.cell1;(go_wp2_with fail);refine(j7 W g b a2).mono ?_;rintro e w1 ⟨rfl,rfl⟩;have b2:=h1.cell0;(go_wp2_with fail);refine(c2 _).mono ?_;rintro e w2 ⟨rfl,G⟩;have h2:=h1.below G;have X:=(G.block ga (aG r).1).trans r;have a6:Below ga w w2:=hB.trans (G.mono (by have:=hB.size;have:=M.out;omega));have U:ga<w2.heap.size:=(aG X).1;clear b2 a2 h1 r hB G h c2;have F:Below w2.heap.size w2 (w2.alloc (.cells (zQ ⟨4,0,.slice none 0 0⟩) 25)):=bA;have h3:=h2.below F;have E:=(F.block ga U).trans X;have J:Below ga w (w2.alloc (.cells (zQ ⟨4,0,.slice none 0 0⟩) 25)):=a6.trans (F.mono oM);have j:(w2.alloc (.cells (zQ ⟨4,0,.slice none 0 0⟩) 25)).heap[w2.heap.size]?=some (.cells (zQ ⟨4,0,.slice none 0 0⟩) 25 (0,0)):=heap_alloc_new w2 _;obtain⟨gv,T⟩:=eX w2.heap.size
 have b5:=dH T;clear h2 X a6 F;go_upto_region 4 with fail
 rw[T]at j U;obtain⟨W3,a4⟩:=eR (w2.alloc (.cells (zQ ⟨4,0,.slice none 0 0⟩) 25))
 rw[<-a4]at h3 E J j |-;clear a4 T;have b1:=h3.cell2;go_upto_region 16 with fail
 have a0:=hl W3 J;(go_wp2_with fail);refine a0.mono ?_;rintro e w4 ⟨A,cap,rfl,f,s⟩;have R:gv<W3.heap.size:=(aG j).1;have m:ga<W3.heap.size:=(aG E).1;have y:=(s.block gv R).trans j;have a1:=(s.block ga m).trans E;have a8:=s.size;have a5:Below ga w w4:=J.trans (s.mono oM);have hf:w4.frozen? ⟨gv,2,none⟩=false:=by simp[World.frozen?,y]
 have b0:w4.cell? ⟨gv,2,none⟩=some (.slice none 0 0):=by rw[cell_of_row w4 gv 2 _ _ _ y];simp[go_sem]
 have k:(zQ ⟨4,0,.slice none 0 0⟩).setIfInBounds 2 (.slice A n cap)=zQ ⟨4,0,.slice A n cap⟩:=by apply Array.ext';simp[zQ]
 have N:(w4.setCell ⟨gv,2,none⟩ (.slice A n cap)).heap[gv]?=some (.cells (zQ ⟨4,0,.slice A n cap⟩) 25 (0,0)):=by rw[zA y,k]
 have B:=z6.setCell w4 ⟨gv,2,none⟩ (.slice A n cap);have D:(w4.setCell ⟨gv,2,none⟩ (.slice A n cap)).heap[ga]?=some (.cells (zQ xZ) 25 (0,0)):=(B.block ga oM sO).trans a1;have H:Below ga w (w4.setCell ⟨gv,2,none⟩ (.slice A n cap)):=a5.trans (B.below oM sO);have d:=f.kept B (λx hx=>oS (f.at_base hx));clear k B a1 a5 h3 b1 f s E J hl a0;go_upto_region 20 with fail
 obtain⟨W4,a3⟩:=eR (w4.setCell ⟨gv,2,none⟩ (.slice A n cap))
 rw[<-a3]at N D H d |-;clear a3 hf y b0 j;have b3:=dH (And.intro m a8);have a9:z7 W4 gv 0 3=some (zQ ⟨4,0,.slice A n cap⟩):=by unfold z7;rw[N];simp[go_sem]
 have a7:=yU (P:=Tryz.prog) qT W4 ga (zQ xZ) (zQ ⟨4,0,.slice A n cap⟩) _ D sI sI (vT _ rfl);have O:z6 [ga] W4 (W4.setRow ga (zQ ⟨4,0,.slice A n cap⟩)):=⟨rfl,rfl,rfl,by simp[World.setRow],λx _ hx=>setRow_other W4 ga x _ (by simpa using hx)⟩
 have Y:=dH (setRow_heap W4 ga _ (zQ ⟨4,0,.slice A n cap⟩) _ _ D);have b4:=dH (H.trans (O.below (by have:=H.size;have:=M.out;omega) sI));have HO:=dH (d.kept O (λx hx=>oS (d.at_base hx)));clear O D H N d;(go_wp2_with fail);refine bodyPost_ret (results_cell_row Tryz.results24 _ _ ga 25 (zQ ⟨4,0,.slice A n cap⟩) (0,0) _ rfl Y.out Tryz.underlying25 rfl (by rw[v4];exact qT)) rfl ?_;exact⟨A,cap,rfl,HO.out.mono (by have:=b3.out;have:=M.out;omega),by rw[M.out];exact b4.out⟩
theorem kh(w:World)(g gt:Nat)(t:ByteArray)(b:Nat)(I:List zE)(h:xE w g t b I (.iface 106 (.pointer (some ⟨gt,0,none⟩))))(ht:t.size<=9223372036854775807)(hk:yC t=5)(n:Nat)(L:List (Array Value))
  (hl:∀w',Below w.heap.size w w'->Calls Tryz.prog 61 #[.pointer (some ⟨gt,0,none⟩)] w' λe Z=>∃A cap,e=.returned (.slice A n cap)/\Own Z w'.heap.size 98 2 A n cap L/\Below w'.heap.size w' Z) :
  Calls Tryz.prog 24 #[.pointer (some ⟨g,0,none⟩)] w λe w'=>∃A cap,e=.returned (.agg (zQ ⟨5,0,.slice A n cap⟩))/\Own w' w.heap.size 98 2 A n cap L/\Below w.heap.size w w':=by
 have hB:Below w.heap.size w (w.alloc (.cells (zQ xZ) 25)):=bA;have h1:=h.below hB;have r:(w.alloc (.cells (zQ xZ) 25)).heap[w.heap.size]?=some (.cells (zQ xZ) 25 (0,0)):=heap_alloc_new w _;have c2:=λw=>bI t w ht;rw[hk]at c2;go_enter Tryz.func24,Tryz.ntmps24
 go_upto_region 1 with fail
 obtain⟨ga,V⟩:=eX w.heap.size
 have M:=dH V;rw[V]at r hB hl |-;obtain⟨W,hW⟩:=eR (w.alloc (.cells (zQ xZ) 25))
 rw[<-hW]at h1 r hB |-;clear hW V;have a2:=h1.cell1;(go_wp2_with fail);refine(j7 W g b a2).mono ?_;rintro e w1 ⟨rfl,rfl⟩;have b2:=h1.cell0;(go_wp2_with fail);refine(c2 _).mono ?_;rintro e w2 ⟨rfl,G⟩;have h2:=h1.below G;have X:=(G.block ga (aG r).1).trans r;have a6:Below ga w w2:=hB.trans (G.mono (by have:=hB.size;have:=M.out;omega));have U:ga<w2.heap.size:=(aG X).1;clear b2 a2 h1 r hB G h c2;have F:Below w2.heap.size w2 (w2.alloc (.cells (zQ ⟨5,0,.slice none 0 0⟩) 25)):=bA;have h3:=h2.below F;have E:=(F.block ga U).trans X;have J:Below ga w (w2.alloc (.cells (zQ ⟨5,0,.slice none 0 0⟩) 25)):=a6.trans (F.mono oM);have j:(w2.alloc (.cells (zQ ⟨5,0,.slice none 0 0⟩) 25)).heap[w2.heap.size]?=some (.cells (zQ ⟨5,0,.slice none 0 0⟩) 25 (0,0)):=heap_alloc_new w2 _;obtain⟨gv,T⟩:=eX w2.heap.size
 have b5:=dH T;clear h2 X a6 F;go_upto_region 4 with fail
 rw[T]at j U;obtain⟨W3,a4⟩:=eR (w2.alloc (.cells (zQ ⟨5,0,.slice none 0 0⟩) 25))
 rw[<-a4]at h3 E J j |-;clear a4 T;have b1:=h3.cell2;go_upto_region 19 with fail
 have a0:=hl W3 J;(go_wp2_with fail);refine a0.mono ?_;rintro e w4 ⟨A,cap,rfl,f,s⟩;have R:gv<W3.heap.size:=(aG j).1;have m:ga<W3.heap.size:=(aG E).1;have y:=(s.block gv R).trans j;have a1:=(s.block ga m).trans E;have a8:=s.size;have a5:Below ga w w4:=J.trans (s.mono oM);have hf:w4.frozen? ⟨gv,2,none⟩=false:=by simp[World.frozen?,y]
 have b0:w4.cell? ⟨gv,2,none⟩=some (.slice none 0 0):=by rw[cell_of_row w4 gv 2 _ _ _ y];simp[go_sem]
 have k:(zQ ⟨5,0,.slice none 0 0⟩).setIfInBounds 2 (.slice A n cap)=zQ ⟨5,0,.slice A n cap⟩:=by apply Array.ext';simp[zQ]
 have N:(w4.setCell ⟨gv,2,none⟩ (.slice A n cap)).heap[gv]?=some (.cells (zQ ⟨5,0,.slice A n cap⟩) 25 (0,0)):=by rw[zA y,k]
 have B:=z6.setCell w4 ⟨gv,2,none⟩ (.slice A n cap);have D:(w4.setCell ⟨gv,2,none⟩ (.slice A n cap)).heap[ga]?=some (.cells (zQ xZ) 25 (0,0)):=(B.block ga oM sO).trans a1;have H:Below ga w (w4.setCell ⟨gv,2,none⟩ (.slice A n cap)):=a5.trans (B.below oM sO);have d:=f.kept B (λx hx=>oS (f.at_base hx));clear k B a1 a5 h3 b1 f s E J hl a0;go_upto_region 20 with fail
 obtain⟨W4,a3⟩:=eR (w4.setCell ⟨gv,2,none⟩ (.slice A n cap))
 rw[<-a3]at N D H d |-;clear a3 hf y b0 j;have b3:=dH (And.intro m a8);have a9:z7 W4 gv 0 3=some (zQ ⟨5,0,.slice A n cap⟩):=by unfold z7;rw[N];simp[go_sem]
 have a7:=yU (P:=Tryz.prog) qT W4 ga (zQ xZ) (zQ ⟨5,0,.slice A n cap⟩) _ D sI sI (vT _ rfl);have O:z6 [ga] W4 (W4.setRow ga (zQ ⟨5,0,.slice A n cap⟩)):=⟨rfl,rfl,rfl,by simp[World.setRow],λx _ hx=>setRow_other W4 ga x _ (by simpa using hx)⟩
 have Y:=dH (setRow_heap W4 ga _ (zQ ⟨5,0,.slice A n cap⟩) _ _ D);have b4:=dH (H.trans (O.below (by have:=H.size;have:=M.out;omega) sI));have HO:=dH (d.kept O (λx hx=>oS (d.at_base hx)));clear O D H N d;(go_wp2_with fail);refine bodyPost_ret (results_cell_row Tryz.results24 _ _ ga 25 (zQ ⟨5,0,.slice A n cap⟩) (0,0) _ rfl Y.out Tryz.underlying25 rfl (by rw[v4];exact qT)) rfl ?_;exact⟨A,cap,rfl,HO.out.mono (by have:=b3.out;have:=M.out;omega),by rw[M.out];exact b4.out⟩
section
open Go.RowKit Go.Sort Go.Shelf
section
variable {α:Type} [Inhabited α] {enc:α->Array Value} {k:Nat}
theorem own_holds{w:World}{B:Nat}{E:TypeId}{g n cap:Nat}{L:List α}(hk:0<k)(hs:∀x,(enc x).size=k)(h:Own w B E k (some ⟨g,0,none⟩) n cap (L.map enc)) :
  HoldsK (λx=>(enc x).toList) k w g 0 L.toArray:=by
 intro j hj;have f:j<L.length*k:=by simpa using hj
 have hi:j / k<L.length:=Nat.div_lt_of_lt_mul (by rw[Nat.mul_comm];exact f);have hr:j % k<k:=Nat.mod_lt _ hk;have he:j / k*k+j % k=j:=by rw[Nat.mul_comm];exact Nat.div_add_mod j k
 have hl:L.length=n:=by simpa using h.len
 obtain⟨g',o,e,d⟩:=h.slr.at_ (i:=j / k) oM;injection e with e
 injection e with e1 e2
 subst e1;subst e2;rw[List.getElem_map]at d;have hc:=z8 d hr;rw[Nat.zero_add,he]at hc;refine⟨?_,?_⟩
 ·rw[Nat.zero_add,hc,get_flatK _ _ _ j (by simpa using f),getElem!_pos L.toArray (j / k) (by simpa using hi)];have m:j % k<(enc L[j / k]).toList.length:=by simpa[hs]using hr
  rw[getElem!_pos _ (j % k) (by simpa using m)];simp[hs,hr]
 ·obtain⟨⟨_,h2⟩,_,_⟩:=h;rcases h2 with⟨h2,_⟩ | ⟨g',c,cur,hv,hb,hg,_⟩
  ·cases h2
  ·injection hv with hA
   injection hA with hA
   injection hA with hA
   subst hA;simp[World.frozen?,hg]
theorem JP{w:World}{B:Nat}{E:TypeId}{g n n' cap:Nat}{L L':List (Array Value)}(h:Own w B E k (some ⟨g,0,none⟩) n cap L)(f:n'<=n)(m:Nat)(F:Array Value)(hF:F.size=n*k)(hL:F.toList.take (n'*k)=L'.flatMap Array.toList)(hl:L'.length=n')(hs:∀c∈L',c.size=k)(os:Array Obj) :
  Own (grow (putRow id (Sort.ahead w m) g 0 F) os) B E k (some ⟨g,0,none⟩) n' cap L'/\z6 [g] w (grow (putRow id (Sort.ahead w m) g 0 F) os):=by
 obtain⟨⟨_,h2⟩,_,_⟩:=h;rcases h2 with⟨h2,_⟩ | ⟨g',c,cur,hv,hb,hg,hnc,hcm,hcs,htake⟩
 ·cases h2
 injection hv with hA _ hc
 injection hA with hA
 injection hA with hA
 subst hA;subst hc;have s:g<w.heap.size:=(aG hg).1;have d:(grow (putRow id (Sort.ahead w m) g 0 F) os).heap[g]?=some (.cells (putCells id 0 F cur) E (0,0)):=by
  rw[heap_grow_old _ _ (by simpa[putRow,mapBlock,Sort.ahead]using s)];show(w.heap.modify g _)[g]?=_;rw[Array.getElem?_modify,if_pos rfl,hg];rfl
 have t:n*k<=cur.size:=by rw[hcs];exact Nat.mul_le_mul_right k hnc
 have r:n'*k<=n*k:=Nat.mul_le_mul_right k f;refine⟨⟨⟨?_,.inr ⟨g,cap,_,rfl,hb,d,oM,hcm,?_,?_⟩⟩,hl,hs⟩,?_⟩
 ·rw[kQ _ k hs,hl]
 ·simp[putCells,hcs]
 ·rw[<-hL];apply List.ext_getElem?;intro j;by_cases hj:j<n'*k
  ·rw[List.getElem?_take,List.getElem?_take,if_pos hj,if_pos hj,Array.getElem?_toList,Array.getElem?_toList];unfold putCells;rw[Array.getElem?_mapIdx,Array.getElem?_eq_getElem (oM:j<cur.size),Array.getElem?_eq_getElem (oM:j<F.size)];simp only[Option.map_some,Nat.zero_le,true_and,Nat.zero_add,Nat.sub_zero,hF];rw[if_pos oM,getElem!_pos _ j oM];rfl
  ·rw[List.getElem?_eq_none sO,List.getElem?_eq_none sO]
 ·refine⟨rfl,rfl,rfl,?_,λx hx hn=>?_⟩
  ·rw[size_grow];simp[putRow,mapBlock,Sort.ahead]
  ·rw[heap_grow_old _ _ (by simpa[putRow,mapBlock,Sort.ahead]using hx)];show(w.heap.modify g _)[x]?=_;rw[Array.getElem?_modify,if_neg (by simpa[eq_comm]using hn)]
theorem lK{w:World}{B:Nat}{E:TypeId}{g n cap:Nat}{L:List α}(hk:0<k)(hs:∀x,(enc x).size=k)(h:Own w B E k (some ⟨g,0,none⟩) n cap (L.map enc))(m:Nat)(L':List α)(hl:L'.length=L.length)(os:Array Obj) :
  Own (sortWorldK (λx=>(enc x).toList) k w g 0 m L'.toArray os) B E k (some ⟨g,0,none⟩) n cap (L'.map enc)/\z6 [g] w (sortWorldK (λx=>(enc x).toList) k w g 0 m L'.toArray os):=by
 have hn:L.length=n:=by simpa using h.len
 have d:∀c∈L'.map enc,c.size=k:=λc hc=>(by obtain⟨x,_,rfl⟩:=List.mem_map.1 hc;exact hs x);have f:(L'.map enc).flatMap Array.toList=(flatK (λx=>(enc x).toList) k L'.toArray).toList:=by
  apply List.ext_getElem?;intro j;have s:=kQ (L'.map enc) k d;rw[List.length_map]at s;by_cases hj:j<L'.length*k
  ·have hi:j / k<L'.length:=Nat.div_lt_of_lt_mul (by rw[Nat.mul_comm];exact hj);have hr:j % k<k:=Nat.mod_lt _ hk;have he:j / k*k+j % k=j:=by rw[Nat.mul_comm];exact Nat.div_add_mod j k
   have e1:=tX (L'.map enc) k d (j / k) (j % k) (by simpa using hi) hr;rw[he]at e1;rw[e1];have d:j<(flatK (λx=>(enc x).toList) k L'.toArray).size:=by simpa using hj
   rw[Array.getElem?_toList,Array.getElem?_eq_getElem d,<-getElem!_pos _ j d,get_flatK _ _ _ j (by simpa using hj),getElem!_pos L'.toArray (j / k) (by simpa using hi)];have r:j % k<(enc L'[j / k]).toList.length:=by simpa[hs]using hr
   rw[List.getElem_map,List.getElem_toArray,getElem!_pos _ (j % k) r];simp[hs,hr]
  ·rw[List.getElem?_eq_none oM,List.getElem?_eq_none (by simpa using hj)]
 have hF:(flatK (λx=>(enc x).toList) k L'.toArray).size=n*k:=by simp[hl,hn]
 exact JP h lR m (flatK (λx=>(enc x).toList) k L'.toArray) hF (by rw[f,List.take_of_length_le (by simpa using Nat.le_of_eq hF)]) (by simp[hl,hn]) d os
end
section
variable {α:Type} [Inhabited α] {f:α->Value}
theorem iU{w:World}{B:Nat}{E:TypeId}{g n cap:Nat}{L:List α}(h:Own w B E 1 (some ⟨g,0,none⟩) n cap (L.map λx=>#[f x])):Holds f w g 0 L.toArray:=by
 intro j hj;have k:j<L.length:=by simpa using hj
 have hl:L.length=n:=by simpa using h.len
 obtain⟨g',o,e,d⟩:=h.slr.at_ (i:=j) oM;injection e with e
 injection e with e1 e2
 subst e1;subst e2;rw[List.getElem_map]at d;have hc:=z8 d (j:=0) oM;refine⟨?_,?_⟩
 ·rw[getElem!_pos L.toArray j (by simpa using k)];simpa using hc
 ·obtain⟨⟨_,h2⟩,_,_⟩:=h;rcases h2 with⟨h2,_⟩ | ⟨g',c,cur,hv,hb,hg,_⟩
  ·cases h2
  ·injection hv with hA
   injection hA with hA
   injection hA with hA
   subst hA;simp[World.frozen?,hg]
theorem qp{w:World}{g:Nat}(d:Array α):putRow f w g 0 d=putRow id w g 0 (d.map f):=by
 unfold putRow;refine mapBlock_congr w g _ _ λc e fr _=>?_;unfold putCells;apply Array.ext
 ·simp
 ·intro i h1 h2;simp only[Array.getElem_mapIdx,Array.size_map];split
  ·rename_i h
   have hi:i-0<d.size:=oM;rw[getElem!_pos d (i-0) hi,getElem!_pos (d.map f) (i-0) (by simpa using hi)]
   simp
  ·rfl
theorem JQ{w:World}{B:Nat}{E:TypeId}{g n n' cap:Nat}{L:List (Array Value)}(h:Own w B E 1 (some ⟨g,0,none⟩) n cap L)(d:n'<=n)(m:Nat)(D L':List α)(hD:D.length=n)(hL:D.take n'=L')(os:Array Obj) :
  Own (grow (putRow f (Sort.ahead w m) g 0 D.toArray) os) B E 1 (some ⟨g,0,none⟩) n' cap (L'.map λx=>#[f x])/\z6 [g] w (grow (putRow f (Sort.ahead w m) g 0 D.toArray) os):=by
 rw[qp];refine JP h d m _ (by simp[hD]) ?_ (by rw[List.length_map,<-hL,List.length_take];omega) (λc hc=>by obtain⟨x,_,rfl⟩:=List.mem_map.1 hc;rfl) os;rw[<-hL,Nat.mul_one];have e:∀l:List α,(l.map λx=>#[f x]).flatMap Array.toList=l.map f:=λl=>(by induction l <;> simp_all);rw[e];simp[List.map_take]
end
end
end Go.Proofs.YtgfpjjppeldhbaaGreatDoor
