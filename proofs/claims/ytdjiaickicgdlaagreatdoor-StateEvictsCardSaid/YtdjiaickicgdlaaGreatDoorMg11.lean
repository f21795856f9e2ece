/- Part 11 of the texts that lead to this claim: the walks of the functions and the plain law, in order. -/
import Derived.Test.YtdjiaickicgdlaaGreatDoorMg10
import Derived.LaidEqlPtr
namespace Go.Proofs.YtdjiaickicgdlaaGreatDoor
open Go.RowKit
open List hiding and get max min or set
open Go.Proofs.Tryz
open World
set_option maxRecDepth 100000
set_option maxHeartbeats 8000000
variable {x:Nat}{c d:zB}{A C N P:List (zB×Nat)}{w:World}{S:List Pay}{p:Pay}
section
def Ln(nx pv:Nat->Nat):Nat->List Nat->Nat->Prop
 | x,[],z=>nx x=z/\pv z=x
 | x,y :: l,z=>nx x=y/\pv y=x/\Ln nx pv y l z
def up(f:Nat->Nat)(a b:Nat):Nat->Nat:=λx=>if x=a then b else f x
theorem lI(f:Nat->Nat)(a b:Nat):up f a b a=b:=if_pos rfl
theorem g9{f:Nat->Nat}{a b:Nat}(h:x≠a):up f a b x=f x:=if_neg h
section
variable {nx pv nx' pv':Nat->Nat}
theorem aC:∀ {A:List Nat} {x c z:Nat} {C:List Nat},Ln nx pv x (A++c :: C) z->Ln nx pv x A c/\Ln nx pv c C z
 | [],_,_,_,_,h=>⟨⟨h.1,h.2.1⟩,h.2.2⟩
 | _ :: _,_,_,_,_,h=>⟨⟨h.1,h.2.1,(aC h.2.2).1⟩,(aC h.2.2).2⟩
theorem yu:∀ {A:List Nat} {x c z:Nat} {C:List Nat},Ln nx pv x A c->Ln nx pv c C z->Ln nx pv x (A++c :: C) z
 | [],_,_,_,_,h,k=>⟨h.1,h.2,k⟩
 | _ :: _,_,_,_,_,h,k=>⟨h.1,h.2.1,yu h.2.2 k⟩
theorem Ln_congr:∀ {l:List Nat} {x z:Nat},Ln nx pv x l z->(∀y∈x :: l,nx' y=nx y)->(∀y∈l ++ [z],pv' y=pv y)->Ln nx' pv' x l z
 | [],x,z,h,hn,hp=>⟨(hn x sI).trans h.1,(hp z sI).trans h.2⟩
 | y :: l,x,z,h,hn,hp=>⟨(hn x sI).trans h.1,(hp y sI).trans h.2.1,Ln_congr h.2.2 (λq hq=>hn q (mem_cons_of_mem _ hq)) (λq hq=>hp q (by simp at hq |-;exact .inr hq))⟩
theorem XB:∀ {l:List Nat} {x c d:Nat},Ln nx pv x l c->(x :: l).Nodup->d∉l->(∀y∈x :: l,y≠pv c->nx' y=nx y)->nx' (pv c)=d->(∀y∈l,pv' y=pv y)->pv' d=pv c->Ln nx' pv' x l d
 | [],x,c,d,h,_,_,_,h2,_,h4=>⟨by rw[<-h2,h.2],by rw[h4,h.2]⟩
 | y :: l,x,c,d,h,hn,hd,h1,h2,h3,h4=>by
  rw[nodup_cons]at hn;have f:∀ {l:List Nat} {y:Nat},Ln nx pv y l c->pv c∈y :: l:=by
   intro l;induction l with
   | nil=>intro y h;rw[h.2];simp
   | cons a l ih=>intro y h;exact mem_cons_of_mem _ (ih h.2.2)
  have hx:x≠pv c:=λe=>hn.1 (e ▸ f h.2.2);exact⟨(h1 x sI hx).trans h.1,(h3 y sI).trans h.2.1,XB h.2.2 hn.2 (λhm=>hd (mem_cons_of_mem _ hm)) (λq hq=>h1 q (mem_cons_of_mem _ hq)) h2 (λq hq=>h3 q (mem_cons_of_mem _ hq)) h4⟩
theorem rK:∀ {l:List Nat} {x z:Nat},Ln nx pv x l z->pv z∈x :: l
 | [],_,_,h=>by rw[h.2];simp
 | _ :: _,_,_,h=>mem_cons_of_mem _ (rK h.2.2)
theorem Ln_first:∀ {l:List Nat} {x z:Nat},Ln nx pv x l z->nx x∈l ++ [z]
 | [],_,_,h=>by rw[h.1];simp
 | y :: l,_,_,h=>by rw[h.1];simp
theorem Ln_cut{r c:Nat}{A C:List Nat}(h:Ln nx pv r (A++c :: C) r)(hn:(r :: (A++c :: C)).Nodup):Ln (up nx (pv c) (nx c)) (up pv (nx c) (pv c)) r (A++C) r:=by
 obtain⟨h1,h2⟩:=aC h;have g:(r :: A).Nodup:=hn.sublist (Sublist.cons_cons _ (sublist_append_left _ _));have hA:=rK h1;simp only[nodup_cons,nodup_append,mem_append,mem_cons]at hn;obtain⟨hr,j,⟨hc,hC⟩,f⟩:=hn;cases C with
 | nil =>
  have hd:nx c=r:=h2.1;rw[append_nil,hd];refine XB h1 g (λhm=>hr (.inl hm)) (λy _ hy=>g9 hy) (lI _ _ _) (λy hy=>g9 λe=>?_) (lI _ _ _);exact hr (.inl (e ▸ hy))
 | cons d C =>
  have hd:nx c=d:=h2.1;rw[hd];refine yu (XB h1 g (λhm=>f _ hm _ (.inr sI) rfl) (λy _ hy=>g9 hy) (lI _ _ _) (λy hy=>g9 λe=>?_) (lI _ _ _)) (Ln_congr h2.2.2 (λy hy=>g9 λe=>?_) (λy hy=>g9 λe=>?_))
  ·subst e;exact f _ hy _ (.inr sI) rfl
  ·subst e;rcases mem_cons.1 hA with e | e
   ·rw[e]at hy;exact hr (.inr (.inr hy))
   ·exact f _ e _ (.inr hy) rfl
  ·subst e;rw[nodup_cons]at hC;rcases mem_append.1 hy with e | e
   ·exact hC.1 e
   ·have e:y=r:=by simpa using e
    exact hr (.inr (.inr (by rw[e];simp)))
theorem Ln_hang{r n:Nat}{L:List Nat}(h:Ln nx pv r L r)(hn:(r :: L).Nodup)(hf:n∉r :: L):Ln (up (up nx (pv r) n) n r) (up (up pv n (pv r)) r n) r (L ++ [n]) r:=by
 have hl:=rK h;have f:pv r≠n:=λe=>hf (e ▸ hl);have d:n≠r:=λe=>hf (by simp[e]);have hr:r∉L:=(nodup_cons.1 hn).1;refine yu (XB h hn (λhm=>hf (mem_cons_of_mem _ hm)) (λy hy h1=>?_) ?_ (λy hy=>?_) ?_) ⟨lI _ _ _,lI _ _ _⟩
 ·rw[g9 (λe:y=n=>hf (e ▸ hy)),g9 h1]
 ·rw[g9 f,lI]
 ·rw[g9 (λe:y=r=>hr (e ▸ hy)),g9 (λe:y=n=>hf (e ▸ mem_cons_of_mem _ hy))]
 ·rw[g9 d,lI]
end
end
theorem vT{g:Nat}{c:Array Value}{T:TypeId}{fr:Nat×Nat}(h:w.heap[g]?=some (.cells c T fr))(j:Nat)(u:Value):(w.setCell ⟨g,j,none⟩ u).heap[g]?=some (.cells (c.setIfInBounds j u) T fr):=by
 obtain⟨d,hg⟩:=aG h;show(w.heap.modify g _)[g]?=_;rw[Array.getElem?_modify];simp[h]
section
structure JS where
 p:Option Addr
 n:Option Addr
def xT(x:JS):Array Value:=#[.pointer x.p] ++ #[.pointer x.n]
@[simp] theorem lLinkC_size(x:JS):(xT x).size=2:=by simp[xT]
theorem lLinkC_one(x:JS):∀u∈(xT x).toList,u.oneCell'=true:=by
 intro u hu;simp only[xT,Array.toList_append,mem_append]at hu;rcases hu with hu | hu
 ·simp at hu;subst hu;rfl
 ·simp at hu;subst hu;rfl
def dS:JS:=⟨none,none⟩
theorem LLink_ext{x y:JS}(h:x.p=y.p/\x.n=y.n):x=y:=by cases x;cases y;simp_all
instance:DecidableEq JS:=λx y=>if h:x.p=y.p/\x.n=y.n then isTrue (LLink_ext h)else isFalse (λe=>h (by subst e;simp))
theorem KV:(prog.info? 161).map (·.size)=some 2:=kR
@[go_sem ↓] theorem rR(w:World):(zeroValue 161).run prog w=.ok (.agg (xT dS)) w:=by
 have h:(prog.info? 161).bind (·.zero)=some (.agg (xT dS)):=kR;cases hi:prog.info? 161 with
 | none=>rw[hi]at h;cases h
 | some i =>
  rw[hi]at h;have hz:i.zero=some (.agg (xT dS)):=h;simp[zeroValue,typeInfo,hi,hz]
@[go_sem ↓] theorem loadLLink_rw(a:Addr):loadVar 161 a=ldS 161 a:=rfl
@[go_sem ↓] theorem storeLLink_rw(a:Addr)(v:Value):storeVar 161 a v=stS 161 a v:=rfl
@[go_sem] theorem loadLLink_run(w:World)(g o:Nat):(ldS 161 ⟨g,o,none⟩).run prog w=match zA w g o 2 with | some cs=>.ok (.agg cs) w | none=>(loadVar 161 ⟨g,o,none⟩).run prog w :=
 jK underlying161 rfl KV w g o
theorem YD:prog.underlying 161=some (.struct (prog.fieldsOf 161)):=kR
theorem Y0(w:World):((prog.fieldsOf 161).mapM fun (f:Field)=>do pure (f.offset,<-sizeOf f.type)).run prog w=.ok #[(0,1),(1,1)] w:=kR
@[go_sem ↓] theorem buildLLink_rw(parts:Array (Nat×Value)):Instr.build 161 parts=bdS 161 parts:=rfl
@[go_sem] theorem buildLLink(a0:Option Addr)(a1:Option Addr)(w:World):(bdS 161 #[(0,.pointer a0),(1,.pointer a1)]).run prog w=.ok (.agg (xT ⟨a0,a1⟩)) w:=by
 refine qL w YD _ (rR w) _ (Y0 w) [(0,.pointer a0),(1,.pointer a1)] _ ?_;rw[show xT dS=(#[]:Array Value) ++ #[.pointer none]++(#[.pointer none])from by first | (simp[xT,dS,Array.append_assoc];done) | (apply Array.ext';simp[xT,dS])];rw[yT (off:=0) (size:=1) rfl sI sI (by simp[Value.cells])];rw[show(#[]:Array Value)++(Value.pointer a0).cells++(#[.pointer none])=(#[.pointer a0]) ++ #[.pointer none]++(#[]:Array Value)from by first | (simp[Value.cells,Array.append_assoc];done) | (apply Array.ext';simp[Value.cells];done) | (apply Array.ext';simp only[Array.toList_append];simp[Value.cells])];rw[yT (off:=1) (size:=1) rfl sI sI (by simp[Value.cells])];first | (simp[Instr.fill,xT,Array.append_assoc,Value.cells];done) | (simp only[Instr.fill,xT];congr 1;apply Array.ext';simp[Value.cells];done) | (simp only[Instr.fill,xT];congr 1;done) | (simp only[Instr.fill,xT];done)
structure JR where
 id:zB
 lk:JS
def xJ(x:JR):Array Value:=idC x.id++xT x.lk
@[simp] theorem lNodeC_size(x:JR):(xJ x).size=34:=by simp[xJ]
@[go_sem] theorem lNodeC_e0(x:JR):(xJ x).extract 0 32=idC x.id:=by
 have h:xJ x=((#[]:Array Value))++idC x.id++(xT x.lk):=by first | (simp[xJ,Array.append_assoc];done) | (apply Array.ext';simp[xJ];done)
 rw[h];exact bC _ _ _ _ _ sI sI
@[go_sem] theorem lNodeC_e32(x:JR):(xJ x).extract 32 34=xT x.lk:=by
 have h:xJ x=(idC x.id)++xT x.lk++((#[]:Array Value)):=by first | (simp[xJ,Array.append_assoc];done) | (apply Array.ext';simp[xJ];done)
 rw[h];exact bC _ _ _ _ _ sI sI
def sX:JR:=⟨id0,dS⟩
theorem LNode_ext{x y:JR}(h:x.id=y.id/\x.lk=y.lk):x=y:=by cases x;cases y;simp_all
instance:DecidableEq JR:=λx y=>if h:x.id=y.id/\x.lk=y.lk then isTrue (LNode_ext h)else isFalse (λe=>h (by subst e;simp))
theorem KU:(prog.info? 163).map (·.size)=some 34:=kR
@[go_sem ↓] theorem rQ(w:World):(zeroValue 163).run prog w=.ok (.agg (xJ sX)) w:=by
 have h:(prog.info? 163).bind (·.zero)=some (.agg (xJ sX)):=kR;cases hi:prog.info? 163 with
 | none=>rw[hi]at h;cases h
 | some i =>
  rw[hi]at h;have hz:i.zero=some (.agg (xJ sX)):=h;simp[zeroValue,typeInfo,hi,hz]
@[go_sem ↓] theorem loadLNode_rw(a:Addr):loadVar 163 a=ldS 163 a:=rfl
@[go_sem ↓] theorem storeLNode_rw(a:Addr)(v:Value):storeVar 163 a v=stS 163 a v:=rfl
theorem YC:prog.underlying 163=some (.struct (prog.fieldsOf 163)):=kR
theorem ZZ(w:World):((prog.fieldsOf 163).mapM fun (f:Field)=>do pure (f.offset,<-sizeOf f.type)).run prog w=.ok #[(0,32),(32,2)] w:=kR
@[go_sem ↓] theorem buildLNode_rw(parts:Array (Nat×Value)):Instr.build 163 parts=bdS 163 parts:=rfl
@[go_sem] theorem buildLNode_0(a0:zB)(w:World):(bdS 163 #[(0,.agg (idC a0))]).run prog w=.ok (.agg (xJ ⟨a0,dS⟩)) w:=by
 refine qL w YC _ (rQ w) _ (ZZ w) [(0,.agg (idC a0))] _ ?_;rw[show xJ sX=(#[]:Array Value)++idC id0++(xT dS)from by first | (simp[xJ,sX,Array.append_assoc];done) | (apply Array.ext';simp[xJ,sX])];rw[yT (off:=0) (size:=32) rfl sI sI (by simp[Value.cells])];first | (simp[Instr.fill,xJ,Array.append_assoc,Value.cells];done) | (simp only[Instr.fill,xJ];congr 1;apply Array.ext';simp[Value.cells];done) | (simp only[Instr.fill,xJ];congr 1;done) | (simp only[Instr.fill,xJ];done)
def at0(x:Nat):Option Addr:=some ⟨x,0,none⟩
structure qC(w:World)(x:Nat)(d:zB)(p n:Option Addr):Prop where
 heap:w.heap[x]?=some (.cells (xJ ⟨d,⟨p,n⟩⟩) 163 (0,0))
theorem lNode_32(d:zB)(p n:Option Addr):(xJ ⟨d,⟨p,n⟩⟩)[32]?=some (.pointer p):=by simp[xJ,xT,Array.getElem?_append]
theorem lNode_33(d:zB)(p n:Option Addr):(xJ ⟨d,⟨p,n⟩⟩)[33]?=some (.pointer n):=by simp[xJ,xT,Array.getElem?_append]
theorem vj(d:zB)(p n q:Option Addr):(xJ ⟨d,⟨p,n⟩⟩).setIfInBounds 32 (.pointer q)=xJ ⟨d,⟨q,n⟩⟩:=by
 apply Array.ext';simp[xJ,xT,set_append]
theorem vi(d:zB)(p n q:Option Addr):(xJ ⟨d,⟨p,n⟩⟩).setIfInBounds 33 (.pointer q)=xJ ⟨d,⟨p,q⟩⟩:=by
 apply Array.ext';simp[xJ,xT,set_append]
section
variable {w w':World} {x:Nat} {d:zB} {p n:Option Addr}
theorem qC.lt(h:qC w x d p n):x<w.heap.size:=(aG h.heap).1
theorem qC.c32(h:qC w x d p n):w.cell? ⟨x,32,none⟩=some (.pointer p):=by rw[cell_of_row w x 32 _ _ _ h.heap];exact lNode_32 d p n
theorem qC.c33(h:qC w x d p n):w.cell? ⟨x,33,none⟩=some (.pointer n):=by rw[cell_of_row w x 33 _ _ _ h.heap];exact lNode_33 d p n
theorem qC.fro(h:qC w x d p n)(j:Nat):w.frozen? ⟨x,j,none⟩=false:=by simp[frozen?,h.heap]
theorem qC.rid(h:qC w x d p n):zA w x 0 32=some (idC d):=by unfold zA;rw[h.heap];simp[go_sem]
theorem qC.rlk(h:qC w x d p n):zA w x 32 2=some (xT ⟨p,n⟩):=by unfold zA;rw[h.heap];simp[go_sem]
theorem qC.kept{S:List Nat}(h:qC w x d p n)(k:z9 S w w')(hx:x∉S):qC w' x d p n:=⟨(k.block x h.lt hx).trans h.heap⟩
theorem qC.setp(h:qC w x d p n)(q:Option Addr):qC (w.setCell ⟨x,32,none⟩ (.pointer q)) x d q n:=⟨by rw[vT h.heap,vj]⟩
theorem qC.setn(h:qC w x d p n)(q:Option Addr):qC (w.setCell ⟨x,33,none⟩ (.pointer q)) x d p q:=⟨by rw[vT h.heap,vi]⟩
theorem qC.setl(h:qC w x d p n)(a b:Option Addr):∃w',(stS 161 ⟨x,32,none⟩ (.agg (xT ⟨a,b⟩))).run prog w=.ok () w'/\qC w' x d a b/\z9 [x] w w':=by
 have f:=run_storeCells_at prog x 32 163 (xT ⟨a,b⟩).toList 0 (xJ ⟨d,⟨p,n⟩⟩) w h.heap sI (lLinkC_one _);refine⟨w.setRow x (xJ ⟨d,⟨a,b⟩⟩),?_,⟨?_⟩,?_⟩
 ·unfold stS storeVar;have hi:=KV;cases hinfo:prog.info? 161 with
  | none=>rw[hinfo]at hi;cases hi
  | some i =>
   rw[hinfo]at hi;have hk:i.size=2:=by simpa using hi
   have hE:((xJ ⟨d,⟨p,n⟩⟩).toList.take (32+0)++(xT ⟨a,b⟩).toList++(xJ ⟨d,⟨p,n⟩⟩).toList.drop (32+0+(xT ⟨a,b⟩).toList.length)).toArray=xJ ⟨d,⟨a,b⟩⟩:=by
    apply Array.ext';simp[xJ,xT]
   rw[hE]at f;simp[Value.cells,sizeOf,typeInfo,hinfo,hk];exact f
 ·exact setRow_heap w x _ _ _ _ h.heap
 ·exact⟨rfl,rfl,rfl,by simp[setRow],λy _ hy=>setRow_other w x y _ (by simpa using hy)⟩
end
def jT(w:World)(nx pv:Nat->Nat)(P:List (zB×Nat)):Prop:=∀q∈P,qC w q.2 q.1 (at0 (pv q.2)) (at0 (nx q.2))
section
variable {w w':World} {nx pv:Nat->Nat} {P:List (zB×Nat)} {d:zB} {x:Nat}
theorem jT.kept{S:List Nat}(h:jT w nx pv P)(k:z9 S w w')(hn:∀q∈P,q.2∉S):jT w' nx pv P:=λq hq=>(h q hq).kept k (hn q hq)
theorem snd_inj{P:List (zB×Nat)}(hn:(P.map (·.2)).Nodup){a b:zB×Nat}(ha:a∈P)(hb:b∈P)(e:a.2=b.2):a=b:=by
 induction P with
 | nil=>cases ha
 | cons c P ih =>
  rw[map_cons,nodup_cons]at hn;rcases mem_cons.1 ha with h1 | h1 <;> rcases mem_cons.1 hb with h2 | h2
  ·rw[h1,h2]
  ·subst h1;exact absurd (e ▸ mem_map_of_mem (f:=(·.2)) h2) hn.1
  ·subst h2;exact absurd (e ▸ mem_map_of_mem (f:=(·.2)) h1) hn.1
  ·exact ih hn.2 h1 h2
theorem jT.setn(h:jT w nx pv P)(hn:(P.map (·.2)).Nodup)(hx:(d,x)∈P)(m:Nat):jT (w.setCell ⟨x,33,none⟩ (.pointer (some ⟨m,0,none⟩))) (up nx x m) pv P:=by
 intro q hq;by_cases e:q.2=x
 ·have:=snd_inj hn hq hx e;subst this;rw[lI];exact(h _ hq).setn _
 ·rw[g9 e];exact(h q hq).kept (z9.setCell w ⟨x,33,none⟩ _) (by simpa using e)
theorem jT.setp(h:jT w nx pv P)(hn:(P.map (·.2)).Nodup)(hx:(d,x)∈P)(m:Nat):jT (w.setCell ⟨x,32,none⟩ (.pointer (some ⟨m,0,none⟩))) nx (up pv x m) P:=by
 intro q hq;by_cases e:q.2=x
 ·have:=snd_inj hn hq hx e;subst this;rw[lI];exact(h _ hq).setp _
 ·rw[g9 e];exact(h q hq).kept (z9.setCell w ⟨x,32,none⟩ _) (by simpa using e)
end
abbrev fD(x:Nat):Value:=.pointer (some ⟨x,0,none⟩)
def dL(w:World)(g:Nat)(F:List Nat)(L:List zB):Prop :=
 ∃(r b:Nat) (N:List (zB×Nat)) (nx pv:Nat->Nat),N.map (·.1)=L/\F=g :: b :: r :: N.map (·.2) /\
  w.heap[g]?=some (.cells #[.pointer (some ⟨r,0,none⟩),.map (some b)] 166 (0,0)) /\
  (∃M es clk,yL w b idV fD vN M es clk/\M.Perm N) /\
  Ln nx pv r (N.map (·.2)) r/\jT w nx pv ((id0,r) :: N)/\(r :: N.map (·.2)).Nodup/\L.Nodup
theorem dL.kept{w w':World}{S:List Nat}{g:Nat}{F:List Nat}{L:List zB}(h:dL w g F L)(k:z9 S w w')(hF:∀x∈F,x∉S):dL w' g F L:=by
 obtain⟨r,b,N,nx,pv,h1,h2,h3,⟨M,es,d,hm,hp⟩,h5,h6,h7,h8⟩:=h;subst h2;refine⟨r,b,N,nx,pv,h1,rfl,(k.block g (aG h3).1 (hF g sI)).trans h3,⟨M,es,d,hm.kept k (hF b sI),hp⟩,h5,h6.kept k λq hq=>hF _ ?_,h7,h8⟩;rcases mem_cons.1 hq with e | e
 ·subst e;simp
 ·exact mem_cons_of_mem _ (mem_cons_of_mem _ (mem_cons_of_mem _ (mem_map_of_mem e)))
theorem dL.lt{w:World}{g:Nat}{F:List Nat}{L:List zB}(h:dL w g F L):∀x∈F,x<w.heap.size:=by
 obtain⟨r,b,N,nx,pv,h1,h2,h3,⟨M,es,d,hm,hp⟩,h5,h6,h7,h8⟩:=h;subst h2;intro x hx;rcases mem_cons.1 hx with e | hx
 ·rw[e];exact(aG h3).1
 rcases mem_cons.1 hx with e | hx
 ·rw[e];exact hm.lt
 rcases mem_cons.1 hx with e | hx
 ·rw[e];exact(h6 (id0,r) sI).lt
 ·obtain⟨q,hq,rfl⟩:=mem_map.1 hx;exact(h6 q (mem_cons_of_mem _ hq)).lt
end
@[go_sem] theorem buildLLink_none(w:World):(bdS 161 #[]).run prog w=.ok (.agg (xT ⟨none,none⟩)) w:=by
 refine qL w YD _ (rR w) _ (Y0 w) [] _ ?_;simp[Instr.fill,dS]
theorem lru_cut(w:World)(nx pv:Nat->Nat)(A C:List (zB×Nat))(d dp dn:zB)(x p n:Nat)(hr:jT w nx pv (A++(d,x) :: C))(s:((A++(d,x) :: C).map (·.2)).Nodup)(T:pv x=p)(V:nx x=n)(hp:(dp,p)∈A++C)(hn:(dn,n)∈A++C) :
  Calls prog 179 #[.pointer (some ⟨x,0,none⟩)] w λe w'=>e=.returned (.tuple #[])/\jT w' (up nx p n) (up pv n p) (A++C)/\qC w' x d none none/\z9 [x,p,n] w w':=by
 have hx:=hr (d,x) sI;have k:∀q∈A++C,q∈A++(d,x) :: C:=λq hq=>by
  rcases mem_append.1 hq with h | h
  ·exact mem_append_left _ h
  ·exact mem_append_right _ (mem_cons_of_mem _ h)
 have r:((A++C).map (·.2)).Nodup:=s.sublist (Sublist.map _ (Sublist.append_left (sublist_cons_self _ _) _));have j:∀q∈A++C,q.2≠x:=λq hq e=>by
  rw[map_append,map_cons,nodup_append,nodup_cons]at s;rcases mem_append.1 hq with h | h
  ·exact s.2.2 q.2 (mem_map_of_mem h) x sI e
  ·exact s.2.1.1 (e ▸ mem_map_of_mem (f:=(·.2)) h)
 have R:x≠p:=λe=>j _ hp e.symm;have m:x≠n:=λe=>j _ hn e.symm;have g:jT w nx pv (A++C):=λq hq=>hr q (k q hq);simp only[T,V]at hx;have c32:=hx.c32;have c33:=hx.c33;unfold at0 at c32 c33;have y:x∉[p,n]:=by simp;exact⟨R,m⟩
 have M:∀q∈A++C,q.2∉[x]:=λq hq=>(by simpa using j q hq);have Hx:=dH hx;have a1:=dH g;have t:=dH r;have Hp:=dH hp;have Hn:=dH hn;clear hx hr s g r T V hp hn k j R m;go_enter func179,ntmps179
 go_upto_region 0 with fail
 have H:=a1.out (dp,p) Hp.out;have a6:=H.c33;have a4:=H.fro 33;have B:=z9.setCell w ⟨p,33,none⟩ (.pointer (some ⟨n,0,none⟩));have G:=a1.out.setn t.out Hp.out n;obtain⟨W1,U⟩:=eX (w.setCell ⟨p,33,none⟩ (.pointer (some ⟨n,0,none⟩)))
 rw[U]at B G;have a2:=dH G;have a0:Kp [p,n] w W1.drew:=z9.trans (B.mono sI) (z9.drew W1) sI;clear H G;refine kX [p,n] w ?_;intro j hS;have b1:=zG c32 y;have b2:=zG c33 y;refine lQ ?_;intro K hK;refine hK _ _ ?_;clear hK K hS U a6 a4 c32 c33;have hS:=a0;have I:=a2.out (dn,n) Hn.out;have a7:=I.c32;have a5:=I.fro 32;have L:=z9.setCell W1 ⟨n,32,none⟩ (.pointer (some ⟨p,0,none⟩));have g:=a2.out.setp t.out Hn.out p;obtain⟨W2,Z⟩:=eX (W1.setCell ⟨n,32,none⟩ (.pointer (some ⟨p,0,none⟩)))
 rw[Z]at L g;have D:Kp [p,n] w W2.drew:=z9.trans (z9.trans (B.mono sI) (L.mono sI) iL) (z9.drew W2) sI;refine lQ ?_;intro K hK;refine hK _ _ ?_;clear hK K hS Z a7 a5;have hS:=D;refine zD ?_;intro hS;have E:qC W2.drew x d (at0 p) (at0 n):=Hx.out.kept D y;have F:jT W2.drew (up nx p n) (up pv n p) (A++C):=g.kept (z9.drew W2) sI;have a8:=dH (show ∀q∈A++C,q.2∉[x]from M);have a3:=dH D;clear D hS b1 b2 j I B L g y a0 M;obtain⟨W3,Y⟩:=eX W2.drew
 rw[Y]at E F a3 |-;obtain⟨w4,a9,N,J⟩:=E.setl none none;have X:z9 [x,p,n] w w4:=z9.trans (a3.out.mono (S':=[x,p,n]) sI) J sI;have O:=F.kept J a8.out;have HF:=dH (And.intro O (And.intro N X));clear O N X J F E Y;(go_wp2_with fail);refine bodyPost_end (results_none rfl _ _ _) rfl ?_;exact⟨rfl,HF.out⟩
theorem ve(w:World)(g r b:Nat)(nx pv:Nat->Nat)(P:List (zB×Nat))(d dp dr:zB)(x p:Nat)(a c:Option Addr)(hg:w.heap[g]?=some (.cells #[.pointer (some ⟨r,0,none⟩),.map (some b)] 166 (0,0)))
  (hr:jT w nx pv P)(a2:(P.map (·.2)).Nodup)(k:(dr,r)∈P)(a0:pv r=p)(hp:(dp,p)∈P)(hx:qC w x d a c)(j:∀q∈P,q.2≠x)(M:∀q∈P,q.2≠g)(D:g≠x) :
  Calls prog 180 #[.pointer (some ⟨g,0,none⟩),.pointer (some ⟨x,0,none⟩)] w λe w'=>e=.returned (.tuple #[])/\jT w' (up (up nx p x) x r) (up (up pv x p) r x) (P ++ [(d,x)])/\z9 [x,p,r] w w':=by
 have f:=hr (dr,r) k;have cg:w.cell? ⟨g,0,none⟩=some (.pointer (some ⟨r,0,none⟩)):=by rw[cell_of_row w g 0 _ _ _ hg];rfl
 have cr:=f.c32;simp only[a0]at cr;unfold at0 at cr;have G:r≠x:=j _ k;have U:p≠x:=j _ hp;have T:r≠g:=M _ k;have a1:p≠g:=M _ hp;obtain⟨w1,b7,R,a4⟩:=(hx.kept (z9.drew w) (S:=[]) sI).setl (some ⟨p,0,none⟩) (some ⟨r,0,none⟩);have m:z9 [x] w w1:=z9.trans ((z9.drew w).mono sI) a4 sI;have Y:=hr.kept m (λq hq=>by simpa using j q hq);have b0:w1.cell? ⟨g,0,none⟩=some (.pointer (some ⟨r,0,none⟩)):=(m.cell (p:=⟨g,0,none⟩) (aG hg).1 (by simpa using D)).trans cg;have a9:Kp [x] w w1:=m;have X:r∉[x]:=by simpa using G
 have a5:g∉[x]:=by simpa using D
 have b5:=dH Y;have b3:=dH R;have c4:=dH m;have b6:=dH a2;have b4:=dH k;have Hp:=dH hp;have c2:=dH j;have N:=dH (show r≠x/\p≠x/\r≠g/\p≠g/\g≠x from⟨G,U,T,a1,D⟩);have c5:=dH b0;clear f hr a2 k a0 hp hx j M D G U T a1 Y R m hg b0;go_enter func180,ntmps180
 go_upto_region 0 with fail
 refine kX [x] w ?_;intro J hS;have b1:=zG cg a5;have b2:=zG cr X;refine lQ ?_;intro K hK;refine hK _ _ ?_;clear hK K hS;have hS:=a9;refine zD ?_;intro hS;have c32:=b3.out.c32;have cg:=c5.out;have I:=b5.out (dp,p) Hp.out;have c0:w1.cell? ⟨p,33,none⟩=some (.pointer (at0 (nx p))):=I.c33;have b8:=I.fro 33;have B:=z9.setCell w1 ⟨p,33,none⟩ (.pointer (some ⟨x,0,none⟩));have A:=b5.out.setn b6.out Hp.out x;obtain⟨W2,a7⟩:=eX (w1.setCell ⟨p,33,none⟩ (.pointer (some ⟨x,0,none⟩)))
 rw[a7]at B A;have a8:Kp [p,r] w1 W2.drew:=z9.trans (B.mono sI) (z9.drew W2) sI;have f:=A (dr,r) b4.out;have c1:=f.c32;have b9:=f.fro 32;have L:=z9.setCell W2 ⟨r,32,none⟩ (.pointer (some ⟨x,0,none⟩));have H:=A.setp b6.out b4.out x;obtain⟨W3,a6⟩:=eX (W2.setCell ⟨r,32,none⟩ (.pointer (some ⟨x,0,none⟩)))
 rw[a6]at L H;have E:Kp [p,r] w1 W3.drew:=z9.trans (z9.trans (B.mono (S':=[p,r]) sI) (L.mono (S':=[p,r]) sI) iL) (z9.drew W3) sI;have F:x∉[p,r]:=oS N.out;have s:g∉[p,r]:=oS N.out;have c3:=dH H;clear J b1 b2 hS a9 b7 a4 I f A H B L X a5 cr;(go_wp2_with fail);refine kX [p,r] w1 ?_;intro J hS;have b1:=zG c32 F;have b2:=zG cg s;refine lQ ?_;intro K hK;refine hK _ _ ?_;clear hK K hS a7 c0 b8 c32 cg;have hS:=a8;refine lQ ?_;intro K hK;refine hK _ _ ?_;clear hK K hS a6 c1 b9;have hS:=E;refine zD ?_;intro hS;have a3:z9 [x,p,r] w W3.drew:=z9.trans (c4.out.mono (S':=[x,p,r]) sI) (E.mono (S':=[x,p,r]) sI) (λy hy=>.inl hy);have O:qC W3.drew x d (at0 p) (at0 r):=b3.out.kept E F;have V:jT W3.drew (up nx p x) (up pv r x) P:=c3.out.kept (z9.drew W3) sI;have t:jT W3.drew (up (up nx p x) x r) (up (up pv x p) r x) (P ++ [(d,x)]):=by
  intro q hq;rcases mem_append.1 hq with hq | hq
  ·have Z:=c2.out q hq;have:=V q hq;rw[g9 Z];by_cases e:q.2=r
   ·rw[e]at this |-;rw[lI]at this |-;exact this
   ·rw[g9 e]at this |-;rw[g9 Z];exact this
  ·have e:q=(d,x):=by simpa using hq
   subst e;show qC _ x d (at0 (up (up pv x p) r x x)) (at0 (up (up nx p x) x r x));rw[lI,g9 (λe=>N.out.1 e.symm),lI];exact O
 have HF:=dH (And.intro t a3);clear t a3 O V a8 E hS J b1 b2 F s;(go_wp2_with fail);refine bodyPost_end (results_none rfl _ _ _) rfl ?_;exact⟨rfl,HF.out⟩
section
theorem QM(w:World)(g r:Nat)(h:w.cell? ⟨g,0,none⟩=some (.pointer (some ⟨r,0,none⟩))):Calls prog 144 #[.pointer (some ⟨g,0,none⟩)] w λe w'=>e=.returned (.bool false)/\w=w':=by
 go_enter func144,ntmps144
 (go_wp2_with fail);go_ret;exact⟨rfl,rfl⟩
theorem zeroNodeP(w:World):(zeroValue 159).run prog w=.ok (.pointer none) w:=kR
section
variable {w:World} {b:Nat} {M:List (zB×Nat)} {es:Array MapEntry} {clk:Nat} {d:zB} {x:Nat}
theorem lhit(h:yL w b idV fD vN M es clk)(hx:(d,x)∈M):(Instr.lookup 164 (.map (some b)) (.agg (idC d)) true).run prog w=.ok (.tuple #[.pointer (some ⟨x,0,none⟩),.bool true]) w:=yL.hit h jA underlying164 (k:=d) (v:=x) trivial hx true
theorem lmiss(h:yL w b idV fD vN M es clk)(hx:d∉M.map (·.1)):(Instr.lookup 164 (.map (some b)) (.agg (idC d)) true).run prog w=.ok (.tuple #[.pointer none,.bool false]) w:=yL.miss h jA underlying164 (zeroNodeP w) (k:=d) trivial hx true
end
def rL(L:List zB)(d:zB):List zB:=L.filter λx=>decide (x≠d)
theorem iB{L:List zB}(h:d∉L):rL L d=L:=filter_eq_self.2 λx hx=>decide_eq_true λe=>h (e ▸ hx)
theorem jp{A C:List zB}(h:(A++d :: C).Nodup):rL (A++d :: C) d=A++C:=by
 rw[nodup_append,nodup_cons]at h;unfold rL;rw[filter_append,filter_cons,if_neg sI];have h1:=iB (L:=A) (d:=d) λhm=>h.2.2 d hm d sI rfl;have h2:=iB (L:=C) (d:=d) h.2.1.1;unfold rL at h1 h2;rw[h1,h2]
theorem delL_mid(h:((A++(d,x) :: C).map (·.1)).Nodup):pP (A++(d,x) :: C) d=A++C:=by
 rw[map_append,map_cons,nodup_append,nodup_cons]at h;have e:pP (A++(d,x) :: C) d=pP A d++pP C d:=by unfold pP;rw[filter_append,filter_cons,if_neg sI]
 rw[e,Z9 (λhm=>h.2.2 d hm d sI rfl),Z9 h.2.1.1]
theorem KI(h:d∈N.map (·.1)):∃A x C,N=A++(d,x) :: C:=by
 obtain⟨q,hq,rfl⟩:=mem_map.1 h;obtain⟨A,C,e⟩:=append_of_mem hq;exact⟨A,q.2,C,e⟩
theorem YY(h:x∈P.map (·.2)):∃d,(d,x)∈P:=by
 obtain⟨q,hq,rfl⟩:=mem_map.1 h;exact⟨q.1,hq⟩
theorem K2{nx pv:Nat->Nat}{r:Nat}(hl:Ln nx pv r ((A++(d,x) :: C).map (·.2)) r) :
  (∃dp,(dp,pv x)∈((id0,r) :: A)++C)/\∃dn,(dn,nx x)∈((id0,r) :: A)++C:=by
 rw[map_append,map_cons]at hl;obtain⟨h1,h2⟩:=aC hl;have k1:=rK h1;have k2:=Ln_first h2;refine⟨YY ?_,YY ?_⟩
 ·rw[map_append,map_cons];exact mem_append_left _ k1
 ·rw[map_append,map_cons];rcases mem_append.1 k2 with h | h
  ·exact mem_append_right _ h
  ·have e:nx x=r:=by simpa using h
   rw[e];simp
theorem vf(w:World)(g:Nat)(F:List Nat)(L:List zB)(d:zB)(h:dL w g F L) :
  Calls prog 125 #[.pointer (some ⟨g,0,none⟩),.agg (idC d)] w λe w'=>e=.returned (.int .i64 (if d∈L then 0 else 7))/\(∃F',dL w' g F' (rL L d)/\∀x∈F',x∈F)/\z9 F w w':=by
 have T:=h.lt;obtain⟨r,b,N,nx,pv,h1,h2,h3,⟨M,es,c9,hm,hp⟩,h5,h6,h7,h8⟩:=h;have H2:=dH h2;rw[h2]at T;clear h2;have I:z9 [] w (w.alloc (.cells (idC d) 31)):=z9.alloc _ _;obtain⟨W,hW⟩:=eR (w.alloc (.cells (idC d) 31))
 have G:zA W w.heap.size 0 32=some (idC d):=by rw[hW];simp[go_sem]
 have hB:Below w.heap.size w W:=by rw[hW];exact bA
 have c3:g<w.heap.size:=T g sI;rw[<-hW]at I;have U:=(I.block g c3 sI).trans h3;have d0:W.cell? ⟨g,0,none⟩=some (.pointer (some ⟨r,0,none⟩)):=by rw[cell_of_row W g 0 _ _ _ U];rfl
 have a9:W.cell? ⟨g,1,none⟩=some (.map (some b)):=by rw[cell_of_row W g 1 _ _ _ U];rfl
 have Y:=hm.kept I sI;have c1:=QM W g r d0;by_cases hd:d∈L
 ·rw[if_pos hd];rw[<-h1]at hd;obtain⟨A,x,C,rfl⟩:=KI hd;have R:(d,x)∈M:=hp.mem_iff.2 sI;have hk:∀v:Subtype (Bel W),(Instr.lookup 164 (.map (some b)) (.agg (idC d)) true).run prog v.1=.ok (.tuple #[.pointer (some ⟨x,0,none⟩),.bool true]) v.1:=λv=>lhit (Y.kept (z9.of_below v.2) sI) R;obtain⟨⟨dp,a4⟩,⟨dn,a5⟩⟩:=K2 h5;have H:z9 [] w W.drew:=z9.trans I (z9.drew W) sI;have c8:jT W.drew nx pv (((id0,r) :: A)++(d,x) :: C):=h6.kept H sI;have c2:=lru_cut W.drew nx pv ((id0,r) :: A) C d dp dn x (pv x) (nx x) c8 h7 rfl rfl a4 a5;have b6:=jp (A:=A.map (·.1)) (C:=C.map (·.1)) (d:=d) (by rw[<-map_cons (f:=(·.1)) (a:=(d,x)),<-map_append,h1];exact h8);have hL:rL L d=(A++C).map (·.1):=by rw[<-h1,map_append,map_cons,b6,map_append]
  have b9:=Ln_cut (r:=r) (c:=x) (A:=A.map (·.2)) (C:=C.map (·.2)) (nx:=nx) (pv:=pv) (by rw[map_append,map_cons]at h5;exact h5) (by rw[map_append,map_cons]at h7;exact h7);have E:∀q∈((id0,r) :: A)++C,q∈(id0,r) :: (A++(d,x) :: C):=λq hq=>by
   simp only[mem_cons,mem_append,cons_append]at hq |-;rcases hq with h | h | h
   ·exact .inl h
   ·exact .inr (.inl h)
   ·exact .inr (.inr (.inr h))
  have B:∀y∈[x,pv x,nx x],∃dy,(dy,y)∈(id0,r) :: (A++(d,x) :: C):=by
   intro y hy;simp only[mem_cons,not_mem_nil,or_false]at hy;rcases hy with rfl | rfl | rfl
   ·exact⟨d,sI⟩
   ·exact⟨dp,E _ a4⟩
   ·exact⟨dn,E _ a5⟩
  have c6:(b∉[x,pv x,nx x]/\g∉[x,pv x,nx x])/\∀y∈[x,pv x,nx x],y<w.heap.size/\y∈g :: b :: r :: (A++(d,x) :: C).map (·.2):=by
   refine⟨⟨λhb=>?_,λhg=>?_⟩,λy hy=>?_⟩
   ·obtain⟨dy,hy⟩:=B b hb;have j:w.heap[b]?=some (.cells _ _ _):=(h6 _ hy).heap;rw[hm.heap]at j;cases j
   ·obtain⟨dy,hy⟩:=B g hg;have j:=(h6 _ hy).heap;rw[h3]at j;injection j with j
    injection j with j _ _
    have d6:=congrArg Array.size j;simp at d6
   ·obtain⟨dy,b3⟩:=B y hy;refine⟨(h6 _ b3).lt,?_⟩;rcases mem_cons.1 b3 with e | e
    ·injection e with _ e;rw[e];simp
    ·exact mem_cons_of_mem _ (mem_cons_of_mem _ (mem_cons_of_mem _ (mem_map_of_mem (f:=(·.2)) e)))
  have b5:(pP M d).Perm (A++C):=by
   rw[<-delL_mid (A:=A) (C:=C) (d:=d) (x:=x) (by rw[h1];exact h8)];exact hp.filter _
  have c4:g≠b:=λe=>(by rw[e,hm.heap]at h3;cases h3);have d7:=dH b5;have e0:=dH c4;have H8:=dH h8;have HL:=dH hL;have d8:=dH b9;have Hp:=dH hp;have X:=dH c6;have d9:=dH H;have H3:=dH h3;have Hm:=dH hm;have H7:=dH h7;have e2:=dH T;have HB:=dH hB;clear E B b5 c4 hL b9 hp c6 H h3 hm h7 b6 h1 h8 R hd a4 a5 h5 h6 c8 T I U Y hB;go_enter func125,ntmps125
  (go_wp2_with fail);rw[<-hW];obtain⟨ga,J⟩:=eX w.heap.size
  have d3:=dH J;rw[J]at G |-;clear hW J;refine c1.mono ?_;rintro e w' ⟨rfl,rfl⟩;clear c1;go_upto_region 3 with fail
  refine lX W ?_;intro O hS;have b1:=zK a9;have b2:=zS G;refine lZ ?_;refine zD ?_;intro hS;clear O hS b1 b2 hk;(go_wp2_with fail);refine c2.mono ?_;rintro e w1 ⟨rfl,b4,d5,H⟩;have t:z9 [x,pv x,nx x] w w1:=z9.trans (d9.out.mono sI) H (λy hy=>.inl hy);have a7:=(t.block g c3 X.out.1.2).trans H3.out;have a8:w1.cell? ⟨g,1,none⟩=some (.map (some b)):=by rw[cell_of_row w1 g 1 _ _ _ a7];rfl
  have V:ga∉[x,pv x,nx x]:=λhh=>(by have:=(X.out.2 ga hh).1;have:=d3.out;omega);have a1:zA w1 ga 0 32=some (idC d):=(H.row (w:=W.drew) (zE (w:=W.drew) G) V _ _).trans G;have b8:yL w1 b idV fD vN M es c9:=Hm.out.kept t X.out.1.1;obtain⟨w3,e1,a0,b7,c0⟩:=(b8.kept (z9.drew w1) (S:=[]) sI).delete jA underlying164 (ty:=0) (k:=d) trivial;have c5:g∉[b]:=by simpa using e0.out
  have a3:ga∉[b]:=by have:=Hm.out.lt;have:=d3.out;simp;omega
  have d4:=dH a7;have d1:=dH b4;have d2:=dH t;clear b8 V t a7 b4 d5 H a9 G c2 d0;go_upto_region 7 with fail
  refine kX [b] w1 ?_;intro O hS;have b1:=zG a8 c5;have b2:=zY a1 a3;refine lQ ?_;intro K hK;refine zI (yC hS c0 sI) (λhS=>?_);refine hK _ _ ?_;clear hK K;refine zD ?_;intro hS;have Z:z9 [b] w1 w3:=hS;have c7:∀q∈(id0,r) :: (A++C),q.2∉[b]:=λq hq hb=>by
   have e:q.2=b:=by simpa using hb
   have j:w1.heap[q.2]?=some (.cells _ _ _):=(d1.out q hq).heap;rw[e,(Hm.out.kept d2.out X.out.1.1).heap]at j;cases j
  have s:dL w3 g (g :: b :: r :: (A++C).map (·.2)) (rL L d):=by
   refine⟨r,b,A++C,_,_,HL.out.symm,rfl,(Z.block g (aG d4.out).1 c5).trans d4.out,⟨_,_,_,b7,d7.out⟩,by rw[map_append];exact d8.out,d1.out.kept Z c7,?_,H8.out.filter _⟩;have h7:=H7.out;rw[map_append,map_cons]at h7;rw[map_append];exact h7.sublist (Sublist.cons_cons _ (Sublist.append_left (sublist_cons_self _ _) _))
  have D:∀y∈g :: b :: r :: (A++C).map (·.2),y∈g :: b :: r :: (A++(d,x) :: C).map (·.2):=by
   intro y hy;simp only[mem_cons,map_append,map_cons,mem_append]at hy |-;rcases hy with h | h | h | h | h
   ·exact .inl h
   ·exact .inr (.inl h)
   ·exact .inr (.inr (.inl h))
   ·exact .inr (.inr (.inr (.inl h)))
   ·exact .inr (.inr (.inr (.inr (.inr h))))
  have a2:z9 (g :: b :: r :: (A++(d,x) :: C).map (·.2)) w w3:=z9.trans (d2.out.mono (λy hy=>.inl (X.out.2 y hy).2)) Z sI;rw[<-H2.out]at a2;have m:∀y∈g :: b :: r :: (A++C).map (·.2),y∈F:=λy hy=>(by rw[H2.out];exact D y hy);have HF:=dH (And.intro s (And.intro m a2));clear s D m a2 Z hS c7 b7 c0 a0 b1 b2 O;(go_wp2_with fail);go_ret;exact⟨rfl,⟨_,HF.out.1,HF.out.2.1⟩,HF.out.2.2⟩
 ·rw[if_neg hd];have R:d∉M.map (·.1):=λhx=>hd (by rw[<-h1];exact(hp.map _).mem_iff.1 hx);have hk:∀v:Subtype (Bel W),(Instr.lookup 164 (.map (some b)) (.agg (idC d)) true).run prog v.1=.ok (.tuple #[.pointer none,.bool false]) v.1:=λv=>lmiss (Y.kept (z9.of_below v.2) sI) R;have s:dL w g F (rL L d):=by
   rw[iB hd,H2.out];exact⟨r,b,N,nx,pv,h1,rfl,h3,⟨M,es,c9,hm,hp⟩,h5,h6,h7,h8⟩
  have b0:=dH s;have HB:=dH hB;clear s h1 h3 hm hp h5 h6 h7 h8 hd R T I U Y hB;go_enter func125,ntmps125
  (go_wp2_with fail);rw[<-hW];obtain⟨ga,J⟩:=eX w.heap.size
  rw[J]at G |-;clear hW J;refine c1.mono ?_;rintro e w' ⟨rfl,rfl⟩;clear c1;go_upto_region 3 with fail
  refine lX W ?_;intro O hS;have b1:=zK a9;have b2:=zS G;refine lZ ?_;refine zD ?_;intro hS;have a6:=yK HB.out hS;have HF:=dH (And.intro (b0.out.kept (z9.of_below a6) sI) (z9.of_below a6));clear O hS b1 b2 hk a6;(go_wp2_with fail);go_ret;exact⟨rfl,⟨_,HF.out.1,λ_ h=>h⟩,HF.out.2.mono sI⟩
end
theorem eqLink_00(w:World):(Op.equalIn 10000 161 (.agg (xT ⟨none,none⟩)) (.agg (xT ⟨none,none⟩))).run prog w=.ok true w:=kR
theorem eqLink_1(a b:Addr)(w:World):(Op.equalIn 10000 161 (.agg (xT ⟨some a,some b⟩)) (.agg (xT ⟨none,none⟩))).run prog w=.ok false w:=kR
attribute [go_sem ↓] eqLink_00 eqLink_1
theorem YS(w:World):(bdS 163 #[]).run prog w=.ok (.agg (xJ ⟨id0,⟨none,none⟩⟩)) w:=by
 refine qL w YC _ (rQ w) _ (ZZ w) [] _ ?_;simp[Instr.fill,sX,dS]
attribute [go_sem] YS
theorem lru_new(w:World):Calls prog 53 #[] w λe w'=>∃g F,e=.returned (.pointer (some ⟨g,0,none⟩))/\dL w' g F []/\(∀x∈F,w.heap.size<=x)/\Below w.heap.size w w':=by
 have y:=@run_makeMap prog;have k:qC (w.alloc (.cells (xJ ⟨id0,⟨none,none⟩⟩) 163)) w.heap.size id0 none none:=⟨heap_alloc_new w _⟩
 obtain⟨w1,s,f,m⟩:=k.setl (some ⟨w.heap.size,0,none⟩) (some ⟨w.heap.size,0,none⟩);have d:Below w.heap.size w w1:=((Below.refl w.heap.size w).alloc lR _).trans (m.below sI sI);have j:=f.lt;have t:=yL.new (kv:=idV) (vv:=fD) (ok:=vN) w1 w1.heap.size rfl;obtain⟨r,hr⟩:=eX w.heap.size
 have Hr:=dH hr;rw[hr]at f j s;clear k;go_enter func53,ntmps53
 go_upto_region 2 with fail
 clear hr m;(go_wp2_with fail);go_ret;have hg:=heap_alloc_new (w1.alloc (.map #[] 0)) (.cells #[.pointer (some ⟨r,0,none⟩),.map (some w1.heap.size)] 166 (0,0));have hk:=z9.trans (z9.alloc w1 (.map #[] 0)) (z9.alloc (w1.alloc (.map #[] 0)) (.cells #[.pointer (some ⟨r,0,none⟩),.map (some w1.heap.size)] 166 (0,0))) sI;refine⟨_,_,rfl,⟨r,w1.heap.size,[],λ_=>r,λ_=>r,rfl,rfl,(by have h9:=hg;rwa [(sI:(w1.alloc (.map #[] 0)).heap.size=w1.heap.size+1)]at h9),⟨_,_,_,t.kept (z9.alloc _ _) sI,Perm.refl _⟩,⟨rfl,rfl⟩,?_,sI,sI⟩,?_,?_⟩
 ·intro q hq;have e:q=(id0,r):=by simpa using hq
  subst e;exact f.kept hk sI
 ·have:=Hr.out;have:=d.size;intro x hx;simp at hx;rcases hx with h | h | h <;> omega
 ·exact(d.alloc d.size _).alloc (oS d.size) _
theorem lru_use(w:World)(g:Nat)(F:List Nat)(L:List zB)(d:zB)(h:dL w g F L) :
  Calls prog 122 #[.pointer (some ⟨g,0,none⟩),.agg (idC d)] w λe w'=>e=.returned (.int .i64 0)/\(∃F',dL w' g F' (rL L d ++ [d])/\∀x∈F',x∈F\/w.heap.size<=x)/\z9 F w w':=by
 have b6:=h.lt;obtain⟨r,b,N,nx,pv,h1,h2,h3,⟨M,es,f7,hm,hp⟩,h5,h6,h7,h8⟩:=h;have H2:=dH h2;rw[h2]at b6;clear h2;have V:z9 [] w (w.alloc (.cells (idC d) 31)):=z9.alloc _ _;obtain⟨W,hW⟩:=eR (w.alloc (.cells (idC d) 31))
 have H:zA W w.heap.size 0 32=some (idC d):=by rw[hW];simp[go_sem]
 have hB:Below w.heap.size w W:=by rw[hW];exact bA
 have I:g<w.heap.size:=b6 g sI;rw[<-hW]at V;have c0:=(V.block g I sI).trans h3;have e5:W.cell? ⟨g,0,none⟩=some (.pointer (some ⟨r,0,none⟩)):=by rw[cell_of_row W g 0 _ _ _ c0];rfl
 have d5:W.cell? ⟨g,1,none⟩=some (.map (some b)):=by rw[cell_of_row W g 1 _ _ _ c0];rfl
 have b5:=hm.kept V sI;have c1:=QM W g r e5;have d1:g≠b:=λe=>(by rw[e,hm.heap]at h3;cases h3);have j:∀q∈(id0,r) :: N,q.2≠g/\q.2≠b:=by
  refine λq hq=>⟨λe=>?_,λe=>?_⟩
  ·have E:=(h6 _ hq).heap;rw[e,h3]at E;injection E with E
   injection E with E _ _
   have f5:=congrArg Array.size E;simp at f5
  ·have E:=(h6 _ hq).heap;rw[e,hm.heap]at E;cases E
 by_cases hd:d∈L
 ·rw[<-h1]at hd;obtain⟨A,x,C,rfl⟩:=KI hd;have a2:(d,x)∈M:=hp.mem_iff.2 sI;have hk:∀v:Subtype (Bel W),(Instr.lookup 164 (.map (some b)) (.agg (idC d)) true).run prog v.1=.ok (.tuple #[.pointer (some ⟨x,0,none⟩),.bool true]) v.1:=λv=>lhit (b5.kept (z9.of_below v.2) sI) a2;obtain⟨⟨dp,b3⟩,⟨dn,O⟩⟩:=K2 h5;have a3:z9 [] w W.drew:=z9.trans V (z9.drew W) sI;have d4:jT W.drew nx pv (((id0,r) :: A)++(d,x) :: C):=h6.kept a3 sI;have f0:zA W.drew x 32 2=some (xT ⟨some ⟨pv x,0,none⟩,some ⟨nx x,0,none⟩⟩):=(d4 (d,x) sI).rlk;have c2:=lru_cut W.drew nx pv ((id0,r) :: A) C d dp dn x (pv x) (nx x) d4 h7 rfl rfl b3 O;have e2:=jp (A:=A.map (·.1)) (C:=C.map (·.1)) (d:=d) (by rw[<-map_cons (f:=(·.1)) (a:=(d,x)),<-map_append,h1];exact h8);have hL:rL L d=(A++C).map (·.1):=by rw[<-h1,map_append,map_cons,e2,map_append]
  have a8:=Ln_cut (r:=r) (c:=x) (A:=A.map (·.2)) (C:=C.map (·.2)) (nx:=nx) (pv:=pv) (by rw[map_append,map_cons]at h5;exact h5) (by rw[map_append,map_cons]at h7;exact h7);have m:∀q∈((id0,r) :: A)++C,q∈(id0,r) :: (A++(d,x) :: C):=λq hq=>by
   simp only[mem_cons,mem_append,cons_append]at hq |-;rcases hq with h | h | h
   ·exact .inl h
   ·exact .inr (.inl h)
   ·exact .inr (.inr (.inr h))
  obtain⟨d7,a6⟩:=eX (up nx (pv x) (nx x))
  obtain⟨R,a4⟩:=eX (up pv (nx x) (pv x))
  rw[a6,a4]at a8 c2;rw[<-map_append]at a8;have b8:(r :: (A++C).map (·.2)).Nodup:=by
   rw[map_append,map_cons]at h7;rw[map_append];exact h7.sublist (Sublist.cons_cons _ (Sublist.append_left (sublist_cons_self _ _) _))
  have G:x∉r :: (A++C).map (·.2):=by
   have b9:=h7;rw[map_append,map_cons,nodup_cons,nodup_append,nodup_cons]at b9;rw[map_append,mem_cons,mem_append];rintro(e | e | e)
   ·exact b9.1 (by rw[<-e];simp)
   ·exact b9.2.2.2 x e x sI rfl
   ·exact b9.2.2.1.1 e
  obtain⟨dq,D⟩:∃dq,(dq,R r)∈(id0,r) :: (A++C):=YY (by rw[map_cons];exact rK a8);have a9:=Ln_hang a8 b8 G;have J:∀w1,z9 [x,pv x,nx x] W.drew w1->jT w1 d7 R (((id0,r) :: A)++C)->qC w1 x d none none->Calls prog 180 #[.pointer (some ⟨g,0,none⟩),.pointer (some ⟨x,0,none⟩)] w1 λe w'=>e=.returned (.tuple #[])/\(∃F',dL w' g F' (rL L d ++ [d])/\∀x∈F',x∈F\/w.heap.size<=x)/\z9 F w w':=by
   intro w1 f1 e9 e6;have hgs:g∉[x,pv x,nx x]:=by
    simp only[mem_cons,not_mem_nil,or_false,not_or];exact⟨λe=>(j (d,x) sI).1 e.symm,λe=>(j _ (m _ b3)).1 e.symm,λe=>(j _ (m _ O)).1 e.symm⟩
   have f2:b∉[x,pv x,nx x]:=by
    simp only[mem_cons,not_mem_nil,or_false,not_or];exact⟨λe=>(j (d,x) sI).2 e.symm,λe=>(j _ (m _ b3)).2 e.symm,λe=>(j _ (m _ O)).2 e.symm⟩
   have s:z9 [x,pv x,nx x] w w1:=z9.trans (a3.mono sI) f1 (λy hy=>.inl hy);refine(ve w1 g r b d7 R ((id0,r) :: (A++C)) d dq id0 x (R r) none none ((s.block g I hgs).trans h3) e9 b8 sI rfl D e6 ?_ ?_ ?_).mono ?_
   ·intro q hq e;exact G (by rw[<-e,<-map_cons (f:=(·.2)) (a:=(id0,r))];exact mem_map_of_mem hq)
   ·intro q hq;exact(j q (m q hq)).1
   ·exact λe=>(j (d,x) sI).1 e.symm
   ·rintro e w2 ⟨rfl,c7,B⟩;have d3:∀y∈[x,R r,r],∃dy,(dy,y)∈(id0,r) :: (A++(d,x) :: C):=by
     intro y hy;simp only[mem_cons,not_mem_nil,or_false]at hy;rcases hy with rfl | rfl | rfl
     ·exact⟨d,sI⟩
     ·exact⟨dq,m _ D⟩
     ·exact⟨id0,sI⟩
    have U:g∉[x,R r,r]:=λhg=>(by obtain⟨dy,hy⟩:=d3 g hg;exact(j _ hy).1 rfl);have a1:b∉[x,R r,r]:=λhb=>(by obtain⟨dy,hy⟩:=d3 b hb;exact(j _ hy).2 rfl);have Z:∀y,(∃dy,(dy,y)∈(id0,r) :: (A++(d,x) :: C))->y∈F:=by
     rintro y ⟨dy,hy⟩;rw[H2.out];exact mem_cons_of_mem _ (mem_cons_of_mem _ (by rw[<-map_cons (f:=(·.2)) (a:=(id0,r))];exact mem_map_of_mem (f:=(·.2)) hy))
    refine⟨rfl,⟨g :: b :: r :: (A++C ++ [(d,x)]).map (·.2),⟨r,b,A++C ++ [(d,x)],_,_,?_,rfl,(B.block g (Nat.lt_of_lt_of_le I s.size) U).trans ((s.block g I hgs).trans h3),⟨M,es,f7,(hm.kept s f2).kept B a1,hp.trans ?_⟩,?_,c7,?_,?_⟩,?_⟩,?_⟩
    ·rw[hL,map_append];rfl
    ·rw[append_assoc];exact Perm.append_left _ (perm_append_singleton (d,x) C).symm
    ·rw[map_append];exact a9
    ·rw[map_append,<-cons_append];exact nodup_append.2 ⟨b8,sI,λy hy z hz e=>by
      have ez:z=x:=by simpa using hz
      rw[e,ez]at hy;exact G hy⟩
    ·exact nodup_append.2 ⟨h8.filter _,sI,λy hy z hz e=>by
      have ez:z=d:=by simpa using hz
      rw[e,ez]at hy;have:=(mem_filter.1 hy).2;simp at this⟩
    ·intro y hy;left
     rcases mem_cons.1 hy with e | hy
     ·rw[e,H2.out];simp
     rcases mem_cons.1 hy with e | hy
     ·rw[e,H2.out];simp
     refine Z y ?_;rw[<-map_cons (f:=(·.2)) (a:=(id0,r))]at hy;obtain⟨q,hq,rfl⟩:=mem_map.1 hy;refine⟨q.1,?_⟩;rw[<-cons_append]at hq;rcases mem_append.1 hq with h | h
     ·exact m q h
     ·have e:q=(d,x):=by simpa using h
      rw[e];simp
    ·refine z9.trans (s.mono λy hy=>.inl (Z y ?_)) (B.mono λy hy=>.inl (Z y (d3 y hy))) (λy hy=>.inl hy);simp only[mem_cons,not_mem_nil,or_false]at hy;rcases hy with rfl | rfl | rfl
     ·exact⟨d,sI⟩
     ·exact⟨dp,m _ b3⟩
     ·exact⟨dn,m _ O⟩
  have b4:=dH J;clear J a9 D G b8 a6 a4 m a8 hL e2 d4 b3 O a2 hd h1 hp h5 h6 h7 h8 b6 j d1 b5 c0 V h3 hm a3 hB;go_enter func122,ntmps122
  (go_wp2_with fail);rw[<-hW];obtain⟨ga,a0⟩:=eX w.heap.size
  have d6:=dH a0;rw[a0]at H |-;clear hW;refine c1.mono ?_;rintro e w' ⟨rfl,rfl⟩;clear c1;go_upto_region 3 with fail
  refine lX W ?_;intro a7 hS;have b1:=zK d5;have b2:=zS H;refine lZ ?_;refine zD ?_;intro hS;clear a7 hS b1 b2 hk a0;(go_wp2_with fail);refine c2.mono ?_;rintro e w1 ⟨rfl,e1,d9,a3⟩;have c3:=b4.out w1 a3 e1 d9;clear c2 e1 d9 a3;(go_wp2_with fail);refine c3.mono ?_;rintro e w2 ⟨rfl,hF,B⟩;have HF:=dH (And.intro hF B);clear c3 hF B;(go_wp2_with fail);go_ret;rw[d6.out.symm];exact⟨rfl,HF.out⟩
 ·have O:d∉N.map (·.1):=by rw[h1];exact hd
  have a2:d∉M.map (·.1):=λhx=>O ((hp.map _).mem_iff.1 hx);have hk:∀v:Subtype (Bel W),(Instr.lookup 164 (.map (some b)) (.agg (idC d)) true).run prog v.1=.ok (.tuple #[.pointer none,.bool false]) v.1:=λv=>lmiss (b5.kept (z9.of_below v.2) sI) a2;obtain⟨x,hx⟩:=eX W.heap.size
  obtain⟨W1,b7⟩:=eR ((W.alloc (.cells (xJ ⟨d,dS⟩) 163)).drew)
  have e7:w.heap.size<x:=by
   have h9:w.heap.size<W.heap.size:=zE H;rw[<-hx];exact h9
  have X:z9 [] W W1:=by rw[b7];exact z9.trans (z9.alloc _ _) (z9.drew _) sI
  have s:z9 [] w W1:=z9.trans V X sI;have d8:qC W1 x d none none:=⟨by rw[b7,<-hx];exact heap_alloc_new _ _⟩
  have e3:=(s.block g I sI).trans h3;have e4:W1.cell? ⟨g,1,none⟩=some (.map (some b)):=by rw[cell_of_row W1 g 1 _ _ _ e3];rfl
  have T:zA W1 w.heap.size 0 32=some (idC d):=(X.row (zE H) sI _ _).trans H;obtain⟨w3,g1,f6,c6,c8,c9⟩:=((hm.kept s sI).kept (z9.drew W1) (S:=[]) sI).update jA underlying164 (k:=d) (v:=x) trivial;have a5:bS M d x=M ++ [(d,x)]:=by unfold bS;rw[if_neg a2]
  rw[a5]at c8;have f3:b<w.heap.size:=hm.lt;have d2:g∉[b]:=by simpa using d1
  have b0:w.heap.size∉[b]:=sO;have e8:x∉[b]:=sO;have Y:z9 [b] W1 w3:=z9.trans ((z9.drew W1).mono sI) c9 (λy hy=>.inl hy);have c5:=d8.kept Y e8;have f0:zA w3 x 32 2=some (xT ⟨none,none⟩):=c5.rlk;have t:z9 [b] w w3:=z9.trans (s.mono sI) Y (λy hy=>.inl hy);have e0:jT w3 nx pv ((id0,r) :: N):=h6.kept t (λq hq=>by simpa using(j q hq).2);obtain⟨dq,D⟩:∃dq,(dq,pv r)∈(id0,r) :: N:=YY (by rw[map_cons];exact rK h5);have c4:∀q∈(id0,r) :: N,q.2≠x:=λq hq e=>(oH ((h6 q hq).lt));have G:x∉r :: N.map (·.2):=by
   rw[<-map_cons (f:=(·.2)) (a:=(id0,r))];intro hh;obtain⟨q,hq,e⟩:=mem_map.1 hh;exact c4 q hq e
  have a9:=Ln_hang h5 h7 G;have d0:g≠x:=oM;have c3:Calls prog 180 #[.pointer (some ⟨g,0,none⟩),.pointer (some ⟨x,0,none⟩)] w3 λe w'=>e=.returned (.tuple #[])/\(∃F',dL w' g F' (rL L d ++ [d])/\∀x∈F',x∈F\/w.heap.size<=x)/\z9 F w w':=by
   refine(ve w3 g r b nx pv ((id0,r) :: N) d dq id0 x (pv r) none none ((t.block g I d2).trans h3) e0 h7 sI rfl D c5 c4 (λq hq=>(j q hq).1) d0).mono ?_;rintro e w2 ⟨rfl,c7,B⟩;have Z:∀y,(∃dy,(dy,y)∈(id0,r) :: N)->y∈F:=by
    rintro y ⟨dy,hy⟩;rw[H2.out];exact mem_cons_of_mem _ (mem_cons_of_mem _ (by rw[<-map_cons (f:=(·.2)) (a:=(id0,r))];exact mem_map_of_mem (f:=(·.2)) hy))
   have U:g∉[x,pv r,r]:=by
    simp only[mem_cons,not_mem_nil,or_false,not_or];exact⟨d0,λe=>(j _ D).1 e.symm,λe=>(j (id0,r) sI).1 e.symm⟩
   have a1:b∉[x,pv r,r]:=by
    simp only[mem_cons,not_mem_nil,or_false,not_or];exact⟨oM,λe=>(j _ D).2 e.symm,λe=>(j (id0,r) sI).2 e.symm⟩
   refine⟨rfl,⟨g :: b :: r :: (N ++ [(d,x)]).map (·.2),⟨r,b,N ++ [(d,x)],_,_,?_,rfl,(B.block g (Nat.lt_of_lt_of_le I t.size) U).trans ((t.block g I d2).trans h3),⟨_,_,_,c8.kept B a1,Perm.append_right _ hp⟩,?_,c7,?_,?_⟩,?_⟩,?_⟩
   ·rw[iB hd,map_append,h1];rfl
   ·rw[map_append];exact a9
   ·rw[map_append,<-cons_append];exact nodup_append.2 ⟨h7,sI,λy hy z hz e=>by
     have ez:z=x:=by simpa using hz
     rw[e,ez]at hy;exact G hy⟩
   ·exact nodup_append.2 ⟨h8.filter _,sI,λy hy z hz e=>by
     have ez:z=d:=by simpa using hz
     rw[e,ez]at hy;have:=(mem_filter.1 hy).2;simp at this⟩
   ·intro y hy;rcases mem_cons.1 hy with e | hy
    ·left;rw[e,H2.out];simp
    rcases mem_cons.1 hy with e | hy
    ·left;rw[e,H2.out];simp
    rw[<-map_cons (f:=(·.2)) (a:=(id0,r))]at hy;obtain⟨q,hq,rfl⟩:=mem_map.1 hy;rw[<-cons_append]at hq;rcases mem_append.1 hq with h | h
    ·exact .inl (Z q.2 ⟨q.1,h⟩)
    ·have e:q=(d,x):=by simpa using h
     right;rw[e];show w.heap.size<=x;omega
   ·have f4:b∈F:=by rw[H2.out];simp
    refine z9.trans (t.mono λy hy=>.inl (by have e:y=b:=by simpa using hy
                                            rw[e];exact f4)) (B.mono (S':=x :: F) λy hy=>.inl ?_) (λy hy=>?_)
    ·simp only[mem_cons,not_mem_nil,or_false]at hy;rcases hy with rfl | rfl | rfl
     ·simp
     ·exact mem_cons_of_mem _ (Z _ ⟨dq,D⟩)
     ·exact mem_cons_of_mem _ (Z _ ⟨id0,sI⟩)
    ·rcases mem_cons.1 hy with e | hy
     ·right;omega
     ·exact .inl hy
  have f8:=dH c3;have f9:=dH b7;clear c3 a9 G c4 D e0 t Y c5 a5 c8 e3 d8 s X e7 a2 O hd h1 hp h5 h6 h7 h8 b6 j d1 b5 c0 V h3 hm hB f3 d0;go_enter func122,ntmps122
  (go_wp2_with fail);rw[<-hW];obtain⟨ga,a0⟩:=eX w.heap.size
  have d6:=dH a0;rw[a0]at H T b0 |-;clear hW a0;refine c1.mono ?_;rintro e w' ⟨rfl,rfl⟩;clear c1;go_upto_region 3 with fail
  refine lX W ?_;intro a7 hS;have b1:=zK d5;have b2:=zS H;refine lZ ?_;refine zD ?_;intro hS;clear a7 hS b1 b2 hk e5 d5;have g0:W.drew.heap.size=x:=hx;go_upto_region 6 with fail
  rw[<-f9.out];clear b7 H;refine kX [b] W1 ?_;intro a7 hS;have b1:=zG e4 d2;have b2:=zY T b0;refine lQ ?_;intro K hK;refine zI (yC hS c9 sI) (λhS=>?_);refine hK _ _ ?_;clear hK K;refine zD ?_;intro hS;clear b1 b2 a7 hS c9 c6 e4 T;have c3:=f8.out;(go_wp2_with fail);refine c3.mono ?_;rintro e w2 ⟨rfl,hF,B⟩;have HF:=dH (And.intro hF B);clear c3 hF B;(go_wp2_with fail);go_ret;rw[d6.out.symm];exact⟨rfl,HF.out⟩
theorem eqN_same(x:Nat)(w:World):(binOp .eql 159 (.pointer (some ⟨x,0,none⟩)) (.pointer (some ⟨x,0,none⟩))).run prog w=.ok (.bool true) w:=by
 obtain⟨j,hj,_⟩:=Option.map_eq_some_iff.1 KU;exact run_eql_ptr_same w _ underlying159 hj
theorem eqN_other{y:Nat}{d':zB}{p n p' n':Option Addr}(hx:qC w x d p n)(hy:qC w y d' p' n')(h:x≠y):(binOp .eql 159 (.pointer (some ⟨x,0,none⟩)) (.pointer (some ⟨y,0,none⟩))).run prog w=.ok (.bool false) w:=by
 obtain⟨j,hj,hs⟩:=Option.map_eq_some_iff.1 KU;exact run_eql_ptr_other w underlying159 hj oM (λe=>h (by injection e)) hx.heap hy.heap
theorem QF{a b:Option Addr}{c:Bool}{t:TypeId}(h:(binOp .eql t (.pointer a) (.pointer b)).run prog w=.ok (.bool c) w):(binOp .neq t (.pointer a) (.pointer b)).run prog w=.ok (.bool !c) w:=by
 have e1:binOp .eql t (.pointer a) (.pointer b)=(do let r <-Op.equal t (.pointer a) (.pointer b);pure (.bool r)):=by cases a <;> cases b <;> rfl
 have e2:binOp .neq t (.pointer a) (.pointer b)=(do let r <-Op.equal t (.pointer a) (.pointer b);pure (.bool !r)):=by cases a <;> cases b <;> rfl
 rw[e1,Sem.run_bind]at h;rw[e2,Sem.run_bind];cases e:(Op.equal t (.pointer a) (.pointer b)).run prog w with
 | ok v w' =>
  rw[e]at h;simp[Result.andThen]at h |-;exact h
 | _=>rw[e]at h;simp[Result.andThen]at h
def slN:Value->Nat
 | .slice _ n _=>n
 | _=>0
theorem lru_all(w:World)(g:Nat)(F:List Nat)(L:List zB)(h:dL w g F L)(hn:L.length<=1000000) :
  Calls prog 87 #[.pointer (some ⟨g,0,none⟩)] w λe w'=>∃A cap,e=.returned (.slice A L.length cap)/\Own w' w.heap.size 31 32 A L.length cap (L.map idC)/\Below w.heap.size w w':=by
 obtain⟨r,b,N,nx,pv,h1,h2,h3,V,h5,h6,h7,h8⟩:=h;subst h1;have Y:g<w.heap.size:=(aG h3).1;have M:w.cell? ⟨g,0,none⟩=some (.pointer (some ⟨r,0,none⟩)):=by rw[cell_of_row w g 0 _ _ _ h3];rfl
 have c33:w.cell? ⟨r,33,none⟩=some (.pointer (some ⟨nx r,0,none⟩)):=(h6 (id0,r) sI).c33;have c1:=QM w g r M;have a2:N.length<=1000000:=by simpa using hn
 have H6:=dH h6;have H7:=dH h7;have H5:=dH h5;clear h2 V h8 h5 h6 h7 h3 hn;go_enter func87,ntmps87
 (go_wp2_with fail);refine c1.mono ?_;rintro e w' ⟨rfl,rfl⟩;clear c1;(go_wp2_with fail);clear c33;go_loopw [3,4] (λout nv wr=>∃(A C:List (zB×Nat)) (y:Nat) (X:Option Addr) (cap:Nat),N=A++C/\Ln nx pv y (C.map (·.2)) r/\nv=.pointer (some ⟨nx y,0,none⟩)/\out=.slice X A.length cap/\Own wr w.heap.size 31 32 X A.length cap (A.map λq=>idC q.1)/\Below w.heap.size w wr) (λout _ _=>N.length-slN out)
 case atStart=>exact⟨[],N,r,none,0,rfl,H5.out,rfl,rfl,Own.nil _ _ _ _,Below.refl _ _⟩
 case round =>
  obtain⟨A,C,y,X,cap,hN,hl,rfl,rfl,f,hb⟩:=hrel;have a4:wr.cell? ⟨g,0,none⟩=some (.pointer (some ⟨r,0,none⟩)):=(hb.cell (p:=⟨g,0,none⟩) Y).trans M;have D:A.length+C.length=N.length:=by rw[hN,length_append]
  cases C with
  | nil =>
   have e:nx y=r:=hl.1;rw[e];have eN:N=A:=by rw[hN,append_nil]
   rw[<-eN]at f |-;have hq:=QF (eqN_same r wr);clear eN hl e hN D;(go_wp2_with fail);go_ret;exact⟨X,cap,sI,by simpa[Function.comp_def]using f,hb⟩
  | cons q C' =>
   obtain⟨d,x⟩:=q;obtain⟨e,_,G⟩:=hl;have e:nx y=x:=e;rw[e];have hq:(d,x)∈(id0,r) :: N:=by rw[hN];simp
   have s:=(H6.out (d,x) hq).kept (z9.of_below hb) sI;have T:zA wr x 0 32=some (idC d):=s.rid;have c33:wr.cell? ⟨x,33,none⟩=some (.pointer (some ⟨nx x,0,none⟩)):=s.c33;have R:x≠r:=by
    have h7:=H7.out;rw[hN,map_append,map_cons,nodup_cons]at h7;exact λe=>h7.1 (by rw[<-e];simp)
   have J:N=(A ++ [(d,x)])++C':=by rw[hN];simp
   have O:=dH J;have U:=dH G;have a0:x<wr.heap.size:=s.lt;have a3:A.length+1<=N.length:=by simp at D;omega
   have a1:=QF (eqN_other s ((H6.out (id0,r) sI).kept (z9.of_below hb) sI) R);clear s hq hN J G e D;have H:Below wr.heap.size wr (wr.alloc (.cells (idC d) 31)):=bA;have m:=f.below H;have t:=hb.size;have j:zA (wr.alloc (.cells (idC d) 31)) wr.heap.size 0 32=some (idC d):=by simp[go_sem]
   go_wp2_with (at_builtin;refine xN yP rfl m rfl j (yN _) oM oM sO ?_;intro A' cap' w2 k Z E;have I:Below w.heap.size w w2:=hb.trans ((H.mono t).trans (Z.below (B:=w.heap.size) sO λy hy=>(f.at_base hy).1));have a5:w2.cell? ⟨x,33,none⟩=some (.pointer (some ⟨nx x,0,none⟩)):=((H6.out (d,x) (by rw[O.out];simp)).kept (z9.of_below I) sI).c33)
   (go_wp2_with fail);go_roundw
   case rel=>exact⟨A ++ [(d,x)],C',x,A',cap',O.out,U.out,rfl,sI,by simpa using k,I⟩
   case measure=>simp[slN];omega
section
structure HeldO where
 b:ByteArray
 p:Bool
def dU(x:HeldO):Array Value:=#[.string x.b] ++ #[.bool x.p]
def aW:HeldO:=⟨⟨#[]⟩,false⟩
theorem HeldO_ext{x y:HeldO}(h:x.b=y.b/\x.p=y.p):x=y:=by cases x;cases y;simp_all
instance:DecidableEq HeldO:=λx y=>if h:x.b=y.b/\x.p=y.p then isTrue (HeldO_ext h)else isFalse (λe=>h (by subst e;simp))
@[go_sem ↓] theorem JV(w:World):(zeroValue 158).run prog w=.ok (.agg (dU aW)) w:=by
 have h:(prog.info? 158).bind (·.zero)=some (.agg (dU aW)):=kR;cases hi:prog.info? 158 with
 | none=>rw[hi]at h;cases h
 | some i =>
  rw[hi]at h;have hz:i.zero=some (.agg (dU aW)):=h;simp[zeroValue,typeInfo,hi,hz]
@[go_sem ↓] theorem loadHeldO_rw(a:Addr):loadVar 158 a=ldS 158 a:=rfl
@[go_sem ↓] theorem storeHeldO_rw(a:Addr)(v:Value):storeVar 158 a v=stS 158 a v:=rfl
theorem kr:prog.underlying 158=some (.struct (prog.fieldsOf 158)):=kR
theorem jh(w:World):((prog.fieldsOf 158).mapM fun (f:Field)=>do pure (f.offset,<-sizeOf f.type)).run prog w=.ok #[(0,1),(1,1)] w:=kR
@[go_sem ↓] theorem buildHeldO_rw(parts:Array (Nat×Value)):Instr.build 158 parts=bdS 158 parts:=rfl
@[go_sem] theorem buildHeldO_0(a0:ByteArray)(w:World):(bdS 158 #[(0,.string a0)]).run prog w=.ok (.agg (dU ⟨a0,false⟩)) w:=by
 refine qL w kr _ (JV w) _ (jh w) [(0,.string a0)] _ ?_;rw[show dU aW=(#[]:Array Value) ++ #[.string ⟨#[]⟩]++(#[.bool false])from by first | (simp[dU,aW,Array.append_assoc];done) | (apply Array.ext';simp[dU,aW])];rw[yT (off:=0) (size:=1) rfl sI sI (by simp[Value.cells])];first | (simp[Instr.fill,dU,Array.append_assoc,Value.cells];done) | (simp only[Instr.fill,dU];congr 1;apply Array.ext';simp[Value.cells];done) | (simp only[Instr.fill,dU];congr 1;done) | (simp only[Instr.fill,dU];done)
structure nE(w:World)(x:Nat)(p:Pay):Prop where
 heap:w.heap[x]?=some (.cells #[.string p.body,.bool p.pin] 158 (0,0))
abbrev qb(l:Nat)(q by_ pn:Int)(b:Nat):Array Value:=#[.pointer (some ⟨l,0,none⟩),.int .i64 q,.int .i64 by_,.int .i64 pn,.map (some b)]
def v4(w:World)(g:Nat)(F:List Nat)(q:Int)(S:List Pay):Prop :=
 ∃(l b:Nat) (Fl:List Nat) (N:List (Pay×Nat)),N.map (·.1)=S/\F=g :: b :: (Fl++N.map (·.2)) /\
  w.heap[g]?=some (.cells (qb l q (xK S) (qY S) b) 97 (0,0))/\dL w l Fl (S.map (·.c)) /\
  (∃M es clk,yL w b idV fD vN M es clk/\M.Perm (N.map λp=>(p.1.c,p.2)))/\(∀p∈N,nE w p.2 p.1) /\
  (∀x∈Fl,x≠g/\x≠b/\x∉N.map (·.2))/\(N.map (·.2)).Nodup
section
variable {w w':World} {g:Nat} {F:List Nat} {q:Int} {S:List Pay}
theorem nE.lt(h:nE w x p):x<w.heap.size:=(aG h.heap).1
theorem nE.kept{T:List Nat}(h:nE w x p)(k:z9 T w w')(hx:x∉T):nE w' x p:=⟨(k.block x h.lt hx).trans h.heap⟩
theorem v4.kept{T:List Nat}(h:v4 w g F q S)(k:z9 T w w')(hF:∀x∈F,x∉T):v4 w' g F q S:=by
 obtain⟨l,b,Fl,N,h1,h2,h3,h4,⟨M,es,d,hm,hp⟩,h6,h7,h8⟩:=h;subst h2;exact⟨l,b,Fl,N,h1,rfl,(k.block g (aG h3).1 (hF g sI)).trans h3,h4.kept k λx hx=>hF x (by simp[hx]),⟨M,es,d,hm.kept k (hF b sI),hp⟩,
  λp hp=>(h6 p hp).kept k (hF _ (by simp;exact .inr (.inr (.inr ⟨_,hp⟩)))),h7,h8⟩
theorem v4.lt(h:v4 w g F q S):∀x∈F,x<w.heap.size:=by
 obtain⟨l,b,Fl,N,h1,h2,h3,h4,⟨M,es,d,hm,hp⟩,h6,h7,h8⟩:=h;subst h2;intro x hx;rcases mem_cons.1 hx with e | hx
 ·rw[e];exact(aG h3).1
 rcases mem_cons.1 hx with e | hx
 ·rw[e];exact hm.lt
 rcases mem_append.1 hx with hx | hx
 ·exact h4.lt x hx
 ·obtain⟨p,hp,rfl⟩:=mem_map.1 hx;exact(h6 p hp).lt
end
theorem XM(w:World)(g b:Nat)(h:w.cell? ⟨g,4,none⟩=some (.map (some b))):Calls prog 86 #[.pointer (some ⟨g,0,none⟩)] w λe w'=>e=.returned (.bool false)/\w=w':=by
 have hn:=λr=>run_eql_map_nil (P:=prog) w 95 31 154 r underlying95;go_enter func86,ntmps86
 (go_wp2_with fail);go_ret;exact⟨rfl,rfl⟩
theorem zeroHeldP(w:World):(zeroValue 154).run prog w=.ok (.pointer none) w:=kR
section
variable {w:World} {b:Nat} {M:List (zB×Nat)} {es:Array MapEntry} {clk:Nat} {d:zB} {x:Nat}
theorem shit(h:yL w b idV fD vN M es clk)(hx:(d,x)∈M):(Instr.lookup 95 (.map (some b)) (.agg (idC d)) true).run prog w=.ok (.tuple #[.pointer (some ⟨x,0,none⟩),.bool true]) w:=yL.hit h jA underlying95 (k:=d) (v:=x) trivial hx true
theorem smiss(h:yL w b idV fD vN M es clk)(hx:d∉M.map (·.1)):(Instr.lookup 95 (.map (some b)) (.agg (idC d)) true).run prog w=.ok (.tuple #[.pointer none,.bool false]) w:=yL.miss h jA underlying95 (zeroHeldP w) (k:=d) trivial hx true
end
theorem nW(w:World)(g b:Nat)(M:List (zB×Nat))(es:Array MapEntry)(t:Nat)(d:zB)(h:w.cell? ⟨g,4,none⟩=some (.map (some b)))(hm:yL w b idV fD vN M es t)(o:Option Addr)(bb:Bool)
  (hx:(bb=true/\∃x,o=some ⟨x,0,none⟩/\(d,x)∈M)\/(bb=false/\o=none/\d∉M.map (·.1))) :
  Calls prog 103 #[.pointer (some ⟨g,0,none⟩),.agg (idC d)] w λe w'=>e=.returned (.tuple #[.pointer o,.int .i64 (if bb then 0 else 7)])/\Below w.heap.size w w':=by
 have r:z9 [] w (w.alloc (.cells (idC d) 31)):=z9.alloc _ _;obtain⟨W,hW⟩:=eR (w.alloc (.cells (idC d) 31))
 have k:zA W w.heap.size 0 32=some (idC d):=by rw[hW];simp[go_sem]
 have hB:Below w.heap.size w W:=by rw[hW];exact bA
 have cg:W.cell? ⟨g,4,none⟩=some (.map (some b)):=(hB.cell (p:=⟨g,4,none⟩) (block_lt_of_cell? w _ h)).trans h;have f:=hm.kept (z9.of_below hB) sI;have c1:=XM W g b cg;have hk:∀v:Subtype (Bel W),(Instr.lookup 95 (.map (some b)) (.agg (idC d)) true).run prog v.1=.ok (.tuple #[.pointer o,.bool bb]) v.1:=by
  intro v;rcases hx with⟨rfl,x,rfl,hx⟩ | ⟨rfl,rfl,hx⟩
  ·exact shit (f.kept (z9.of_below v.2) sI) hx
  ·exact smiss (f.kept (z9.of_below v.2) sI) hx
 have HX:=dH hx;clear hx hm f h r;go_enter func103,ntmps103
 (go_wp2_with fail);rw[<-hW];obtain⟨ga,j⟩:=eX w.heap.size
 have y:=dH j;rw[j]at k |-;clear hW j;refine c1.mono ?_;rintro e w' ⟨rfl,rfl⟩;clear c1;go_upto_region 3 with fail
 refine lX W ?_;intro m hS;have b1:=zK cg;have b2:=zS k;refine lZ ?_;refine zD ?_;intro hS;have s:=yK hB hS;clear m hS b1 b2 hk;rcases HX.out with⟨rfl,x,rfl,_⟩ | ⟨rfl,rfl,_⟩
 all_goals
  clear HX;(go_wp2_with fail);go_ret2;exact⟨rfl,s⟩
theorem aE{g:Nat}{F:List Nat}{q:Int}(h:v4 w g F q S)(c:zB) :
  (∀p,jN S c=some p->∃x,nE w x p/\x∈F/\Calls prog 103 #[.pointer (some ⟨g,0,none⟩),.agg (idC c)] w λe w'=>e=.returned (.tuple #[.pointer (some ⟨x,0,none⟩),.int .i64 0])/\Below w.heap.size w w') /\
  (jN S c=none->Calls prog 103 #[.pointer (some ⟨g,0,none⟩),.agg (idC c)] w λe w'=>e=.returned (.tuple #[.pointer none,.int .i64 7])/\Below w.heap.size w w'):=by
 obtain⟨l,b,Fl,N,h1,h2,h3,h4,⟨M,es,j,hm,hp⟩,h6,h7,h8⟩:=h;have c4:w.cell? ⟨g,4,none⟩=some (.map (some b)):=by rw[cell_of_row w g 4 _ _ _ h3];rfl
 refine⟨λp k=>?_,λhn=>?_⟩
 ·obtain⟨d,m⟩:=jU k;rw[<-h1]at d;obtain⟨⟨p',x⟩,hq,e⟩:=mem_map.1 d;have e:p'=p:=e;subst e;refine⟨x,h6 _ hq,by rw[h2];exact mem_cons_of_mem _ (mem_cons_of_mem _ (mem_append_right _ (mem_map_of_mem (f:=(·.2)) hq))),?_⟩;refine nW w g b M es j c c4 hm _ true (.inl ⟨rfl,x,rfl,hp.mem_iff.2 (mem_map.2 ⟨_,hq,by rw[<-m]⟩)⟩)
 ·rw[wH,<-h1,map_map]at hn;refine nW w g b M es j c c4 hm _ false (.inr ⟨rfl,rfl,λhx=>hn ?_⟩);have:=(hp.map (·.1)).mem_iff.1 hx;rw[map_map]at this;exact this
theorem sto_get(w:World)(g:Nat)(F:List Nat)(q:Int)(S:List Pay)(c:zB)(h:v4 w g F q S) :
  Calls prog 49 #[.pointer (some ⟨g,0,none⟩),.agg (idC c)] w λe w'=>e=.returned (.tuple #[.string (match jN S c with | some p=>p.body | none=>⟨#[]⟩),.int .i64 (match jN S c with | some _=>0 | none=>7)])/\Below w.heap.size w w':=by
 have hB:Below w.heap.size w (w.alloc (.cells (idC c) 31)):=bA;have h1:=h.kept (z9.of_below hB) sI;have hr:zA (w.alloc (.cells (idC c) 31)) w.heap.size 0 32=some (idC c):=by simp[go_sem]
 obtain⟨k1,k2⟩:=aE h1 c;clear h h1;cases hp:jN S c with
 | none =>
  have c1:=k2 hp;clear k1 k2;go_enter func49,ntmps49
  (go_wp2_with fail);refine c1.mono ?_;rintro e w' ⟨rfl,d⟩;have hb:=yK hB d;clear c1 d hr;(go_wp2_with fail);go_ret2;exact⟨rfl,hb⟩
 | some p =>
  obtain⟨x,hx,_,c1⟩:=k1 p hp;clear k1 k2;go_enter func49,ntmps49
  (go_wp2_with fail);refine c1.mono ?_;rintro e w' ⟨rfl,d⟩;have hb:=yK hB d;have f:w'.cell? ⟨x,0,none⟩=some (.string p.body):=by rw[cell_of_row w' x 0 _ _ _ (hx.kept (z9.of_below d) sI).heap];rfl
  clear c1 d hr hx;(go_wp2_with fail);go_ret2;exact⟨rfl,hb⟩
theorem BZ(w:World)(g:Nat)(F:List Nat)(q:Int)(S:List Pay)(c:zB)(h:v4 w g F q S) :
  Calls prog 73 #[.pointer (some ⟨g,0,none⟩),.agg (idC c)] w λe w'=>e=.returned (.bool (jN S c).isSome)/\Below w.heap.size w w':=by
 have hB:Below w.heap.size w (w.alloc (.cells (idC c) 31)):=bA;have h1:=h.kept (z9.of_below hB) sI;have hr:zA (w.alloc (.cells (idC c) 31)) w.heap.size 0 32=some (idC c):=by simp[go_sem]
 obtain⟨k1,k2⟩:=aE h1 c;clear h h1;cases hp:jN S c with
 | none =>
  have c1:=k2 hp;clear k1 k2;go_enter func73,ntmps73
  (go_wp2_with fail);refine c1.mono ?_;rintro e w' ⟨rfl,d⟩;have hb:=yK hB d;clear c1 d hr;(go_wp2_with fail);go_ret;exact⟨rfl,hb⟩
 | some p =>
  obtain⟨x,hx,_,c1⟩:=k1 p hp;clear k1 k2 hx;go_enter func73,ntmps73
  (go_wp2_with fail);refine c1.mono ?_;rintro e w' ⟨rfl,d⟩;have hb:=yK hB d;clear c1 d hr;(go_wp2_with fail);go_ret;exact⟨rfl,hb⟩
theorem sto_all(w:World)(g:Nat)(F:List Nat)(q:Int)(S:List Pay)(h:v4 w g F q S)(hn:S.length<=1000000) :
  Calls prog 39 #[.pointer (some ⟨g,0,none⟩)] w λe w'=>∃A cap,e=.returned (.slice A S.length cap)/\Own w' w.heap.size 31 32 A S.length cap ((S.map (·.c)).map idC)/\Below w.heap.size w w':=by
 obtain⟨l,b,Fl,N,h1,h2,h3,h4,_⟩:=h;have c4:w.cell? ⟨g,4,none⟩=some (.map (some b)):=by rw[cell_of_row w g 4 _ _ _ h3];rfl
 have c0:w.cell? ⟨g,0,none⟩=some (.pointer (some ⟨l,0,none⟩)):=by rw[cell_of_row w g 0 _ _ _ h3];rfl
 have c2:=lru_all w l Fl _ h4 (by simpa using hn);rw[length_map]at c2;clear h3 h4 h2 h1;go_enter func39,ntmps39
 (go_wp2_with fail);refine(XM w g b c4).mono ?_;rintro e w' ⟨rfl,rfl⟩;(go_wp2_with fail);refine c2.mono ?_;rintro e w1 ⟨A,cap,rfl,d,hb⟩;clear c2;(go_wp2_with fail);go_ret;exact⟨A,cap,rfl,by simpa using d,hb⟩
end
theorem pE{α β:Type}{f:α->β}:∀ {L:List α} {a b:α},(L.map f).Nodup->a∈L->b∈L->f a=f b->a=b
 | [],_,_,_,ha,_,_=>by cases ha
 | z :: L,a,b,hn,ha,hb,e=>by
  rw[map_cons,nodup_cons]at hn;rcases mem_cons.1 ha with h1 | h1 <;> rcases mem_cons.1 hb with h2 | h2
  ·rw[h1,h2]
  ·subst h1;exact absurd (by rw[e];exact mem_map_of_mem h2) hn.1
  ·subst h2;exact absurd (by rw[<-e];exact mem_map_of_mem h1) hn.1
  ·exact pE hn.2 h1 h2 e
theorem pinX_no(h:c∉S.map (·.c)):bF S c=S:=by
 unfold bF;have:∀p∈S,(if p.c=c then { p with pin:=true } else p)=id p:=λp hp=>if_neg λe:p.c=c=>h (by rw[<-e];exact mem_map_of_mem (f:=(·.c)) hp);rw[map_congr_left this,map_id]
theorem pinX_old(hn:(S.map (·.c)).Nodup)(hp:jN S c=some p)(h:p.pin=true):bF S c=S:=by
 obtain⟨hm,hc⟩:=jU hp;unfold bF;have:∀y∈S,(if y.c=c then { y with pin:=true } else y)=id y:=λy hy=>by
  split
  ·rename_i e
   have h2:=Q4 hn hy;rw[e,hp]at h2;injection h2 with h2
   subst h2;cases p
   simp at h;subst h;rfl
  ·rfl
 rw[map_congr_left this,map_id]
theorem pinned_pin(hn:(S.map (·.c)).Nodup)(hp:jN S c=some p)(h:p.pin=false):qY (bF S c)=qY S+p.body.size:=by
 obtain⟨hm,hc⟩:=jU hp;induction S with
 | nil=>cases hm
 | cons y S ih =>
  rw[map_cons,nodup_cons]at hn;by_cases e:y.c=c
  ·have hy:y=p:=by
    have:jN (y :: S) c=some y:=by unfold jN;rw[find?_cons,decide_eq_true e]
    rw[hp]at this;injection this with this;exact this.symm
   subst hy;have h2:=pinX_no (S:=S) (c:=c) (by rw[<-e];exact hn.1);have h3:bF (y :: S) c = { y with pin:=true } :: S:=by
    show(if y.c=c then { y with pin:=true } else y) :: bF S c=_;rw[if_pos e,h2]
   rw[h3];unfold qY;rw[filter_cons,filter_cons,if_pos rfl,if_neg (by simp[h])];simp only[map_cons,sum_cons];omega
  ·have d:jN S c=some p:=by
    unfold jN at hp |-;rw[find?_cons,decide_eq_false e]at hp;exact hp
   have:=ih hn.2 d (jU d).1;have h3:bF (y :: S) c=y :: bF S c:=by
    show(if y.c=c then { y with pin:=true } else y) :: bF S c=_;rw[if_neg e]
   rw[h3];unfold qY at this |-;rw[filter_cons,filter_cons];split
   ·simp only[map_cons,sum_cons];omega
   ·exact this
theorem sto_pin(w:World)(g:Nat)(F:List Nat)(q:Int)(S:List Pay)(c:zB)(h:v4 w g F q S)(c5:xK S<=1000000) :
  Calls prog 68 #[.pointer (some ⟨g,0,none⟩),.agg (idC c)] w λe w'=>(∃E:Int,e=.returned (.int .i64 E))/\v4 w' g F q (bF S c)/\z9 F w w':=by
 have hB:Below w.heap.size w (w.alloc (.cells (idC c) 31)):=bA;have h1:=h.kept (z9.of_below hB) sI;have hr:zA (w.alloc (.cells (idC c) 31)) w.heap.size 0 32=some (idC c):=by simp[go_sem]
 obtain⟨k1,k2⟩:=aE h1 c;have T:(S.map (·.c)).Nodup:=by
  obtain⟨l,b,Fl,N,e1,e2,e3,e4,_⟩:=h;obtain⟨_,_,_,_,_,_,_,_,_,_,_,_,b9⟩:=e4;exact b9
 cases hp:jN S c with
 | none =>
  have c1:=k2 hp;have k:bF S c=S:=pinX_no (wH.1 hp);rw[k];have H:=dH h;clear k1 k2 h h1;go_enter func68,ntmps68
  (go_wp2_with fail);refine c1.mono ?_;rintro e w' ⟨rfl,d⟩;have hb:=yK hB d;have HF:=dH (And.intro (H.out.kept (z9.of_below hb) sI) ((z9.of_below hb).mono (S':=F) sI));clear c1 d hr hb;(go_wp2_with fail);go_ret;exact⟨⟨_,rfl⟩,HF.out⟩
 | some p =>
  have b7:qY S<=1000000:=Nat.le_trans (r9 S) c5;obtain⟨l,b,Fl,N,e1,e2,e3,e4,⟨M,es,X,hm,s⟩,e6,e7,e8⟩:=h;obtain⟨a6,R⟩:=jU hp;obtain⟨x,j⟩:∃x,(p,x)∈N:=by
   rw[<-e1]at a6;obtain⟨q',b6,e⟩:=mem_map.1 a6;exact⟨q'.2,by rw[<-e];exact b6⟩
  have m:=e6 _ j;have hx:=m.kept (z9.of_below hB) sI;have c4:(w.alloc (.cells (idC c) 31)).cell? ⟨g,4,none⟩=some (.map (some b)):=by
   rw[cell_of_row _ g 4 _ _ _ ((hB.block g (aG e3).1).trans e3)];rfl
  have c1:=nW _ g b M es X c c4 (hm.kept (z9.of_below hB) sI) (some ⟨x,0,none⟩) true (.inl ⟨rfl,x,rfl,s.mem_iff.2 (mem_map.2 ⟨_,j,by rw[<-R]⟩)⟩);have b5:x∈F:=by rw[e2];exact mem_cons_of_mem _ (mem_cons_of_mem _ (mem_append_right _ (mem_map_of_mem (f:=(·.2)) j)))
  have a4:x≠g:=by
   rintro rfl;have h9:=m.heap;rw[e3]at h9;injection h9 with h9;injection h9 with h9 _ _
   have:=congrArg Array.size h9;simp at this
  clear c4 m;cases hpp:p.pin with
  | true =>
   have k:bF S c=S:=pinX_old T hp hpp;rw[k];have H:=dH (show v4 w g F q S from⟨l,b,Fl,N,e1,e2,e3,e4,⟨M,es,X,hm,s⟩,e6,e7,e8⟩);clear k1 k2 e1 e2 e3 e4 hm s e6 e7 e8 h1;go_enter func68,ntmps68
   (go_wp2_with fail);refine c1.mono ?_;rintro e w' ⟨rfl,d⟩;have hb:=yK hB d;have L:w'.cell? ⟨x,1,none⟩=some (.bool p.pin):=by rw[cell_of_row w' x 1 _ _ _ (hx.kept (z9.of_below d) sI).heap];rfl
   rw[hpp]at L;have HF:=dH (And.intro (H.out.kept (z9.of_below hb) sI) ((z9.of_below hb).mono (S':=F) sI));clear c1 d hr hb hx;(go_wp2_with fail);go_ret;exact⟨⟨_,rfl⟩,HF.out⟩
  | false =>
   have O:=pinned_pin T hp hpp;have Y:p.body.size<=1000000:=by
    have:=r9 (bF S c);rw[mM]at this;omega
   have c0:g<w.heap.size:=(aG e3).1;have H:=dH (show v4 w g F q S from⟨l,b,Fl,N,e1,e2,e3,e4,⟨M,es,X,hm,s⟩,e6,e7,e8⟩);have E3:=dH e3;clear k1 k2 e3;go_enter func68,ntmps68
   (go_wp2_with fail);refine c1.mono ?_;rintro e w' ⟨rfl,d⟩;have hb:=yK hB d;have J:=(hx.kept (z9.of_below d) sI).heap;have L:w'.cell? ⟨x,1,none⟩=some (.bool p.pin):=by rw[cell_of_row w' x 1 _ _ _ J];rfl
   have c3:w'.frozen? ⟨x,1,none⟩=false:=by simp[frozen?,J]
   rw[hpp]at L;have a0:=(hb.block g c0).trans E3.out;clear c1 d hr hx;have hgs:(w'.setCell ⟨x,1,none⟩ (.bool true)).heap[g]?=some (.cells (qb l q (xK S) (qY S) b) 97 (0,0)):=((z9.setCell w' ⟨x,1,none⟩ (.bool true)).block g (aG a0).1 (by simp;exact λe=>a4 e.symm)).trans a0;have A:(w'.setCell ⟨x,1,none⟩ (.bool true)).heap[x]?=some (.cells #[.string p.body,.bool true] 158 (0,0)):=by rw[vT J];rfl
   have U:=z9.setCell w' ⟨x,1,none⟩ (.bool true);go_upto_region 6 with fail
   obtain⟨W2,b4⟩:=eX (w'.setCell ⟨x,1,none⟩ (.bool true))
   rw[b4]at hgs A U |-;have a2:W2.cell? ⟨g,3,none⟩=some (.int .i64 (qY S)):=by rw[cell_of_row W2 g 3 _ _ _ hgs];rfl
   have m:W2.cell? ⟨x,0,none⟩=some (.string p.body):=by rw[cell_of_row W2 x 0 _ _ _ A];rfl
   have c2:W2.frozen? ⟨g,3,none⟩=false:=by simp[frozen?,hgs]
   obtain⟨P0,a3⟩:=eX (qY S)
   obtain⟨Z,hZ⟩:=eX p.body.size
   rw[a3]at O b7 a2 hgs;rw[hZ]at O Y;have c7:IntKind.i64.wrap ((P0:Int)+(Z:Int))=((P0+Z:Nat):Int):=by rw[IntWalk.i64_in _ oM];push_cast;rfl
   have HZ:=dH hZ;have c8:=dH a3;have c6:=dH O;clear b4 L c3 J a0 O a3;refine kF [] W2 ?_;intro b8 hS;have b1:=zG a2 (S:=[]) sI;have b2:=zG m (S:=[]) sI;refine lZ ?_;refine j3 ?_ ?_;(focus(simp only[yO];done));intro K hK;go_simp;refine hK _ _ ?_;clear hK K;have I:((P0:Int)+(Z:Int))=((qY (bF S c):Nat):Int):=by rw[c6.out];push_cast;rfl
   have a1:=vT hgs 3 (.int .i64 ((P0:Int)+(Z:Int)));have V:=z9.setCell W2 ⟨g,3,none⟩ (.int .i64 ((P0:Int)+(Z:Int)));obtain⟨W3,b3⟩:=eX (W2.setCell ⟨g,3,none⟩ (.int .i64 ((P0:Int)+(Z:Int))))
   rw[b3]at a1 V |-;clear b3;have a8:z9 [x,g] w' W3.drew:=z9.trans (z9.trans (U.mono (S':=[x,g]) sI) (V.mono (S':=[x,g]) sI) (λy hy=>.inl hy)) (z9.drew W3) sI;have D:z9 [x,g] w W3.drew:=z9.trans ((z9.of_below hb).mono sI) a8 (λy hy=>.inl hy);have a5:W3.drew.heap[x]?=some (.cells #[.string p.body,.bool true] 158 (0,0)):=((V.block x (aG A).1 (by simp;exact a4))).trans A;have G:v4 W3.drew g F q (bF S c):=by
    refine⟨l,b,Fl,N.map λr=>(if r.1.c=c then { r.1 with pin:=true } else r.1,r.2),?_,?_,?_,?_,⟨M,es,X,(hm.kept D ?_),?_⟩,?_,?_,?_⟩
    ·rw[<-e1,map_map];unfold bF;rw[map_map];rfl
    ·rw[e2,map_map];rfl
    ·have h9:W3.drew.heap[g]?=_:=a1;rw[h9,mM,<-I];rfl
    ·rw[zt];refine e4.kept D λy hy t=>?_;rcases mem_cons.1 t with e | t
     ·exact(e7 y hy).2.2 (by rw[e];exact mem_map_of_mem (f:=(·.2)) j)
     ·exact(e7 y hy).1 (by simpa using t)
    ·intro b0;simp only[mem_cons,not_mem_nil,or_false]at b0;rcases b0 with e | e
     ·have h9:=(e6 _ j).heap;have h9:w.heap[x]?=_:=h9;rw[<-e,hm.heap]at h9;cases h9
     ·have h9:=E3.out;rw[<-e,hm.heap]at h9;cases h9
    ·rw[map_map];refine s.trans (Perm.of_eq (map_congr_left λr _=>?_));show(r.1.c,r.2)=((if _ then _ else _:Pay).c,r.2)
     split <;> rfl
    ·intro r hr;obtain⟨r',B,rfl⟩:=mem_map.1 hr;by_cases e:r'.1.c=c
     ·have e5:r'=(p,x):=by
       have h9:=Q4 T (by rw[<-e1];exact mem_map_of_mem (f:=(·.1)) B:r'.1∈S);rw[e,hp]at h9;injection h9 with h9
       exact pE (f:=λr:Pay×Nat=>r.1.c) (by have h9:=T;rw[<-e1,map_map]at h9;exact h9) B j (by rw[e,R])
      subst e5;show nE W3.drew x (if p.c=c then _ else _);rw[if_pos R];exact⟨a5⟩
     ·show nE W3.drew r'.2 (if r'.1.c=c then _ else _);rw[if_neg e];refine(e6 r' B).kept D λt=>?_;simp only[mem_cons,not_mem_nil,or_false]at t;rcases t with h | h
      ·have e5:r'=(p,x):=by
        exact pE e8 B j h
       rw[e5]at e;exact e R
      ·have h9:=(e6 r' B).heap;rw[h,E3.out]at h9;injection h9 with h9;injection h9 with h9 _ _
       have:=congrArg Array.size h9;simp at this
    ·intro y hy;rw[map_map];exact e7 y hy
    ·rw[map_map];exact e8
   have a9:g∈F:=by rw[e2];simp
   have a7:z9 F w W3.drew:=D.mono λy hy=>by
    simp only[mem_cons,not_mem_nil,or_false]at hy;rcases hy with h | h
    ·rw[h];exact .inl b5
    ·rw[h];exact .inl a9
   have HF:=dH (And.intro G a7);clear G a7 D a8 a5 a9 a1 V U b1 b2 b8 hS A hgs a2 m c2 e4 e6 e7 e8 e1 e2 hm s;(go_wp2_with fail);go_ret;exact⟨⟨_,rfl⟩,HF.out⟩
theorem JB(h:c∉S.map (·.c)):vU S c=S :=
 filter_eq_self.2 λp hp=>decide_eq_true λe:p.c=c=>h (by rw[<-e];exact mem_map_of_mem (f:=(·.c)) hp)
theorem dropX_sum(hn:(S.map (·.c)).Nodup)(hp:jN S c=some p):xK S=xK (vU S c)+p.body.size/\qY S=qY (vU S c)+if p.pin then p.body.size else 0:=by
 obtain⟨hm,hc⟩:=jU hp;induction S with
 | nil=>cases hm
 | cons y S ih =>
  rw[map_cons,nodup_cons]at hn;by_cases e:y.c=c
  ·have hy:y=p:=by
    have:jN (y :: S) c=some y:=by unfold jN;rw[find?_cons,decide_eq_true e]
    rw[hp]at this;injection this with this;exact this.symm
   subst hy;have h2:=JB (S:=S) (c:=c) (by rw[<-e];exact hn.1);have h3:vU (y :: S) c=S:=by
    show List.filter _ (y :: S)=S;rw[filter_cons,if_neg (by simpa using e)];exact h2
   rw[h3];refine⟨by unfold xK;simp only[map_cons,sum_cons];omega,?_⟩;unfold qY;rw[filter_cons];split
   ·simp only[map_cons,sum_cons];omega
   ·rfl
  ·have f:jN S c=some p:=by
    unfold jN at hp |-;rw[find?_cons,decide_eq_false e]at hp;exact hp
   obtain⟨i1,i2⟩:=ih hn.2 f (jU f).1;have h3:vU (y :: S) c=y :: vU S c:=by
    show List.filter _ (y :: S)=_;rw[filter_cons,if_pos (by simpa using e)];rfl
   rw[h3];refine⟨by unfold xK at i1 |-;simp only[map_cons,sum_cons];omega,?_⟩;unfold qY at i2 |-;rw[filter_cons,filter_cons];by_cases d:y.pin=true
   ·rw[if_pos d,if_pos d];simp only[map_cons,sum_cons];omega
   ·rw[if_neg d,if_neg d];exact i2
theorem dropX_cs(S:List Pay)(c:zB):(vU S c).map (·.c)=rL (S.map (·.c)) c:=by
 unfold vU rL;rw[filter_map];rfl
theorem sto_drop(w:World)(g:Nat)(F:List Nat)(q:Int)(S:List Pay)(c:zB)(h:v4 w g F q S)(h1:xK S<=1000000) :
  Calls prog 74 #[.pointer (some ⟨g,0,none⟩),.agg (idC c)] w λe w'=>e=.returned (.int .i64 (if c∈S.map (·.c)then 0 else 7))/\(∃F',v4 w' g F' q (vU S c)/\∀x∈F',x∈F)/\z9 F w w':=by
 have hB:Below w.heap.size w (w.alloc (.cells (idC c) 31)):=bA;have hr:zA (w.alloc (.cells (idC c) 31)) w.heap.size 0 32=some (idC c):=by simp[go_sem]
 obtain⟨l,b,Fl,N,e1,e2,e3,e4,⟨M,es,d2,hm,a8⟩,e6,e7,e8⟩:=h;have f0:(S.map (·.c)).Nodup:=by
  obtain⟨_,_,_,_,_,_,_,_,_,_,_,_,g7⟩:=e4;exact g7
 have f1:g<w.heap.size:=(aG e3).1;have c4:(w.alloc (.cells (idC c) 31)).cell? ⟨g,4,none⟩=some (.map (some b)):=by
  rw[cell_of_row _ g 4 _ _ _ ((hB.block g f1).trans e3)];rfl
 have d4:=hm.kept (z9.of_below hB) sI;by_cases hc:c∈S.map (·.c)
 ·rw[if_pos hc];obtain⟨p,hp⟩:∃p,jN S c=some p:=by
   cases e:jN S c with
   | none=>exact absurd hc (wH.1 e)
   | some p=>exact⟨p,rfl⟩
  obtain⟨e5,f7⟩:=jU hp;obtain⟨x,d8⟩:∃x,(p,x)∈N:=by
   rw[<-e1]at e5;obtain⟨q',g6,e⟩:=mem_map.1 e5;exact⟨q'.2,by rw[<-e];exact g6⟩
  have B:=e6 _ d8;have hx:=B.kept (z9.of_below hB) sI;have c1:=nW _ g b M es d2 c c4 d4 (some ⟨x,0,none⟩) true (.inl ⟨rfl,x,rfl,a8.mem_iff.2 (mem_map.2 ⟨_,d8,by rw[<-f7]⟩)⟩);have g4:x≠g:=by
   rintro rfl;have h9:=B.heap;rw[e3]at h9;injection h9 with h9;injection h9 with h9 _ _
   have:=congrArg Array.size h9;simp at this
  have f8:g≠b:=λe=>(by rw[e,hm.heap]at e3;cases e3);obtain⟨s1,s2⟩:=dropX_sum f0 hp;have f6:=r9 S;have b7:=r9 (vU S c);obtain⟨B0,g3⟩:=eX (xK S)
  obtain⟨P0,g2⟩:=eX (qY S)
  obtain⟨Z,hZ⟩:=eX p.body.size
  obtain⟨B1,d6⟩:=eX (xK (vU S c))
  obtain⟨P1,d5⟩:=eX (qY (vU S c))
  rw[g3]at s1 h1 f6 e3;rw[g2]at s2 f6 e3;rw[hZ,d6]at s1;rw[hZ,d5]at s2;rw[d5,d6]at b7;have h3:IntKind.i64.wrap ((B0:Int)-(Z:Int))=(B0:Int)-(Z:Int):=IntWalk.i64_in _ oM;have c7:∀w5 w8 T d1,z9 [g,b] w w5->z9 Fl w5 w8->w5.heap[g]?=some (.cells (qb l q ((B0:Int)-(Z:Int)) (P1:Int) b) 97 (0,0))->yL w5 b idV fD vN (pP M c) d1 d2->dL w8 l T (rL (S.map (·.c)) c)->(∀y∈T,y∈Fl)->(∃F',v4 w8 g F' q (vU S c)/\∀x∈F',x∈F)/\z9 F w w8:=by
   intro w5 w8 T d1 k1 k2 g9 U a0 D;have g8:g∉Fl:=λh=>(e7 g h).1 rfl;have h2:b∉Fl:=λh=>(e7 b h).2.1 rfl;have f5:∀r∈N.filter (λr=>decide (r.1.c≠c)),r∈N:=λr hr=>(mem_filter.1 hr).1;have hk:z9 ([g,b]++Fl) w w8:=z9.trans (k1.mono λy hy=>.inl (mem_append_left _ hy)) (k2.mono λy hy=>.inl (mem_append_right _ hy)) (λy hy=>.inl hy);refine⟨⟨g :: b :: (T++(N.filter λr=>decide (r.1.c≠c)).map (·.2)),⟨l,b,T,N.filter λr=>decide (r.1.c≠c),?_,rfl,?_,?_,⟨pP M c,d1,d2,U.kept k2 h2,?_⟩,?_,?_,?_⟩,?_⟩,?_⟩
   ·rw[<-e1];unfold vU;rw[filter_map];rfl
   ·have h9:=(k2.block g (Nat.lt_of_lt_of_le f1 k1.size) g8).trans g9;have e9:((B0:Int)-(Z:Int))=(B1:Int):=oM;rw[h9,d6,d5,e9]
   ·rw[dropX_cs];exact a0
   ·have h9:(pP M c).Perm ((N.map λp=>(p.1.c,p.2)).filter λp=>decide (p.1≠c)):=a8.filter _;rw[filter_map]at h9;exact h9
   ·intro r hr;refine(e6 r (f5 r hr)).kept hk λa9=>?_;rcases mem_append.1 a9 with a9 | a9
    ·have h9:=(e6 r (f5 r hr)).heap;simp only[mem_cons,not_mem_nil,or_false]at a9;rcases a9 with h | h
     ·rw[h,e3]at h9;injection h9 with h9;injection h9 with h9 _ _
      have:=congrArg Array.size h9;simp at this
     ·rw[h,hm.heap]at h9;cases h9
    ·exact(e7 _ a9).2.2 (mem_map_of_mem (f:=(·.2)) (f5 r hr))
   ·exact λy hy=>⟨(e7 y (D y hy)).1,(e7 y (D y hy)).2.1,λh=>(e7 y (D y hy)).2.2 ((Sublist.map _ filter_sublist).subset h)⟩
   ·exact e8.sublist (Sublist.map _ filter_sublist)
   ·intro y hy;rw[e2];rcases mem_cons.1 hy with h | hy
    ·rw[h];simp
    rcases mem_cons.1 hy with h | hy
    ·rw[h];simp
    refine mem_cons_of_mem _ (mem_cons_of_mem _ ?_);rcases mem_append.1 hy with h | h
    ·exact mem_append_left _ (D y h)
    ·exact mem_append_right _ ((Sublist.map _ filter_sublist).subset h)
   ·refine hk.mono λy hy=>.inl ?_;rw[e2];simp only[mem_append,mem_cons,not_mem_nil,or_false]at hy |-;rcases hy with(h | h) | h
    ·exact .inl h
    ·exact .inr (.inl h)
    ·exact .inr (.inr (.inl h))
  have d3:=dH c7;have H4:=dH e4;have H7:=dH e7;have Hm:=dH hm;have Hc:=dH hc;have d7:=dH f8;have H3:=dH e3;have d9:=B.heap;clear c7 e4 e7 hm hc f8 e6 e8 e1 e2 f0 e5 a8 hp f7 d8 d4 s1 b7 g3 g2 d6 d5 B e3;go_enter func74,ntmps74
  (go_wp2_with fail);refine c1.mono ?_;rintro e w' ⟨rfl,c9⟩;have hb:=yK hB c9;have Y:zA w' w.heap.size 0 32=some (idC c):=((z9.of_below c9).row (zE hr) sI _ _).trans hr;obtain⟨ga,f2⟩:=eX w.heap.size
  have b3:=dH f2;rw[f2]at Y |-;clear f2 hr;have a7:=(hb.block x (aG d9).1).trans d9;have b0:=(hb.block g f1).trans H3.out;have e0:w'.cell? ⟨x,1,none⟩=some (.bool p.pin):=by rw[cell_of_row w' x 1 _ _ _ a7];rfl
  clear c1 hx d9;cases hpp:p.pin with
  | true =>
   rw[hpp]at e0;rw[hpp]at s2;have hP:(P0:Int)-(Z:Int)=(P1:Int):=by simp at s2;omega
   have g5:IntKind.i64.wrap ((P0:Int)-(Z:Int))=(P0:Int)-(Z:Int):=IntWalk.i64_in _ oM;have f9:w'.cell? ⟨g,3,none⟩=some (.int .i64 P0):=by rw[cell_of_row w' g 3 _ _ _ b0];rfl
   have b5:w'.cell? ⟨x,0,none⟩=some (.string p.body):=by rw[cell_of_row w' x 0 _ _ _ a7];rfl
   have h0:w'.frozen? ⟨g,3,none⟩=false:=by simp[frozen?,b0]
   have f3:=vT b0 3 (.int .i64 ((P0:Int)-(Z:Int)));have J:=z9.setCell w' ⟨g,3,none⟩ (.int .i64 ((P0:Int)-(Z:Int)));have HP:=dH hP;clear s2 hP;go_upto_region 5 with fail
   refine kF [] w' ?_;intro t hS;have b1:=zG f9 (S:=[]) sI;have b2:=zG b5 (S:=[]) sI;refine lZ ?_;refine j3 ?_ ?_;(focus(simp only[yO];done));intro K hK;go_simp;refine hK _ _ ?_;clear hK K hS t b1 b2 e0 f9 b5 h0 g5;obtain⟨W8,g1⟩:=eX (w'.setCell ⟨g,3,none⟩ (.int .i64 ((P0:Int)-(Z:Int))))
   rw[g1]at f3 J |-;clear g1;have E:z9 [g] w' W8.drew:=z9.trans (J.mono sI) (z9.drew W8) sI;have b4:W8.drew.heap[x]?=some (.cells #[.string p.body,.bool p.pin] 158 (0,0)):=(E.block x (aG a7).1 (by simpa using g4)).trans a7;have c0:W8.drew.heap[g]?=some (.cells (qb l q (B0:Int) (P1:Int) b) 97 (0,0)):=by
    have h9:W8.drew.heap[g]?=_:=f3;rw[h9,HP.out];rfl
   have b8:z9 [g] w W8.drew:=z9.trans ((z9.of_below hb).mono sI) E (λy hy=>.inl hy);have R:=dH (show ∀V,z9 [g] W8.drew V->zA V ga 0 32=some (idC c)from λV hk=>((z9.trans E hk (λy hy=>.inl hy)).row (zE Y) (oS b3.out) _ _).trans Y);obtain⟨W9,g0⟩:=eX W8.drew
   rw[g0]at b4 c0 b8 R |-;clear Y f3 J E g0 a7 b0;go_upto_region 6 with fail
   have j:=c0;have B:(W9).cell? ⟨x,0,none⟩=some (.string p.body):=by rw[cell_of_row _ x 0 _ _ _ (b4)];rfl
   have c5:(W9).cell? ⟨g,2,none⟩=some (.int .i64 B0):=by rw[cell_of_row _ g 2 _ _ _ j];rfl
   have f4:(W9).frozen? ⟨g,2,none⟩=false:=by simp[frozen?,j]
   have a3:=vT j 2 (.int .i64 ((B0:Int)-(Z:Int)));have I:=z9.setCell (W9) ⟨g,2,none⟩ (.int .i64 ((B0:Int)-(Z:Int)));refine kF [] W9 ?_;intro t hS;have b1:=zG c5 (S:=[]) sI;have b2:=zG B (S:=[]) sI;refine lZ ?_;refine j3 ?_ ?_;(focus(simp only[yO];done));intro K hK;go_simp;refine hK _ _ ?_;clear hK K hS t b1 b2;obtain⟨W3,d0⟩:=eX ((W9).setCell ⟨g,2,none⟩ (.int .i64 ((B0:Int)-(Z:Int))))
   rw[d0]at a3 I |-;clear d0 j B c5 f4;have a1:z9 [g] (W9) W3.drew:=z9.trans (I.mono (S':=[g]) sI) (z9.drew W3) sI;have O:z9 [g] w W3.drew:=z9.trans (z9.trans (b8) (I.mono (S':=[g]) sI) (λy hy=>.inl hy)) (z9.drew W3) sI;have d:W3.drew.heap[g]?=some (.cells (qb l q ((B0:Int)-(Z:Int)) (P1:Int) b) 97 (0,0)):=a3;obtain⟨V,hV⟩:=eX W3.drew
   rw[hV]at O a1 d |-;clear hV I a3;have a6:g∉[b]:=by simpa using d7.out
   have c8:b∉[g]:=by simpa using λe:b=g=>d7.out e.symm
   have c3:V.cell? ⟨g,4,none⟩=some (.map (some b)):=by rw[cell_of_row V g 4 _ _ _ d];rfl
   have G:zA V ga 0 32=some (idC c):=R.out V a1;have s:ga∉[b]:=by have:=Hm.out.lt;have:=b3.out;simp;omega
   obtain⟨w5,d1,X,U,b9⟩:=((Hm.out.kept O c8).kept (z9.drew V) (S:=[]) sI).delete jA underlying95 (ty:=0) (k:=c) trivial;go_upto_region 7 with fail
   refine kX [b] V ?_;intro t hS;have b1:=zG c3 a6;have b2:=zY G s;refine lQ ?_;intro K hK;refine zI (yC hS b9 sI) (λhS=>?_);refine hK _ _ ?_;clear hK K;refine zD ?_;intro hS;have L:z9 [b] V w5:=hS;clear b1 b2 t X b9 hS;have a2:z9 [g,b] w w5:=z9.trans (O.mono (S':=[g,b]) sI) (L.mono (S':=[g,b]) sI) (λy hy=>.inl hy);have m:=(L.block g (aG d).1 a6).trans d;have c6:w5.cell? ⟨g,0,none⟩=some (.pointer (some ⟨l,0,none⟩)):=by rw[cell_of_row w5 g 0 _ _ _ m];rfl
   have b6:zA w5 ga 0 32=some (idC c):=(L.row (zE G) s _ _).trans G;have a5:g∉Fl:=λh=>(H7.out g h).1 rfl;have a4:ga∉Fl:=λh=>(by have:=H4.out.lt ga h;have:=b3.out;omega);have c2:=vf w5.drew l Fl _ c ((H4.out.kept a2 (λy hy hm=>by
    rcases mem_cons.1 hm with e | hm
    ·exact(H7.out y hy).1 e
    ·exact(H7.out y hy).2.1 (by simpa using hm))).kept (z9.drew w5) (S:=[]) sI)
   rw[if_pos Hc.out]at c2;clear d O a1 L c3 G s a6 c8;go_upto_region 8 with fail
   refine kX Fl w5 ?_;intro t hS;have b1:=zG c6 a5;have b2:=zY b6 a4;refine lQ ?_;intro K hK;refine c2.mono ?_;rintro e w8 ⟨rfl,⟨T,a0,D⟩,E⟩;replace hS:=yC hS E (λy hy=>.inl hy);refine⟨_,rfl,hS,hK _ _ ?_⟩;clear hK K;refine lZ ?_;refine zD ?_;intro hS;have J:z9 Fl w5 w8:=hS;have A:=d3.out w5 w8 T _ a2 J m U a0 D;have HF:=dH A;clear A b1 b2 t hS E J a0 D m U a2 c6 b6 c2;(go_wp2_with fail);go_ret;exact⟨rfl,HF.out⟩
  | false =>
   rw[hpp]at e0;rw[hpp]at s2;have hP:(P0:Int)=(P1:Int):=by simp at s2;omega
   rw[hP]at b0;clear hP s2;go_upto_region 6 with fail
   have R:=dH (show ∀V,z9 [g] w' V->zA V ga 0 32=some (idC c)from λV hk=>(hk.row (zE Y) (oS b3.out) _ _).trans Y);clear Y;have j:=b0;have B:(w').cell? ⟨x,0,none⟩=some (.string p.body):=by rw[cell_of_row _ x 0 _ _ _ (a7)];rfl
   have c5:(w').cell? ⟨g,2,none⟩=some (.int .i64 B0):=by rw[cell_of_row _ g 2 _ _ _ j];rfl
   have f4:(w').frozen? ⟨g,2,none⟩=false:=by simp[frozen?,j]
   have a3:=vT j 2 (.int .i64 ((B0:Int)-(Z:Int)));have I:=z9.setCell (w') ⟨g,2,none⟩ (.int .i64 ((B0:Int)-(Z:Int)));refine kF [] w' ?_;intro t hS;have b1:=zG c5 (S:=[]) sI;have b2:=zG B (S:=[]) sI;refine lZ ?_;refine j3 ?_ ?_;(focus(simp only[yO];done));intro K hK;go_simp;refine hK _ _ ?_;clear hK K hS t b1 b2;obtain⟨W3,d0⟩:=eX ((w').setCell ⟨g,2,none⟩ (.int .i64 ((B0:Int)-(Z:Int))))
   rw[d0]at a3 I |-;clear d0 j B c5 f4;have a1:z9 [g] (w') W3.drew:=z9.trans (I.mono (S':=[g]) sI) (z9.drew W3) sI;have O:z9 [g] w W3.drew:=z9.trans (z9.trans (((z9.of_below hb).mono sI:z9 [g] w w')) (I.mono (S':=[g]) sI) (λy hy=>.inl hy)) (z9.drew W3) sI;have d:W3.drew.heap[g]?=some (.cells (qb l q ((B0:Int)-(Z:Int)) (P1:Int) b) 97 (0,0)):=a3;obtain⟨V,hV⟩:=eX W3.drew
   rw[hV]at O a1 d |-;clear hV I a3;have a6:g∉[b]:=by simpa using d7.out
   have c8:b∉[g]:=by simpa using λe:b=g=>d7.out e.symm
   have c3:V.cell? ⟨g,4,none⟩=some (.map (some b)):=by rw[cell_of_row V g 4 _ _ _ d];rfl
   have G:zA V ga 0 32=some (idC c):=R.out V a1;have s:ga∉[b]:=by have:=Hm.out.lt;have:=b3.out;simp;omega
   obtain⟨w5,d1,X,U,b9⟩:=((Hm.out.kept O c8).kept (z9.drew V) (S:=[]) sI).delete jA underlying95 (ty:=0) (k:=c) trivial;go_upto_region 7 with fail
   refine kX [b] V ?_;intro t hS;have b1:=zG c3 a6;have b2:=zY G s;refine lQ ?_;intro K hK;refine zI (yC hS b9 sI) (λhS=>?_);refine hK _ _ ?_;clear hK K;refine zD ?_;intro hS;have L:z9 [b] V w5:=hS;clear b1 b2 t X b9 hS;have a2:z9 [g,b] w w5:=z9.trans (O.mono (S':=[g,b]) sI) (L.mono (S':=[g,b]) sI) (λy hy=>.inl hy);have m:=(L.block g (aG d).1 a6).trans d;have c6:w5.cell? ⟨g,0,none⟩=some (.pointer (some ⟨l,0,none⟩)):=by rw[cell_of_row w5 g 0 _ _ _ m];rfl
   have b6:zA w5 ga 0 32=some (idC c):=(L.row (zE G) s _ _).trans G;have a5:g∉Fl:=λh=>(H7.out g h).1 rfl;have a4:ga∉Fl:=λh=>(by have:=H4.out.lt ga h;have:=b3.out;omega);have c2:=vf w5.drew l Fl _ c ((H4.out.kept a2 (λy hy hm=>by
    rcases mem_cons.1 hm with e | hm
    ·exact(H7.out y hy).1 e
    ·exact(H7.out y hy).2.1 (by simpa using hm))).kept (z9.drew w5) (S:=[]) sI)
   rw[if_pos Hc.out]at c2;clear d O a1 L c3 G s a6 c8;go_upto_region 8 with fail
   refine kX Fl w5 ?_;intro t hS;have b1:=zG c6 a5;have b2:=zY b6 a4;refine lQ ?_;intro K hK;refine c2.mono ?_;rintro e w8 ⟨rfl,⟨T,a0,D⟩,E⟩;replace hS:=yC hS E (λy hy=>.inl hy);refine⟨_,rfl,hS,hK _ _ ?_⟩;clear hK K;refine lZ ?_;refine zD ?_;intro hS;have J:z9 Fl w5 w8:=hS;have A:=d3.out w5 w8 T _ a2 J m U a0 D;have HF:=dH A;clear A b1 b2 t hS E J a0 D m U a2 c6 b6 c2;(go_wp2_with fail);go_ret;exact⟨rfl,HF.out⟩
 ·rw[if_neg hc];have c1:=nW _ g b M es d2 c c4 d4 none false (.inr ⟨rfl,rfl,λhx=>hc (by
   have:=(a8.map (·.1)).mem_iff.1 hx;rw[map_map]at this;rw[<-e1,map_map];exact this)⟩)
  have hS:vU S c=S:=JB hc;have H:=dH (show v4 w g F q (vU S c) by rw[hS];exact⟨l,b,Fl,N,e1,e2,e3,e4,⟨M,es,d2,hm,a8⟩,e6,e7,e8⟩);have Hc:=dH hc;clear hS e1 e2 e3 e4 hm a8 e6 e7 e8 d4 c4 f0 hc;go_enter func74,ntmps74
  (go_wp2_with fail);refine c1.mono ?_;rintro e w' ⟨rfl,c9⟩;have hb:=yK hB c9;have HF:=dH (And.intro (H.out.kept (z9.of_below hb) sI) ((z9.of_below hb).mono (S':=F) sI));clear c1 c9 hr hb;(go_wp2_with fail);go_ret;exact⟨rfl,⟨_,HF.out.1,λ_ h=>h⟩,HF.out.2⟩
def zU(n:Nat):List UInt32:=replicate n 0
theorem gB(n:Nat):(zU n).length=n:=length_replicate
def wC(x:UInt32):Value:=.int .u32 (nU x)
def wsC(L:List UInt32):Array Value:=(L.map wC).toArray
@[simp] theorem bJ(L:List UInt32):(wsC L).size=L.length:=by simp[wsC]
theorem r6(L:List UInt32):∀u∈(wsC L).toList,u.oneCell'=true:=by
 intro u hu;simp[wsC]at hu;obtain⟨c,_,rfl⟩:=hu;rfl
theorem dY(L:List UInt32){i:Nat}(h:i<L.length):(wsC L)[i]?=some (.int .u32 (nU (L.getD i 0))):=by
 simp[wsC,wC,getD,h]
theorem dX(L:List UInt32)(i:Nat)(x:UInt32):(wsC L).setIfInBounds i (.int .u32 (nU x))=wsC (L.set i x):=by
 apply Array.ext';rw[Array.toList_setIfInBounds];show(L.map wC).set i (wC x)=(L.set i x).map wC;rw[map_set]
theorem X5:(prog.info? 244).map (·.size)=some 64:=kR
@[go_sem ↓] theorem zeroW64_run(w:World):(zeroValue 244).run prog w=.ok (.agg (wsC (zU 64))) w:=by
 have h:(prog.info? 244).bind (·.zero)=some (.agg (wsC (zU 64))):=kR;cases hi:prog.info? 244 with
 | none=>rw[hi]at h;cases h
 | some i =>
  rw[hi]at h;have hz:i.zero=some (.agg (wsC (zU 64))):=h;simp[zeroValue,typeInfo,hi,hz]
@[go_sem ↓] theorem loadW64_rw(a:Addr):loadVar 244 a=ldS 244 a:=rfl
@[go_sem ↓] theorem storeW64_rw(a:Addr)(v:Value):storeVar 244 a v=stS 244 a v:=rfl
@[go_sem] theorem loadW64_run(w:World)(g o:Nat):(ldS 244 ⟨g,o,none⟩).run prog w=match zA w g o 64 with | some cs=>.ok (.agg cs) w | none=>(loadVar 244 ⟨g,o,none⟩).run prog w :=
 jK underlying244 rfl X5 w g o
@[go_sem] theorem BX(w:World)(g:Nat)(hg:g=w.heap.size)(z:Array Value)(hz:z.size=64)(L:List UInt32)(hL:L.length=64)(e:TypeId):(stS 244 ⟨g,0,none⟩ (.agg (wsC L))).run prog (w.alloc (.cells z e))=.ok () (w.alloc (.cells (wsC L) e)) :=
 hg ▸ xZ X5 w z (wsC L) hz ((bJ L).trans hL) (r6 L)
theorem infoSt8:(prog.info? 329).map (·.size)=some 8:=kR
@[go_sem ↓] theorem zeroSt8_run(w:World):(zeroValue 329).run prog w=.ok (.agg (wsC (zU 8))) w:=by
 have h:(prog.info? 329).bind (·.zero)=some (.agg (wsC (zU 8))):=kR;cases hi:prog.info? 329 with
 | none=>rw[hi]at h;cases h
 | some i =>
  rw[hi]at h;have hz:i.zero=some (.agg (wsC (zU 8))):=h;simp[zeroValue,typeInfo,hi,hz]
@[go_sem ↓] theorem loadSt8_rw(a:Addr):loadVar 329 a=ldS 329 a:=rfl
@[go_sem ↓] theorem storeSt8_rw(a:Addr)(v:Value):storeVar 329 a v=stS 329 a v:=rfl
@[go_sem] theorem loadSt8_run(w:World)(g o:Nat):(ldS 329 ⟨g,o,none⟩).run prog w=match zA w g o 8 with | some cs=>.ok (.agg cs) w | none=>(loadVar 329 ⟨g,o,none⟩).run prog w :=
 jK underlying329 rfl infoSt8 w g o
@[go_sem] theorem BY(w:World)(g:Nat)(hg:g=w.heap.size)(z:Array Value)(hz:z.size=8)(L:List UInt32)(hL:L.length=8)(e:TypeId):(stS 329 ⟨g,0,none⟩ (.agg (wsC L))).run prog (w.alloc (.cells z e))=.ok () (w.alloc (.cells (wsC L) e)) :=
 hg ▸ xZ infoSt8 w z (wsC L) hz ((bJ L).trans hL) (r6 L)
end Go.Proofs.YtdjiaickicgdlaaGreatDoor
