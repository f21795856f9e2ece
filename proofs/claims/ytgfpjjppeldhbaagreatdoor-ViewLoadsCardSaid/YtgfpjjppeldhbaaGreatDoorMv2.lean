/- Part 2 of the texts that lead to this claim: the walks of the functions and the plain law, in order. -/
import Derived.Test.YtgfpjjppeldhbaaGreatDoorMv1
import Derived.Sort.LotA
import Derived.Maps.AppendAt
import Derived.Deep.Slices
import Derived.RowKit
import Derived.ProofKit
import Derived.OpenShut
import Derived.Lib.AppendStr
import Derived.Laws.BytesString
import Derived.Lib.BufferRead
import Derived.Defers
import Derived.IntWalk
namespace Go.Proofs.YtgfpjjppeldhbaaGreatDoor
open Go.RowKit
set_option maxRecDepth 100000
set_option maxHeartbeats 8000000
section
open Go.RowKit Go.Sort
structure jH{α:Type}(c:α->α->Int):Prop where
 zero:∀a b,c a b=0↔a=b
 anti:∀a b,c b a = - c a b
 trans:∀a b d,c a b<0->c b d<0->c a d<0
theorem sA:jH xY:=⟨dQ,sV,lP⟩
theorem q6:jH zI:=⟨kT,BW,e7⟩
section
variable {α:Type} {c:α->α->Int}
theorem jH.irr(T:jH c)(a:α):¬c a a<0:=by rw[(T.zero a a).2 rfl];omega
theorem jH.self(T:jH c)(a:α):c a a=0:=(T.zero a a).2 rfl
theorem jH.asym(T:jH c){a b:α}(h:c a b<0):¬c b a<0:=oH (T.anti a b)
theorem jH.ne(T:jH c){a b:α}(h:c a b<0):a≠b:=λe=>by subst e;exact T.irr a h
theorem jH.flip(T:jH c){a b:α}(h1:¬c a b<0)(h2:a≠b):c b a<0:=by
 have h3:c a b≠0:=λe=>h2 ((T.zero a b).1 e);have:=T.anti a b;omega
theorem jH.le_trans(T:jH c){a b d:α}(h1:¬c b a<0)(h2:c b d<0):c a d<0:=by
 by_cases e:a=b
 ·subst e;exact h2
 ·exact T.trans a b d (T.flip h1 (λe'=>e e'.symm)) h2
def orC(a b:Int):Int:=if a=0 then b else a
theorem jH.pair{β:Type}{d:β->β->Int}(T:jH c)(U:jH d):jH (λx y:α×β=>orC (c x.1 y.1) (d x.2 y.2)) where
 zero a b:=by
  unfold orC;constructor
  ·intro h;split at h
   ·rename_i h1;exact Prod.ext ((T.zero _ _).1 h1) ((U.zero _ _).1 h)
   ·contradiction
  ·intro h;subst h;rw[if_pos (T.self _)];exact U.self _
 anti a b:=by
  unfold orC;have h1:=T.anti a.1 b.1;have h2:=U.anti a.2 b.2;split <;> split <;> omega
 trans a b e:=by
  unfold orC;intro h1 h2;by_cases e1:c a.1 b.1=0
  ·rw[if_pos e1]at h1;have q:=(T.zero _ _).1 e1;rw[q];by_cases e2:c b.1 e.1=0
   ·rw[if_pos e2]at h2 |-;exact U.trans _ _ _ h1 h2
   ·rw[if_neg e2]at h2 |-;exact h2
  ·rw[if_neg e1]at h1;by_cases e2:c b.1 e.1=0
   ·have q:=(T.zero _ _).1 e2;rw[<-q,if_neg e1];exact h1
   ·rw[if_neg e2]at h2;have:=T.trans _ _ _ h1 h2;rw[if_neg oM];exact this
theorem jH.of{β:Type}{d:β->β->Int}(T:jH c)(f:β->α)(hf:∀x y,f x=f y->x=y)(hd:∀x y,d x y=c (f x) (f y)):jH d where
 zero a b:=by rw[hd,T.zero];exact⟨hf a b,λh=>by rw[h]⟩
 anti a b:=by rw[hd,hd];exact T.anti _ _
 trans a b e:=by rw[hd,hd,hd];exact T.trans _ _ _
def Ris(c:α->α->Int)(l:List α):Prop:=l.Pairwise (λx y=>c x y<0)
theorem Ris.nil:Ris c []:=List.Pairwise.nil
theorem fH{x:α}{l:List α}:Ris c (x :: l)↔(∀y∈l,c x y<0)/\Ris c l:=List.pairwise_cons
theorem Ris.filter{l:List α}(h:Ris c l)(p:α->Bool):Ris c (l.filter p):=List.Pairwise.sublist List.filter_sublist h
theorem Ris.nodup(T:jH c){l:List α}(h:Ris c l):l.Nodup:=List.Pairwise.imp (S:=λa b=>a≠b) (fun {a b} h=>T.ne h) h
def xS(c:α->α->Int):List α->α->List α
 | [],x=>[x]
 | y :: l,x=>if c y x<0 then y :: xS c l x else if c y x=0 then y :: l else x :: y :: l
def yB(c:α->α->Int)(l:List α):List α:=l.foldl (xS c) []
theorem qN(T:jH c):∀ {l:List α} {x z:α},z∈xS c l x↔z=x\/z∈l
 | [],x,z=>by simp[xS]
 | y :: l,x,z=>by
  unfold xS;split
  ·rw[List.mem_cons,qN T,List.mem_cons];constructor
   ·rintro(h | h | h)
    ·exact .inr (.inl h)
    ·exact .inl h
    ·exact .inr (.inr h)
   ·rintro(h | h | h)
    ·exact .inr (.inl h)
    ·exact .inl h
    ·exact .inr (.inr h)
  ·split
   ·rename_i h0
    have e:y=x:=(T.zero y x).1 h0;subst e;simp only[List.mem_cons];constructor
    ·rintro(h | h)
     ·exact .inl h
     ·exact .inr (.inr h)
    ·rintro(h | h | h)
     ·exact .inl h
     ·exact .inl h
     ·exact .inr h
   ·simp only[List.mem_cons]
theorem vA(T:jH c):∀ {l:List α} {x:α},Ris c l->Ris c (xS c l x)
 | [],x,_=>by simp[xS,Ris]
 | y :: l,x,h=>by
  obtain⟨h1,h2⟩:=fH.1 h;unfold xS;split
  ·rename_i hlt
   refine fH.2 ⟨λz hz=>?_,vA T h2⟩;rcases (qN T).1 hz with e | hz
   ·rw[e];exact hlt
   ·exact h1 z hz
  ·rename_i hlt
   split
   ·exact h
   ·rename_i h0
    have d:c x y<0:=oH (T.anti y x);refine fH.2 ⟨λz hz=>?_,h⟩;rcases List.mem_cons.1 hz with e | hz
    ·rw[e];exact d
    ·exact T.trans _ _ _ d (h1 z hz)
theorem wO(T:jH c):∀(l a:List α),Ris c a->Ris c (l.foldl (xS c) a)/\∀z,z∈l.foldl (xS c) a↔z∈a\/z∈l
 | [],a,h=>⟨h,λz=>sI⟩
 | x :: l,a,h=>by
  obtain⟨h1,h2⟩:=wO T l (xS c a x) (vA T h);refine⟨h1,λz=>?_⟩;rw[List.foldl_cons,h2,qN T,List.mem_cons];constructor
  ·rintro((h | h) | h)
   ·exact .inr (.inl h)
   ·exact .inl h
   ·exact .inr (.inr h)
  ·rintro(h | h | h)
   ·exact .inl (.inr h)
   ·exact .inl (.inl h)
   ·exact .inr h
theorem xJ(T:jH c)(l:List α):Ris c (yB c l):=(wO T l [] Ris.nil).1
theorem qE(T:jH c){l:List α}{z:α}:z∈yB c l↔z∈l:=by
 have:=(wO T l [] Ris.nil).2 z;simpa[yB]using this
theorem bQ(l:List α)(x:α):yB c (l ++ [x])=xS c (yB c l) x:=by simp[yB]
theorem jV(l:List α)(x:α):(xS c l x).length<=l.length+1:=by
 induction l with
 | nil=>simp[xS]
 | cons y l ih =>
  unfold xS
  repeat' split
  all_goals simp;try omega
theorem xF(l:List α):(yB c l).length<=l.length:=by
 have h:∀(l a:List α),(l.foldl (xS c) a).length<=a.length+l.length:=by
  intro l;induction l with
  | nil=>intro a;simp
  | cons x l ih =>
   intro a;have h1:=ih (xS c a x);have h2:=jV (c:=c) a x;simp only[List.foldl_cons,List.length_cons];omega
 simpa[yB]using h l []
theorem bL(T:jH c):∀ {l m:List α},Ris c l->Ris c m->(∀z,z∈l↔z∈m)->l=m
 | [],[],_,_,_=>rfl
 | [],y :: m,_,_,h=>absurd ((h y).2 sI) sI
 | x :: l,[],_,_,h=>absurd ((h x).1 sI) sI
 | x :: l,y :: m,hl,hm,h=>by
  obtain⟨h1,h2⟩:=fH.1 hl;obtain⟨k1,k2⟩:=fH.1 hm;have e:x=y:=by
   rcases List.mem_cons.1 ((h x).1 sI)with e | hx
   ·exact e
   ·rcases List.mem_cons.1 ((h y).2 sI)with e | hy
    ·exact e.symm
    ·exact absurd (k1 x hx) (T.asym (h1 y hy))
  subst e;congr 1
  refine bL T h2 k2 λz=>?_;have hz:=h z;simp only[List.mem_cons]at hz;constructor
  ·intro f;rcases hz.1 (.inr f)with e | e
   ·subst e;exact absurd (h1 z f) (T.irr z)
   ·exact e
  ·intro d;rcases hz.2 (.inr d)with e | e
   ·subst e;exact absurd (k1 z d) (T.irr z)
   ·exact e
theorem tV(T:jH c){l:List α}{x:α}(h:Ris c l)(hx:x∈l):xS c l x=l :=
 bL T (vA T h) h λz=>by rw[qN T];exact⟨λh=>h.elim (λe=>by rw[e];exact hx) id,.inr⟩
theorem fT(T:jH c){l:List α}(h:Ris c l):yB c l=l:=bL T (xJ T l) h λ_=>qE T
theorem m8(T:jH c){l m:List α}(h:∀z,z∈l↔z∈m):yB c l=yB c m:=bL T (xJ T l) (xJ T m) λz=>by rw[qE T,qE T,h]
theorem vE:∀(l:List α) (x:α) (k:Nat),k<=l.length->(∀j (hj:j<l.length),j<k->c l[j] x<0)->(∀hk:k<l.length,0<c l[k] x)->xS c l x=l.take k++x :: l.drop k
 | [],x,k,hk,_,_=>by
  have:k=0:=by simpa using hk
  subst this;rfl
 | y :: l,x,0,_,_,h2=>by
  have h:=h2 sI;simp only[List.getElem_cons_zero]at h;unfold xS;rw[if_neg oM,if_neg oM];rfl
 | y :: l,x,k+1,hk,h1,h2=>by
  have h:=h1 0 sI oM;simp only[List.getElem_cons_zero]at h;unfold xS;rw[if_pos h,vE l x k (by simpa using hk) (λj hj f=>by have:=h1 (j+1) (by simpa using hj) oM;simpa using this) (λd=>by have:=h2 (by simpa using d);simpa using this)];rfl
theorem Q2{l:List α}(h:Ris c l){i j:Nat}(d:i<j)(hj:j<l.length):c (l[i]'oM) l[j]<0:=List.pairwise_iff_getElem.1 h i j oM hj d
theorem tE(T:jH c){l m:List α}(h:Ris c l)(hp:m.Perm l):m.mergeSort (λx y=>!decide (c y x<0))=l:=by
 have f:∀a b:α,((!decide (c b a<0)) || !decide (c a b<0))=true:=λa b=>by
  by_cases h1:c b a<0
  ·have:=T.asym h1;simp[this]
  ·simp[h1]
 have g:∀a b d:α,(!decide (c b a<0))=true->(!decide (c d b<0))=true->(!decide (c d a<0))=true:=λa b d h1 h2=>by
  simp only[Bool.not_eq_true',decide_eq_false_iff_not]at h1 h2 |-;intro h3;exact h2 (T.le_trans (a:=d) (b:=a) (d:=b) (T.asym h3) (by
   by_cases e:a=b
   ·subst e;exact absurd h3 h2
   ·exact T.flip h1 (λe'=>e e'.symm)))
 refine List.Perm.eq_of_pairwise (le:=λx y=>(!decide (c y x<0))=true) ?_ (List.pairwise_mergeSort g f m) ?_ ((List.mergeSort_perm _ _).trans hp)
 ·intro a b _ _ h1 h2;simp only[Bool.not_eq_true',decide_eq_false_iff_not]at h1 h2;exact Classical.byContradiction λe=>h1 (T.flip h2 e)
 ·exact List.Pairwise.imp (λh=>by simpa using T.asym h) h
theorem XU(T:jH c):SWO (λx y=>decide (c x y<0)) where
 irrefl x:=by simpa using T.irr x
 trans x y z h1 h2:=by simp only[decide_eq_true_eq]at *;exact T.trans _ _ _ h1 h2
 ntrans x y z h1 h2:=by
  simp only[decide_eq_false_iff_not]at *;intro h3;exact h2 (T.le_trans (a:=y) (b:=x) (d:=z) h1 h3)
end
end
structure yH where
 tag:zE
 val:ByteArray
def zH(x:yH):Array Value:=idC x.tag ++ #[.string x.val]
@[simp] theorem kV(x:yH):(zH x).size=33:=by simp[zH]
@[go_sem] theorem mS(x:yH):(zH x).extract 0 32=idC x.tag:=by
 have h:zH x=((#[]:Array Value))++idC x.tag++(#[.string x.val]):=by first | (simp[zH,Array.append_assoc];done) | (apply Array.ext';simp[zH];done)
 rw[h];exact bP _ _ _ _ _ sI sI
@[go_sem] theorem dR(x:yH):(zH x)[32]?=some (.string x.val):=by first | (simp[zH,Array.getElem?_append];done) | (rw[show zH x=(idC x.tag) ++ #[.string x.val]++((#[]:Array Value))from by apply Array.ext';simp[zH]];exact qO _ _ _ _ sI)
@[go_sem] theorem bRowC_gg32(x:yH)(h:32<(zH x).size):(zH x)[32]'h=.string x.val:=Option.some.inj ((Array.getElem?_eq_getElem h).symm.trans (dR x))
@[go_sem] theorem bRowC_pop(x:yH):(zH x).pop=idC x.tag:=by apply Array.ext';simp[zH]
@[go_sem] theorem bRowC_all(x:yH):(zH x).extract 0 33=zH x:=by have:=Array.extract_size (xs:=zH x);rwa [kV]at this
theorem vr{x y:yH}(h:zH x=zH y):x=y:=by
 have h0:=congrArg (λa=>a.extract 0 32) h;simp only[mS]at h0;have h0:=QI h0;have h1:=congrArg (λa=>a[32]?) h;simp only[dR,Option.some.injEq,Value.string.injEq]at h1;cases x;cases y;simp_all
theorem j5(x:yH):∀u∈(zH x).toList,u.oneCell'=true:=by
 intro u hu;simp only[zH,Array.toList_append,List.mem_append]at hu;rcases hu with hu | hu
 ·exact xG _ u hu
 ·simp at hu;subst hu;rfl
def fM:yH:=⟨id0,⟨#[]⟩⟩
theorem KE{x y:yH}(h:x.tag=y.tag/\x.val=y.val):x=y:=by cases x;cases y;simp_all
instance:DecidableEq yH:=λx y=>if h:x.tag=y.tag/\x.val=y.val then isTrue (KE h)else isFalse (λe=>h (by subst e;simp))
theorem aK:(Tryz.prog.info? 171).map (·.size)=some 33:=kR
@[go_sem ↓] theorem XM(w:World):(zeroValue 171).run Tryz.prog w=.ok (.agg (zH fM)) w:=by
 have h:(Tryz.prog.info? 171).bind (·.zero)=some (.agg (zH fM)):=kR;cases hi:Tryz.prog.info? 171 with
 | none=>rw[hi]at h;cases h
 | some i =>
  rw[hi]at h;have hz:i.zero=some (.agg (zH fM)):=h;simp[zeroValue,typeInfo,hi,hz]
@[go_sem ↓] theorem loadBRow_rw(a:Addr):loadVar 171 a=ldS 171 a:=rfl
@[go_sem ↓] theorem storeBRow_rw(a:Addr)(v:Value):storeVar 171 a v=stS 171 a v:=rfl
@[go_sem] theorem loadBRow_run(w:World)(g o:Nat):(ldS 171 ⟨g,o,none⟩).run Tryz.prog w=match z7 w g o 33 with | some cs=>.ok (.agg cs) w | none=>(loadVar 171 ⟨g,o,none⟩).run Tryz.prog w :=
 vZ Tryz.underlying171 rfl aK w g o
@[go_sem] theorem storeBRow_run(w:World)(g:Nat)(hg:g=w.heap.size)(z:Array Value)(hz:z.size=33)(x:yH)(e:TypeId):(stS 171 ⟨g,0,none⟩ (.agg (zH x))).run Tryz.prog (w.alloc (.cells z e))=.ok () (w.alloc (.cells (zH x) e)) :=
 hg ▸ qY aK w z (zH x) hz (kV x) (j5 x)
theorem BS:Tryz.prog.underlying 171=some (.struct (Tryz.prog.fieldsOf 171)):=kR
theorem BB(w:World):((Tryz.prog.fieldsOf 171).mapM fun (f:Field)=>do pure (f.offset,<-sizeOf f.type)).run Tryz.prog w=.ok #[(0,32),(32,1)] w:=kR
@[go_sem ↓] theorem buildBRow_rw(parts:Array (Nat×Value)):Instr.build 171 parts=bdS 171 parts:=rfl
@[go_sem] theorem buildBRow(a0:zE)(a1:ByteArray)(w:World):(bdS 171 #[(0,.agg (idC a0)),(1,.string a1)]).run Tryz.prog w=.ok (.agg (zH ⟨a0,a1⟩)) w:=by
 refine qP w BS _ (XM w) _ (BB w) [(0,.agg (idC a0)),(1,.string a1)] _ ?_;rw[show zH fM=(#[]:Array Value)++idC id0++(#[.string ⟨#[]⟩])from by first | (simp[zH,fM,Array.append_assoc];done) | (apply Array.ext';simp[zH,fM])];rw[yJ (off:=0) (size:=32) rfl sI sI (by simp[Value.cells])];rw[show(#[]:Array Value)++(Value.agg (idC a0)).cells++(#[.string ⟨#[]⟩])=(idC a0) ++ #[.string ⟨#[]⟩]++(#[]:Array Value)from by first | (simp[Value.cells,Array.append_assoc];done) | (apply Array.ext';simp[Value.cells];done) | (apply Array.ext';simp only[Array.toList_append];simp[Value.cells])];rw[yJ (off:=32) (size:=1) rfl sI sI (by simp[Value.cells])];first | (simp[Instr.fill,zH,Array.append_assoc,Value.cells];done) | (simp only[Instr.fill,zH];congr 1;apply Array.ext';simp[Value.cells];done) | (simp only[Instr.fill,zH];congr 1;done) | (simp only[Instr.fill,zH];done)
def yG(x y:yH):Int:=orL [zI x.tag y.tag,xY x.val y.val]
theorem orL2(a b:Int):orL [a,b]=orC a b:=by
 unfold orC orL orL orL;split
 ·split <;> simp_all
 ·rfl
theorem jI:jH yG:=(q6.pair sA).of (λx:yH=>(x.tag,x.val)) (λx y h=>by
 cases x;cases y
 simp only[Prod.mk.injEq]at h;obtain⟨h1,h2⟩:=h;subst h1;subst h2;rfl) (λx y=>orL2 _ _)
theorem sU(x y:zE)(w:World):Calls Tryz.prog 108 #[.agg (idC x),.agg (idC y)] w λe w'=>e=.returned (.int .i64 (zI x y))/\Gr w w':=by
 have hB:Gr w ((w.alloc (.cells (idC x) 39)).alloc (.cells (idC y) 39)):=((Gr.refl _).alloc _).alloc _;have hx:z7 ((w.alloc (.cells (idC x) 39)).alloc (.cells (idC y) 39)) w.heap.size 0 32=some (idC x):=by simp[go_sem]
 have hy:z7 ((w.alloc (.cells (idC x) 39)).alloc (.cells (idC y) 39)) (w.heap.size+1) 0 32=some (idC y):=by simp[go_sem]
 have hx:=dH (rQ hx);have hy:=dH (rQ hy);go_enter Tryz.func108,Tryz.ntmps108
 go_wp2_with fail
 ·go_ret;have h:(x==y)=true:=by assumption
  have:x=y:=by simpa using h
  subst this;exact⟨yA (pY x).symm,hB⟩
 ·go_quiet ((go_at_call 188;exact tS (s5 _ _ _ _ _ _ x.l y.l _ x.h y.h hx.out hy.out)))
  (go_wp2_with fail);go_ret;exact⟨rfl,hB.drewN _⟩
theorem YO(w:World)(a b:Int):∀j,j < [a,b].length->(w.alloc (.cells #[.int .i64 a,.int .i64 b] 3)).cell? ⟨w.heap.size,j,none⟩=some (.int .i64 ([a,b].getD j 0)):=by
 intro j hj;have:j=0\/j=1:=by simp at hj;omega
 rcases this with rfl | rfl <;> simp
theorem rorder(x y:yH)(w:World):Calls Tryz.prog 275 #[.agg (zH x),.agg (zH y)] w λe w'=>e=.returned (.int .i64 (yG x y))/\Gr w w':=by
 go_enter Tryz.func275,Tryz.ntmps275
 go_upto_region 1 with fail
 obtain⟨W,hW⟩:=eR ((w.alloc (.cells (zH x) 171)).alloc (.cells (zH y) 171))
 have hB:Gr w W:=by rw[hW];exact((Gr.refl _).alloc _).alloc _
 have a3:z7 W w.heap.size 0 32=some (idC x.tag):=by rw[hW];simp[go_sem]
 have a4:z7 W (w.heap.size+1) 0 32=some (idC y.tag):=by rw[hW];simp[go_sem]
 have a5:W.cell? ⟨w.heap.size,32,none⟩=some (.string x.val):=by rw[hW];simp[go_sem]
 have a6:W.cell? ⟨w.heap.size+1,32,none⟩=some (.string y.val):=by rw[hW];simp[go_sem]
 rw[<-hW];clear hW;refine bE (Gr W) false kR kR kR (Gr.drew W) ?_;have d:=QK W;have hS:=Gr.drew W;have b3:=rR a3;have b4:=rR a4;have b5:=kG a5;have b6:=kG a6;refine lZ ?_;refine lH ?_;intro K hK;refine(sU _ _ _).mono ?_;rintro e w' ⟨rfl,hb⟩;replace hS:=Gr.trans hS hb;refine⟨_,rfl,hS,hK _ _ ?_⟩;clear hK K hb;refine lZ ?_;refine lH ?_;intro K hK;refine(nF _ _ _).mono ?_;rintro e w' ⟨rfl,rfl⟩;refine⟨_,rfl,hS,hK _ _ ?_⟩;clear hK K;refine lH ?_;intro K hK;refine zG (Gr.alloc hS _) (λhS=>?_);refine hK _ _ ?_;clear hK K;refine lH ?_;intro K hK;refine(QA _ _ [zI x.tag y.tag,xY x.val y.val] sI _ (YO _ _ _)).mono ?_;rintro e w' ⟨rfl,rfl⟩;refine⟨_,rfl,hS,hK _ _ ?_⟩;clear hK K;refine lZ ?_;refine zC ?_;intro hS;(go_wp2_with fail);go_ret;exact⟨rfl,hB.trans hS⟩
theorem VY:Tryz.prog.cellsOf 171=33:=kR
theorem rowRow:171<Tryz.prog.types.size:=of_decide_eq_true kR
theorem VX:Tryz.prog.cellsOf 9=1:=kR
theorem V8(d:Nat){x:yH}(h:x.val.size<=maxLen):∃l,Tryz.prog.keyLits (d+3) 171 (zH x).toList=some l:=by
 obtain⟨l1,h1⟩:=pW d x.tag;obtain⟨l2,h2⟩:=mI (d+1) h;have e1:((zH x).toList.drop 0).take 32=(idC x.tag).toList:=by simp[zH]
 have e2:((zH x).toList.drop 32).take 1 = [.string x.val]:=by simp[zH]
 refine Option.isSome_iff_exists.1 ?_;unfold Program.keyLits;simp only[Tryz.underlying171];rw[if_pos ⟨by rw[VY];simp,kR⟩];simp only[List.mapM_cons,List.mapM_nil,eQ,VX,e1,e2,h1,h2];rfl
def rD(x:yH):Value:=.agg (zH x)
theorem Q0:gA Tryz.prog 171 rD (λx=>x.val.size<=maxLen) where
 law:=deep_law_laid Tryz.laidOut (m:=3) oM rowRow kR (by rw[Tryz.underlying171])
 key:=λx hx=>by
  obtain⟨d,hd⟩:∃d,Tryz.prog.types.size+1=d+3:=⟨Tryz.prog.types.size-2,oH size3⟩
  obtain⟨l,hl⟩:=V8 d hx;refine⟨.string (keyBytes l),?_⟩;unfold keyOf;simp only[Tryz.underlying171];have f:Tryz.prog.keyType 171=true:=kR;have hf:(rD x).formed Tryz.prog 171=true:=by simp[rD,Value.formed,Tryz.underlying171,VY]
  rw[f,hf,hd];simp only[Bool.and_self,if_true];have:(rD x).cells.toList=(zH x).toList:=rfl;rw[this,hl];rfl
 inj:=λa b h=>by unfold rD at h;injection h with h;exact vr h
def kO(c:Int):Bool:=(decide (97<=c)&&decide (c<=122))||(decide (48<=c)&&decide (c<=57))||decide (c=45)
theorem xp{c:Int}{b:Bool}(h:b=kO c):Ending.returned (.bool b)=.returned (.bool (kO c)):=by rw[h]
theorem YA(c:Int)(w:World) :
  Calls Tryz.prog 180 #[.int .i32 c] w λe w'=>e=.returned (.bool (kO c))/\w=w':=by
 go_enter Tryz.func180,Tryz.ntmps180
 go_wp2
 all_goals
  go_ret;exact⟨xp (by simp[kO]at *;omega),rfl⟩
def bM(k:Int):Int:=if k=1 then 99 else if k=2 then 115 else if k=3 then 108 else if k=4 then 109 else if k=5 then 114 else 0
theorem a9(k:Int)(w:World) :
  Calls Tryz.prog 102 #[.int .i64 k] w λe w'=>e=.returned (.int .u8 (bM k))/\w=w':=by
 go_enter Tryz.func102,Tryz.ntmps102
 go_wp2
 all_goals
  go_ret;exact⟨yA (by simp[bM]at *;omega),rfl⟩
def tM(s:ByteArray)(i:Nat):Bool:=(List.range (s.size-i)).all λj=>kO (bt s (i+j))
theorem mY(s:ByteArray)(i:Nat):tM s i=true↔∀j,i<=j->j<s.size->kO (bt s j)=true:=by
 simp only[tM,List.all_eq_true,List.mem_range];constructor
 ·intro h j h1 h2;have:=h (j-i) oM
  rwa [(oM:i+(j-i)=j)]at this
 ·intro h j hj;exact h _ oM oM
theorem Y8(s:ByteArray)(i:Nat)(h:s.size<=i):tM s i=true:=(mY s i).2 λj h1 h2=>by omega
theorem J0(s:ByteArray)(i:Nat)(h:i<s.size)(h1:kO (bt s i)=false):tM s i=false:=by
 cases e:tM s i with
 | false=>rfl
 | true=>rw[(mY s i).1 e i lR h]at h1;cases h1
theorem Y7(s:ByteArray)(i:Nat)(h1:kO (bt s i)=true):tM s (i+1)=tM s i:=by
 rw[Bool.eq_iff_iff,mY,mY];constructor
 ·intro h j a b;by_cases e:j=i
  ·subst e;exact h1
  ·exact h j oM b
 ·intro h j a b;exact h j oM b
def vR(s:ByteArray):Bool:=decide (2<=s.size)&&decide (s.size<=12)&&(bt s (s.size-1) != 45)&&tM s 1
theorem cD{c:Int}(h:128<=c):kO c=false:=by unfold kO;simp;omega
theorem rS(s:ByteArray)(i:Nat)(h:i<(s.extract 1 s.size).size):(((s.extract 1 s.size)[i]'h).toNat:Int)=bt s (i+1):=by
 have hs:i+1<s.size:=by simp at h;omega
 rw[<-mR hs];congr 2
 rw[ByteArray.getElem_extract];congr 1;omega
theorem QO(s:ByteArray)(i:Nat)(h:i<(s.extract 1 s.size).size)(hh:kO (bt s (i+1))=true) :
  Utf8.decode (s.extract 1 s.size) i=((bt s (i+1)).toNat,1):=by
 have e:=rS s i h;have d:(((s.extract 1 s.size)[i]'h).toNat)<128:=by
  rcases Nat.lt_or_ge ((s.extract 1 s.size)[i]'h).toNat 128 with g | g
  ·exact g
  ·rw[cD oM]at hh;cases hh
 rw[decode_ascii _ i h d,<-e];simp
theorem eK(s:ByteArray)(i:Nat)(h:i<(s.extract 1 s.size).size)(hh:kO (bt s (i+1))=false) :
  kO ((Utf8.decode (s.extract 1 s.size) i).1:Int)=false:=by
 have e:=rS s i h;rcases Nat.lt_or_ge ((s.extract 1 s.size)[i]'h).toNat 128 with g | g
 ·rw[decode_ascii _ i h g];rw[<-e]at hh;exact hh
 ·have:=(decode_high _ i h g).1;exact cD oM
theorem pA(s:ByteArray)(h:¬(2<=s.size/\s.size<=12)):vR s=false:=by
 unfold vR;by_cases h1:2<=s.size <;> by_cases h2:s.size<=12 <;> simp[h1,h2];omega
theorem rU(s:ByteArray)(h:bt s (s.size-1)=45):vR s=false:=by
 unfold vR;simp[h]
theorem rT(s:ByteArray)(h1:2<=s.size)(h2:s.size<=12)(h:bt s (s.size-1)≠45):vR s=tM s 1:=by
 unfold vR;simp[h1,h2,h]
theorem VJ(s:ByteArray)(w:World)(h:2<=s.size)(h1:s.size<=12)(h2:bt s (s.size-1)≠45) :
  Calls Tryz.prog 101 #[.string s] w λe w'=>e=.returned (.bool (vR s))/\Below w.heap.size w w':=by
 have h3:(((s[s.size-1]'oM).toNat:Int)==45)=false:=by
  rw[beq_eq_false_iff_ne];intro g;rw[mR oM]at g;exact h2 g
 have d:=rT s h h1 h2;have H2:=dH d;clear h2 d;have hI:∀(p:Nat),Below w.heap.size w (w.iter (s.extract 1 s.size) p):=λp=>bA;have HI:=dH hI;clear hI;go_enter Tryz.func101,Tryz.ntmps101
 (go_wp2_with fail);go_loopw [] (λwr=>∃i:Nat,i+1<=s.size/\wr=w.iter (s.extract 1 s.size) i/\Hid (tM s (i+1)=tM s 1)) (λwr=>s.size-wr.iterPos w.heap.size)
 case atStart=>exact⟨0,oM,rfl,rfl⟩
 case round =>
  obtain⟨i,hi,rfl,hc⟩:=hrel;have j:(s.extract 1 s.size).size=s.size-1:=sI;by_cases hp:i<(s.extract 1 s.size).size
  ·have f:∀ty,(Instr.next (.pointer (some ⟨w.heap.size,0,none⟩)) true ty).run Tryz.prog (w.iter (s.extract 1 s.size) i)=_:=λty=>run_next_any w (s.extract 1 s.size) i ty hp;cases hb:kO (bt s (i+1))with
   | true =>
    rw[QO s i hp hb]at f;have e1:(((bt s (i+1)).toNat:Nat):Int)=bt s (i+1):=oH (vp s (i+1));simp only[e1]at f;have Hb:=dH hb;go_wp2_with (go_at_call 180;refine(YA _ _).mono ?_;rintro e w' ⟨rfl,rfl⟩)
    go_roundw
    case rel=>exact⟨i+1,oM,rfl,(Y7 s _ Hb.out).trans hc.out⟩
    case measure=>simp;omega
   | false =>
    have hd:=eK s i hp hb;go_wp2_with (go_at_call 180;refine(YA _ _).mono ?_;rintro e w' ⟨rfl,rfl⟩)
    go_ret;exact⟨yF (by rw[H2.out,<-hc.out,J0 s _ oM hb]),HI.out _⟩
  ·have f:∀ty,(Instr.next (.pointer (some ⟨w.heap.size,0,none⟩)) true ty).run Tryz.prog (w.iter (s.extract 1 s.size) i)=_:=λty=>run_next_end w (s.extract 1 s.size) i ty hp;(go_wp2_with fail);go_ret;exact⟨yF (by rw[H2.out,<-hc.out,Y8 s _ oM]),HI.out _⟩
theorem QL(s:ByteArray)(w:World)(hs:s.size<=9223372036854775807)(h:¬(2<=s.size/\s.size<=12)) :
  Calls Tryz.prog 101 #[.string s] w λe w'=>e=.returned (.bool (vR s))/\Below w.heap.size w w':=by
 have H2:=dH (pA s h);by_cases h1:2<=s.size
 ·have h4:12<s.size:=oM;clear h;go_enter Tryz.func101,Tryz.ntmps101
  go_wp2_with fail
  all_goals
   go_ret;exact⟨yF H2.out.symm,Below.refl _ _⟩
 ·clear h;go_enter Tryz.func101,Tryz.ntmps101
  go_wp2_with fail
  all_goals
   go_ret;exact⟨yF H2.out.symm,Below.refl _ _⟩
theorem VK(s:ByteArray)(w:World)(h:2<=s.size)(h1:s.size<=12)(h2:bt s (s.size-1)=45) :
  Calls Tryz.prog 101 #[.string s] w λe w'=>e=.returned (.bool (vR s))/\Below w.heap.size w w':=by
 have h3:(((s[s.size-1]'oM).toNat:Int)==45)=true:=by
  rw[beq_iff_eq];rw[mR oM];exact h2
 have H2:=dH (rU s h2);clear h2;go_enter Tryz.func101,Tryz.ntmps101
 (go_wp2_with fail);go_ret;exact⟨yF H2.out.symm,Below.refl _ _⟩
theorem aN(s:ByteArray)(w:World)(hs:s.size<=9223372036854775807) :
  Calls Tryz.prog 101 #[.string s] w λe w'=>e=.returned (.bool (vR s))/\Below w.heap.size w w':=by
 by_cases h:2<=s.size/\s.size<=12
 ·by_cases h2:bt s (s.size-1)=45
  ·exact VK s w h.1 h.2 h2
  ·exact VJ s w h.1 h.2 h2
 ·exact QL s w hs h
def cV(c:Int):Int:=if c=99 then 1 else if c=115 then 2 else if c=108 then 3 else if c=109 then 4 else if c=114 then 5 else 0
def yC(s:ByteArray):Int:=if vR s=true then cV (bt s 0)else 0
theorem QM{s:ByteArray}(h:vR s=true):2<=s.size/\s.size<=12:=by
 unfold vR at h;simp at h;omega
theorem YW{c k:Int}(h1:1<=k)(h2:k<6)(h:bM k=c):cV c=k:=by
 subst h;have:k=1\/k=2\/k=3\/k=4\/k=5:=oM;rcases this with rfl | rfl | rfl | rfl | rfl <;> decide
theorem aB{c:Int}(h:∀j:Int,1<=j->j<6->bM j≠c):cV c=0:=by
 have a:=h 1 oM oM;have b:=h 2 oM oM;have d:=h 3 oM oM;have e:=h 4 oM oM;have f:=h 5 oM oM;simp[bM]at a b d e f;unfold cV;rw[if_neg oM,if_neg oM,if_neg oM,if_neg oM,if_neg oM]
theorem kind_no(s:ByteArray)(w:World)(hs:s.size<=9223372036854775807)(h:vR s=false) :
  Calls Tryz.prog 43 #[.string s] w λe w'=>e=.returned (.int .i64 (yC s))/\Below w.heap.size w w':=by
 have H:Hid (yC s=0):=by show yC s=0;unfold yC;rw[h];rfl
 go_enter Tryz.func43,Tryz.ntmps43
 (go_wp2_with fail);refine(aN _ _ hs).mono ?_;rintro e w1 ⟨rfl,hb⟩;(go_wp2_with fail);go_ret;exact⟨yA H.out.symm,hb⟩
theorem kind_yes(s:ByteArray)(w:World)(hs:s.size<=9223372036854775807)(h:vR s=true) :
  Calls Tryz.prog 43 #[.string s] w λe w'=>e=.returned (.int .i64 (yC s))/\Below w.heap.size w w':=by
 have H:Hid (yC s=cV (bt s 0)):=by show yC s=cV (bt s 0);unfold yC;rw[h];rfl
 have m:=QM h;have h0:(0:Int)<s.size:=oM;have hg:((s[0]'oM).toNat:Int)=bt s 0:=mR oM;go_enter Tryz.func43,Tryz.ntmps43
 (go_wp2_with fail);refine(aN _ _ hs).mono ?_;rintro e w1 ⟨rfl,hb⟩;(go_wp2_with fail);go_loopw [3] (λkv wr=>∃k:Int,1<=k/\k<=6/\kv=.int .i64 k/\Below w.heap.size w wr/\Hid (∀j:Int,1<=j->j<k->bM j≠bt s 0)) (λkv _=>(6-intOf kv).toNat)
 case atStart=>exact⟨1,oM,oM,rfl,hb,λj h1 h2=>oM⟩
 case round =>
  obtain⟨k,g,r,rfl,d,hj⟩:=hrel;by_cases hk:k<6
  ·by_cases hl:bM k=bt s 0
   ·have f:(bM k==bt s 0)=true:=by rw[beq_iff_eq];exact hl
    have Hl:=dH hl;clear hl;go_wp2_with fail
    go_quiet ((go_at_call 102;exact tS (a9 _ _)))
    (go_wp2_with fail);go_ret;exact⟨yA (by rw[H.out,YW g hk Hl.out]),d5 d _⟩
   ·have f:(bM k==bt s 0)=false:=by rw[beq_eq_false_iff_ne];exact hl
    have Hl:=dH hl;clear hl;go_wp2_with fail
    go_quiet ((go_at_call 102;exact tS (a9 _ _)))
    (go_wp2_with fail);go_roundw
    case rel =>
     refine⟨k+1,oM,oM,rfl,d5 d _,λj h1 h2=>?_⟩;by_cases e:j=k
     ·subst e;exact Hl.out
     ·exact hj.out j h1 oM
    case measure=>exact sZ
  ·(go_wp2_with fail);go_ret;exact⟨yA (by rw[H.out,aB (λj h1 h2=>hj.out j h1 oM)]),d⟩
theorem bI(s:ByteArray)(w:World)(hs:s.size<=9223372036854775807) :
  Calls Tryz.prog 43 #[.string s] w λe w'=>e=.returned (.int .i64 (yC s))/\Below w.heap.size w w':=by
 cases h:vR s with
 | true=>exact kind_yes s w hs h
 | false=>exact kind_no s w hs h
def fL(s:ByteArray):Int:=if yC s=0 then 9 else 0
theorem XG(s:ByteArray)(w:World)(hs:s.size<=9223372036854775807) :
  Calls Tryz.prog 42 #[.string s] w λe w'=>e=.returned (.int .i64 (fL s))/\Below w.heap.size w w':=by
 by_cases h:yC s=0
 ·have h':(yC s==0)=true:=by rw[beq_iff_eq];exact h
  have H:Hid (fL s=9):=by show fL s=9;unfold fL;rw[if_pos h]
  clear h;go_enter Tryz.func42,Tryz.ntmps42
  (go_wp2_with fail);refine(bI _ _ hs).mono ?_;rintro e w1 ⟨rfl,hb⟩;(go_wp2_with fail);go_ret;exact⟨yA H.out.symm,hb⟩
 ·have h':(yC s==0)=false:=by rw[beq_eq_false_iff_ne];exact h
  have H:Hid (fL s=0):=by show fL s=0;unfold fL;rw[if_neg h]
  clear h;go_enter Tryz.func42,Tryz.ntmps42
  (go_wp2_with fail);refine(bI _ _ hs).mono ?_;rintro e w1 ⟨rfl,hb⟩;(go_wp2_with fail);go_ret;exact⟨yA H.out.symm,hb⟩
section
open Go.RowKit
def SlR(w:World)(A:Option Addr)(n k:Nat)(L:List (Array Value)):Prop :=
 L.length=n/\(0<n->∃g o,A=some ⟨g,o,none⟩/\∀i (h:i<L.length),z7 w g (o+i*k) k=some L[i])
def blk(A:Option Addr):List Nat:=(A.map (·.block)).toList
structure Own(w:World)(B:Nat)(E:TypeId)(k:Nat)(A:Option Addr)(n cap:Nat)(L:List (Array Value)):Prop where
 row:w.ownsRow B E k (.slice A n cap) n (L.flatMap Array.toList)
 len:L.length=n
 size:∀c∈L,c.size=k
section
variable {w w':World} {A:Option Addr} {n k B cap:Nat} {E:TypeId} {L:List (Array Value)}
theorem SlR.at_(h:SlR w A n k L){i:Nat}(hi:i<n):∃g o,A=some ⟨g,o,none⟩/\z7 w g (o+i*k) k=some (L[i]'(by rw[h.1];exact hi)):=by
 obtain⟨g,o,e,hc⟩:=h.2 oM;exact⟨g,o,e,hc i (by rw[h.1];exact hi)⟩
theorem SlR.old(h:SlR w A n k L){g o:Nat}(e:A=some ⟨g,o,none⟩)(hn:0<n):g<w.heap.size:=by
 obtain⟨g',o',e',hr⟩:=h.at_ hn;rw[e]at e';injection e' with e';injection e' with e1 e2
 subst e1;exact zD hr
theorem SlR.nil_:SlR w none 0 k []:=⟨rfl,λh=>absurd h oM⟩
theorem SlR.kept{S:List Nat}(h:SlR w A n k L)(hk:z6 S w w')(hn:∀x∈blk A,x∉S):SlR w' A n k L :=
 ⟨h.1,λh0=>by
  obtain⟨g,o,e,hc⟩:=h.2 h0;refine⟨g,o,e,λi hi=>?_⟩;rw[hk.row (zD (hc i hi)) (hn g (by simp[blk,e])) _ _];exact hc i hi⟩
theorem SlR.below(h:SlR w A n k L)(hb:Below w.heap.size w w'):SlR w' A n k L:=h.kept (z6.of_below hb) sI
theorem tX:∀(L:List (Array Value)) (k:Nat),(∀c∈L,c.size=k)->∀(i j:Nat) (hi:i<L.length),j<k->(L.flatMap Array.toList)[i*k+j]?=(L[i])[j]?
 | c :: L,k,hs,0,j,_,hj=>by
  have hc:=hs c sI;simp only[List.flatMap_cons,Nat.zero_mul,Nat.zero_add,List.getElem_cons_zero];rw[List.getElem?_append_left sO]
  simp
 | c :: L,k,hs,i+1,j,hi,hj=>by
  have hc:=hs c sI;have hl:c.toList.length=k:=by simp[hc]
  simp only[List.flatMap_cons,List.getElem_cons_succ];rw[List.getElem?_append_right (by rw[hl,Nat.add_mul];omega),hl];have e:(i+1)*k+j-k=i*k+j:=by rw[Nat.add_mul];omega
  rw[e];exact tX L k (λc h=>hs c (by simp[h])) i j (by simpa using hi) hj
theorem kQ:∀(L:List (Array Value)) (k:Nat),(∀c∈L,c.size=k)->(L.flatMap Array.toList).length=L.length*k
 | [],_,_=>by simp
 | c :: L,k,hs=>by
  have hc:=hs c sI;simp only[List.flatMap_cons,List.length_append,List.length_cons];rw[kQ L k (λc h=>hs c (by simp[h])),Nat.add_mul];simp[hc];omega
theorem Own.nil(w:World)(B:Nat)(E:TypeId)(k:Nat):Own w B E k none 0 0 []:=⟨World.ownsRow_nil w B E k,rfl,sI⟩
theorem Own.kept{S:List Nat}(h:Own w B E k A n cap L)(hk:z6 S w w')(hn:∀x∈blk A,x∉S):Own w' B E k A n cap L:=by
 obtain⟨⟨h1,h2⟩,hl,hs⟩:=h;refine⟨⟨h1,?_⟩,hl,hs⟩;rcases h2 with h2 | ⟨g,c,j,hv,hb,hg,d⟩
 ·exact .inl h2
 ·refine .inr ⟨g,c,j,hv,hb,?_,d⟩;have hA:A=some ⟨g,0,none⟩:=by injection hv
  have f:g<w.heap.size:=(aG hg).1;rw[hk.block g f (hn g (by simp[blk,hA]))];exact hg
theorem Own.below(h:Own w B E k A n cap L)(hb:Below w.heap.size w w'):Own w' B E k A n cap L:=h.kept (z6.of_below hb) sI
theorem Own.mono(h:Own w B E k A n cap L){B':Nat}(hB:B'<=B):Own w B' E k A n cap L:=by
 obtain⟨⟨h1,h2⟩,hl,hs⟩:=h;refine⟨⟨h1,?_⟩,hl,hs⟩;rcases h2 with h2 | ⟨g,c,f,hv,hb,d⟩
 ·exact .inl h2
 ·exact .inr ⟨g,c,f,hv,oM,d⟩
theorem Own.at_base(h:Own w B E k A n cap L){x:Nat}(hx:x∈blk A):B<=x/\x<w.heap.size:=by
 obtain⟨⟨h1,h2⟩,hl,hs⟩:=h;rcases h2 with⟨h2,_⟩ | ⟨g,c,cur,hv,hb,hg,rest⟩
 ·have hA:A=none:=by injection h2
  subst hA;simp[blk]at hx
 ·have hA:A=some ⟨g,0,none⟩:=by injection hv
  subst hA;have:x=g:=by simpa[blk]using hx
  subst this;exact⟨hb,(aG hg).1⟩
theorem Own.addr(h:Own w B E k A n cap L):A=none\/∃g,A=some ⟨g,0,none⟩:=by
 obtain⟨⟨h1,h2⟩,hl,hs⟩:=h;rcases h2 with⟨h2,_⟩ | ⟨g,c,cur,hv,_⟩
 ·left;injection h2
 ·right;exact⟨g,by injection hv⟩
theorem Own.slr(h:Own w B E k A n cap L):SlR w A n k L:=by
 have d:=kQ L k h.size;obtain⟨⟨h1,h2⟩,hl,hs⟩:=h;refine⟨hl,λh0=>?_⟩;rcases h2 with⟨_,h2⟩ | ⟨g,c,cur,hv,hb,hg,hnc,hcm,hcs,htake⟩
 ·omega
 ·have hA:A=some ⟨g,0,none⟩:=by injection hv
  refine⟨g,0,hA,λi hi=>?_⟩;have r:i*k+k<=n*k:=by
   have:(i+1)*k<=n*k:=Nat.mul_le_mul_right k oM;rw[Nat.add_mul]at this;omega
  have f:n*k<=cur.size:=by rw[hcs];exact Nat.mul_le_mul_right k hnc
  unfold z7;rw[hg];simp only[Nat.zero_add];rw[if_pos oM];congr 1
  apply Array.ext';rw[Array.toList_extract];apply List.ext_getElem?;intro j;by_cases hj:j<k
  ·have e1:=tX L k hs i j hi hj;rw[<-htake,List.getElem?_take,if_pos oM]at e1;simp only[List.extract_eq_take_drop,List.getElem?_take,List.getElem?_drop];rw[if_pos oM,e1]
   simp
  ·have m:=hs L[i] (List.getElem_mem hi);rw[List.getElem?_eq_none sO,List.getElem?_eq_none sO]
end
structure xH(P:Program)(T E:TypeId)(k bytes:Nat):Prop where
 und:P.underlying T=some (.slice E)
 info:∃i z,P.info? E=some i/\i.zero=some z/\i.size=k/\i.bytes=bytes/\z.cells.size=k
 pos:0<k
theorem xH.of{P:Program}{T E:TypeId}{k bytes:Nat}{z:Value}(und:P.underlying T=some (.slice E))(hz:(P.info? E).bind (·.zero)=some z)(hs:(P.info? E).map (·.size)=some k)(hb:(P.info? E).map (·.bytes)=some bytes)(d:z.cells.size=k)(pos:0<k) :
  xH P T E k bytes:=by
 cases hi:P.info? E with
 | none=>rw[hi]at hz;cases hz
 | some i =>
  rw[hi]at hz hs hb;exact⟨und,⟨i,z,hi,hz,by simpa using hs,by simpa using hb,d⟩,pos⟩
theorem r0{P:Program}{T E:TypeId}{k bytes:Nat}(I:xH P T E k bytes){w:World}{B:Nat}{A:Option Addr}{n cap:Nat}{L:List (Array Value)}(f:Own w B E k A n cap L)
  {q o c:Nat}{cs:Array Value}(r:z7 w q o k=some cs)(D:∀u∈cs.toList,u.oneCell'=true)(m:(n+1)*bytes<=140737488355328)(hn:n+1<=9223372036854775807)(hB:B<=w.heap.size)(ty:TypeId) :
  ∃A' cap' w',(Builtin.append_ #[T,T] ty #[.slice A n cap,.slice (some ⟨q,o,none⟩) 1 c]).run P w=.ok (.slice A' (n+1) cap') w'/\Own w' B E k A' (n+1) cap' (L ++ [cs])/\z6 (blk A) w w'/\(∀x∈blk A',x∈blk A\/w.heap.size<=x):=by
 obtain⟨i,z,hi,hz,J,N,H⟩:=I.info;have G:=pE r;obtain⟨v',w',y,d,hg,_,t⟩:=run_append_own_at (P:=P) w B T ty E i z k bytes I.und hi hz J N H I.pos (.slice A n cap) n _ f.row ⟨q,o,none⟩ 1 c cs.toList (by simp[G])
  (λj u hu=>by
   have hj:j<k:=by
    have:=(List.getElem?_eq_some_iff.1 hu).1;simp at this;omega
   have F:(⟨q,o,none⟩:Addr).add j=⟨q,o+j,none⟩:=by unfold Addr.add;split <;> simp_all
   rw[F,z8 r hj];simpa using hu) D (by simp only[maxLen];omega) m hB
 have s:∃A' cap',v'=.slice A' (n+1) cap':=by
  rcases d.2 with⟨_,h0⟩ | ⟨g,c',cur,hv,_⟩
  ·omega
  ·exact⟨_,_,hv⟩
 obtain⟨A',cap',rfl⟩:=s;have hb:(Value.slice A n cap).ownBlock=(A.map (·.block)):=by cases A <;> rfl
 have O:(Value.slice A' (n+1) cap').ownBlock=(A'.map (·.block)):=by cases A' <;> rfl
 refine⟨A',cap',w',y,⟨by simpa using d,by simp[f.len],λc' M=>?_⟩,?_,?_⟩
 ·rcases List.mem_append.1 M with h | h
  ·exact f.size c' h
  ·simp at h;subst h;exact G
 ·have:=z6.grown hg
  rwa [hb]at this
 ·intro x hx;rw[hb,O]at t;rcases t with e | e
  ·left;unfold blk at hx |-;rw[e]at hx;exact hx
  ·right
   unfold blk at hx;rw[e]at hx;have:x=w.heap.size:=by simpa using hx
   omega
theorem fC{P:Program}{w:World}(ρ:Operand->Value){dst:Option Tmp}{s x:Operand}{d:Array TypeId}{ty:TypeId}{pos:String}{after:Array Edge}{guard:Option (Nat×Bool)}{v u r:Value}{w':World}(hs:ρ s=v)(hx:ρ x=u)
  (h:(Builtin.append_ d ty #[v,u]).run P w=.ok r w') :
  (execOp ρ { dst:=dst,op:=.call { callee:=.builtin .append,args:=#[s,x],argTypes:=d },type:=ty,pos:=pos,after:=after,guard:=guard }).run P w=.ok (.value r) w':=by
 rw[BigFrame.execOp_builtin,BigFrame.builtin_append];have e:(#[s,x].map ρ:Array Value) = #[v,u]:=by simp[hs,hx]
 rw[e,Sem.run_bind,h];rfl
theorem K9{P:Program}{ops:Array Oper}{Q:Exit->Act->World->Prop}{a:Act}{w:World}{d:List Oper}{dst:Option Tmp}{s x:Operand}{f:Array TypeId}{ty:TypeId}{pos:String}{after:Array Edge}{v u r:Value}{w':World}(hs:a.eval s=v)(hx:a.eval x=u)
  (hr:(Builtin.append_ f ty #[v,u]).run P w=.ok r w')(h:wpList P ops Q d (a.put dst r) w') :
  wpList P ops Q ({ dst:=dst,op:=.call { callee:=.builtin .append,args:=#[s,x],argTypes:=f },type:=ty,pos:=pos,after:=after,guard:=none } :: d) a w:=by
 refine wpList_plain rfl λK hK=>?_;unfold Oper.wp;rw[fC a.eval hs hx hr];exact hK _ _ h
theorem QV{P:Program}{ops:Array Oper}{S:World->Prop}{cv fb:Bool}{Q:Act->World->Prop}{a:Act}{w:World}{d:List Oper}{dst:Option Tmp}{s x:Operand}{f:Array TypeId}{ty:TypeId}{pos:String}{after:Array Edge}{v u r:Value}{w':World}(hs:a.eval s=v)(hx:a.eval x=u)
  (hr:(Builtin.append_ f ty #[v,u]).run P w=.ok r w')(g:S w')(h:pC P ops S cv fb Q d (a.put dst r) w') :
  pC P ops S cv fb Q ({ dst:=dst,op:=.call { callee:=.builtin .append,args:=#[s,x],argTypes:=f },type:=ty,pos:=pos,after:=after,guard:=none } :: d) a w:=by
 refine⟨?_⟩;unfold ZK;rw[if_pos (by rfl),if_pos (by rfl)];intro _;rw[fC a.eval hs hx hr];exact⟨.inl g,h.out⟩
theorem yM{P:Program}{ops:Array Oper}{Q:Exit->Act->World->Prop}{a:Act}{w:World}{f:List Oper}{dst:Option Tmp}{s x:Operand}{ty:TypeId}{pos:String}{after:Array Edge}{T E:TypeId}{k bytes:Nat}(I:xH P T E k bytes)
  {B:Nat}{A:Option Addr}{n cap:Nat}{L:List (Array Value)}(hs:a.eval s=.slice A n cap)(m:Own w B E k A n cap L)
  {q o c:Nat}{cs:Array Value}(hx:a.eval x=.slice (some ⟨q,o,none⟩) 1 c)(j:z7 w q o k=some cs)(r:∀u∈cs.toList,u.oneCell'=true)(d:(n+1)*bytes<=140737488355328)(hn:n+1<=9223372036854775807)(hB:B<=w.heap.size)
  (h:∀A' cap' w',Own w' B E k A' (n+1) cap' (L ++ [cs])->z6 (blk A) w w'->(∀x∈blk A',x∈blk A\/w.heap.size<=x)->wpList P ops Q f (a.put dst (.slice A' (n+1) cap')) w') :
  wpList P ops Q ({ dst:=dst,op:=.call { callee:=.builtin .append,args:=#[s,x],argTypes:=#[T,T] },type:=ty,pos:=pos,after:=after,guard:=none } :: f) a w:=by
 obtain⟨A',cap',w',g,h1,h2,h3⟩:=r0 I m (c:=c) j r d hn hB ty;refine wpList_plain rfl λK hK=>?_;unfold Oper.wp;rw[fC a.eval hs hx g];exact hK _ _ (h A' cap' w' h1 h2 h3)
theorem vW{P:Program}{ops:Array Oper}{S:World->Prop}{cv fb:Bool}{Q:Act->World->Prop}{a:Act}{w:World}{f:List Oper}{dst:Option Tmp}{s x:Operand}{ty:TypeId}{pos:String}{after:Array Edge}{T E:TypeId}{k bytes:Nat}(I:xH P T E k bytes)
  {B:Nat}{A:Option Addr}{n cap:Nat}{L:List (Array Value)}(hs:a.eval s=.slice A n cap)(m:Own w B E k A n cap L)
  {q o c:Nat}{cs:Array Value}(hx:a.eval x=.slice (some ⟨q,o,none⟩) 1 c)(j:z7 w q o k=some cs)(r:∀u∈cs.toList,u.oneCell'=true)(d:(n+1)*bytes<=140737488355328)(hn:n+1<=9223372036854775807)(hB:B<=w.heap.size)
  (h:∀A' cap' w',Own w' B E k A' (n+1) cap' (L ++ [cs])->z6 (blk A) w w'->(∀x∈blk A',x∈blk A\/w.heap.size<=x)->S w'/\pC P ops S cv fb Q f (a.put dst (.slice A' (n+1) cap')) w') :
  pC P ops S cv fb Q ({ dst:=dst,op:=.call { callee:=.builtin .append,args:=#[s,x],argTypes:=#[T,T] },type:=ty,pos:=pos,after:=after,guard:=none } :: f) a w:=by
 obtain⟨A',cap',w',g,h1,h2,h3⟩:=r0 I m (c:=c) j r d hn hB ty;obtain⟨k1,k2⟩:=h A' cap' w' h1 h2 h3;exact QV hs hx g k1 k2
def bsS(T:TypeId)(n:Nat)(parts:Array (Nat×Value)):Sem Value:=Instr.buildSlice T n parts
theorem bF{P:Program}{T E:TypeId}{k bytes:Nat}(I:xH P T E k bytes)(hk:k<=16777216)(w:World)(cs:Array Value)(g:cs.size=k) :
  (bsS T 1 #[(0,.agg cs)]).run P w=.ok (.slice (some ⟨w.heap.size,0,none⟩) 1 1) (w.alloc (.cells cs E)):=by
 obtain⟨i,z,hi,hz,f,s,j⟩:=I.info;have d:=I.pos;unfold bsS Instr.buildSlice;have hf:Instr.fill (λi=>some (i*k,k)) (Array.map (λx=>z.cells[x % z.cells.size]!) (Array.range (1*k))) [(0,Value.agg cs)]=some cs:=by
  have e:Array.map (λx=>z.cells[x % z.cells.size]!) (Array.range (1*k))=(#[]:Array Value)++Array.map (λx=>z.cells[x % z.cells.size]!) (Array.range (1*k)) ++ #[]:=sI;rw[e,yJ (off:=0) (size:=k) sI rfl sI (by simp[Value.cells,g])];simp[Instr.fill,Value.cells]
 have m:¬(1*k>16777216):=oM;have r:¬(1*k=0):=oM;simp only[Sem.run_bind,run_underlying I.und,Result.andThen_ok,sizeOf,typeInfo,hi,f];simp[hi,hz,zeroValue,typeInfo,f,Nat.not_lt.2 (show k<=16777216 from hk),Nat.pos_iff_ne_zero.1 d,hf,newRow];rw[Nat.one_mul]at hf;rw[hf];rfl
end
section
open Go.RowKit Go.WideShapes
section
variable {P:Program} {w:World}
def XJ(P:Program)(w:World)(T:TypeId){α:Type}(e:α->Array Value)(ok:α->Prop):Prop :=
 ∀ {H:Type} (enc:TypeId×Value->H) (base:Nat) (spare:Nat->Bool) (held:Bool) (fuel:Nat) (cs:List Value) (x:DataW H×List MemPlace),
  DataW.trod enc P w base spare held fuel T cs=some x->∃a,cs=(e a).toList/\ok a
theorem QC{T:TypeId}(u:P.underlying T=some .string):XJ P w T (λs:ByteArray=>#[.string s]) (λs=>s.size<=maxLen):=by
 intro H enc base d f g cs x h;obtain⟨s,rfl,_,hs⟩:=DataW.trod_string u h;exact⟨s,rfl,hs⟩
theorem qu{T:TypeId}{k:IntKind}(u:P.underlying T=some (.int k)):XJ P w T (λn:Int=>#[.int k n]) (λn=>(Lit.int k n).wf=true):=by
 intro H enc base d f g cs x h;obtain⟨n,rfl,_,hs⟩:=DataW.trod_int u h;exact⟨n,rfl,hs⟩
theorem mD{U:TypeId}{fs:Array Field}{α:Type}{e:α->Array Value}{ok:α->Prop}{H:Type}{enc:TypeId×Value->H}{base:Nat}{d:Nat->Bool}{j:Bool}{n:Nat}{cs:List Value}{xs:List (DataW H×List MemPlace)}
  (g:xs.length=fs.size)(m:∀(i:Nat) (f:Field),fs[i]?=some f->DataW.trod enc P w base d j n f.type ((cs.drop f.offset).take (P.cellsOf f.type))=xs[i]?)
  (o:XJ P w U e ok)(i off k:Nat)(f:Field)(hf:fs[i]?=some f)(ht:f.type=U)(ho:f.offset=off)(hk:P.cellsOf U=k):∃a,(cs.drop off).take k=(e a).toList/\ok a:=by
 have h:=m i f hf;rw[ht,ho,hk]at h;have hi:i<xs.length:=by rw[g];exact(aG hf).1
 rw[List.getElem?_eq_getElem hi]at h;exact o _ _ _ _ _ _ _ h
theorem i7{cs:List Value}{o k:Nat}:cs.drop o=(cs.drop o).take k++cs.drop (o+k):=by
 rw[<-List.drop_drop,List.take_append_drop]
theorem iE{g o k:Nat}{cs:List Value}{base:Nat}(h:w.cells? base ⟨g,o,none⟩ k=some cs)(hk:0<k):z7 w g o k=some cs.toArray:=by
 unfold World.cells? at h;split at h
 ·have j:cs.length=k:=by simpa using mapM_some_length h
  have d:∀i,i<k->w.cell? ⟨g,o+i,none⟩=cs[i]?:=by
   intro i hi;have:=mapM_some_get h i i (by simp[hi]);rw[<-this];congr 1
   unfold Addr.add;split
   ·rename_i e;subst e;rfl
   ·rfl
  have h0:=d (k-1) oM;rw[List.getElem?_eq_getElem oM]at h0;unfold z7;cases hb:w.heap[g]? with
  | none=>simp[World.cell?,hb]at h0
  | some b =>
   cases b with
   | cells c t f =>
    have h1:∀i,i<k->c[o+i]?=cs[i]?:=by
     intro i hi;have:=d i hi;simpa[World.cell?,hb]using this
    have m:o+k<=c.size:=by
     have h2:=h1 (k-1) oM;rw[List.getElem?_eq_getElem oM]at h2;have:=(aG h2).1;omega
    simp only;rw[if_pos m];congr 1
    apply Array.ext';apply List.ext_getElem?;intro i;by_cases hi:i<k
    ·have:=h1 i hi;simp only[Array.toList_extract,List.extract_eq_take_drop,List.getElem?_take,List.getElem?_drop];rw[if_pos oM];simpa using this
    ·rw[List.getElem?_eq_none sO,List.getElem?_eq_none sO]
   | _=>simp[World.cell?,hb]at h0
 ·cases h
theorem qv{H:Type}{enc:TypeId×Value->H}{base:Nat}{j:Nat->Bool}{B:Bool}{T E:TypeId}{α:Type}{e:α->Array Value}{ok:α->Prop}{k b0:Nat}{r:Reach}{v:Value}{d:DataW H}{p:List MemPlace}(u:P.underlying T=some (.slice E))(o:XJ P w E e ok)
  (hk:P.cellsOf E=k)(G:0<k)(y:Value.okWide P w r b0 T v)(h:DataW.Trod enc P w base j B T v d p) :
  ∃(A:Option Addr) (n cap:Nat) (R:List α),v=.slice A n cap/\SlR w A n k (R.map e)/\R.length=n/\(∀a∈R,ok a)/\n<=maxLen/\((n=0/\d=.nil)\/∃el sp,d=.slice el sp/\el.length=n):=by
 obtain⟨A,n,cap,rfl⟩:=okWide_slice u y;obtain⟨L,hf⟩:=h;rcases Go.Deep.open_slice u hf with⟨h0,hx⟩ | ⟨a,len,cap',m,f,D,Pl,hcs,hb,hlc,hcm,hm,hx,hel⟩
 ·have e0:(Value.slice A n cap).cells.toList = [Value.slice A n cap]:=rfl;rw[e0]at h0;injection h0 with h0 _
  injection h0 with h1 h2 h3
  subst h1;subst h2;subst h3;exact⟨none,0,0,[],rfl,⟨rfl,λh=>absurd h oM⟩,rfl,λ_ h=>absurd h sI,zL,.inl ⟨rfl,(Prod.mk.inj hx).1⟩⟩
 ·have e0:(Value.slice A n cap).cells.toList = [Value.slice A n cap]:=rfl;rw[e0]at hcs;injection hcs with h0 _
  injection h0 with h1 h2 h3
  subst h1;subst h2;subst h3;have M:n<=m:=by rw[hm];split <;> omega
  have t:∀i,i<n->∃x:α,w.cells? base (a.add (i*k)) k=some (e x).toList/\ok x:=by
   intro i hi;obtain⟨N,h1,h2⟩:=hel i oM;rw[hk]at h1;obtain⟨x,rfl,hx⟩:=o _ _ _ _ _ _ _ h2;exact⟨x,h1,hx⟩
  clear hel;by_cases hn:n=0
  ·subst hn;exact⟨some a,0,cap,[],rfl,⟨rfl,λh=>absurd h oM⟩,rfl,λ_ h=>absurd h sI,zL,.inr ⟨_,_,(Prod.mk.inj hx).1,sI⟩⟩
  ·obtain⟨x0,s,_⟩:=t 0 oM
   haveI:Inhabited α:=⟨x0⟩
   obtain⟨R,hR⟩:=Go.Deep.choose_lt t;have F:a.spot=none:=by
    unfold World.cells? at s;split at s
    ·have:=mapM_some_get s 0 0 (by simp[G]);have I:(e x0).toList.length=k:=by simpa using mapM_some_length s
     rw[List.getElem?_eq_getElem oM]at this;have:=World.cell?_spot this;simpa[Addr.add]using this
    ·cases s
   obtain⟨g,o',sp⟩:=a;simp only at F;subst F;refine⟨_,n,cap,(List.range n).map R,rfl,⟨sI,λ_=>⟨g,o',rfl,?_⟩⟩,sI,?_,oM,.inr ⟨_,_,(Prod.mk.inj hx).1,sI⟩⟩
   ·intro i hi;have J:i<n:=by simpa using hi
    have h1:=(hR i J).1;have e1:(⟨g,o',none⟩:Addr).add (i*k)=⟨g,o'+i*k,none⟩:=by
     unfold Addr.add;split
     ·rename_i e;rw[e];rfl
     ·rfl
    rw[e1]at h1;rw[iE h1 G]
    simp
   ·intro x hx;obtain⟨i,hi,rfl⟩:=List.mem_map.1 hx;exact(hR i (List.mem_range.1 hi)).2
end
theorem opensId{w:World}:XJ Tryz.prog w 39 idC (λ_=>True):=by
 intro H enc base j r t cs x h;obtain⟨xs,m,rfl,_,d,y,s⟩:=DataW.trod_array Tryz.underlying39 h;have hc:Tryz.prog.cellsOf 39=32:=kR;have hb:Tryz.prog.cellsOf 5=1:=kR;rw[hc]at d;have g:∀i,i<32->∃n:Int,cs[i]?=some (.int .u8 n)/\0<=n/\n<=255:=by
  intro i hi;have h1:=s i hi;rw[List.getElem?_eq_getElem oM]at h1;obtain⟨n,hn,_,hw⟩:=DataW.trod_int Tryz.underlying5 h1;rw[hb,Nat.mul_one]at hn;have h2:=congrArg (λl=>l[0]?) hn;simp[List.getElem?_take,List.getElem?_drop]at h2;have k:0<=n/\n<=255:=by simpa[Lit.wf,IntKind.min,IntKind.max,IntKind.signed,IntKind.bits]using hw
  exact⟨n,h2,k⟩
 obtain⟨f,hf⟩:=Go.Deep.choose_lt g;refine⟨⟨(List.range 32).map λi=>UInt8.ofNat (f i).toNat,sI⟩,?_,trivial⟩;apply List.ext_getElem?;intro i;by_cases hi:i<32
 ·obtain⟨h1,h2,h3⟩:=hf i hi;rw[h1];simp[idC,vY,hi];have:(f i).toNat % 256=(f i).toNat:=Nat.mod_eq_of_lt oM;omega
 ·rw[List.getElem?_eq_none oM,List.getElem?_eq_none sO]
end
section
open Go.RowKit Go.WideShapes
structure yW where
 id:zE
 h:Int
 body:ByteArray
def zN(x:yW):Array Value:=idC x.id ++ #[.int .i64 x.h] ++ #[.string x.body]
@[simp] theorem V5(x:yW):(zN x).size=34:=by simp[zN]
@[go_sem] theorem qZ(x:yW):(zN x).extract 0 32=idC x.id:=by
 have h:zN x=((#[]:Array Value))++idC x.id++(#[.int .i64 x.h] ++ #[.string x.body]):=by first | (simp[zN,Array.append_assoc];done) | (apply Array.ext';simp[zN];done)
 rw[h];exact bP _ _ _ _ _ sI sI
@[go_sem] theorem kP(x:yW):(zN x)[32]?=some (.int .i64 x.h):=by first | (simp[zN,Array.getElem?_append];done) | (rw[show zN x=(idC x.id) ++ #[.int .i64 x.h]++(#[.string x.body])from by apply Array.ext';simp[zN]];exact qO _ _ _ _ sI)
@[go_sem] theorem markVC_gg32(x:yW)(h:32<(zN x).size):(zN x)[32]'h=.int .i64 x.h:=Option.some.inj ((Array.getElem?_eq_getElem h).symm.trans (kP x))
@[go_sem] theorem pQ(x:yW):(zN x)[33]?=some (.string x.body):=by first | (simp[zN,Array.getElem?_append];done) | (rw[show zN x=(idC x.id ++ #[.int .i64 x.h]) ++ #[.string x.body]++((#[]:Array Value))from by apply Array.ext';simp[zN]];exact qO _ _ _ _ sI)
@[go_sem] theorem markVC_all(x:yW):(zN x).extract 0 34=zN x:=by have:=Array.extract_size (xs:=zN x);rwa [V5]at this
def sP:yW:=⟨id0,0,⟨#[]⟩⟩
theorem vy{x y:yW}(h:x.id=y.id/\x.h=y.h/\x.body=y.body):x=y:=by cases x;cases y;simp_all
instance:DecidableEq yW:=λx y=>if h:x.id=y.id/\x.h=y.h/\x.body=y.body then isTrue (vy h)else isFalse (λe=>h (by subst e;simp))
theorem jr:(Tryz.prog.info? 41).map (·.size)=some 34:=kR
@[go_sem ↓] theorem ZI(w:World):(zeroValue 41).run Tryz.prog w=.ok (.agg (zN sP)) w:=by
 have h:(Tryz.prog.info? 41).bind (·.zero)=some (.agg (zN sP)):=kR;cases hi:Tryz.prog.info? 41 with
 | none=>rw[hi]at h;cases h
 | some i =>
  rw[hi]at h;have hz:i.zero=some (.agg (zN sP)):=h;simp[zeroValue,typeInfo,hi,hz]
@[go_sem ↓] theorem loadMarkV_rw(a:Addr):loadVar 41 a=ldS 41 a:=rfl
@[go_sem ↓] theorem storeMarkV_rw(a:Addr)(v:Value):storeVar 41 a v=stS 41 a v:=rfl
@[go_sem] theorem loadMarkV_run(w:World)(g o:Nat):(ldS 41 ⟨g,o,none⟩).run Tryz.prog w=match z7 w g o 34 with | some cs=>.ok (.agg cs) w | none=>(loadVar 41 ⟨g,o,none⟩).run Tryz.prog w :=
 vZ Tryz.underlying41 rfl jr w g o
theorem VQ:Tryz.prog.underlying 41=some (.struct (Tryz.prog.fieldsOf 41)):=kR
theorem JO(w:World):((Tryz.prog.fieldsOf 41).mapM fun (f:Field)=>do pure (f.offset,<-sizeOf f.type)).run Tryz.prog w=.ok #[(0,32),(32,1),(33,1)] w:=kR
@[go_sem ↓] theorem buildMarkV_rw(parts:Array (Nat×Value)):Instr.build 41 parts=bdS 41 parts:=rfl
def markVOk(x:yW):Prop:=True/\(Lit.int .i64 x.h).wf=true/\x.body.size<=maxLen
theorem BF{w:World}:XJ Tryz.prog w 41 zN markVOk:=by
 intro H enc base j k m cs x h;obtain⟨xs,n,rfl,_,f,d,g⟩:=DataW.trod_struct Tryz.underlying41 h;have hc:Tryz.prog.cellsOf 41=34:=kR;rw[hc]at f;obtain⟨a0,h0,k0⟩:=mD d g (opensId) 0 0 32 _ rfl rfl rfl kR;have e0:cs.drop 0=(cs.drop 0).take 32++cs.drop 32:=i7;obtain⟨a1,h1,k1⟩:=mD d g (qu Tryz.underlying3) 1 32 1 _ rfl rfl rfl kR;have e1:cs.drop 32=(cs.drop 32).take 1++cs.drop 33:=i7;obtain⟨a2,h2,k2⟩:=mD d g (QC Tryz.underlying9) 2 33 1 _ rfl rfl rfl kR;have e2:cs.drop 33=(cs.drop 33).take 1++cs.drop 34:=i7;have en:cs.drop 34 = []:=List.drop_eq_nil_of_le oM;refine⟨⟨a0,a1,a2⟩,e0.trans ?_,k0,k1,k2⟩;rw[h0,e1,h1,e2,h2,en];simp[zN]
@[go_sem] theorem buildMarkV(a0:zE)(a1:Int)(a2:ByteArray)(w:World):(bdS 41 #[(0,.agg (idC a0)),(1,.int .i64 a1),(2,.string a2)]).run Tryz.prog w=.ok (.agg (zN ⟨a0,a1,a2⟩)) w:=by
 refine qP w VQ _ (ZI w) _ (JO w) [(0,.agg (idC a0)),(1,.int .i64 a1),(2,.string a2)] _ ?_;rw[show zN sP=(#[]:Array Value)++idC id0++(#[.int .i64 0]++(#[.string ⟨#[]⟩]))from by first | (simp[zN,sP,Array.append_assoc];done) | (apply Array.ext';simp[zN,sP])];rw[yJ (off:=0) (size:=32) rfl sI sI (by simp[Value.cells])];rw[show(#[]:Array Value)++(Value.agg (idC a0)).cells++(#[.int .i64 0]++(#[.string ⟨#[]⟩]))=(idC a0) ++ #[.int .i64 0]++(#[.string ⟨#[]⟩])from by first | (simp[Value.cells,Array.append_assoc];done) | (apply Array.ext';simp[Value.cells];done) | (apply Array.ext';simp only[Array.toList_append];simp[Value.cells])];rw[yJ (off:=32) (size:=1) rfl sI sI (by simp[Value.cells])];rw[show(idC a0)++(Value.int .i64 a1).cells++(#[.string ⟨#[]⟩])=(idC a0++(#[.int .i64 a1])) ++ #[.string ⟨#[]⟩]++(#[]:Array Value)from by first | (simp[Value.cells,Array.append_assoc];done) | (apply Array.ext';simp[Value.cells];done) | (apply Array.ext';simp only[Array.toList_append];simp[Value.cells])];rw[yJ (off:=33) (size:=1) rfl sI sI (by simp[Value.cells])];first | (simp[Instr.fill,zN,Array.append_assoc,Value.cells];done) | (simp only[Instr.fill,zN];congr 1;apply Array.ext';simp[Value.cells];done) | (simp only[Instr.fill,zN];congr 1;done) | (simp only[Instr.fill,zN];done)
@[go_sem ↓] theorem asYes_t(v:Value)(w:World):(Instr.typeAssert (.iface 100 v) 77 100 true).run Tryz.prog w=.ok (.tuple #[v,.bool true]) w:=kR
@[go_sem ↓] theorem asYes_b(v:Value)(w:World):(Instr.typeAssert (.iface 102 v) 77 102 true).run Tryz.prog w=.ok (.tuple #[v,.bool true]) w:=kR
@[go_sem ↓] theorem asYes_l(v:Value)(w:World):(Instr.typeAssert (.iface 104 v) 77 104 true).run Tryz.prog w=.ok (.tuple #[v,.bool true]) w:=kR
@[go_sem ↓] theorem asYes_m(v:Value)(w:World):(Instr.typeAssert (.iface 105 v) 77 105 true).run Tryz.prog w=.ok (.tuple #[v,.bool true]) w:=kR
@[go_sem ↓] theorem asYes_s(v:Value)(w:World):(Instr.typeAssert (.iface 106 v) 77 106 true).run Tryz.prog w=.ok (.tuple #[v,.bool true]) w:=kR
@[go_sem ↓] theorem asNo_bt(v:Value)(w:World):(Instr.typeAssert (.iface 102 v) 77 100 true).run Tryz.prog w=.ok (.tuple #[.pointer none,.bool false]) w:=kR
@[go_sem ↓] theorem asNo_lt(v:Value)(w:World):(Instr.typeAssert (.iface 104 v) 77 100 true).run Tryz.prog w=.ok (.tuple #[.pointer none,.bool false]) w:=kR
@[go_sem ↓] theorem asNo_lb(v:Value)(w:World):(Instr.typeAssert (.iface 104 v) 77 102 true).run Tryz.prog w=.ok (.tuple #[.pointer none,.bool false]) w:=kR
@[go_sem ↓] theorem asNo_mt(v:Value)(w:World):(Instr.typeAssert (.iface 105 v) 77 100 true).run Tryz.prog w=.ok (.tuple #[.pointer none,.bool false]) w:=kR
@[go_sem ↓] theorem asNo_mb(v:Value)(w:World):(Instr.typeAssert (.iface 105 v) 77 102 true).run Tryz.prog w=.ok (.tuple #[.pointer none,.bool false]) w:=kR
@[go_sem ↓] theorem asNo_ml(v:Value)(w:World):(Instr.typeAssert (.iface 105 v) 77 104 true).run Tryz.prog w=.ok (.tuple #[.pointer none,.bool false]) w:=kR
@[go_sem ↓] theorem asNo_st(v:Value)(w:World):(Instr.typeAssert (.iface 106 v) 77 100 true).run Tryz.prog w=.ok (.tuple #[.pointer none,.bool false]) w:=kR
@[go_sem ↓] theorem asNo_sb(v:Value)(w:World):(Instr.typeAssert (.iface 106 v) 77 102 true).run Tryz.prog w=.ok (.tuple #[.pointer none,.bool false]) w:=kR
@[go_sem ↓] theorem asNo_sl(v:Value)(w:World):(Instr.typeAssert (.iface 106 v) 77 104 true).run Tryz.prog w=.ok (.tuple #[.pointer none,.bool false]) w:=kR
@[go_sem ↓] theorem asNo_sm(v:Value)(w:World):(Instr.typeAssert (.iface 106 v) 77 105 true).run Tryz.prog w=.ok (.tuple #[.pointer none,.bool false]) w:=kR
abbrev idV(x:zE):Value:=.agg (idC x)
abbrev gP(_:zE):Prop:=True
abbrev bK(w:World)(b:Nat)(L:List zE):Prop:=yS w b idV gP L
theorem yp(w:World):(zeroValue 4).run Tryz.prog w=.ok (.bool false) w:=kR
section
variable {w:World} {b:Nat} {X:List zE} {x:zE}
theorem ihit(h:bK w b X)(hx:x∈X):(Instr.lookup 75 (.map (some b)) (.agg (idC x)) false).run Tryz.prog w=.ok (.bool true) w:=yS.hit (kv:=idV) (ok:=gP) h fK Tryz.underlying75 trivial hx
theorem imiss(h:bK w b X)(hx:x∉X):(Instr.lookup 75 (.map (some b)) (.agg (idC x)) false).run Tryz.prog w=.ok (.bool false) w:=yS.miss (kv:=idV) (ok:=gP) h fK Tryz.underlying75 yp trivial hx
theorem jq(h:bK w b X):∃w',(Instr.mapUpdate 75 (.map (some b)) (.agg (idC x)) (.bool true)).run Tryz.prog w=.ok () w'/\bK w' b (x :: X)/\z6 [b] w w':=yS.put h fK Tryz.underlying75 trivial
theorem yb(h:bK w b X):(Instr.lookup 75 (.map (some b)) (.agg (idC x)) false).run Tryz.prog w=.ok (.bool (decide (x∈X))) w:=by
 by_cases hx:x∈X
 ·rw[decide_eq_true hx];exact ihit h hx
 ·rw[decide_eq_false hx];exact imiss h hx
end
structure xE(w:World)(g:Nat)(t:ByteArray)(b:Nat)(I:List zE)(sv:Value):Prop where
 blk:w.heap[g]?=some (.cells #[.string t,.map (some b),sv] 79 (0,0))
 ids:bK w b I
section
variable {w w':World} {g:Nat} {t:ByteArray} {b:Nat} {I:List zE} {sv:Value}
theorem xE.cell0(h:xE w g t b I sv):w.cell? ⟨g,0,none⟩=some (.string t):=by rw[cell_of_row w g 0 _ _ _ h.blk];rfl
theorem xE.cell1(h:xE w g t b I sv):w.cell? ⟨g,1,none⟩=some (.map (some b)):=by rw[cell_of_row w g 1 _ _ _ h.blk];rfl
theorem xE.cell2(h:xE w g t b I sv):w.cell? ⟨g,2,none⟩=some sv:=by rw[cell_of_row w g 2 _ _ _ h.blk];rfl
theorem xE.lt(h:xE w g t b I sv):g<w.heap.size:=(aG h.blk).1
theorem xE.ne(h:xE w g t b I sv):g≠b:=by
 rintro rfl;obtain⟨M,es,d,hm,_⟩:=h.ids;have:=h.blk.symm.trans hm.heap;cases this
theorem xE.kept{S:List Nat}(h:xE w g t b I sv)(k:z6 S w w')(hg:g∉S)(hb:b∉S):xE w' g t b I sv:=⟨(k.block g h.lt hg).trans h.blk,h.ids.kept k hb⟩
theorem xE.below(h:xE w g t b I sv)(k:Below w.heap.size w w'):xE w' g t b I sv:=h.kept (z6.of_below k) sI sI
end
theorem j7(w:World)(g b:Nat)(h:w.cell? ⟨g,1,none⟩=some (.map (some b))):Calls Tryz.prog 56 #[.pointer (some ⟨g,0,none⟩)] w λe w'=>e=.returned (.bool false)/\w=w':=by
 have hn:=λr=>run_eql_map_nil (P:=Tryz.prog) w 75 39 4 r Tryz.underlying75;go_enter Tryz.func56,Tryz.ntmps56
 (go_wp2_with fail);go_ret;exact⟨rfl,rfl⟩
theorem vhas(d:zE)(w:World)(g:Nat)(t:ByteArray)(b:Nat)(I:List zE)(sv:Value)(h:xE w g t b I sv) :
  Calls Tryz.prog 25 #[.pointer (some ⟨g,0,none⟩),.agg (idC d)] w λe w'=>e=.returned (.bool (decide (d∈I)))/\Below w.heap.size w w':=by
 have hB:Below w.heap.size w (w.alloc (.cells (idC d) 39)):=bA;have h1:=h.below hB;have hr:z7 (w.alloc (.cells (idC d) 39)) w.heap.size 0 32=some (idC d):=by simp[go_sem]
 go_enter Tryz.func25,Tryz.ntmps25
 go_upto_region 1 with fail
 generalize w.alloc (.cells (idC d) 39)=W at *;have hc:=h1.cell1;have hk:∀x:Subtype (Bel W),(Instr.lookup 75 (.map (some b)) (.agg (idC d)) false).run Tryz.prog x.1=.ok (.bool (decide (d∈I))) x.1:=λx=>yb (h1.ids.below x.2);obtain⟨r,f⟩:=eX (decide (d∈I))
 rw[f]at hk;have j:=dH f;clear h h1 f;refine lX W ?_;intro k hS;have b1:=zJ hc;have b2:=zU hr;refine lZ ?_;refine lH ?_;intro K hK;refine(j7 W.drew g b hc).mono ?_;rintro e w' ⟨rfl,rfl⟩;refine⟨_,rfl,hS,hK _ _ ?_⟩;clear hK K;refine lZ ?_;refine zC ?_;intro hS;(go_wp2_with fail);go_ret;exact⟨yF (by rw[j.out]),yE hB hS⟩
end
theorem qH{P:Program}{fn:Func}{p q:Tmp}{ty:TypeId}(h:fn.results = #[.cell p ty,.tmp q])(tmps:Array Value)(w:World)(g:Nat)(t:TypeId)(cs:Array Value)(fr:Nat×Nat)(d:TypeDesc)
  (hp:tmps.getD p undef=.pointer (some ⟨g,0,none⟩))(hg:w.heap[g]?=some (.cells cs t fr))
  (hu:P.underlying ty=some d)(hd:(match d with | .struct _ | .array _ _=>true | _=>false)=true)(hi:(P.info? ty).map (·.size)=some cs.size) :
  (results fn tmps).run P w=.ok (.tuple #[.agg cs,tmps.getD q undef]) w:=by
 have f:tmps[p]?.getD undef=.pointer (some ⟨g,0,none⟩):=by simpa using hp
 simp[results,h,f,asAddr,run_loadVar_row w g t ty cs fr d hg hu hd hi]
def yi(c:UInt8):Array Value:=#[vY c]
def dC(bs:List UInt8):List (Array Value):=bs.map yi
theorem mQ(bs:List UInt8):(dC bs).flatMap Array.toList=bs.map vY:=by
 induction bs with
 | nil=>rfl
 | cons b bs ih=>simp only[dC,List.map_cons,List.flatMap_cons]at ih |-;rw[ih];rfl
theorem J1(s:ByteArray):Go.Lib.strCells s=s.data.toList.map vY:=rfl
theorem BZ{P:Program}{T U E:TypeId}{i:TypeInfo}(ht:P.underlying T=some (.slice E))(hu:P.underlying U=some .string)(hi:P.info? E=some i)(hz:i.zero=some (.int .u8 0))(d:i.size=1)(F:i.bytes=1)
  {w:World}{B:Nat}{A:Option Addr}{n cap:Nat}{bs:List UInt8}(t:Own w B E 1 A n cap (dC bs))(s:ByteArray)(k:n+s.size<=140737488355328)(hB:B<=w.heap.size)(ty:TypeId) :
  ∃A' cap' w',(Builtin.append_ #[T,U] ty #[.slice A n cap,.string s]).run P w=.ok (.slice A' (n+s.size) cap') w'/\Own w' B E 1 A' (n+s.size) cap' (dC (bs++s.data.toList))/\z6 (blk A) w w'/\(∀x∈blk A',x∈blk A\/w.heap.size<=x):=by
 have f:=t.row;rw[mQ]at f;have G:n+s.size<=maxLen:=by simp only[maxLen];omega
 obtain⟨v',w',hr,h2,h3,h4⟩:=Go.Lib.run_append_own_string (P:=P) w B T U ty E i ht hu hi hz d F _ n _ f s G k hB;have D:∃A' cap',v'=.slice A' (n+s.size) cap':=by
  rcases h2.2 with⟨h0,h00⟩ | ⟨g,c',cur,hv,_⟩
  ·exact⟨none,0,by rw[h0,h00]⟩
  ·exact⟨_,_,hv⟩
 obtain⟨A',cap',rfl⟩:=D;have hb:(Value.slice A n cap).ownBlock=(A.map (·.block)):=by cases A <;> rfl
 have hk:=z6.grown h3;rw[hb]at hk;refine⟨A',cap',w',hr,⟨?_,?_,?_⟩,hk,?_⟩
 ·rw[mQ,List.map_append];rw[J1]at h2;exact h2
 ·have:=t.len;simp only[dC,List.length_map,List.length_append]at this |-;rw[this];rfl
 ·intro c hc;simp only[dC,List.mem_map]at hc;obtain⟨b,_,rfl⟩:=hc;rfl
 ·rcases f.2 with⟨h0,h00⟩ | ⟨g,c,cur,hv,hbg,hg,hnc,hcm,hcs,htake⟩
  ·intro x hx;right
   have I:w.ownsRow w.heap.size E 1 (.slice A n cap) n (bs.map vY):=⟨f.1,.inl ⟨h0,h00⟩⟩
   obtain⟨v2,w2,m,g2,_,_⟩:=Go.Lib.run_append_own_string (P:=P) w w.heap.size T U ty E i ht hu hi hz d F _ n _ I s G k lR;rw[hr]at m;injection m with e1 e2
   subst e1;subst e2;rcases g2.2 with⟨k0,_⟩ | ⟨g,c',cur,hv,hbg,_⟩
   ·injection k0 with k0;subst k0;simp[blk]at hx
   ·injection hv with hv;subst hv
    have:x=g:=by simpa[blk]using hx
    omega
  ·injection hv with hA M L
   subst hA;subst L;by_cases r:n+s.size<=cap
   ·have J:cur.size=cap:=by simpa using hcs
    have m:=Go.Lib.run_append_room_string (P:=P) w T U ty E i ht hu hi d g n cap cur hg s r oM;rw[hr]at m;injection m with e1 e2
    injection e1 with e1
    subst e1;intro x hx;exact .inl hx
   ·have H:(bs.map vY).length=n:=by simpa using f.1
    have y:∀j u,(bs.map vY)[j]?=some u->w.cell? ((⟨g,0,none⟩:Addr).add j)=some u:=f.cells (g:=g) rfl;have m:=Go.Lib.run_append_grow_string (P:=P) w T U ty E i (.int .u8 0) ht hu hi hz ⟨g,0,none⟩ n cap _ (by rw[d];simpa using H) y s oM oM (by rw[F];exact growslice_fits oM oM);rw[hr]at m;injection m with e1 e2
    injection e1 with e1
    subst e1;intro x hx;right
    have:x=w.heap.size:=by simpa[blk]using hx
    omega
theorem QT{P:Program}{ops:Array Oper}{Q:Exit->Act->World->Prop}{a:Act}{w:World}{f:List Oper}{dst:Option Tmp}{sl x:Operand}{ty:TypeId}{pos:String}{after:Array Edge}{T U E:TypeId}{i:TypeInfo}(ht:P.underlying T=some (.slice E))(hu:P.underlying U=some .string)(hi:P.info? E=some i)(hz:i.zero=some (.int .u8 0))(g:i.size=1)(k:i.bytes=1)
  {B:Nat}{A:Option Addr}{n cap:Nat}{bs:List UInt8}{s:ByteArray}(hs:a.eval sl=.slice A n cap)(j:Own w B E 1 A n cap (dC bs))(hx:a.eval x=.string s)(d:n+s.size<=140737488355328)(hB:B<=w.heap.size)
  (h:∀A' cap' w',Own w' B E 1 A' (n+s.size) cap' (dC (bs++s.data.toList))->z6 (blk A) w w'->(∀x∈blk A',x∈blk A\/w.heap.size<=x)->wpList P ops Q f (a.put dst (.slice A' (n+s.size) cap')) w') :
  wpList P ops Q ({ dst:=dst,op:=.call { callee:=.builtin .append,args:=#[sl,x],argTypes:=#[T,U] },type:=ty,pos:=pos,after:=after,guard:=none } :: f) a w:=by
 obtain⟨A',cap',w',hr,h1,h2,h3⟩:=BZ ht hu hi hz g k j s d hB ty;exact K9 hs hx hr (h A' cap' w' h1 h2 h3)
structure Wr where
 b:Value
 bad:Int
 made:Bool
def wrC(x:Wr):Array Value:=#[x.b] ++ #[.int .i64 x.bad] ++ #[.bool x.made]
@[simp] theorem wrC_size(x:Wr):(wrC x).size=3:=by simp[wrC]
@[go_sem] theorem wrC_g0(x:Wr):(wrC x)[0]?=some (x.b):=by first | (simp[wrC,Array.getElem?_append];done) | (rw[show wrC x=((#[]:Array Value)) ++ #[x.b]++(#[.int .i64 x.bad] ++ #[.bool x.made])from by apply Array.ext';simp[wrC]];exact qO _ _ _ _ sI)
@[go_sem] theorem wrC_gg0(x:Wr)(h:0<(wrC x).size):(wrC x)[0]'h=x.b:=Option.some.inj ((Array.getElem?_eq_getElem h).symm.trans (wrC_g0 x))
@[go_sem] theorem wrC_g1(x:Wr):(wrC x)[1]?=some (.int .i64 x.bad):=by first | (simp[wrC,Array.getElem?_append];done) | (rw[show wrC x=(#[x.b]) ++ #[.int .i64 x.bad]++(#[.bool x.made])from by apply Array.ext';simp[wrC]];exact qO _ _ _ _ sI)
@[go_sem] theorem wrC_gg1(x:Wr)(h:1<(wrC x).size):(wrC x)[1]'h=.int .i64 x.bad:=Option.some.inj ((Array.getElem?_eq_getElem h).symm.trans (wrC_g1 x))
@[go_sem] theorem wrC_g2(x:Wr):(wrC x)[2]?=some (.bool x.made):=by first | (simp[wrC,Array.getElem?_append];done) | (rw[show wrC x=(#[x.b] ++ #[.int .i64 x.bad]) ++ #[.bool x.made]++((#[]:Array Value))from by apply Array.ext';simp[wrC]];exact qO _ _ _ _ sI)
@[go_sem] theorem wrC_gg2(x:Wr)(h:2<(wrC x).size):(wrC x)[2]'h=.bool x.made:=Option.some.inj ((Array.getElem?_eq_getElem h).symm.trans (wrC_g2 x))
def wr0:Wr:=⟨(.slice none 0 0),0,false⟩
@[go_sem ↓] theorem KF(w:World):(zeroValue 226).run Tryz.prog w=.ok (.agg (wrC wr0)) w:=by
 have h:(Tryz.prog.info? 226).bind (·.zero)=some (.agg (wrC wr0)):=kR;cases hi:Tryz.prog.info? 226 with
 | none=>rw[hi]at h;cases h
 | some i =>
  rw[hi]at h;have hz:i.zero=some (.agg (wrC wr0)):=h;simp[zeroValue,typeInfo,hi,hz]
@[go_sem ↓] theorem loadWr_rw(a:Addr):loadVar 226 a=ldS 226 a:=rfl
@[go_sem ↓] theorem storeWr_rw(a:Addr)(v:Value):storeVar 226 a v=stS 226 a v:=rfl
theorem fieldsWr:Tryz.prog.underlying 226=some (.struct (Tryz.prog.fieldsOf 226)):=kR
theorem placesWr(w:World):((Tryz.prog.fieldsOf 226).mapM fun (f:Field)=>do pure (f.offset,<-sizeOf f.type)).run Tryz.prog w=.ok #[(0,1),(1,1),(2,1)] w:=kR
@[go_sem ↓] theorem buildWr_rw(parts:Array (Nat×Value)):Instr.build 226 parts=bdS 226 parts:=rfl
@[go_sem] theorem buildWr_2(a2:Bool)(w:World):(bdS 226 #[(2,.bool a2)]).run Tryz.prog w=.ok (.agg (wrC ⟨(.slice none 0 0),0,a2⟩)) w:=by
 refine qP w fieldsWr _ (KF w) _ (placesWr w) [(2,.bool a2)] _ ?_;rw[show wrC wr0=(#[(.slice none 0 0)]++(#[.int .i64 0])) ++ #[.bool false]++(#[]:Array Value)from by first | (simp[wrC,wr0,Array.append_assoc];done) | (apply Array.ext';simp[wrC,wr0])];rw[yJ (off:=2) (size:=1) rfl sI sI (by simp[Value.cells])];first | (simp[Instr.fill,wrC,Array.append_assoc,Value.cells];done) | (simp only[Instr.fill,wrC];congr 1;apply Array.ext';simp[Value.cells];done) | (simp only[Instr.fill,wrC];congr 1;done) | (simp only[Instr.fill,wrC];done)
theorem vc:xH Tryz.prog 37 5 1 1 :=
 .of (z:=.int .u8 0) Tryz.underlying37 kR kR kR rfl oM
theorem byteInfo:∃i,Tryz.prog.info? 5=some i/\i.zero=some (.int .u8 0)/\i.size=1/\i.bytes=1:=by
 have hz:(Tryz.prog.info? 5).bind (·.zero)=some (.int .u8 0):=kR;have hs:(Tryz.prog.info? 5).map (·.size)=some 1:=kR;have hb:(Tryz.prog.info? 5).map (·.bytes)=some 1:=kR;cases hi:Tryz.prog.info? 5 with
 | none=>rw[hi]at hz;cases hz
 | some i =>
  rw[hi]at hz hs hb;exact⟨i,rfl,hz,by simpa using hs,by simpa using hb⟩
structure l8(w:World)(B g:Nat)(A:Option Addr)(cap:Nat)(bs:List UInt8):Prop where
 heap:w.heap[g]?=some (.cells (wrC ⟨.slice A bs.length cap,0,true⟩) 226 (0,0))
 own:Own w B 5 1 A bs.length cap (dC bs)
 ne:g∉blk A
 base:B<=w.heap.size
theorem l8.lt{w:World}{B g:Nat}{A:Option Addr}{cap:Nat}{bs:List UInt8}(h:l8 w B g A cap bs):g<w.heap.size:=(aG h.heap).1
theorem l8.cell{w:World}{B g:Nat}{A:Option Addr}{cap:Nat}{bs:List UInt8}(h:l8 w B g A cap bs) :
  w.cell? ⟨g,0,none⟩=some (.slice A bs.length cap)/\w.cell? ⟨g,1,none⟩=some (.int .i64 0)/\w.cell? ⟨g,2,none⟩=some (.bool true):=by
 refine⟨?_,?_,?_⟩ <;> rw[cell_of_row w g _ _ _ _ h.heap] <;> simp[go_sem]
theorem l8.kept{w w':World}{B g:Nat}{A:Option Addr}{cap:Nat}{bs:List UInt8}{S:List Nat}(h:l8 w B g A cap bs)(k:z6 S w w')(hg:g∉S)(hn:∀x∈blk A,x∉S):l8 w' B g A cap bs :=
 ⟨(k.block g h.lt hg).trans h.heap,h.own.kept k hn,h.ne,Nat.le_trans h.base k.size⟩
theorem l8.below{w w':World}{B g:Nat}{A:Option Addr}{cap:Nat}{bs:List UInt8}(h:l8 w B g A cap bs)(k:Below w.heap.size w w'):l8 w' B g A cap bs:=h.kept (z6.of_below k) sI sI
def kM(w:World)(B g:Nat)(A:Option Addr)(bs:List UInt8)(w':World):Prop :=
 ∃A' cap',l8 w' B g A' cap' bs/\z6 (g :: blk A) w w'/\∀x∈blk A',x∈blk A\/w.heap.size<=x
theorem ZL(w:World):Calls Tryz.prog 79 #[] w λe w'=>e=.returned (.pointer (some ⟨w.heap.size,0,none⟩))/\l8 w' (w.heap.size+1) w.heap.size none 0 []/\Below w.heap.size w w':=by
 go_enter Tryz.func79,Tryz.ntmps79
 (go_wp2_with fail);go_ret;refine⟨rfl,⟨heap_alloc_new w _,Own.nil _ _ _ _,by simp[blk],sI⟩,bA⟩
theorem kg(w:World)(g:Nat)(h:w.cell? ⟨g,2,none⟩=some (.bool true)):Calls Tryz.prog 157 #[.pointer (some ⟨g,0,none⟩)] w λe w'=>e=.returned (.bool false)/\w=w':=by
 go_enter Tryz.func157,Tryz.ntmps157
 (go_wp2_with fail);go_ret;exact⟨rfl,rfl⟩
theorem zA{w:World}{g:Nat}{c:Array Value}{T:TypeId}{fr:Nat×Nat}(h:w.heap[g]?=some (.cells c T fr))(j:Nat)(u:Value):(w.setCell ⟨g,j,none⟩ u).heap[g]?=some (.cells (c.setIfInBounds j u) T fr):=by
 obtain⟨d,hg⟩:=aG h;show(w.heap.modify g _)[g]?=_;rw[Array.getElem?_modify];simp[h]
theorem QU{w w1:World}{B g:Nat}{A A':Option Addr}{cap cap':Nat}{bs bs':List UInt8}(h:l8 w B g A cap bs)(hk:z6 (blk A) w w1)(f:Own w1 B 5 1 A' bs'.length cap' (dC bs'))(d:∀x∈blk A',x∈blk A\/w.heap.size<=x) :
  kM w B g A bs' (w1.setCell ⟨g,0,none⟩ (.slice A' bs'.length cap')):=by
 have hg:w1.heap[g]?=some (.cells (wrC ⟨.slice A bs.length cap,0,true⟩) 226 (0,0)):=(hk.block g h.lt h.ne).trans h.heap;have j:g∉blk A':=qz h.ne h.lt d;have hs:z6 [g] w1 (w1.setCell ⟨g,0,none⟩ (.slice A' bs'.length cap')):=z6.setCell w1 ⟨g,0,none⟩ _;refine⟨A',cap',⟨?_,f.kept hs (λx hx e=>j (by simp at e;rw[<-e];exact hx)),j,?_⟩,?_,d⟩
 ·rw[zA hg];simp[wrC]
 ·have h1:=hk.size;have h2:=hs.size;have h3:=h.base;omega
 ·exact z6.trans (hk.mono (S':=g :: blk A) (λx hx=>.inl (by simp[hx]))) hs (λx hx=>.inl (by simp at hx;simp[hx]))
theorem eT{w w1:World}{B g:Nat}{A:Option Addr}{cap:Nat}{bs:List UInt8}(h:l8 w B g A cap bs)(hk:z6 (blk A) w w1) :
  (∀j,w1.frozen? ⟨g,j,none⟩=false)/\w1.cell? ⟨g,0,none⟩=some (.slice A bs.length cap)/\w1.cell? ⟨g,1,none⟩=some (.int .i64 0):=by
 have hg:w1.heap[g]?=some (.cells (wrC ⟨.slice A bs.length cap,0,true⟩) 226 (0,0)):=(hk.block g h.lt h.ne).trans h.heap;refine⟨λj=>by simp[World.frozen?,hg],?_,?_⟩ <;> rw[cell_of_row w1 g _ _ _ _ hg] <;> simp[go_sem]
theorem dS(w:World)(B g:Nat)(A:Option Addr)(cap:Nat)(bs:List UInt8)(h:l8 w B g A cap bs)(s:ByteArray)(hs:bs.length+s.size<=1000000000) :
  Calls Tryz.prog 81 #[.pointer (some ⟨g,0,none⟩),.string s] w λe w'=>e=.returned (.pointer (some ⟨g,0,none⟩))/\kM w B g A (bs++s.data.toList) w':=by
 obtain⟨c0,c1,c2⟩:=h.cell;go_enter Tryz.func81,Tryz.ntmps81
 (go_wp2_with fail);refine(kg _ _ c2).mono ?_;rintro e w' ⟨rfl,rfl⟩;obtain⟨i,i1,i2,i3,i4⟩:=byteInfo;have j:=h.own;have hb:=h.base;go_wp2_with (at_builtin;refine QT Tryz.underlying37 Tryz.underlying9 i1 i2 i3 i4 rfl j rfl oM hb ?_;intro A' cap' w' d hk f;obtain⟨f0,d0,_⟩:=eT h hk;have f0:=f0 0)
 go_ret;have e:(bs++s.data.toList).length=bs.length+s.size:=by rw[List.length_append];rfl
 have hw:=QU h hk (bs':=bs++s.data.toList) (cap':=cap') (by rw[e];exact d) f;rw[e]at hw;exact⟨rfl,hw⟩
theorem wfail_d(g e:Nat)(u:FrameMode)(w:World)(hb:w.cell? ⟨g,1,none⟩=some (.int .i64 0))(he:w.cell? ⟨e,0,none⟩=some (.int .i64 0))(hz:w.frozen? ⟨g,1,none⟩=false) :
  CallsD Tryz.prog 158 #[.pointer (some ⟨g,0,none⟩),.pointer (some ⟨e,0,none⟩)] u w λen u' w'=>u'=u/\(en=.returned (.tuple #[])/\w'=w.setCell ⟨g,1,none⟩ (.int .i64 0)):=by
 go_enter_d Tryz.func158,Tryz.ntmps158
 go_wp2
 go_end0;exact⟨rfl,rfl⟩
theorem obits(n:Int)(w:World)(hn:n=1\/n=2\/n=4):Calls Tryz.prog 159 #[.int .i64 n] w λe w'=>e=.returned (.int .i64 (8*n))/\w=w':=by
 rcases hn with rfl | rfl | rfl
 ·go_enter Tryz.func159,Tryz.ntmps159
  (go_wp2_with fail);go_ret;exact⟨rfl,rfl⟩
 ·go_enter Tryz.func159,Tryz.ntmps159
  (go_wp2_with fail);go_ret;exact⟨rfl,rfl⟩
 ·go_enter Tryz.func159,Tryz.ntmps159
  (go_wp2_with fail);go_ret;exact⟨rfl,rfl⟩
def beL:Nat->Nat->List UInt8
 | 0,_=>[]
 | m+1,n=>UInt8.ofNat (n / 256 ^ m) :: beL m n
theorem y6:∀m n,(beL m n).length=m
 | 0,_=>rfl
 | m+1,n=>by simp[beL,y6 m n]
theorem zZ{w w1 w2:World}{B g:Nat}{A A1:Option Addr}{k:Nat}{s m:List UInt8}(h1:l8 w1 B g A1 k s)(hk:z6 (g :: blk A) w w1)(f:∀x∈blk A1,x∈blk A\/w.heap.size<=x)(h:kM w1 B g A1 m w2):kM w B g A m w2:=by
 obtain⟨A2,j,h2,r,d⟩:=h;refine⟨A2,j,h2,z6.trans hk r (λx hx=>?_),λx hx=>?_⟩
 ·rcases List.mem_cons.1 hx with rfl | hx
  ·left;simp
  ·rcases f x hx with h | h
   ·left;simp[h]
   ·right;exact h
 ·rcases d x hx with h | h
  ·exact f x h
  ·right;have:=hk.size;omega
theorem wr_bad{w:World}{B g:Nat}{A:Option Addr}{cap:Nat}{bs:List UInt8}(h:l8 w B g A cap bs):kM w B g A bs (w.setCell ⟨g,1,none⟩ (.int .i64 0)):=by
 have hs:z6 [g] w (w.setCell ⟨g,1,none⟩ (.int .i64 0)):=z6.setCell w ⟨g,1,none⟩ _;refine⟨A,cap,⟨?_,h.own.kept hs (λx hx e=>h.ne (by simp at e;rw[<-e];exact hx)),h.ne,Nat.le_trans h.base hs.size⟩,hs.mono (λx hx=>.inl (by simp at hx;simp[hx])),λx hx=>.inl hx⟩;rw[zA h.heap];simp[wrC]
theorem t9(w:World)(B g:Nat)(A:Option Addr)(cap:Nat)(bs:List UInt8)(h:l8 w B g A cap bs)(n M:Nat)(hM:M=1\/M=2\/M=4)(hn:n<256 ^ M)(hs:bs.length+M<=1000000000) :
  Calls Tryz.prog 80 #[.pointer (some ⟨g,0,none⟩),.int .i64 n,.int .i64 M] w λe w'=>e=.returned (.pointer (some ⟨g,0,none⟩))/\kM w B g A (bs++beL M n) w':=by
 obtain⟨c0,c1,c2⟩:=h.cell;have hp:(256:Nat) ^ M=2 ^ (8*M):=by rw[show(256:Nat)=2 ^ 8 from rfl,<-Nat.pow_mul]
 have T:((n:Int) / 2 ^ (8*M) != 0)=false:=by
  have h1:n / 2 ^ (8*M)=0:=Nat.div_eq_of_lt (by rw[<-hp];exact hn);have h2:((n / 2 ^ (8*M):Nat):Int)=(n:Int) / 2 ^ (8*M):=sI;rw[<-h2,h1];rfl
 have O:Below w.heap.size w (w.alloc (.cells #[.int .i64 0] 28)):=bA;have J:=h.below O;have hA:∀x∈blk A,x<w.heap.size:=λx hx=>(h.own.at_base hx).2;have a7:=h.lt;have hz:(8*(M:Int)==0)=false:=by rw[beq_eq_false_iff_ne];omega
 go_enter_defers Tryz.func80,Tryz.ntmps80
 (go_wp2_with fail);refine(kg _ _ c2).mono ?_;rintro e w' ⟨rfl,rfl⟩;(go_wp2_with fail);refine(obits M _ oM).mono ?_;rintro e w' ⟨rfl,rfl⟩;(go_wp2_with fail);have a0:(w.alloc (.cells #[.int .i64 0] 28)).cell? ⟨w.heap.size,0,none⟩=some (.int .i64 0):=by simp[go_sem]
 clear T O c0 c1 c2 hn;generalize hW:w.alloc (.cells #[.int .i64 0] 28)=W at *;go_loopw [8] (λkv wr=>∃(j:Nat) (pre:List UInt8),j<=M/\pre.length+j=M/\kv=.int .i64 (8*(j:Int))/\Hid (pre++beL j n=beL M n)/\kM W B g A (bs++pre) wr) (λkv _=>(intOf kv).toNat)
 case atStart=>exact⟨M,[],lR,sI,rfl,rfl,A,cap,by simpa using J,z6.refl _ _,λx hx=>.inl hx⟩
 case round =>
  obtain⟨j,pre,hj,a6,rfl,t,A1,a3,d,hk,F⟩:=hrel;have E:=dH F;by_cases Z:j=0
  ·subst Z;have U:wr.cell? ⟨w.heap.size,0,none⟩=some (.int .i64 0):=(hk.cell (p:=⟨w.heap.size,0,none⟩) (by rw[<-hW];simp) (by
    simp only[List.mem_cons,not_or];exact⟨oM,λhx=>oH (hA _ hx)⟩)).trans a0
   obtain⟨f1,_,d1⟩:=eT d (z6.refl _ _);have f1:=f1 1;have V:pre=beL M n:=by have:=t.out;simpa[beL]using this
   subst V;(go_wp2_with fail);refine leaves_cons (f:=158) (args:=#[.pointer (some ⟨g,0,none⟩),.pointer (some ⟨w.heap.size,0,none⟩)]) sI (by simp[go_sem]) ?_;refine(wfail_d g w.heap.size .returning _ d1 U f1).mono ?_;rintro e u' a5 ⟨rfl,rfl,rfl⟩;refine⟨_,results_tmp rfl _ _ _,rfl,?_⟩;have h0:z6 [] w W:=by rw[<-hW];exact z6.alloc _ _
   exact zZ J (h0.mono sI) iL (zZ d hk E.out (wr_bad d))
  ·obtain⟨j,rfl⟩:∃j',j=j'+1:=⟨j-1,oM⟩
   have e8:8*((j:Int)+1)-8=((8*j:Nat):Int):=oM;obtain⟨c0,_,_⟩:=d.cell;have R:=d.lt;obtain⟨c,hc⟩:=eX (UInt8.ofNat (n / 256 ^ j))
   have eb:IntKind.u8.wrap ((n:Int) / 2 ^ (8*(j:Int)).toNat)=((c.toNat:Nat):Int):=by
    rw[<-hc];have h1:(8*(j:Int)).toNat=8*j:=oM;have h2:(256:Nat) ^ j=2 ^ (8*j):=by rw[show(256:Nat)=2 ^ 8 from rfl,<-Nat.pow_mul]
    have h3:((n / 2 ^ (8*j):Nat):Int)=(n:Int) / 2 ^ (8*j):=sI;rw[h1,<-h3,h2];simp[IntKind.wrap,IntKind.signed,IntKind.bits]
   go_upto_region 8 with fail
   refine kF (blk A1) wr ?_;intro X hS;have b1:=zP c0 d.ne;refine lZ ?_;refine lH ?_;intro K hK;refine zG (z6.trans (z6.trans (z6.refl (blk A1) wr) (z6.alloc wr _) sI) (z6.drew _) sI) (λa2=>?_);refine hK _ _ ?_;clear hK K;have N:z6 [] wr (wr.alloc (.cells #[.int .u8 c.toNat] 5)).drew:=z6.trans (z6.alloc wr _) (z6.drew _) sI;have k:=d.own.kept N sI;have s:z7 (wr.alloc (.cells #[.int .u8 c.toNat] 5)).drew wr.heap.size 0 1=some (yi c):=by simp[go_sem,yi,vY]
   have D:(bs++pre).length=bs.length+pre.length:=List.length_append;rw[D]at k;have a8:=d.base;refine vW vc rfl k rfl s (by simp[yi,vY];rfl) oM oM sO ?_;intro A2 I w2 y Y m;have H:z6 (blk A1) wr w2:=z6.trans (N.mono (S':=blk A1) sI) Y iL;refine zG H (λa1=>?_);refine lZ ?_;obtain⟨f0,d0,_⟩:=eT d H;have f0:=f0 0;refine vI ?_ ?_;(focus(simp only[yO];done));intro K hK;go_simp;refine hK _ _ ?_;clear hK K;have L:(bs++(pre ++ [c])).length=bs.length+pre.length+1:=by simp[Nat.add_assoc]
   have G:=QU d H (bs':=bs++(pre ++ [c])) (A':=A2) (cap':=I) (by rw[L,<-List.append_assoc];simpa[dC]using y) (λx hx=>by
    rcases m x hx with h | h
    ·exact .inl h
    ·right;simp at h;omega)
   rw[L]at G;have r:=zZ d hk E.out G;have a4:=dH r;clear G r hS a2 a1 b1 X f0 d0;(go_wp2_with fail);go_roundw
   case rel=>exact⟨j,pre ++ [c],oM,sO,by go_num,(show(pre ++ [c])++beL j n=beL M n by rw[<-t.out];simp[beL,hc]),a4.out⟩
   case measure=>exact sZ
theorem BE{w:World}{B:Nat}{A:Option Addr}{n cap:Nat}{bs:List UInt8}(h:Own w B 5 1 A n cap (dC bs))(hn:n=bs.length) :
  (convert 37 9 (.slice A n cap)).run Tryz.prog w=.ok (.string ⟨bs.toArray⟩) w:=by
 subst hn;rcases h.addr with rfl | ⟨g,rfl⟩
 ·have h0:bs = []:=by
   rcases h.row.2 with⟨_,h0⟩ | ⟨g,c,cur,hv,_⟩
   ·exact List.eq_nil_of_length_eq_zero h0
   ·cases hv
  subst h0;exact Go.Lib.run_convert_nil_bytes w _ _ _ _ Tryz.underlying37 Tryz.underlying5 Tryz.underlying9
 ·refine run_convert_bytes_back w _ _ _ _ _ _ Tryz.underlying37 Tryz.underlying5 Tryz.underlying9 (λj hj=>?_);have d:=h.row;rw[mQ]at d;have:=d.cells (g:=g) rfl j (vY bs[j]) (by simp[hj]);exact this
theorem nN(w:World)(B g:Nat)(A:Option Addr)(cap:Nat)(bs:List UInt8)(h:l8 w B g A cap bs) :
  Calls Tryz.prog 82 #[.pointer (some ⟨g,0,none⟩)] w λe w'=>e=.returned (.tuple #[.string ⟨bs.toArray⟩,.int .i64 0])/\w=w':=by
 obtain⟨c0,c1,c2⟩:=h.cell;have hs:=BE h.own rfl;go_enter Tryz.func82,Tryz.ntmps82
 (go_wp2_with fail);refine(kg _ _ c2).mono ?_;rintro e w' ⟨rfl,rfl⟩;(go_wp2_with fail);go_ret2;exact⟨rfl,rfl⟩
structure Rd where
 s:ByteArray
 p:Int
 bad:Int
 made:Bool
def rdC(x:Rd):Array Value:=#[.string x.s] ++ #[.int .i64 x.p] ++ #[.int .i64 x.bad] ++ #[.bool x.made]
@[simp] theorem rdC_size(x:Rd):(rdC x).size=4:=by simp[rdC]
@[go_sem] theorem rdC_g0(x:Rd):(rdC x)[0]?=some (.string x.s):=by first | (simp[rdC,Array.getElem?_append];done) | (rw[show rdC x=((#[]:Array Value)) ++ #[.string x.s]++(#[.int .i64 x.p] ++ #[.int .i64 x.bad] ++ #[.bool x.made])from by apply Array.ext';simp[rdC]];exact qO _ _ _ _ sI)
@[go_sem] theorem rdC_gg0(x:Rd)(h:0<(rdC x).size):(rdC x)[0]'h=.string x.s:=Option.some.inj ((Array.getElem?_eq_getElem h).symm.trans (rdC_g0 x))
@[go_sem] theorem rdC_g1(x:Rd):(rdC x)[1]?=some (.int .i64 x.p):=by first | (simp[rdC,Array.getElem?_append];done) | (rw[show rdC x=(#[.string x.s]) ++ #[.int .i64 x.p]++(#[.int .i64 x.bad] ++ #[.bool x.made])from by apply Array.ext';simp[rdC]];exact qO _ _ _ _ sI)
@[go_sem] theorem rdC_gg1(x:Rd)(h:1<(rdC x).size):(rdC x)[1]'h=.int .i64 x.p:=Option.some.inj ((Array.getElem?_eq_getElem h).symm.trans (rdC_g1 x))
@[go_sem] theorem rdC_g2(x:Rd):(rdC x)[2]?=some (.int .i64 x.bad):=by first | (simp[rdC,Array.getElem?_append];done) | (rw[show rdC x=(#[.string x.s] ++ #[.int .i64 x.p]) ++ #[.int .i64 x.bad]++(#[.bool x.made])from by apply Array.ext';simp[rdC]];exact qO _ _ _ _ sI)
@[go_sem] theorem rdC_gg2(x:Rd)(h:2<(rdC x).size):(rdC x)[2]'h=.int .i64 x.bad:=Option.some.inj ((Array.getElem?_eq_getElem h).symm.trans (rdC_g2 x))
@[go_sem] theorem rdC_g3(x:Rd):(rdC x)[3]?=some (.bool x.made):=by first | (simp[rdC,Array.getElem?_append];done) | (rw[show rdC x=(#[.string x.s] ++ #[.int .i64 x.p] ++ #[.int .i64 x.bad]) ++ #[.bool x.made]++((#[]:Array Value))from by apply Array.ext';simp[rdC]];exact qO _ _ _ _ sI)
@[go_sem] theorem rdC_gg3(x:Rd)(h:3<(rdC x).size):(rdC x)[3]'h=.bool x.made:=Option.some.inj ((Array.getElem?_eq_getElem h).symm.trans (rdC_g3 x))
def rd0:Rd:=⟨⟨#[]⟩,0,0,false⟩
theorem Rd_ext{x y:Rd}(h:x.s=y.s/\x.p=y.p/\x.bad=y.bad/\x.made=y.made):x=y:=by cases x;cases y;simp_all
instance:DecidableEq Rd:=λx y=>if h:x.s=y.s/\x.p=y.p/\x.bad=y.bad/\x.made=y.made then isTrue (Rd_ext h)else isFalse (λe=>h (by subst e;simp))
@[go_sem ↓] theorem KH(w:World):(zeroValue 234).run Tryz.prog w=.ok (.agg (rdC rd0)) w:=by
 have h:(Tryz.prog.info? 234).bind (·.zero)=some (.agg (rdC rd0)):=kR;cases hi:Tryz.prog.info? 234 with
 | none=>rw[hi]at h;cases h
 | some i =>
  rw[hi]at h;have hz:i.zero=some (.agg (rdC rd0)):=h;simp[zeroValue,typeInfo,hi,hz]
@[go_sem ↓] theorem loadRd_rw(a:Addr):loadVar 234 a=ldS 234 a:=rfl
@[go_sem ↓] theorem storeRd_rw(a:Addr)(v:Value):storeVar 234 a v=stS 234 a v:=rfl
theorem fieldsRd:Tryz.prog.underlying 234=some (.struct (Tryz.prog.fieldsOf 234)):=kR
theorem placesRd(w:World):((Tryz.prog.fieldsOf 234).mapM fun (f:Field)=>do pure (f.offset,<-sizeOf f.type)).run Tryz.prog w=.ok #[(0,1),(1,1),(2,1),(3,1)] w:=kR
@[go_sem ↓] theorem buildRd_rw(parts:Array (Nat×Value)):Instr.build 234 parts=bdS 234 parts:=rfl
@[go_sem] theorem buildRd_0_3(a0:ByteArray)(a3:Bool)(w:World):(bdS 234 #[(0,.string a0),(3,.bool a3)]).run Tryz.prog w=.ok (.agg (rdC ⟨a0,0,0,a3⟩)) w:=by
 refine qP w fieldsRd _ (KH w) _ (placesRd w) [(0,.string a0),(3,.bool a3)] _ ?_;rw[show rdC rd0=(#[]:Array Value) ++ #[.string ⟨#[]⟩]++(#[.int .i64 0]++(#[.int .i64 0]++(#[.bool false])))from by first | (simp[rdC,rd0,Array.append_assoc];done) | (apply Array.ext';simp[rdC,rd0])];rw[yJ (off:=0) (size:=1) rfl sI sI (by simp[Value.cells])];rw[show(#[]:Array Value)++(Value.string a0).cells++(#[.int .i64 0]++(#[.int .i64 0]++(#[.bool false])))=(#[.string a0]++(#[.int .i64 0]++(#[.int .i64 0]))) ++ #[.bool false]++(#[]:Array Value)from by first | (simp[Value.cells,Array.append_assoc];done) | (apply Array.ext';simp[Value.cells];done) | (apply Array.ext';simp only[Array.toList_append];simp[Value.cells])];rw[yJ (off:=3) (size:=1) rfl sI sI (by simp[Value.cells])];first | (simp[Instr.fill,rdC,Array.append_assoc,Value.cells];done) | (simp only[Instr.fill,rdC];congr 1;apply Array.ext';simp[Value.cells];done) | (simp only[Instr.fill,rdC];congr 1;done) | (simp only[Instr.fill,rdC];done)
def mkB(l:List UInt8):ByteArray:=⟨l.toArray⟩
def yV(n:Nat)(l:List UInt8)(e:Int):List UInt8:=if e=0/\n<=l.length then l.take n else[]
def zK(n:Nat)(l:List UInt8)(e:Int):List UInt8:=if e=0/\n<=l.length then l.drop n else l
def zM(n:Nat)(l:List UInt8)(e:Int):Int:=if e=0 then(if n<=l.length then 0 else 2)else e
def beN(l:List UInt8):Nat:=l.foldl (λn c=>256*n+c.toNat) 0
def j4(l:List UInt8)(e:Int):Int:=if e=0 then(if l = []then 0 else 4)else e
theorem K2(l:List UInt8)(c:UInt8):beN (l ++ [c])=256*beN l+c.toNat:=by simp[beN]
theorem VL:∀(l:List UInt8) (a:Nat),l.foldl (λn c=>256*n+c.toNat) a<(a+1)*256 ^ l.length
 | [],a=>by simp
 | c :: l,a=>by
  have h:=VL l (256*a+c.toNat);have hc:=c.toNat_lt;simp only[List.foldl_cons,List.length_cons];refine Nat.lt_of_lt_of_le h ?_;rw[Nat.pow_succ,Nat.mul_comm (256 ^ l.length) 256,<-Nat.mul_assoc];refine Nat.mul_le_mul_right _ ?_;omega
theorem QQ(l:List UInt8):beN l<256 ^ l.length:=by have:=VL l 0;simpa[beN]using this
theorem wX(n:Nat)(l:List UInt8)(e:Int):(yV n l e).length<=n:=by unfold yV;split <;> simp;omega
def q8(w:World)(g:Nat)(l:List UInt8)(e:Int):Prop :=
 ∃(s:ByteArray) (a:Nat),a<=s.size/\s.size<=9223372036854775807/\w.heap[g]?=some (.cells (rdC ⟨s,a,e,true⟩) 234 (0,0))/\l=s.data.toList.drop a
theorem q8.lt{w:World}{g:Nat}{l:List UInt8}{e:Int}(h:q8 w g l e):g<w.heap.size:=by
 obtain⟨s,a,_,_,hg,_⟩:=h;exact(aG hg).1
theorem q8.kept{w w':World}{g:Nat}{l:List UInt8}{e:Int}{S:List Nat}(h:q8 w g l e)(k:z6 S w w')(hg:g∉S):q8 w' g l e:=by
 have hl:=h.lt;obtain⟨s,a,h1,h2,h3,h4⟩:=h;exact⟨s,a,h1,h2,(k.block g hl hg).trans h3,h4⟩
theorem q8.below{w w':World}{g:Nat}{l:List UInt8}{e:Int}(h:q8 w g l e)(k:Below w.heap.size w w'):q8 w' g l e:=h.kept (z6.of_below k) sI
theorem wW(s:ByteArray)(w:World)(hs:s.size<=9223372036854775807):Calls Tryz.prog 90 #[.string s] w λe w'=>e=.returned (.pointer (some ⟨w.heap.size,0,none⟩))/\q8 w' w.heap.size s.data.toList 0/\Below w.heap.size w w':=by
 go_enter Tryz.func90,Tryz.ntmps90
 (go_wp2_with fail);go_ret;exact⟨rfl,⟨s,0,zL,hs,heap_alloc_new w _,sI⟩,bA⟩
theorem mC{w:World}{g:Nat}{s:ByteArray}{a:Nat}{e:Int}(h:w.heap[g]?=some (.cells (rdC ⟨s,a,e,true⟩) 234 (0,0))) :
  w.cell? ⟨g,0,none⟩=some (.string s)/\w.cell? ⟨g,1,none⟩=some (.int .i64 a)/\w.cell? ⟨g,2,none⟩=some (.int .i64 e)/\w.cell? ⟨g,3,none⟩=some (.bool true)/\(∀j,w.frozen? ⟨g,j,none⟩=false):=by
 refine⟨?_,?_,?_,?_,λj=>by simp[World.frozen?,h]⟩ <;> rw[cell_of_row w g _ _ _ _ h] <;> simp[go_sem]
theorem zo(w:World)(g:Nat)(h:w.cell? ⟨g,3,none⟩=some (.bool true)):Calls Tryz.prog 169 #[.pointer (some ⟨g,0,none⟩)] w λe w'=>e=.returned (.bool false)/\w=w':=by
 go_enter Tryz.func169,Tryz.ntmps169
 (go_wp2_with fail);go_ret;exact⟨rfl,rfl⟩
theorem tP(w:World)(g:Nat)(e:Int)(h:w.cell? ⟨g,3,none⟩=some (.bool true))(h2:w.cell? ⟨g,2,none⟩=some (.int .i64 e)):Calls Tryz.prog 168 #[.pointer (some ⟨g,0,none⟩)] w λen w'=>en=.returned (.bool (!(e==0)))/\w=w':=by
 go_enter Tryz.func168,Tryz.ntmps168
 (go_wp2_with fail);refine(zo _ _ h).mono ?_;rintro en w' ⟨rfl,rfl⟩;(go_wp2_with fail);go_ret;refine⟨yF ?_,rfl⟩;first | rfl | simp
theorem qA(w:World)(g:Nat)(l:List UInt8)(e:Int)(h:q8 w g l e):Calls Tryz.prog 92 #[.pointer (some ⟨g,0,none⟩)] w λen w'=>en=.returned (.int .i64 e)/\w=w':=by
 obtain⟨s,a,_,_,hg,_⟩:=h;obtain⟨_,_,c2,c3,_⟩:=mC hg;go_enter Tryz.func92,Tryz.ntmps92
 (go_wp2_with fail);refine(zo _ _ c3).mono ?_;rintro en w' ⟨rfl,rfl⟩;(go_wp2_with fail);go_ret;exact⟨rfl,rfl⟩
def lU(w:World)(g:Nat)(l:List UInt8)(e:Int)(w':World):Prop:=q8 w' g l e/\z6 [g] w w'
theorem bD(w:World)(g n:Nat)(l:List UInt8)(e:Int)(h:q8 w g l e)(hn:n<=9223372036854775807) :
  Calls Tryz.prog 93 #[.pointer (some ⟨g,0,none⟩),.int .i64 n] w λen w'=>en=.returned (.string (mkB (yV n l e)))/\lU w g (zK n l e) (zM n l e) w':=by
 have h0:=h;obtain⟨s,a,ha,hs,hg,hl⟩:=h;obtain⟨c0,c1,c2,c3,hf⟩:=mC hg;have f1:=hf 1;have f2:=hf 2;have m:l.length=s.size-a:=by rw[hl,List.length_drop];rfl
 clear hf;cases he:(e==0)with
 | false =>
  have j:e≠0:=by simpa using he
  have e1:yV n l e = []:=by unfold yV;rw[if_neg (λhh=>j hh.1)]
  have e2:zK n l e=l:=by unfold zK;rw[if_neg (λhh=>j hh.1)]
  have e3:zM n l e=e:=by unfold zM;rw[if_neg j]
  have E1:=dH e1;have E2:=dH e2;have E3:=dH e3;have H0:=dH h0;clear e1 e2 e3 hl m h0 j;go_enter Tryz.func93,Tryz.ntmps93
  (go_wp2_with fail);refine(tP _ _ e c3 c2).mono ?_;rintro en w' ⟨rfl,rfl⟩;(go_wp2_with fail);go_ret;exact⟨n7 (by rw[E1.out];rfl),by rw[E2.out,E3.out];exact⟨H0.out,z6.refl _ _⟩⟩
 | true =>
  obtain rfl:e=0:=by simpa using he
  clear he;by_cases d:n<=l.length
  ·have e1:yV n l 0=l.take n:=by unfold yV;rw[if_pos ⟨rfl,d⟩]
   have e2:zK n l 0=l.drop n:=by unfold zK;rw[if_pos ⟨rfl,d⟩]
   have e3:zM n l 0=0:=by unfold zM;rw[if_pos rfl,if_pos d]
   have E1:=dH e1;have E2:=dH e2;have E3:=dH e3;have r:¬(s.size:Int)-a<n:=oM;have D:a+n<=s.size:=oM;have Hl:=dH hl;have Hg:=dH hg;clear e1 e2 e3 hl m h0 d hg;have k:decide ((s.size:Int)-a<n)=false:=by simpa using r
   have w1:IntKind.i64.wrap ((s.size:Int)-a)=(s.size:Int)-a:=IntWalk.i64_in _ oM;have y:decide ((n:Int)<0)=false:=sI;clear r;go_enter Tryz.func93,Tryz.ntmps93
   (go_wp2_with fail);refine(tP _ _ 0 c3 c2).mono ?_;rintro en w' ⟨rfl,rfl⟩;go_upto_region 6 with fail
   refine lX w ?_;intro f hS;have b1:=zJ c0;have b2:=zJ c1;refine lZ ?_;refine zC ?_;intro hS;clear f hS b1 b2 w1;go_upto_region 10 with fail
   have d0:(w.setCell ⟨g,1,none⟩ (.int .i64 ((a:Int)+n))).drew.cell? ⟨g,0,none⟩=some (.string s):=by go_simp
   have d1:(w.setCell ⟨g,1,none⟩ (.int .i64 ((a:Int)+n))).drew.cell? ⟨g,1,none⟩=some (.int .i64 ((a:Int)+n)):=by go_simp
   have B:(w.setCell ⟨g,1,none⟩ (.int .i64 ((a:Int)+n))).drew.heap[g]?=some (.cells (rdC ⟨s,(a+n:Nat),0,true⟩) 234 (0,0)):=by
    show(w.setCell ⟨g,1,none⟩ (.int .i64 ((a:Int)+n))).heap[g]?=_;rw[zA Hg.out];simp[rdC]
   have A:z6 [g] w (w.setCell ⟨g,1,none⟩ (.int .i64 ((a:Int)+n))).drew:=z6.trans (z6.setCell w ⟨g,1,none⟩ _) (z6.drew _) sI;have w2:IntKind.i64.wrap ((a:Int)+n-n)=a:=by rw[(oM:(a:Int)+n-n=a)];exact IntWalk.i64_in _ oM
   have w3:IntKind.i64.wrap (a:Int)=a:=IntWalk.i64_in _ oM;have t:s.extract a (a+n)=mkB (l.take n):=by
    rw[Hl.out];apply ByteArray.ext;apply Array.toList_inj.mp;rw[ByteArray.data_extract,Array.toList_extract];simp[mkB,List.extract_eq_take_drop]
   have E:=dH t;clear t c0 c1 c2 c3 f1 f2;have k1:(0:Int)<=(a:Int)+n:=oM;have k2:(a:Int)+n<=s.size:=oM;have k3:(a:Int)<=(a:Int)+n:=oM;have k4:((a:Int)+n).toNat=a+n:=oM;generalize (w.setCell ⟨g,1,none⟩ (.int .i64 ((a:Int)+n))).drew=W at *;refine lX W ?_;intro f hS;have b1:=zJ d0;have b2:=zJ d1;refine lZ ?_;refine zC ?_;intro hS;clear k1 k2 k3 k4 w2 w3;(go_wp2_with fail);go_ret;refine⟨n7 (by rw[E1.out];exact E.out),?_⟩;rw[E2.out,E3.out];exact⟨⟨s,a+n,D,hs,B,by rw[Hl.out,List.drop_drop]⟩,z6.trans A (z6.drew _) sI⟩
  ·have e1:yV n l 0 = []:=by unfold yV;rw[if_neg (λhh=>d hh.2)]
   have e2:zK n l 0=l:=by unfold zK;rw[if_neg (λhh=>d hh.2)]
   have e3:zM n l 0=2:=by unfold zM;rw[if_pos rfl,if_neg d]
   have E1:=dH e1;have E2:=dH e2;have E3:=dH e3;have k:decide ((s.size:Int)-a<n)=true:=sO;have Hl:=dH hl;have Hg:=dH hg;clear e1 e2 e3 hl m h0 d hg;have w1:IntKind.i64.wrap ((s.size:Int)-a)=(s.size:Int)-a:=IntWalk.i64_in _ oM;have y:decide ((n:Int)<0)=false:=sI;go_enter Tryz.func93,Tryz.ntmps93
   (go_wp2_with fail);refine(tP _ _ 0 c3 c2).mono ?_;rintro en w' ⟨rfl,rfl⟩;go_upto_region 6 with fail
   refine lX w ?_;intro f hS;have b1:=zJ c0;have b2:=zJ c1;refine lZ ?_;refine zC ?_;intro hS;clear f hS b1 b2 w1;(go_wp2_with fail);go_ret;refine⟨n7 (by rw[E1.out];rfl),?_⟩;rw[E2.out,E3.out];refine⟨⟨s,a,ha,hs,?_,Hl.out⟩,z6.trans (z6.setCell w ⟨g,2,none⟩ _) (z6.drew _) sI⟩;show(w.setCell ⟨g,2,none⟩ _).heap[g]?=_;rw[zA Hg.out];simp[rdC]
theorem hU(w:World)(g:Nat)(l:List UInt8)(e:Int)(h:q8 w g l e):Calls Tryz.prog 135 #[.pointer (some ⟨g,0,none⟩)] w λen w'=>en=.returned (.int .i64 (j4 l e))/\Below w.heap.size w w':=by
 have h0:=h;obtain⟨s,a,ha,hs,hg,hl⟩:=h;obtain⟨c0,c1,c2,c3,_⟩:=mC hg;have d:l.length=s.size-a:=by rw[hl,List.length_drop];rfl
 cases he:(e==0)with
 | false =>
  have j:e≠0:=by simpa using he
  have e1:j4 l e=e:=by unfold j4;rw[if_neg j]
  have E1:=dH e1;have r:(e != 0)=true:=by simpa using j
  clear e1 hl d j;go_enter Tryz.func135,Tryz.ntmps135
  (go_wp2_with fail);refine(qA _ _ _ _ h0).mono ?_;rintro en w' ⟨rfl,rfl⟩;go_upto_region 2 with fail
  refine lX w ?_;intro k hS;refine lZ ?_;refine zC ?_;intro hS;(go_wp2_with fail);go_ret;exact⟨yA (by rw[E1.out]),(Below.refl _ _).drew⟩
 | true =>
  obtain rfl:e=0:=by simpa using he
  clear he;by_cases hz:a=s.size
  ·have f:l = []:=List.eq_nil_of_length_eq_zero oM;have e1:j4 l 0=0:=by unfold j4;rw[if_pos rfl,if_pos f]
   have E1:=dH e1;have m:((a:Int)==(s.size:Int))=true:=by rw[beq_iff_eq,hz]
   clear e1 hl d f hz;go_enter Tryz.func135,Tryz.ntmps135
   (go_wp2_with fail);refine(qA _ _ _ _ h0).mono ?_;rintro en w' ⟨rfl,rfl⟩;go_upto_region 2 with fail
   refine lX w ?_;intro k hS;have b1:=zJ c0;have b2:=zJ c1;refine lZ ?_;refine zC ?_;intro hS;(go_wp2_with fail);go_ret;exact⟨yA (by rw[E1.out]),(Below.refl _ _).drew⟩
  ·have f:l≠[]:=by intro hh;rw[hh]at d;simp at d;omega
   have e1:j4 l 0=4:=by unfold j4;rw[if_pos rfl,if_neg f]
   have E1:=dH e1;have m:((a:Int)==(s.size:Int))=false:=by rw[beq_eq_false_iff_ne];omega
   clear e1 hl d f hz;go_enter Tryz.func135,Tryz.ntmps135
   (go_wp2_with fail);refine(qA _ _ _ _ h0).mono ?_;rintro en w' ⟨rfl,rfl⟩;go_upto_region 2 with fail
   refine lX w ?_;intro k hS;have b1:=zJ c0;have b2:=zJ c1;refine lZ ?_;refine zC ?_;intro hS;(go_wp2_with fail);go_ret;exact⟨yA (by rw[E1.out]),(Below.refl _ _).drew⟩
end Go.Proofs.YtgfpjjppeldhbaaGreatDoor
