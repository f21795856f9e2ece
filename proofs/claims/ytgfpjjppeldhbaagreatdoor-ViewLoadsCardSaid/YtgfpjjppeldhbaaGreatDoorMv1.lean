/- Part 1 of the texts that lead to this claim: the walks of the functions and the plain law, in order. -/
import Derived.Test.YtgfpjjppeldhbaaGreatDoorProg
import Derived.WalkKit
import Derived.WalkSpells
import Derived.WalkLawsBesides
import Derived.BigQuiet
import Derived.Deep.QuietTactic
import Derived.Lib.Hide
import Derived.Lib.ConvBytes
import Derived.Deep.DeepCutAuto
import Derived.Laws.AppendOwn
import Derived.Laws.OwnMore
import Derived.Stop.BytesEq
import Derived.Deep.Quiet
import Derived.StillTail
import Derived.DeepKeys5
import Derived.StringKeys
import Derived.Maps.OwnOps
import Derived.Maps.Range
import Derived.Lib.Bytealg
import Derived.ProofKit
import Derived.OpenShut
import Derived.JoinedCond
import Derived.Sort.Grow
namespace Go.Proofs.YtgfpjjppeldhbaaGreatDoor
open Go.RowKit
set_option maxRecDepth 100000
set_option maxHeartbeats 8000000
theorem d5{B:Nat}{a w:World}(h:Below B a w)(n:Nat):Below B a (w.drewN n):=⟨h.os,h.tape,h.output,h.size,h.block⟩
theorem tS{P:Program}{f:FuncId}{args:Array Value}{w:World}{n:Nat}{v:Value}
  (h:Calls P f args (w.drewN n) λe w'=>e = .returned v/\w.drewN n=w'):Calls P f args (w.drewN n) λe d=>e = .returned v/\∃m,d=w.drewN m :=
 h.mono λ_ _ ⟨he,hm⟩=>⟨he,n,hm.symm⟩
theorem yA{k:IntKind}{a b:Int}(h:a=b):Ending.returned (.int k a) = .returned (.int k b):=by rw[h]
def bt(s:ByteArray)(k:Nat):Int:=if h:k<s.size then((s[k]'h).toNat:Int)else 0
theorem mR{s:ByteArray}{k:Nat}(h:k<s.size):((s[k]'h).toNat:Int)=bt s k:=by unfold bt;rw[dif_pos h]
theorem vp(s:ByteArray)(k:Nat):0<=bt s k:=by unfold bt;split <;> omega
theorem yF{a b:Bool}(h:a=b):Ending.returned (.bool a) = .returned (.bool b):=by rw[h]
theorem n7{a b:ByteArray}(h:a=b):Ending.returned (.string a) = .returned (.string b):=by rw[h]
theorem toList_inj{a b:ByteArray}:a.toList=b.toList↔a=b:=by
 rw[ByteArray.toList_eq,ByteArray.toList_eq];exact⟨λh=>ByteArray.ext (Array.toList_inj.mp h),λh=>by rw[h]⟩
theorem yE{w w1 w2:World}(h:Below w.heap.size w w1)(k:Below w1.heap.size w1 w2):Below w.heap.size w w2:=h.trans (k.mono h.size)
section
open Go.RowKit
structure z6(S:List Nat)(w w':World):Prop where
 os:w'.os=w.os
 tape:w'.tape=w.tape
 output:w'.output=w.output
 size:w.heap.size<=w'.heap.size
 block:∀k,k<w.heap.size->k∉S->w'.heap[k]? = w.heap[k]?
theorem z6.refl(S:List Nat)(w:World):z6 S w w:=⟨rfl,rfl,rfl,Nat.le_refl _,λ_ _ _=>rfl⟩
theorem z6.trans{S S':List Nat}{a b c:World}(h:z6 S a b)(k:z6 S' b c)(hs:∀x∈S',x∈S\/a.heap.size<=x):z6 S a c :=
 ⟨k.os.trans h.os,k.tape.trans h.tape,k.output.trans h.output,Nat.le_trans h.size k.size,λi hi hn =>
  (k.block i (Nat.lt_of_lt_of_le hi h.size) (λhm=>(hs i hm).elim hn (by omega))).trans (h.block i hi hn)⟩
theorem z6.mono{S S':List Nat}{a b:World}(h:z6 S a b)(hs:∀x∈S,x∈S'\/a.heap.size<=x):z6 S' a b :=
 ⟨h.os,h.tape,h.output,h.size,λi hi hn=>h.block i hi (λhm=>(hs i hm).elim hn (by omega))⟩
theorem z6.alloc(w:World)(o:Obj):z6 [] w (w.alloc o):=⟨rfl,rfl,rfl,by simp,λk hk _=>Below.heap_alloc _ _ _ hk⟩
theorem z6.drew(w:World):z6 [] w w.drew:=⟨rfl,rfl,rfl,Nat.le_refl _,λ_ _ _=>rfl⟩
theorem z6.setCell(w:World)(p:Addr)(u:Value):z6 [p.block] w (w.setCell p u) :=
 ⟨rfl,rfl,rfl,by simp[World.setCell],λk _ hn=>Below.heap_setCell _ _ _ _ (by simpa using hn)⟩
theorem z6.below{B:Nat}{S:List Nat}{w w':World}(h:z6 S w w')(hB:B<=w.heap.size)(hs:∀x∈S,B<=x):Below B w w' :=
 ⟨h.os,h.tape,h.output,h.size,λk hk=>h.block k (by omega) (λhm=>by have:=hs k hm;omega)⟩
theorem z6.of_below{w w':World}(h:Below w.heap.size w w'):z6 [] w w':=⟨h.os,h.tape,h.output,h.size,λk hk _=>h.block k hk⟩
theorem z6.grown{w w':World}{row:Option Nat}(h:w.grownBy w' row):z6 row.toList w w' :=
 ⟨h.os,h.tape,h.output,h.size,λk hk hn=>h.block k hk (λe=>hn (by rw[<-e];simp))⟩
theorem z6.cell{S:List Nat}{w w':World}(h:z6 S w w'){p:Addr}(hp:p.block<w.heap.size)(hn:p.block∉S):w'.cell? p=w.cell? p:=World.cell?_of_block (w:=w) (h.block p.block hp hn)
theorem qz{S S':List Nat}{w:World}{q:Nat}(h:q∉S)(hq:q<w.heap.size)(hs:∀x∈S',x∈S\/w.heap.size<=x):q∉S' :=
 λhm=>(hs q hm).elim h (by omega)
def z7(w:World)(g o k:Nat):Option (Array Value) :=
 match w.heap[g]? with
 | some (.cells c _ _)=>if o+k<=c.size then some (c.extract o (o+k))else none
 | _=>none
def ldS(t:TypeId)(a:Addr):Sem Value:=loadVar t a
def bdS(t:TypeId)(parts:Array (Nat×Value)):Sem Value:=Instr.build t parts
def stS(t:TypeId)(a:Addr)(v:Value):Sem Unit:=storeVar t a v
theorem z9{w w':World}{g:Nat}(h:w'.heap[g]? = w.heap[g]?)(o k:Nat):z7 w' g o k=z7 w g o k:=by unfold z7;rw[h]
theorem z6.row{S:List Nat}{w w':World}(h:z6 S w w'){g:Nat}(hg:g<w.heap.size)(hn:g∉S)(o k:Nat):z7 w' g o k=z7 w g o k:=z9 (h.block g hg hn) o k
theorem zD{w:World}{g o k:Nat}{cs:Array Value}(h:z7 w g o k=some cs):g<w.heap.size:=by
 rcases Nat.lt_or_ge g w.heap.size with hl | hl
 ·exact hl
 ·unfold z7 at h;rw[Array.getElem?_eq_none hl]at h;cases h
theorem pE{w:World}{g o k:Nat}{cs:Array Value}(h:z7 w g o k=some cs):cs.size=k:=by
 unfold z7 at h;split at h
 ·split at h
  ·injection h with h;subst h;simp;omega
  ·cases h
 ·cases h
theorem z8{w:World}{g o k:Nat}{cs:Array Value}(h:z7 w g o k=some cs){j:Nat}(hj:j<k):w.cell? ⟨g,o+j,none⟩=cs[j]?:=by
 unfold z7 at h;split at h
 ·rename_i c t f hg
  split at h
  ·injection h with h;subst h
   simp only[World.cell?,hg,Option.isSome_none,Bool.false_eq_true,if_false,Array.getElem?_extract];rw[if_pos (by omega)]
  ·cases h
 ·cases h
theorem zX{w:World}{g o k:Nat}{cs:Array Value}(h:z7 w g o k=some cs){j m:Nat}(hj:j+m<=k):z7 w g (o+j) m=some (cs.extract j (j+m)):=by
 unfold z7 at h |-;split at h
 ·rename_i c t f hg
  split at h
  ·rename_i hle
   injection h with h;subst h
   rw[if_pos (by omega)];congr 1
   rw[Array.extract_extract];congr 1 <;> omega
  ·cases h
 ·cases h
@[simp,go_sem] theorem rowAt_drew(w:World)(g o k:Nat):z7 (w.drew) g o k=z7 w g o k:=rfl
@[simp,go_sem] theorem rowAt_drewN(w:World)(n g o k:Nat):z7 (w.drewN n) g o k=z7 w g o k:=rfl
@[go_sem] theorem rowAt_alloc(w:World)(c:Array Value)(e:TypeId)(fr:Nat×Nat)(g o k:Nat) :
  z7 (w.alloc (.cells c e fr)) g o k=if g=w.heap.size then(if o+k<=c.size then some (c.extract o (o+k))else none)else z7 w g o k:=by
 by_cases h:g=w.heap.size
 ·subst h;unfold z7;rw[heap_alloc_new];simp
 ·rw[if_neg h];refine z9 ?_ o k;show(w.heap.push _)[g]? = _;rw[Array.getElem?_push,if_neg h]
section
variable {P:Program}
theorem vZ{t:TypeId}{d:TypeDesc}{k:Nat}(hu:P.underlying t=some d)(hd:(match d with | .struct _ | .array _ _=>true | _=>false)=true)(hi:(P.info? t).map (·.size)=some k)(w:World)(g o:Nat) :
  (ldS t ⟨g,o,none⟩).run P w=match z7 w g o k with | some cs=>.ok (.agg cs) w | none=>(loadVar t ⟨g,o,none⟩).run P w:=by
 cases h:z7 w g o k with
 | none=>rfl
 | some cs =>
  have r:=pE h;have hl:(loadCells ⟨g,o,none⟩ cs.toList.length).run P w = .ok cs.toList.toArray w :=
   run_loadCells_list (P:=P) w ⟨g,o,none⟩ cs.toList (λj v hv=>by
    have m:(⟨g,o,none⟩:Addr).add j=⟨g,o+j,none⟩:=by unfold Addr.add;split <;> simp_all
    have hj:j<k:=by
     have:=(List.getElem?_eq_some_iff.1 hv).1;simp at this;omega
    rw[m,z8 h hj];simpa using hv)
  simp only[Array.length_toList,r]at hl;have f:(isAgg t).run P w = .ok true w:=by
   cases d <;> simp_all [isAgg,run_underlying hu]
  unfold ldS loadVar;simp only[Sem.run_bind,f,Result.andThen_ok];cases hinfo:P.info? t with
  | none=>rw[hinfo]at hi;cases hi
  | some i =>
   rw[hinfo]at hi;have hk:i.size=k:=by simpa using hi
   simp[sizeOf,typeInfo,hinfo,hk,hl]
theorem XY(w:World)(z c:Array Value)(e:TypeId)(fr:Nat×Nat):(w.alloc (.cells z e fr)).setRow w.heap.size c=w.alloc (.cells c e fr):=by
 show({ w with heap:=(w.heap.push (.cells z e fr)).modify w.heap.size _ }:World) = { w with heap:=w.heap.push (.cells c e fr) }
 congr 1
 apply Array.ext
 ·simp
 ·intro i h1 h2;simp only[Array.getElem_modify,Array.getElem_push];by_cases h:w.heap.size=i
  ·subst h;simp
  ·have hi:i<w.heap.size:=by simp at h1;omega
   simp[h,hi]
theorem qY{t e:TypeId}{k:Nat}(hi:(P.info? t).map (·.size)=some k)(w:World)(z cs:Array Value)(hz:z.size=k)(hc:cs.size=k)(h1:∀u∈cs.toList,u.oneCell'=true) :
  (stS t ⟨w.heap.size,0,none⟩ (.agg cs)).run P (w.alloc (.cells z e)) = .ok () (w.alloc (.cells cs e)):=by
 unfold stS storeVar;cases hinfo:P.info? t with
 | none=>rw[hinfo]at hi;cases hi
 | some i =>
  rw[hinfo]at hi;have hk:i.size=k:=by simpa using hi
  have d:=run_storeCells_at P w.heap.size 0 e cs.toList 0 z (w.alloc (.cells z e)) (heap_alloc_new w _) (by simp;omega) h1;have hE:(z.toList.take (0+0)++cs.toList++z.toList.drop (0+0+cs.toList.length)).toArray=cs:=by
   rw[List.drop_of_length_le (by simp;omega)]
   simp
  rw[hE,XY]at d;simp[Value.cells,sizeOf,typeInfo,hinfo,hk,hc];exact d
end
theorem bP(A B C:Array Value)(i j:Nat)(hi:A.size=i)(hj:i+B.size=j):(A++B++C).extract i j=B:=by
 subst hi;subst hj;rw[Array.append_assoc];apply Array.ext'
 simp
theorem qO(A C:Array Value)(v:Value)(i:Nat)(hi:A.size=i):(A ++ #[v]++C)[i]? = some v:=by
 subst hi;rw[Array.getElem?_append_left (by simp),Array.getElem?_append_right (by omega)]
 simp
theorem fold_seg(v:List Value):∀(A B C:List Value) (n:Nat),B.length=v.length ->
  (v.zipIdx n).foldl (fun (cs:Array Value) (p:Value×Nat)=>cs.setIfInBounds (A.length-n+p.2) p.1) (A++B++C).toArray=(A++v++C).toArray\/A.length<n:=by
 induction v with
 | nil=>intro A B C n h;left;have:B = []:=List.eq_nil_of_length_eq_zero h;subst this;rfl
 | cons u v ih =>
  intro A B C n h
  match B,h with
  | b :: B,h =>
   by_cases hn:A.length<n
   ·exact .inr hn
   ·left
    have h1:=ih (A ++ [u]) B C (n+1) (by simpa using h);rcases h1 with h1 | h1
    ·simp only[List.zipIdx_cons,List.foldl_cons];have e:(A++b :: B++C).toArray.setIfInBounds (A.length-n+n) u=(A ++ [u]++B++C).toArray:=by
      rw[Nat.sub_add_cancel (by omega)]
      simp
     rw[e];have e2:(A ++ [u]).length-(n+1)=A.length-n:=by simp
     rw[e2]at h1;rw[h1];simp
    ·simp at h1;omega
theorem yJ{d:Nat->Option (Nat×Nat)}{A B C:Array Value}{i off size:Nat}{v:Value}{f:List (Nat×Value)}(hp:d i=some (off,size))(hA:A.size=off)(hB:B.size=size)(hv:v.cells.size=size) :
  Instr.fill d (A++B++C) ((i,v) :: f)=Instr.fill d (A++v.cells++C) f:=by
 have hd:v.cells.zipIdx.foldl (fun (cs:Array Value) (p:Value×Nat)=>cs.setIfInBounds (off+p.2) p.1) (A++B++C)=A++v.cells++C:=by
  have:=fold_seg v.cells.toList A.toList B.toList C.toList 0 (by simp;omega);rcases this with h | h
  ·simp only[Array.length_toList,Nat.sub_zero,hA]at h;have eA:(A.toList++B.toList++C.toList).toArray=A++B++C:=by apply Array.ext';simp
   have eB:(A.toList++v.cells.toList++C.toList).toArray=A++v.cells++C:=by apply Array.ext';simp
   rw[eA,eB]at h;rw[<-Array.foldl_toList,Array.toList_zipIdx];exact h
  ·omega
 simp only[Instr.fill,hp];rw[if_neg (by simp[hv,hB,hA])];exact congrArg (λcs=>Instr.fill d cs f) hd
theorem qP{P:Program}{t:TypeId}(w:World)(hu:P.underlying t=some (.struct (P.fieldsOf t)))(z:Array Value)(hz:(zeroValue t).run P w = .ok (.agg z) w)(pl:Array (Nat×Nat))
  (d:((P.fieldsOf t).mapM fun (f:Field)=>do pure (f.offset,<-sizeOf f.type)).run P w = .ok pl w)(parts:List (Nat×Value))(cs:Array Value)(hf:Instr.fill (pl[·]?) z parts=some cs) :
  (Instr.build t parts.toArray).run P w = .ok (.agg cs) w:=by
 unfold Instr.build;simp only[Sem.run_bind,hz,Result.andThen_ok,run_underlying hu,d,Value.cells,hf,Sem.run_pure]
end
structure zE where
 l:List UInt8
 h:l.length=32
def vY(c:UInt8):Value:=.int .u8 c.toNat
def idC(x:zE):Array Value:=(x.l.map vY).toArray
theorem zE.ext'{a b:zE}(h:a.l=b.l):a=b:=by cases a;cases b;simp_all
instance:DecidableEq zE:=λa b=>if h:a.l=b.l then isTrue (zE.ext' h)else isFalse (λe=>h (by rw[e]))
@[simp] theorem kB(x:zE):(idC x).size=32:=by simp[idC,x.h]
theorem QI{a b:zE}(h:idC a=idC b):a=b:=by
 apply zE.ext';have h2:a.l.map vY=b.l.map vY:=by simpa[idC]using h
 have inj:∀x y:UInt8,vY x=vY y->x=y:=λx y e=>by
  unfold vY at e;injection e with _ e;exact UInt8.toNat_inj.1 (by omega)
 exact(List.map_inj_right inj).1 h2
def idB(x:zE)(i:Nat):Int:=((x.l.getD i 0).toNat:Int)
theorem idB_bd(x:zE)(i:Nat):0<=idB x i/\idB x i<=255:=by
 have:=(x.l.getD i 0).toNat_lt;unfold idB;omega
@[go_sem] theorem QJ(x:zE)(i:Nat):(idC x)[i]? = if i<32 then some (.int .u8 (idB x i))else none:=by
 by_cases h:i<32
 ·rw[if_pos h];have hl:i<x.l.length:=by rw[x.h];exact h
  simp[idC,idB,vY,List.getD,hl]
 ·rw[if_neg h];exact Array.getElem?_eq_none (by rw[kB];omega)
@[go_sem] theorem idC_getElem(x:zE)(i:Nat)(h:i<(idC x).size):(idC x)[i]'h = .int .u8 (idB x i):=by
 have h1:i<32:=by rw[kB]at h;exact h
 have h2:=QJ x i;rw[if_pos h1,Array.getElem?_eq_getElem h]at h2;exact Option.some.inj h2
@[go_sem] theorem idC_all(x:zE):(idC x).extract 0 32=idC x:=by
 have:=Array.extract_size (xs:=idC x);rwa [kB]at this
theorem xG(x:zE):∀u∈(idC x).toList,u.oneCell'=true:=by
 intro u hu;simp[idC]at hu;obtain⟨c,_,rfl⟩:=hu;rfl
def id0:zE:=⟨List.replicate 32 0,by simp⟩
section
theorem bU:(Tryz.prog.info? 39).map (·.size)=some 32:=by kernel_rfl
theorem KI(w:World):(zeroValue 39).run Tryz.prog w = .ok (.agg (idC id0)) w:=by
 have h:(Tryz.prog.info? 39).bind (·.zero)=some (.agg (idC id0)):=by kernel_rfl
 cases hi:Tryz.prog.info? 39 with
 | none=>rw[hi]at h;cases h
 | some i =>
  rw[hi]at h;have hz:i.zero=some (.agg (idC id0)):=h;simp[zeroValue,typeInfo,hi,hz]
attribute [go_sem ↓] KI
@[go_sem ↓] theorem loadId_rw(a:Addr):loadVar 39 a=ldS 39 a:=rfl
@[go_sem ↓] theorem storeId_rw(a:Addr)(v:Value):storeVar 39 a v=stS 39 a v:=rfl
@[go_sem] theorem loadId_run(w:World)(g o:Nat):(ldS 39 ⟨g,o,none⟩).run Tryz.prog w=match z7 w g o 32 with | some cs=>.ok (.agg cs) w | none=>(loadVar 39 ⟨g,o,none⟩).run Tryz.prog w :=
 vZ Tryz.underlying39 rfl bU w g o
@[go_sem] theorem storeId_run(w:World)(g:Nat)(hg:g=w.heap.size)(z:Array Value)(hz:z.size=32)(x:zE)(e:TypeId):(stS 39 ⟨g,0,none⟩ (.agg (idC x))).run Tryz.prog (w.alloc (.cells z e)) = .ok () (w.alloc (.cells (idC x) e)) :=
 hg ▸ qY bU w z (idC x) hz (kB x) (xG x)
theorem sizeByte(w:World):(sizeOf 5).run Tryz.prog w = .ok 1 w:=by
 have h:(Tryz.prog.info? 5).map (·.size)=some 1:=by kernel_rfl
 cases hi:Tryz.prog.info? 5 with
 | none=>rw[hi]at h;cases h
 | some i =>
  rw[hi]at h;have hk:i.size=1:=by simpa using h
  simp[sizeOf,typeInfo,hi,hk]
theorem QN(d:Nat)(x y:zE)(w:World):(Op.equalIn (d+2) 39 (.agg (idC x)) (.agg (idC y))).run Tryz.prog w = .ok (x==y) w:=by
 have e:∀z:zE,idC z=(z.l.map Extern.Stop.cell).toArray:=λ_=>rfl;have hb:(x.l==y.l)=(x==y):=by
  rw[Bool.eq_iff_iff];simp only[beq_iff_eq];exact⟨zE.ext',λh=>by rw[h]⟩
 rw[e x,e y,run_equalIn_bytes (P:=Tryz.prog) w d 39 5 32 Tryz.underlying39 Tryz.underlying5 sizeByte x.l y.l x.h y.h,hb]
@[go_sem ↓] theorem eqId_run(x y:zE)(w:World):(Op.equalIn 10000 39 (.agg (idC x)) (.agg (idC y))).run Tryz.prog w = .ok (x==y) w:=QN 9998 x y w
end
section
open Go.RowKit
def yO(cv:Bool)(o:Oper):Bool :=
 match o.op with
 | .call c=>(match c.callee with | .builtin .len=>false | .builtin .cap=>false | _=>true)
 | .alloc _ | .box _ _ | .buildSlice _ _ _ | .store _ _ _ | .insert _ _ _ _ | .mapUpdate _ _ _ _ | .mapEntry _ _ _ | .entryStore _ _ _ _ | .makeMap _ _ | .makeChan _ _ | .makeSlice _ _ _ | .range _ _ | .next _ _=>true
 | .convert _ _ _=>cv
 | _=>false
def jP(cv:Bool)(ops:Array Oper)(i:Nat):Bool:=((ops[i]?).map (yO cv)).getD false
def XP(md:Region.Mode)(ops:Array Oper)(j p:Nat):Bool :=
 match ops[j]? with
 | some oj=>oj.after.any λe=>Region.binds md e&&e.on==p
 | none=>false
def chainB(md:Region.Mode)(cv:Bool)(ops:Array Oper):Bool :=
 (List.range ops.size).all λj=>!jP cv ops j||(match (List.range j).reverse.find? (jP cv ops)with | some p=>XP md ops j p | none=>true)
section
variable {P:Program} {ops:Array Oper} {md:Region.Mode} {S:World->Prop} {cv fb:Bool}
def jU(w:World)(v:Value):Result Next->Prop
 | .ok (.value u) w'=>w'=w/\u=v
 | .ok .skip w'=>w'=w/\v=undef
 | _=>False
theorem ZV{w:World}{v u:Value}{r:Result Next}(h:jU w v r)(k:jU w u r):v=u:=by
 cases r with
 | ok n w'=>cases n <;> simp only[jU]at h k <;> first | exact h.2.symm.trans k.2 | exact h.2.trans k.2.symm | exact h.elim
 | halt x w'=>exact h.elim
def qI(P:Program)(S:World->Prop)(K:Value->World->Prop):Result Next->Prop
 | .ok (.value u) w'=>S w'/\K u w'
 | .ok .skip w'=>S w'/\K undef w'
 | .ok (.enter f args) w'=>Calls P f args w' (λe w''=>∃v,e = .returned v/\S w''/\K v w'')
 | _=>False
theorem gE{K K':Value->World->Prop}{r:Result Next}(hk:∀v w,S w->K v w->K' v w)(h:qI P S K r):qI P S K' r:=by
 cases r with
 | ok n w' =>
  cases n <;> simp only[qI]at h |-
  case value u=>exact⟨h.1,hk _ _ h.1 h.2⟩
  case skip=>exact⟨h.1,hk _ _ h.1 h.2⟩
  case enter f args=>exact h.mono λe d ⟨v,he,hs,h2⟩=>⟨v,he,hs,hk _ _ hs h2⟩
 | halt x w'=>exact h.elim
theorem kC{S':World->Prop}{K K':Value->World->Prop}{r:Result Next}(hs:∀w,S w->S' w)(hk:∀v w,S w->K v w->K' v w)(h:qI P S K r):qI P S' K' r:=by
 cases r with
 | ok n w' =>
  cases n <;> simp only[qI]at h |-
  case value u=>exact⟨hs _ h.1,hk _ _ h.1 h.2⟩
  case skip=>exact⟨hs _ h.1,hk _ _ h.1 h.2⟩
  case enter f args=>exact h.mono λe g ⟨v,he,d,h2⟩=>⟨v,he,hs _ d,hk _ _ d h2⟩
 | halt x w'=>exact h.elim
theorem pB{K:Value->World->Prop}{r:Result Next}(h:qI P S K r):∃v w,S w/\K v w:=by
 cases r with
 | ok n w' =>
  cases n <;> simp only[qI]at h
  case value u=>exact⟨_,_,h.1,h.2⟩
  case skip=>exact⟨_,_,h.1,h.2⟩
  case enter f args =>
   obtain⟨e,d,fr,⟨v,_,hs,hk⟩,_⟩:=h [];exact⟨v,d,hs,hk⟩
 | halt x w'=>exact h.elim
def cls(ops:Array Oper)(S:World->Prop)(fb:Bool)(i:Nat):World->Prop:=λw=>S w\/(fb=true/\i+1=ops.size)
def VS(md:Region.Mode)(ops:Array Oper):Bool:=decide (0<ops.size)&&Region.sinkB md ops (ops.size-1)
def lxOp(P:Program)(ops:Array Oper)(S:World->Prop)(cv fb:Bool)(i:Nat)(K:Act->World->Prop)(a:Act)(w:World):Prop :=
 match ops[i]? with
 | none=>K a w
 | some o =>
  if Region.wanted o (yielded ops a.tmps)then
   (if yO cv o then qI P (cls ops S fb i) (λv w'=>K (a.put o.dst v) w') ((execOp a.eval o).run P w)
    else ∃v,(∀w',S w'->jU w' v ((execOp a.eval o).run P w'))/\K (a.put o.dst v) w)
  else K (a.put o.dst undef) w
theorem jf{i:Nat}{a:Act}{w:World}{K K':Act->World->Prop}(hS:S w)(h:∀a w,cls ops S fb i w->K a w->K' a w)(hh:lxOp P ops S cv fb i K a w):lxOp P ops S cv fb i K' a w:=by
 have d:cls ops S fb i w:=.inl hS;unfold lxOp at *;split
 ·exact h _ _ d (by simpa[*]using hh)
 ·rename_i o ho
  simp only[ho]at hh;split
  ·rename_i hw
   rw[if_pos hw]at hh;split
   ·rename_i hc;rw[if_pos hc]at hh;exact gE (λv w hs hk=>h _ _ hs hk) hh
   ·rename_i hc;rw[if_neg hc]at hh;obtain⟨v,h1,h2⟩:=hh;exact⟨v,h1,h _ _ d h2⟩
  ·rename_i hw;rw[if_neg hw]at hh;exact h _ _ d hh
def d7(P:Program)(md:Region.Mode)(ops:Array Oper)(S:World->Prop)(cv fb:Bool)(Q:Act->World->Prop):Nat->Array Bool->Act->World->Prop
 | 0,listed,a,w=>Region.ready md ops listed = []/\Q a w
 | fuel+1,listed,a,w =>
  (Region.ready md ops listed = []->Q a w) /\
  ∀i∈Region.ready md ops listed,lxOp P ops S cv fb i (d7 P md ops S cv fb Q fuel (listed.setIfInBounds i true)) a w
theorem XO{Q':Exit->Act->World->Prop}{i:Nat}{a:Act}{w:World}{K K':Act->World->Prop}(hS:S w)(h:∀a w,cls ops S fb i w->K a w->K' a w)(hh:lxOp P ops S cv fb i K a w):wpOp P ops Q' i K' a w:=by
 have d:cls ops S fb i w:=.inl hS;unfold lxOp at hh;unfold wpOp;split
 ·rename_i ho;simp only[ho]at hh;exact h _ _ d hh
 ·rename_i o ho
  simp only[ho]at hh;split
  ·rename_i hw
   rw[if_pos hw]at hh;refine .inl ?_;unfold Oper.wp;split at hh
   ·generalize (execOp a.eval o).run P w=r at *;cases r with
    | ok n w' =>
     cases n <;> simp only[qI]at hh <;> simp only[Oper.upon]
     case value u=>exact h _ _ hh.1 hh.2
     case skip=>exact h _ _ hh.1 hh.2
     case enter f args=>exact hh.mono λe g ⟨v,he,hs,hk⟩=>by subst he;exact h _ _ hs hk
    | halt x w'=>exact hh.elim
   ·obtain⟨v,h1,h2⟩:=hh;have h3:=h1 w hS;generalize (execOp a.eval o).run P w=r at *;cases r with
    | ok n w' =>
     cases n <;> simp only[jU]at h3 <;> simp only[Oper.upon]
     case value u=>obtain⟨e1,e2⟩:=h3;rw[e1,e2];exact h _ _ d h2
     case skip=>obtain⟨e1,e2⟩:=h3;rw[e1,<-e2];exact h _ _ d h2
    | halt x w'=>exact h3.elim
  ·rename_i hw;rw[if_neg hw]at hh;exact h _ _ d hh
structure kI(md:Region.Mode)(ops:Array Oper)(fb:Bool)(listed:Array Bool):Prop where
 inv:fb=true->VS md ops=true/\(HeadInv md ops (ops.size-1) listed\/Region.ready md ops listed = [])
theorem kI.end_{d:Array Bool}(h:kI md ops fb d)(k:fb=true){i:Nat}(hi:i∈Region.ready md ops d)(he:i+1=ops.size):∀j∈Region.ready md ops d,j=i:=by
 obtain⟨hB,h1⟩:=h.inv k;rcases h1 with h1 | h1
 ·intro j hj;simp only[VS,Bool.and_eq_true,decide_eq_true_eq]at hB;obtain⟨f,oj,g,_⟩:=mem_ready.1 hj;have s:j<ops.size:=(Array.getElem?_eq_some_iff.1 g).1;rcases Nat.lt_or_ge j i with r | y
  ·exfalso
   have m:Region.chainB md ops (ops.size-1)=true:=by
    unfold Region.chainB;rw[List.all_eq_true];intro t ht;have:=List.mem_range.1 ht
    simp;left;omega
   exact tail_waits hB.2 m (by omega) h1 (ops.size-1-j) j rfl (by omega) f i (by omega) hi
  ·omega
 ·rw[h1]at hi;cases hi
theorem kI.set{d:Array Bool}(h:kI md ops fb d){i:Nat}(hi:i∈Region.ready md ops d):kI md ops fb (d.setIfInBounds i true):=by
 refine⟨λg=>?_⟩;obtain⟨hB,h1⟩:=h.inv g;refine⟨hB,?_⟩;rcases h1 with h1 | h1
 ·by_cases he:i+1=ops.size
  ·right
   have D:=h.end_ g hi he;apply List.eq_nil_iff_forall_not_mem.2;intro j hj;obtain⟨f,oj,r,k⟩:=mem_ready.1 hj;have y:j<ops.size:=(Array.getElem?_eq_some_iff.1 r).1;have A:j≠i:=by
    rintro rfl;have m:j<d.size:=by rw[h1.size];exact y
    simp[m]at f
   simp only[VS,Bool.and_eq_true,decide_eq_true_eq]at hB;have B:Region.chainB md ops (ops.size-1)=true:=by
    unfold Region.chainB;rw[List.all_eq_true];intro t ht;have:=List.mem_range.1 ht
    simp;left;omega
   rw[getD_set_ne true (Ne.symm A)]at f;exact tail_waits hB.2 B (by omega) h1 (ops.size-1-j) j rfl (by omega) f i (by omega) hi
  ·left
   obtain⟨_,oi,s,_⟩:=mem_ready.1 hi;have E:i<ops.size:=(Array.getElem?_eq_some_iff.1 s).1;exact h1.set hi (by omega)
 ·rw[h1]at hi;cases hi
theorem kI.cls{d:Array Bool}{w:World}(h:kI md ops fb d){i j:Nat}(hi:i∈Region.ready md ops d)(hj:j∈Region.ready md ops d)(f:j≠i)(hc:cls ops S fb j w):S w:=by
 rcases hc with hc | ⟨g,he⟩
 ·exact hc
 ·exact absurd (h.end_ g hj he i hi).symm f
theorem dT{Q:Act->World->Prop}{Q':Exit->Act->World->Prop}(hQ:∀a w,(S w\/fb=true)->Q a w->Q' .normal a w):∀(fuel:Nat) (listed:Array Bool) (a:Act) (w:World),kI md ops fb listed->(S w\/(fb=true/\Region.ready md ops listed = [])) ->
  d7 P md ops S cv fb Q fuel listed a w->wpAny P md ops Q' fuel listed a w
 | 0,_,_,_,_,hS,h=>⟨h.1,hQ _ _ (hS.imp id (·.1)) h.2⟩
 | fuel+1,listed,_,_,hI,hS,h=>⟨λh0=>hQ _ _ (hS.imp id (·.1)) (h.1 h0),λi hi=>by
   rcases hS with hS | ⟨_,h0⟩
   ·refine XO hS (λa' w' f=>dT hQ fuel _ a' w' (hI.set hi) ?_) (h.2 i hi);rcases f with f | ⟨g,he⟩
    ·exact .inl f
    ·right
     refine⟨g,?_⟩;rcases ((hI.set hi).inv g).2 with h1 | h1
     ·exfalso
      have:=h1.tail i (by omega) (by omega);have j:i<(listed.setIfInBounds i true).size:=by rw[h1.size];omega
      have d:i<listed.size:=by simpa using j
      simp[d]at this
     ·exact h1
   ·rw[h0]at hi;cases hi⟩
def vK(P:Program)(ops:Array Oper)(S:World->Prop)(cv:Bool)(o:Oper)(v:Value)(a:Act):Prop :=
 (Region.wanted o (yielded ops a.tmps)=true/\yO cv o=false/\∀w,S w->jU w v ((execOp a.eval o).run P w)) \/
 (Region.wanted o (yielded ops a.tmps)=false/\v=undef)
theorem vK.lxOp{i:Nat}{o:Oper}{v:Value}{a:Act}{w:World}(hi:ops[i]? = some o)(hy:vK P ops S cv o v a){K:Act->World->Prop}(h:K (a.put o.dst v) w):lxOp P ops S cv fb i K a w:=by
 unfold Proofs.YtgfpjjppeldhbaaGreatDoor.lxOp;simp only[hi];rcases hy with⟨hw,hc,hv⟩ | ⟨hw,rfl⟩
 ·rw[if_pos hw,hc];exact⟨v,hv,h⟩
 ·rw[if_neg (by rw[hw];simp)];exact h
theorem vK.of_same{o:Oper}{v:Value}{a a':Act}(hy:vK P ops S cv o v a)(he:execOp a'.eval o=execOp a.eval o)
  (hw:Region.wanted o (yielded ops a'.tmps)=Region.wanted o (yielded ops a.tmps)):vK P ops S cv o v a':=by
 unfold vK at *;rw[he,hw];exact hy
theorem vK.uniq{o:Oper}{v u:Value}{a:Act}{w:World}(hS:S w)(h:vK P ops S cv o v a)(k:vK P ops S cv o u a):v=u:=by
 rcases h with⟨h1,_,h2⟩ | ⟨h1,h2⟩ <;> rcases k with⟨k1,_,k2⟩ | ⟨k1,k2⟩
 ·exact ZV (h2 w hS) (k2 w hS)
 ·rw[h1]at k1;cases k1
 ·rw[h1]at k1;cases k1
 ·rw[h2,k2]
theorem lxOp_put{j:Nat}{oi oj:Oper}{v:Value}(hj:ops[j]? = some oj)(g:oi.apart ops oj=true)
  (f:∀cs b,oi.op≠.select cs b)(d:∀cs b,oj.op≠.select cs b){K:Act->World->Prop}{a:Act}{w:World}
  (hy:vK P ops S cv oi v a)(h:lxOp P ops S cv fb j K (a.put oi.dst v) w) :
  lxOp P ops S cv fb j (λa' w'=>vK P ops S cv oi v a'/\K (a'.put oi.dst v) w') a w:=by
 obtain⟨h1,h2,h3⟩:=Oper.apart_spec g;have keep:∀(a:Act),vK P ops S cv oi v a->∀u,vK P ops S cv oi v (a.put oj.dst u):=λa hy u =>
  hy.of_same (execOp_put oi f a oj.dst u h3) (wanted_put oi a oj.dst u h3)
 unfold lxOp at *;simp only[hj]at *;rw[wanted_put oj a oi.dst v h1,execOp_put oj d a oi.dst v h1]at h;split
 ·rename_i hw
  rw[if_pos hw]at h;split
  ·rename_i hc
   rw[if_pos hc]at h;exact gE (λu w' _ hk=>⟨keep a hy u,by rw[<-Act.put_comm a v u h2];exact hk⟩) h
  ·rename_i hc
   rw[if_neg hc]at h;obtain⟨u,hu,hk⟩:=h;exact⟨u,hu,keep a hy u,by rw[<-Act.put_comm a v u h2];exact hk⟩
 ·rename_i hw
  rw[if_neg hw]at h;exact⟨keep a hy _,by rw[<-Act.put_comm a v undef h2];exact h⟩
theorem gF{Q:Act->World->Prop}{i:Nat}{oi:Oper}{v:Value}(hi:ops[i]? = some oi)(s:∀(j:Nat) (o:Oper) cs b,ops[j]? = some o->o.op≠.select cs b) :
  ∀(f:Nat) (d:Array Bool) (a:Act) (w:World),kI md ops fb d->S w ->
   (∀j oj,ops[j]? = some oj->j≠i->d.getD j true=false->(∀e∈oj.after,Region.binds md e=true->e.on≠i)->oi.apart ops oj=true) ->
   i∈Region.ready md ops d->vK P ops S cv oi v a ->
   d7 P md ops S cv fb Q f (d.setIfInBounds i true) (a.put oi.dst v) w->d7 P md ops S cv fb Q (f+1) d a w:=by
 intro f;induction f with
 | zero =>
  intro d a w _ _ _ hr hy H;refine⟨λh=>(by rw[h]at hr;cases hr),λj hj=>?_⟩;by_cases g:j=i
  ·subst g;exact hy.lxOp hi H
  ·have:=ready_mono hj g;rw[H.1]at this;cases this
 | succ f ih =>
  intro d a w hI hS m hr hy H;refine⟨λh=>(by rw[h]at hr;cases hr),λj hj=>?_⟩;by_cases g:j=i
  ·subst g;exact hy.lxOp hi H
  ·have h1:=H.2 j (ready_mono hj g);obtain⟨t,oj,y,B⟩:=mem_ready.1 hj;have A:∀e∈oj.after,Region.binds md e=true->e.on≠i:=λe he hb I=>by
    have h1:=B e he hb;have h0:=(mem_ready.1 hr).1;rw[I]at h1;rcases Nat.lt_or_ge i d.size with h' | h'
    ·simp[h']at h0 h1;rw[h0]at h1;cases h1
    ·simp[Array.getElem?_eq_none h']at h1
   have h2:=lxOp_put y (m j oj y g t A) (λcs b=>s i oi cs b hi) (λcs b=>s j oj cs b y) hy h1;have r:∀k ok,ops[k]? = some ok->k≠i->(d.setIfInBounds j true).getD k true=false ->
     (∀e∈ok.after,Region.binds md e=true->e.on≠i)->oi.apart ops ok=true:=λk ok hk G D F=>by
    refine m k ok hk G ?_ F;by_cases E:j=k
    ·subst E;exact t
    ·rw[getD_set_ne true E]at D;exact D
   refine jf hS (λa' w' J h3=>ih (d.setIfInBounds j true) a' w' (hI.set hj) (hI.cls hr hj g J) r (ready_mono hr (Ne.symm g)) h3.1 ?_) h2;rw[Array.setIfInBounds_comm _ _ g];exact h3.2
theorem Y3{Q:Act->World->Prop}{i:Nat}{oi:Oper}(hi:ops[i]? = some oi)(hc:yO cv oi=true)(D:∀(j:Nat) (o:Oper) cs b,ops[j]? = some o->o.op≠.select cs b)
  (a7:chainB md cv ops=true) :
  ∀(f:Nat) (d:Array Bool) (a:Act) (w:World),kI md ops fb d->S w ->
   (∀j oj,ops[j]? = some oj->j≠i->d.getD j true=false->(∀e∈oj.after,Region.binds md e=true->e.on≠i)->oi.apart ops oj=true) ->
   (∀j,jP cv ops j=true->(j<i->d.getD j true=true)/\(i<=j->d.getD j false=false)) ->
   i∈Region.ready md ops d->Region.wanted oi (yielded ops a.tmps)=true ->
   qI P (cls ops S fb i) (λv w'=>d7 P md ops S cv fb Q f (d.setIfInBounds i true) (a.put oi.dst v) w') ((execOp a.eval oi).run P w)->d7 P md ops S cv fb Q (f+1) d a w:=by
 have key:∀(d:Array Bool),(∀j,jP cv ops j=true->(j<i->d.getD j true=true)/\(i<=j->d.getD j false=false)) ->
   ∀j∈Region.ready md ops d,j≠i->∀oj,ops[j]? = some oj->yO cv oj=false:=by
  intro d g j hj t oj m;cases G:yO cv oj with
  | false=>rfl
  | true =>
   exfalso
   have I:jP cv ops j=true:=by unfold jP;rw[m];exact G
   have y:jP cv ops i=true:=by unfold jP;rw[hi];exact hc
   obtain⟨r,o',a0,B⟩:=mem_ready.1 hj;obtain⟨i1,i2⟩:=g j I;rcases Nat.lt_or_ge j i with T | b3
   ·rw[i1 T]at r;cases r
   ·have b2:i<j:=by omega
    have a5:j<ops.size:=(Array.getElem?_eq_some_iff.1 m).1;have h1:=List.all_eq_true.1 a7 j (List.mem_range.2 a5);rw[I]at h1;simp only[Bool.not_true,Bool.false_or]at h1;cases hf:(List.range j).reverse.find? (jP cv ops)with
    | none =>
     have:=List.find?_eq_none.1 hf i (by simp;omega);exact this y
    | some p =>
     rw[hf]at h1;have U:jP cv ops p=true:=List.find?_some hf;have Z:i<=p:=by
      rcases Nat.lt_or_ge p i with T | O
      ·exfalso
       have M:(List.range j).reverse=((List.range j).reverse.take (j-1-i))++(i :: (List.range j).reverse.drop (j-i)):=by
        apply List.ext_getElem?;intro n;have a2:((List.range j).reverse.take (j-1-i)).length=j-1-i:=by simp;omega
        by_cases b1:n<j-1-i
        ·rw[List.getElem?_append_left (by omega),List.getElem?_take,if_pos b1]
        ·rw[List.getElem?_append_right (by omega),a2];by_cases b0:n=j-1-i
         ·subst b0;rw[Nat.sub_self,List.getElem?_cons_zero,List.getElem?_reverse (by simp;omega)];simp only[List.length_range];rw[List.getElem?_range (by omega)];congr 1;omega
         ·have:n-(j-1-i)=(n-(j-i))+1:=by omega
          rw[this,List.getElem?_cons_succ,List.getElem?_drop];congr 1;omega
       rw[M,List.find?_append]at hf;cases ht:((List.range j).reverse.take (j-1-i)).find? (jP cv ops)with
       | some q =>
        rw[ht]at hf;have e:q=p:=by simpa using hf
        subst e;have hm:=List.mem_of_find?_eq_some ht;obtain⟨n,hn,hq⟩:=List.mem_iff_getElem.1 hm;simp only[List.getElem_take,List.getElem_reverse,List.getElem_range,List.length_range]at hq;simp at hn;omega
       | none =>
        rw[ht]at hf;simp only[Option.none_or,List.find?_cons,y]at hf;have e:i=p:=by simpa using hf
        omega
      ·exact O
     unfold XP at h1;rw[m]at h1;obtain⟨e,he,hb⟩:=Array.any_eq_true'.1 h1;simp only[Bool.and_eq_true,beq_iff_eq]at hb;have e2:o'=oj:=Option.some.inj (a0.symm.trans m);subst e2;have h3:=B e he hb.1;rw[hb.2,(g p U).2 Z]at h3;cases h3
 intro f;induction f with
 | zero =>
  intro d a w hI hS s g hr hw H;refine⟨λh=>(by rw[h]at hr;cases hr),λj hj=>?_⟩;by_cases t:j=i
  ·subst t;unfold lxOp;simp only[hi];rw[if_pos hw,if_pos hc];exact H
  ·obtain⟨v,w',_,hK⟩:=pB H;have:=ready_mono hj t;rw[hK.1]at this;cases this
 | succ f ih =>
  intro d a w hI hS s g hr hw H;refine⟨λh=>(by rw[h]at hr;cases hr),λj hj=>?_⟩;by_cases t:j=i
  ·subst t;unfold lxOp;simp only[hi];rw[if_pos hw,if_pos hc];exact H
  ·obtain⟨r,oj,m,B⟩:=mem_ready.1 hj;have G:=key d g j hj t oj m;have N:∀e∈oj.after,Region.binds md e=true->e.on≠i:=λe he hb a6=>by
    have h1:=B e he hb;have h0:=(mem_ready.1 hr).1;rw[a6]at h1;rcases Nat.lt_or_ge i d.size with h' | h'
    ·simp[h']at h0 h1;rw[h0]at h1;cases h1
    ·simp[Array.getElem?_eq_none h']at h1
   have a8:=s j oj m t r N;obtain⟨h1,h2,h3⟩:=Oper.apart_spec a8;have Y:=λcs b=>D i oi cs b hi;have X:=λcs b=>D j oj cs b m;have J:∀u w',True->d7 P md ops S cv fb Q (f+1) (d.setIfInBounds i true) (a.put oi.dst u) w' ->
     ∃v,vK P ops S cv oj v a/\d7 P md ops S cv fb Q f ((d.setIfInBounds i true).setIfInBounds j true) ((a.put oi.dst u).put oj.dst v) w':=by
    intro u w' _ hK;have hx:=hK.2 j (ready_mono hj t);unfold lxOp at hx;simp only[m]at hx;rw[wanted_put oj a oi.dst u h1,execOp_put oj X a oi.dst u h1,G]at hx;by_cases L:Region.wanted oj (yielded ops a.tmps)=true
    ·rw[if_pos L]at hx;obtain⟨v,hv,hk⟩:=hx;exact⟨v,.inl ⟨L,G,hv⟩,hk⟩
    ·rw[if_neg L]at hx;exact⟨undef,.inr ⟨by simpa using L,rfl⟩,hx⟩
   obtain⟨u0,w0,b4,a9⟩:=pB H;obtain⟨v,hy,_⟩:=J u0 w0 trivial a9;refine hy.lxOp m ?_;have A:∀k ok,ops[k]? = some ok->k≠i->(d.setIfInBounds j true).getD k true=false ->
     (∀e∈ok.after,Region.binds md e=true->e.on≠i)->oi.apart ops ok=true:=λk ok hk a3 R a1=>by
    refine s k ok hk a3 ?_ a1;by_cases E:j=k
    ·subst E;exact r
    ·rw[getD_set_ne true E]at R;exact R
   have F:∀k,jP cv ops k=true->(k<i->(d.setIfInBounds j true).getD k true=true)/\(i<=k->(d.setIfInBounds j true).getD k false=false):=λk hk=>by
    have E:j≠k:=by
     rintro rfl;have:jP cv ops j=yO cv oj:=by unfold jP;rw[m];rfl
     rw[this,G]at hk;cases hk
    rw[getD_set_ne true E,getD_set_ne false E];exact g k hk
   refine ih (d.setIfInBounds j true) _ w (hI.set hj) hS A F (ready_mono hr (Ne.symm t)) ?_ ?_
   ·rw[wanted_put oi a oj.dst v h3];exact hw
   ·rw[execOp_put oi Y a oj.dst v h3];refine gE (λu w' hs hk=>?_) H;obtain⟨v',V,a4⟩:=J u w' trivial hk;obtain rfl:=vK.uniq hS hy V;rw[Array.setIfInBounds_comm _ _ t,<-Act.put_comm a u v h2];exact a4
def ZK(P:Program)(ops:Array Oper)(S:World->Prop)(cv fb:Bool)(Q:Act->World->Prop):List Oper->Act->World->Prop
 | [],a,w=>Q a w
 | o :: rest,a,w =>
  if Region.wanted o (yielded ops a.tmps)then
   (if yO cv o then S w->qI P (λw'=>S w'\/(fb=true/\rest = [])) (λv w'=>ZK P ops S cv fb Q rest (a.put o.dst v) w') ((execOp a.eval o).run P w)
    else ∃v,(∀w',S w'->jU w' v ((execOp a.eval o).run P w'))/\ZK P ops S cv fb Q rest (a.put o.dst v) w)
  else ZK P ops S cv fb Q rest (a.put o.dst undef) w
theorem dU{Q:Act->World->Prop}(hs:Region.noSelect ops=true)(m:chainB md cv ops=true):∀(l:List Oper) (k:Nat) (listed:Array Bool) (a:Act) (w:World),kI md ops fb listed->S w->(∀j,l[j]? = ops[k+j]?) ->
  (∀j,j<ops.size->listed[j]? = some (decide (j<k))) ->
  Region.lexFrom md ops l.length k listed=true->ZK P ops S cv fb Q l a w->d7 P md ops S cv fb Q l.length listed a w
 | [],_,_,_,_,_,_,_,_,hB,h=>⟨by simpa[Region.lexFrom]using hB,h⟩
 | o :: l,k,listed,a,w,hI,hS,hl,hlst,hB,h=>by
  have h0:ops[k]? = some o:=by simpa using(hl 0).symm
  have hk:k<ops.size:=(Array.getElem?_eq_some_iff.1 h0).1;simp only[List.length_cons,Region.lexFrom,Bool.and_eq_true]at hB;obtain⟨⟨hr,hf⟩,r⟩:=hB;have g:k∈Region.ready md ops listed:=by simpa using hr
  have y:∀j,l[j]? = ops[k+1+j]?:=λj=>(by have:=hl (j+1);simpa[Nat.add_assoc,Nat.add_comm 1 j]using this);have f:∀j,j<ops.size->(listed.setIfInBounds k true)[j]? = some (decide (j<k+1)):=by
   intro j hj;by_cases e:k=j
   ·subst e;have E:k<listed.size:=by
     rcases Nat.lt_or_ge k listed.size with h' | h'
     ·exact h'
     ·have:=hlst k hk;rw[Array.getElem?_eq_none h']at this;cases this
    rw[Array.getElem?_setIfInBounds_self_of_lt E];simp
   ·rw[Array.getElem?_setIfInBounds_ne e,hlst j hj];have:decide (j<k)=decide (j<k+1):=by
     rw[Bool.eq_iff_iff];simp only[decide_eq_true_eq];omega
    rw[this]
  have A:∀j,jP cv ops j=true->(j<k->listed.getD j true=true)/\(k<=j->listed.getD j false=false):=by
   intro j hj;have G:j<ops.size:=by
    rcases Nat.lt_or_ge j ops.size with h' | h'
    ·exact h'
    ·unfold jP at hj;rw[Array.getElem?_eq_none h']at hj;cases hj
   have e:=hlst j G;have ed:∀d,listed.getD j d=decide (j<k):=λd=>by
    simp[e]
   refine⟨λF=>by rw[ed];simpa using F,λH=>by rw[ed];simpa using H⟩
  unfold ZK at h;have B:=Region.free_spec h0 hf;by_cases hw:Region.wanted o (yielded ops a.tmps)=true
  ·rw[if_pos hw]at h;cases hc:yO cv o with
   | true =>
    rw[hc,if_pos rfl]at h;refine Y3 h0 hc (Region.noSelect_spec hs) m l.length listed a w hI hS B A g hw
     (kC (λw' s=>?_) (λv w' t D=>?_) (h hS))
    ·rcases s with s | ⟨e1,e2⟩
     ·exact .inl s
     ·right
      subst e2;have:=hl 1;simp at this;exact⟨e1,by have:=this;omega⟩
    ·rcases t with t | ⟨e1,e2⟩
     ·exact dU hs m l (k+1) _ _ w' (hI.set g) t y f r D
     ·subst e2;exact⟨by simpa[Region.lexFrom]using r,D⟩
   | false =>
    rw[hc]at h;obtain⟨v,hv,hK⟩:=h;exact gF h0 (Region.noSelect_spec hs) l.length listed a w hI hS B g (.inl ⟨hw,hc,hv⟩)
     (dU hs m l (k+1) _ _ w (hI.set g) hS y f r hK)
  ·rw[if_neg hw]at h;exact gF h0 (Region.noSelect_spec hs) l.length listed a w hI hS B g (.inr ⟨by simpa using hw,rfl⟩)
    (dU hs m l (k+1) _ _ w (hI.set g) hS y f r h)
structure pC(P:Program)(ops:Array Oper)(S:World->Prop)(cv fb:Bool)(Q:Act->World->Prop)(l:List Oper)(a:Act)(w:World):Prop where
 out:ZK P ops S cv fb Q l a w
theorem bE{id:Nat}{Q:Exit->Act->World->Prop}{a:Act}{w:World}{l:List Oper}(S:World->Prop)(cv:Bool)(hm:P.follows .mixedOrders=true)(hB:Region.lexB .any l.toArray=true)(hC:chainB .any cv l.toArray=true)(hS:S w.drew)
  (h:pC P l.toArray S cv false (λa' w'=>S w'->Q .normal a' w') l a w.drew):(Code.region id l.toArray true).wp P Q a w:=by
 simp only[Region.lexB,Bool.and_eq_true]at hB;have hI:kI .any l.toArray false (Array.replicate l.toArray.size false):=⟨by simp⟩
 refine wp_region_any hm (dT (S:=S) (cv:=cv) (fb:=false) (Q:=λa' w'=>S w'->Q .normal a' w') (λ_ w' d h=>h (d.elim (λh=>h) (by simp))) _ _ _ _ hI (.inl hS) ?_);have:=dU (S:=S) (md:=.any) hB.1 hC l 0 (Array.replicate l.toArray.size false) a w.drew hI hS (by simp) (by intro j hj;simp at hj;simp[hj]) (by simpa using hB.2) h.out;simpa using this
theorem eU{id:Nat}{Q:Exit->Act->World->Prop}{a:Act}{w:World}{l:List Oper}(S:World->Prop)(cv:Bool)(hm:P.follows .mixedOrders=true)(hB:Region.lexB .any l.toArray=true)(hC:chainB .any cv l.toArray=true)(hE:VS .any l.toArray=true)(hS:S w.drew)
  (h:pC P l.toArray S cv true (λa' w'=>Q .normal a' w') l a w.drew):(Code.region id l.toArray true).wp P Q a w:=by
 simp only[Region.lexB,Bool.and_eq_true]at hB;have hI:kI .any l.toArray true (Array.replicate l.toArray.size false):=⟨λ_=>⟨hE,.inl ⟨by simp,λj oj _ hj=>(by rw[getD_replicate_false]at hj;cases hj),λt ht d=>by simp at d;simp[d]⟩⟩⟩
 refine wp_region_any hm (dT (S:=S) (cv:=cv) (fb:=true) (Q:=λa' w'=>Q .normal a' w') (λ_ w' _ h=>h) _ _ _ _ hI (.inl hS) ?_);have:=dU (S:=S) (md:=.any) hB.1 hC l 0 (Array.replicate l.toArray.size false) a w.drew hI hS (by simp) (by intro j hj;simp at hj;simp[hj]) (by simpa using hB.2) h.out;simpa using this
theorem zC{Q:Act->World->Prop}{a:Act}{w:World}(h:Q a w):pC P ops S cv fb Q [] a w:=⟨h⟩
theorem KK{Q:Act->World->Prop}{a:Act}{w:World}{o:Oper}{d:List Oper}(hc:yO cv o=false)
  (h:∀K:Act->Prop,(∀a,pC P ops S cv fb Q d a w->K a)->if Region.wanted o (yielded ops a.tmps)then(∃v,(∀x:Subtype S,jU x.1 v ((execOp a.eval o).run P x.1))/\K (a.put o.dst v))else K (a.put o.dst undef)):pC P ops S cv fb Q (o :: d) a w:=by
 have:=h _ (λ_ h=>h);refine⟨?_⟩;unfold ZK;rw[hc];split
 ·rename_i hw
  rw[if_pos hw]at this;obtain⟨v,hv,hk⟩:=this;exact⟨v,λw' hs=>hv ⟨w',hs⟩,hk.out⟩
 ·rename_i hw;rw[if_neg hw]at this;exact this.out
theorem eV{Q:Act->World->Prop}{a:Act}{w:World}{o:Oper}{d:List Oper}(hS:S w)(hc:yO cv o=true)
  (h:∀K:Act->World->Prop,(∀a w,pC P ops S cv fb Q d a w->K a w)->if Region.wanted o (yielded ops a.tmps)then qI P S (λv w'=>K (a.put o.dst v) w') ((execOp a.eval o).run P w)else K (a.put o.dst undef) w):pC P ops S cv fb Q (o :: d) a w:=by
 have:=h _ (λ_ _ h=>h);refine⟨?_⟩;unfold ZK;rw[hc];split
 ·rename_i hw;rw[if_pos hw]at this;exact λ_=>kC (λ_ h=>.inl h) (λ_ _ _ h=>h.out) this
 ·rename_i hw;rw[if_neg hw]at this;exact this.out
theorem vI{Q:Act->World->Prop}{a:Act}{w:World}{o:Oper}(hc:yO cv o=true)
  (h:∀K:Act->World->Prop,(∀a w,Q a w->K a w)->if Region.wanted o (yielded ops a.tmps)then qI P (λ_=>True) (λv w'=>K (a.put o.dst v) w') ((execOp a.eval o).run P w)else K (a.put o.dst undef) w):pC P ops S cv true Q [o] a w:=by
 have:=h _ (λ_ _ h=>h);refine⟨?_⟩;unfold ZK;rw[hc];split
 ·rename_i hw;rw[if_pos hw]at this;exact λ_=>kC (λ_ _=>.inr ⟨rfl,rfl⟩) (λ_ _ _ h=>h) this
 ·rename_i hw;rw[if_neg hw]at this;exact this
end
section
variable (P:Program) (S:World->Prop) (w w':World) (v u:Value) (K:Value->World->Prop) (f:FuncId) (args:Array Value)
@[go_sem] theorem iY:jU w v (.ok (.value u) w')=(w'=w/\u=v):=rfl
@[go_sem] theorem ZW:jU w v (.ok .skip w')=(w'=w/\v=undef):=rfl
@[go_sem] theorem Z2:qI P S K (.ok (.value u) w')=(S w'/\K u w'):=rfl
@[go_sem] theorem Y2:qI P S K (.ok .skip w')=(S w'/\K undef w'):=rfl
@[go_sem] theorem Z3:qI P S K (.ok (.enter f args) w')=Calls P f args w' (λe d=>∃v,e = .returned v/\S d/\K v d):=rfl
end
abbrev Bel(W:World):World->Prop:=λw'=>Below W.heap.size W w'
theorem wQ(W:World):Nonempty (Subtype (Bel W)):=⟨⟨W,Below.refl _ _⟩⟩
theorem yZ(W:World):Bel W W.drew:=(Below.refl _ _).drew
theorem zJ{W:World}{p:Addr}{v:Value}(h:W.cell? p=some v):∀x:Subtype (Bel W),x.1.cell? p=some v :=
 λx=>(x.2.cell (World.block_lt_of_cell? W p h)).trans h
theorem zU{W:World}{g o k:Nat}{cs:Array Value}(h:z7 W g o k=some cs):∀x:Subtype (Bel W),z7 x.1 g o k=some cs :=
 λx=>(z9 (x.2.block g (zD h)) o k).trans h
theorem c5{W w:World}(h:Bel W w)(o:Obj):Bel W (w.alloc o):=h.alloc h.size o
theorem zG{A B:Prop}(h:A)(k:A->B):A/\B:=⟨h,k h⟩
theorem vC{W w w':World}(h:Bel W w)(k:Below w.heap.size w w'):Bel W w':=h.trans (k.mono h.size)
abbrev Kp(S:List Nat)(W:World):World->Prop:=λw'=>z6 S W w'
theorem nC(S:List Nat)(W:World):Nonempty (Subtype (Kp S W)):=⟨⟨W,z6.refl _ _⟩⟩
theorem bN(S:List Nat)(W:World):Kp S W W.drew:=(z6.drew W).mono (by simp)
theorem zP{S:List Nat}{W:World}{p:Addr}{v:Value}(h:W.cell? p=some v)(hn:p.block∉S):∀x:Subtype (Kp S W),x.1.cell? p=some v :=
 λx=>(x.2.cell (World.block_lt_of_cell? W p h) hn).trans h
theorem y9{S:List Nat}{W:World}{g o k:Nat}{cs:Array Value}(h:z7 W g o k=some cs)(hn:g∉S):∀x:Subtype (Kp S W),z7 x.1 g o k=some cs :=
 λx=>(x.2.row (zD h) hn o k).trans h
theorem xP{S:List Nat}{W w:World}(h:Kp S W w)(o:Obj):Kp S W (w.alloc o):=z6.trans h (z6.alloc w o) (by simp)
theorem xA{S S':List Nat}{W w w':World}(h:Kp S W w)(k:z6 S' w w')(hs:∀x∈S',x∈S\/W.heap.size<=x):Kp S W w':=z6.trans h k hs
theorem rO{S:List Nat}{W w w':World}(h:Kp S W w)(k:Below w.heap.size w w'):Kp S W w':=z6.trans h (z6.of_below k) (by simp)
end
theorem oM{p:Prop}(h:p:=by omega):p:=h
theorem sI{p:Prop}(h:p:=by simp):p:=h
theorem sO{p:Prop}(h:p:=by simp;omega):p:=h
theorem kR{p:Prop}(h:p:=by kernel_rfl):p:=h
theorem eX{α:Sort _}(a:α):∃b,a=b:=⟨a,rfl⟩
theorem eR{α:Sort _}(a:α):∃b,b=a:=⟨a,rfl⟩
theorem dH{p:Prop}(h:p):Hid p:=Lib.hid h
theorem bA{w:World}{o:Obj}:Below w.heap.size w (w.alloc o):=(Below.refl _ _).alloc (Nat.le_refl _) _
theorem iL{S:List Nat}{p:Nat->Prop}:∀x∈S,x∈S\/p x:=λ_ hx=>.inl hx
theorem aG{α:Type _}{l:Array α}{i:Nat}{b:α}(h:l[i]? = some b):∃h:i<l.size,l[i]=b:=Array.getElem?_eq_some_iff.1 h
theorem sZ{p:Prop}(h:p:=by simp[intOf];omega):p:=h
theorem oH{p q:Prop}(x:q)(h:q->p:=by intro x;omega):p:=h x
theorem oS{p q:Prop}(x:q)(h:q->p:=by intro x;simp;omega):p:=h x
theorem lR{n:Nat}:n<=n:=Nat.le_refl n
theorem zL{n:Nat}:0<=n:=Nat.zero_le n
structure zT(q:Prop):Prop where
 out:q
theorem lZ{P Q:Prop}(q:Q)(h:zT Q->P:=by intro z;(repeat(refine KK ?_ ?_;(focus(simp only[yO];done));intro K hK;go_simp;refine hK _ ?_;clear hK K));exact z.out):P:=h ⟨q⟩
theorem lH{P Q:Prop}(q:Q)(h:zT Q->P:=by intro z;refine eV hS ?_ ?_;(focus(simp only[yO];done));intro K hK;go_simp;revert K hK;exact z.out):P:=h ⟨q⟩
theorem lC{C P Q:Prop}(c:C)(q:Q)(h:C->zT Q->P:=by intro c z;refine eV hS ?_ ?_;(focus(simp only[yO];done));intro K hK;go_simp;refine c.mono ?_;rintro e w' ⟨rfl,hb⟩;have hT:=vC hS hb;refine⟨_,rfl,hT,hK _ _ ?_⟩;clear hK K hb;revert w';exact z.out):P:=h c ⟨q⟩
theorem lX{P:Program}{id:Nat}{Q:Exit->Act->World->Prop}{a:Act}{l:List Oper}(W:World)(h:Nonempty (Subtype (Bel W))->Bel W W.drew->pC P l.toArray (Bel W) false false (λa' w'=>Bel W w'->Q .normal a' w') l a W.drew)(hm:P.follows .mixedOrders=true:=by kernel_rfl)(hB:Region.lexB .any l.toArray=true:=by kernel_rfl)(hC:chainB .any false l.toArray=true:=by kernel_rfl):(Code.region id l.toArray true).wp P Q a W :=
 bE (Bel W) false hm hB hC (yZ W) (h (wQ W) (yZ W))
theorem kX{P:Program}{id:Nat}{Q:Exit->Act->World->Prop}{a:Act}{l:List Oper}(S:List Nat)(W:World)(h:Nonempty (Subtype (Kp S W))->Kp S W W.drew->pC P l.toArray (Kp S W) false false (λa' w'=>Kp S W w'->Q .normal a' w') l a W.drew)(hm:P.follows .mixedOrders=true:=by kernel_rfl)(hB:Region.lexB .any l.toArray=true:=by kernel_rfl)(hC:chainB .any false l.toArray=true:=by kernel_rfl):(Code.region id l.toArray true).wp P Q a W :=
 bE (Kp S W) false hm hB hC (bN S W) (h (nC S W) (bN S W))
theorem kF{P:Program}{id:Nat}{Q:Exit->Act->World->Prop}{a:Act}{l:List Oper}(S:List Nat)(W:World)(h:Nonempty (Subtype (Kp S W))->Kp S W W.drew->pC P l.toArray (Kp S W) false true (λa' w'=>Q .normal a' w') l a W.drew)(hm:P.follows .mixedOrders=true:=by kernel_rfl)(hB:Region.lexB .any l.toArray=true:=by kernel_rfl)(hC:chainB .any false l.toArray=true:=by kernel_rfl)(hE:VS .any l.toArray=true:=by kernel_rfl):(Code.region id l.toArray true).wp P Q a W :=
 eU (Kp S W) false hm hB hC hE (bN S W) (h (nC S W) (bN S W))
theorem gW{P Q:Prop}(q:Q)(h:zT Q->P:=by intro z;go_wp2_with fail;exact z.out):P:=h ⟨q⟩
theorem mG{C P Q:Prop}(c:C)(q:Q)(h:C->zT Q->P:=by intro c z;go_wp2_with fail;refine c.mono ?_;exact z.out):P:=h c ⟨q⟩
theorem gR{P Q:Prop}(q:Q)(h:zT Q->P:=by intro z;go_wp2_with fail;go_ret;exact z.out):P:=h ⟨q⟩
section
open Go.RowKit
end
structure c6 where
 k:Int
 n:Int
 l:Value
def zQ(x:c6):Array Value:=#[.int .i64 x.k] ++ #[.int .i64 x.n] ++ #[x.l]
@[simp] theorem v4(x:c6):(zQ x).size=3:=by simp[zQ]
@[go_sem] theorem valVC_g0(x:c6):(zQ x)[0]?=some (.int .i64 x.k):=by first | (simp[zQ,Array.getElem?_append];done) | (rw[show zQ x=((#[]:Array Value)) ++ #[.int .i64 x.k]++(#[.int .i64 x.n] ++ #[x.l])from by apply Array.ext';simp[zQ]];exact qO _ _ _ _ sI)
@[go_sem] theorem valVC_gg0(x:c6)(h:0<(zQ x).size):(zQ x)[0]'h=.int .i64 x.k:=Option.some.inj ((Array.getElem?_eq_getElem h).symm.trans (valVC_g0 x))
@[go_sem] theorem valVC_g1(x:c6):(zQ x)[1]?=some (.int .i64 x.n):=by first | (simp[zQ,Array.getElem?_append];done) | (rw[show zQ x=(#[.int .i64 x.k]) ++ #[.int .i64 x.n]++(#[x.l])from by apply Array.ext';simp[zQ]];exact qO _ _ _ _ sI)
@[go_sem] theorem valVC_gg1(x:c6)(h:1<(zQ x).size):(zQ x)[1]'h=.int .i64 x.n:=Option.some.inj ((Array.getElem?_eq_getElem h).symm.trans (valVC_g1 x))
@[go_sem] theorem valVC_g2(x:c6):(zQ x)[2]?=some (x.l):=by first | (simp[zQ,Array.getElem?_append];done) | (rw[show zQ x=(#[.int .i64 x.k] ++ #[.int .i64 x.n]) ++ #[x.l]++((#[]:Array Value))from by apply Array.ext';simp[zQ]];exact qO _ _ _ _ sI)
@[go_sem] theorem valVC_gg2(x:c6)(h:2<(zQ x).size):(zQ x)[2]'h=x.l:=Option.some.inj ((Array.getElem?_eq_getElem h).symm.trans (valVC_g2 x))
@[go_sem] theorem valVC_all(x:c6):(zQ x).extract 0 3=zQ x:=by have:=Array.extract_size (xs:=zQ x);rwa [v4]at this
theorem vT(x:c6)(hl:x.l.oneCell'=true):∀u∈(zQ x).toList,u.oneCell'=true:=by
 intro u hu;simp only[zQ,Array.toList_append,List.mem_append]at hu;rcases hu with(hu | hu) | hu
 ·simp at hu;subst hu;rfl
 ·simp at hu;subst hu;rfl
 ·simp at hu;subst hu;exact hl
def xZ:c6:=⟨0,0,(.slice none 0 0)⟩
theorem qT:(Tryz.prog.info? 25).map (·.size)=some 3:=kR
@[go_sem ↓] theorem zeroValV_run(w:World):(zeroValue 25).run Tryz.prog w=.ok (.agg (zQ xZ)) w:=by
 have h:(Tryz.prog.info? 25).bind (·.zero)=some (.agg (zQ xZ)):=kR;cases hi:Tryz.prog.info? 25 with
 | none=>rw[hi]at h;cases h
 | some i =>
  rw[hi]at h;have hz:i.zero=some (.agg (zQ xZ)):=h;simp[zeroValue,typeInfo,hi,hz]
@[go_sem ↓] theorem loadValV_rw(a:Addr):loadVar 25 a=ldS 25 a:=rfl
@[go_sem ↓] theorem storeValV_rw(a:Addr)(v:Value):storeVar 25 a v=stS 25 a v:=rfl
@[go_sem] theorem loadValV_run(w:World)(g o:Nat):(ldS 25 ⟨g,o,none⟩).run Tryz.prog w=match z7 w g o 3 with | some cs=>.ok (.agg cs) w | none=>(loadVar 25 ⟨g,o,none⟩).run Tryz.prog w :=
 vZ Tryz.underlying25 rfl qT w g o
@[go_sem] theorem ZN(w:World)(g:Nat)(hg:g=w.heap.size)(z:Array Value)(hz:z.size=3)(x:c6)(hl:x.l.oneCell'=true)(e:TypeId):(stS 25 ⟨g,0,none⟩ (.agg (zQ x))).run Tryz.prog (w.alloc (.cells z e))=.ok () (w.alloc (.cells (zQ x) e)) :=
 hg ▸ qY qT w z (zQ x) hz (v4 x) (vT x hl)
@[go_sem ↓] theorem buildValV_rw(parts:Array (Nat×Value)):Instr.build 25 parts=bdS 25 parts:=rfl
@[go_sem ↓] theorem fieldValV_1(x:c6)(w:World):(Instr.field 25 (.agg (zQ x)) 1).run Tryz.prog w=.ok (.int .i64 x.n) w:=by
 unfold Instr.field;simp only[Sem.run_bind,run_underlying Tryz.underlying25,Result.andThen_ok,part,asAgg,isAgg];simp[go_sem]
@[go_sem] theorem buildValV_e(w:World):(bdS 25 #[]).run Tryz.prog w=.ok (.agg (zQ xZ)) w:=kR
@[go_sem] theorem buildValV_k(k:Int)(w:World):(bdS 25 #[(0,.int .i64 k)]).run Tryz.prog w=.ok (.agg (zQ ⟨k,0,.slice none 0 0⟩)) w:=kR
section
open Go.RowKit
theorem dO{α:Type}:∀ {l:List α},l.Nodup->∀ {i j:Nat} {a:α},l[i]?=some a->l[j]?=some a->i=j
 | [],_,_,_,_,h,_=>by simp at h
 | x :: l,hn,i,j,a,hi,hj=>by
  rw[List.nodup_cons]at hn
  match i,j,hi,hj with
  | 0,0,_,_=>rfl
  | 0,j+1,hi,hj=>simp at hi hj;subst hi;exact absurd (List.mem_of_getElem? hj) hn.1
  | i+1,0,hi,hj=>simp at hi hj;subst hj;exact absurd (List.mem_of_getElem? hi) hn.1
  | i+1,j+1,hi,hj =>
   have:=dO hn.2 (i:=i) (j:=j) (a:=a) (by simpa using hi) (by simpa using hj);omega
section
variable {P:Program} {K:TypeId} {κ ν:Type}
structure gA(P:Program)(K:TypeId){κ:Type}(kv:κ->Value)(ok:κ->Prop):Prop where
 law:WideMaps.KeyLaw P K
 key:∀k,ok k->∃l,keyOf P K (kv k)=some l
 inj:∀a b,kv a=kv b->a=b
structure qG(w:World)(b:Nat)(kv:κ->Value)(vv:ν->Value)(ok:κ->Prop)(M:List (κ×ν))(es:Array MapEntry)(clk:Nat):Prop where
 heap:w.heap[b]?=some (.map es clk)
 keys:es.toList.map (·.key)=M.map (λp=>kv p.1)
 vals:es.toList.map (·.val)=M.map (λp=>vv p.2)
 nodup:(M.map (·.1)).Nodup
 okk:∀p∈M,ok p.1
 born:(es.toList.map (·.born)).Nodup
 clock:∀e∈es.toList,e.born<clk
def m6[DecidableEq κ](M:List (κ×ν))(k:κ)(v:ν):List (κ×ν):=if k∈M.map (·.1)then M.map (λp=>if p.1=k then(k,v)else p)else M ++ [(k,v)]
variable {kv:κ->Value} {vv:ν->Value} {ok:κ->Prop} {w:World} {b:Nat} {M:List (κ×ν)} {es:Array MapEntry} {clk:Nat}
theorem qG.length(h:qG w b kv vv ok M es clk):es.size=M.length:=by
 have:=congrArg List.length h.keys;simpa using this
theorem qG.at_(h:qG w b kv vv ok M es clk){j:Nat}{p:κ×ν}(hp:M[j]?=some p):∃e,es.toList[j]?=some e/\e.key=kv p.1/\e.val=vv p.2:=by
 have hk:=congrArg (λl=>l[j]?) h.keys;have hv:=congrArg (λl=>l[j]?) h.vals;simp only[List.getElem?_map,hp,Option.map_some]at hk hv;cases he:es.toList[j]? with
 | none=>rw[he]at hk;cases hk
 | some e =>
  rw[he]at hk hv;exact⟨e,rfl,by simpa using hk,by simpa using hv⟩
theorem qG.at_key(h:qG w b kv vv ok M es clk){j:Nat}{e:MapEntry}(he:es.toList[j]?=some e):∃p,M[j]?=some p/\e.key=kv p.1/\e.val=vv p.2:=by
 have hk:=congrArg (λl=>l[j]?) h.keys;have hv:=congrArg (λl=>l[j]?) h.vals;simp only[List.getElem?_map,he,Option.map_some]at hk hv;cases hp:M[j]? with
 | none=>rw[hp]at hk;cases hk
 | some p =>
  rw[hp]at hk hv;exact⟨p,rfl,by simpa using hk,by simpa using hv⟩
theorem qG.kept{S:List Nat}{w':World}(h:qG w b kv vv ok M es clk)(hk:z6 S w w')(hb:b∉S):qG w' b kv vv ok M es clk :=
 ⟨(hk.block b (by
   rcases Nat.lt_or_ge b w.heap.size with hl | hl
   ·exact hl
   ·have:=h.heap;rw[Array.getElem?_eq_none hl]at this;cases this) hb).trans h.heap,h.keys,h.vals,h.nodup,h.okk,h.born,h.clock⟩
theorem qG.lt(h:qG w b kv vv ok M es clk):b<w.heap.size:=by
 rcases Nat.lt_or_ge b w.heap.size with hl | hl
 ·exact hl
 ·have:=h.heap;rw[Array.getElem?_eq_none hl]at this;cases this
theorem qG.find(h:qG w b kv vv ok M es clk)(E:gA P K kv ok){k:κ}(hk:ok k) :
  ((Instr.findKey K (kv k) es.toList).run P w=.ok none w/\k∉M.map (·.1)) \/
  ∃j p,(Instr.findKey K (kv k) es.toList).run P w=.ok (some (j,vv p.2)) w/\M[j]?=some p/\p.1=k:=by
 obtain⟨l,hl⟩:=E.key k hk;have f:∀e∈es.toList,∃l,keyOf P K e.key=some l:=by
  intro e he;obtain⟨j,hj,rfl⟩:=List.mem_iff_getElem.1 he;obtain⟨p,hp,d,_⟩:=h.at_key (List.getElem?_eq_getElem hj);rw[d];exact E.key _ (h.okk p (List.mem_of_getElem? hp))
 rcases E.law.find w hl es.toList f with⟨hrun,hno⟩ | ⟨j,e,hrun,hj,d⟩
 ·refine .inl ⟨hrun,λhm=>?_⟩;obtain⟨p,hp,rfl⟩:=List.mem_map.1 hm;obtain⟨j,hj,m⟩:=List.mem_iff_getElem.1 hp;obtain⟨e,he,s,_⟩:=h.at_ (j:=j) (p:=p) (by rw[List.getElem?_eq_getElem hj,m]);exact hno e (List.mem_of_getElem? he) s
 ·obtain⟨p,hp,r,g⟩:=h.at_key hj;exact .inr ⟨j,p,by rw[hrun,g],hp,E.inj _ _ (r.symm.trans d)⟩
theorem jR(h:w.heap[b]?=some (.map es clk)):(getObj b).run P w=.ok (.map es clk) w:=by
 simp[getObj,Sem.run,h]
theorem qG.hit{T E':TypeId}(h:qG w b kv vv ok M es clk)(E:gA P K kv ok)(ht:P.underlying T=some (.map K E')){k:κ}{v:ν}(hk:ok k)(hm:(k,v)∈M)(d:Bool) :
  (Instr.lookup T (.map (some b)) (kv k) d).run P w=.ok (if d then .tuple #[vv v,.bool true]else vv v) w:=by
 obtain⟨l,hl⟩:=E.key k hk;rcases h.find E hk with⟨_,hno⟩ | ⟨j,p,hrun,hp,hpk⟩
 ·exact absurd (List.mem_map.2 ⟨_,hm,rfl⟩) hno
 ·have m:p=(k,v):=by
   obtain⟨i,hi,f⟩:=List.mem_iff_getElem.1 hm;obtain⟨hj,g⟩:=List.getElem?_eq_some_iff.1 hp;have r:=h.nodup;have e1:(M.map (·.1))[i]?=some k:=by rw[List.getElem?_map,List.getElem?_eq_getElem hi,f];rfl
   have e2:(M.map (·.1))[j]?=some k:=by rw[List.getElem?_map,hp];simp[hpk]
   have:i=j:=dO r e1 e2;subst this;rw[<-g,f]
  subst m;simp only[Instr.lookup,Sem.run_bind,run_underlying ht,Result.andThen_ok,jR h.heap,E.law.check w es.isEmpty hl,hrun,Sem.run_pure]
theorem qG.miss{T E':TypeId}(h:qG w b kv vv ok M es clk)(E:gA P K kv ok)(ht:P.underlying T=some (.map K E')){z:Value}(hz:(zeroValue E').run P w=.ok z w){k:κ}(hk:ok k)(hm:k∉M.map (·.1))(d:Bool) :
  (Instr.lookup T (.map (some b)) (kv k) d).run P w=.ok (if d then .tuple #[z,.bool false]else z) w:=by
 obtain⟨l,hl⟩:=E.key k hk;rcases h.find E hk with⟨hrun,_⟩ | ⟨j,p,hrun,hp,hpk⟩
 ·simp only[Instr.lookup,Sem.run_bind,run_underlying ht,Result.andThen_ok,jR h.heap,E.law.check w es.isEmpty hl,hrun,Sem.run_pure,hz]
 ·exact absurd (List.mem_map.2 ⟨p,List.mem_of_getElem? hp,hpk⟩) hm
theorem gV(w:World)(b:Nat)(o:Obj):z6 [b] w { w with heap:=w.heap.setIfInBounds b o } :=
 ⟨rfl,rfl,rfl,sI,λk _ hn=>by
  show(w.heap.setIfInBounds b o)[k]?=_;rw[Array.getElem?_setIfInBounds_ne (by simpa using λe=>hn (by simp[e]))]⟩
theorem gJ{w:World}{b:Nat}{es:Array MapEntry}{d:Nat}(h:w.heap[b]?=some (.map es d))(o:Obj):(setObj b o).run P w=.ok () { w with heap:=w.heap.setIfInBounds b o }:=by
 simp[setObj,Sem.run,h]
theorem gY{w:World}{b:Nat}(o:Obj)(hb:b<w.heap.size):({ w with heap:=w.heap.setIfInBounds b o }:World).heap[b]?=some o:=by
 show(w.heap.setIfInBounds b o)[b]?=_;rw[Array.getElem?_setIfInBounds_self_of_lt hb]
theorem qG.update[DecidableEq κ]{T E':TypeId}(h:qG w b kv vv ok M es clk)(E:gA P K kv ok)(ht:P.underlying T=some (.map K E')){k:κ}{v:ν}(hk:ok k) :
  ∃w' es' clk',(Instr.mapUpdate T (.map (some b)) (kv k) (vv v)).run P w=.ok () w'/\qG w' b kv vv ok (m6 M k v) es' clk'/\z6 [b] w w':=by
 obtain⟨l,hl⟩:=E.key k hk;rcases h.find E hk with⟨hrun,hno⟩ | ⟨j,p,hrun,hp,hpk⟩
 ·refine⟨_,es.push { key:=kv k,val:=vv v,born:=clk },clk+1,?_,⟨gY _ h.lt,?_,?_,?_,?_,?_,?_⟩,gV w b _⟩
  ·simp only[Instr.mapUpdate,Sem.run_bind,run_underlying ht,Result.andThen_ok,jR h.heap,E.law.check w false hl,hrun,gJ h.heap]
  ·unfold m6;rw[if_neg hno];simp[h.keys]
  ·unfold m6;rw[if_neg hno];simp[h.vals]
  ·unfold m6;rw[if_neg hno,List.map_append,List.nodup_append];refine⟨h.nodup,sI,?_⟩;intro a ha c hc e;simp at hc;subst hc;subst e;exact hno ha
  ·unfold m6;rw[if_neg hno];intro q hq;rcases List.mem_append.1 hq with hq | hq
   ·exact h.okk q hq
   ·simp at hq;subst hq;exact hk
  ·simp only[Array.toList_push,List.map_append,List.map_cons,List.map_nil,List.nodup_append];refine⟨h.born,sI,?_⟩;intro a ha c hc e;simp at hc;subst hc;subst e;obtain⟨e',d,G⟩:=List.mem_map.1 ha;have:=h.clock e' d;omega
  ·intro e he;simp only[Array.toList_push,List.mem_append,List.mem_singleton]at he;rcases he with he | he
   ·have:=h.clock e he;omega
   ·subst he;show clk<clk+1;omega
 ·have t:k∈M.map (·.1):=List.mem_map.2 ⟨p,List.mem_of_getElem? hp,hpk⟩;obtain⟨e0,g,D,F⟩:=h.at_ hp;have s:((es[j]?).map (·.key)).getD (kv k)=kv k:=by
   have:es[j]?=some e0:=by simpa using g
   rw[this];simp[D,hpk]
  have r:m6 M k v=M.modify j (λ_=>(k,v)):=by
   unfold m6;rw[if_pos t];apply List.ext_getElem?;intro n;rw[List.getElem?_map,List.getElem?_modify];by_cases hn:j=n
   ·subst hn;simp[hp,hpk]
   ·cases hq:M[n]? with
    | none=>simp[hn]
    | some q =>
     have A:q.1≠k:=by
      intro e;have e1:(M.map (·.1))[j]?=some k:=by rw[List.getElem?_map,hp];simp[hpk]
      have e2:(M.map (·.1))[n]?=some k:=by rw[List.getElem?_map,hq];simp[e]
      exact hn (dO h.nodup e1 e2)
     simp[hn,A]
  refine⟨_,es.modify j λe=>{ e with key:=kv k,val:=vv v },clk,?_,⟨gY _ h.lt,?_,?_,?_,?_,?_,?_⟩,gV w b _⟩
  ·simp only[Instr.mapUpdate,Sem.run_bind,run_underlying ht,Result.andThen_ok,jR h.heap,E.law.check w false hl,hrun,s,E.law.stays w hl,gJ h.heap]
  all_goals (try rw[r])
  ·rw[Array.toList_modify];apply List.ext_getElem?;intro n;have m:=congrArg (λl=>l[n]?) h.keys;simp only[List.getElem?_map]at m;simp only[List.getElem?_map,List.getElem?_modify];by_cases hn:j=n
   ·subst hn;simp[hp,g]
   ·simpa[hn]using m
  ·rw[Array.toList_modify];apply List.ext_getElem?;intro n;have m:=congrArg (λl=>l[n]?) h.vals;simp only[List.getElem?_map]at m;simp only[List.getElem?_map,List.getElem?_modify];by_cases hn:j=n
   ·subst hn;simp[hp,g]
   ·simpa[hn]using m
  ·have:(M.modify j λ_=>(k,v)).map (·.1)=M.map (·.1):=by
    apply List.ext_getElem?;intro n;simp only[List.getElem?_map,List.getElem?_modify];by_cases hn:j=n
    ·subst hn;simp[hp,hpk]
    ·simp[hn]
   rw[this];exact h.nodup
  ·intro q hq;obtain⟨n,hn,y⟩:=List.mem_iff_getElem.1 hq;have f:(M.modify j λ_=>(k,v))[n]?=some q:=by rw[List.getElem?_eq_getElem hn,y]
   rw[List.getElem?_modify]at f;by_cases e:j=n
   ·subst e;rw[hp]at f;simp at f;subst f;exact hk
   ·simp[e]at f;exact h.okk q (List.mem_of_getElem? f)
  ·have:((es.modify j λe=>{ e with key:=kv k,val:=vv v }).toList.map (·.born))=es.toList.map (·.born):=by
    rw[Array.toList_modify];apply List.ext_getElem?;intro n;simp only[List.getElem?_map,List.getElem?_modify];by_cases hn:j=n
    ·subst hn;simp[g]
    ·simp[hn]
   rw[this];exact h.born
  ·intro e he;rw[Array.toList_modify]at he;obtain⟨n,hn,B⟩:=List.mem_iff_getElem.1 he;have d:(es.toList.modify j λe=>{ e with key:=kv k,val:=vv v })[n]?=some e:=by rw[List.getElem?_eq_getElem hn,B]
   rw[List.getElem?_modify]at d;by_cases hj:j=n
   ·subst hj;rw[g]at d;simp at d;subst d;exact h.clock e0 (List.mem_of_getElem? g)
   ·simp[hj]at d;exact h.clock e (List.mem_of_getElem? (by simpa using d))
theorem qG.new(w:World)(b:Nat)(hb:b=w.heap.size):qG (w.alloc (.map #[] 0)) b kv vv ok [] #[] 0:=by
 subst hb;exact⟨heap_alloc_new w _,rfl,rfl,sI,sI,sI,sI⟩
theorem qG.len{T E':TypeId}{f:Array TypeId}{ty:TypeId}(h:qG w b kv vv ok M es clk)(ht:P.underlying T=some (.map K E'))(d:f[0]?=some T):(Builtin.len_ f ty #[.map (some b)]).run P w=.ok (.int .i64 M.length) w:=by
 simp[Builtin.len_,d,run_underlying ht,jR h.heap,goInt,h.length]
end
end
section
open Go.RowKit
open Go.ChangeMaps (setBlock)
section
variable {P:Program} {K:TypeId} {κ ν:Type} {kv:κ->Value} {vv:ν->Value} {ok:κ->Prop} {w:World} {b r:Nat} {M S:List (κ×ν)} {es:Array MapEntry} {clk:Nat}
theorem qG.nodupP(h:qG w b kv vv ok M es clk):M.Nodup:=by
 have:=h.nodup;exact List.Pairwise.of_map (·.1) (λa b h e=>h (by rw[e])) this
def v7(w:World)(b r:Nat)(kv:κ->Value)(vv:ν->Value)(ok:κ->Prop)(M S:List (κ×ν)):Prop :=
 ∃es clk since d8 c0,qG w b kv vv ok M es clk/\w.heap[r]?=some (.mapIter (some b) since d8 c0)/\(∀x∈es.toList,x.born<since)/\since<=c0/\since<=clk /\
  S.Nodup/\(∀p∈S,p∈M)/\(∀(j:Nat) (e:MapEntry) (p:κ×ν),es.toList[j]?=some e->M[j]?=some p->(p∈S↔d8.contains e.born=true))
theorem v7.ne(h:v7 w b r kv vv ok M S):r≠b:=by
 obtain⟨es,f,d,d8,c0,hm,hr,_⟩:=h;rintro rfl;have:=hm.heap;rw[hr]at this;cases this
theorem v7.lt(h:v7 w b r kv vv ok M S):r<w.heap.size/\b<w.heap.size:=by
 obtain⟨es,f,d,d8,c0,hm,hr,_⟩:=h;exact⟨(aG hr).1,hm.lt⟩
theorem v7.kept{T:List Nat}{w':World}(h:v7 w b r kv vv ok M S)(hk:z6 T w w')(hb:b∉T)(hr:r∉T):v7 w' b r kv vv ok M S:=by
 have hl:=h.lt;obtain⟨es,g,d,d8,c0,hm,hi,f⟩:=h;exact⟨es,g,d,d8,c0,hm.kept hk hb,(hk.block r hl.1 hr).trans hi,f⟩
theorem xB{T:List Nat}{w w':World}{b r:Nat}(hk:z6 T w w')(hb:b∉T)(hr:r∉T)(f:b<w.heap.size)(d:r<w.heap.size):w'.rangeLeft b r=w.rangeLeft b r:=by
 unfold World.rangeLeft;rw[hk.block b f hb,hk.block r d hr]
theorem v7.sub(h:v7 w b r kv vv ok M S):∀p∈S,p∈M:=by
 obtain⟨es,f,d,d8,c0,hm,hr,_,_,_,_,hs,_⟩:=h;exact hs
theorem v7.nodup(h:v7 w b r kv vv ok M S):S.Nodup:=by
 obtain⟨es,f,d,d8,c0,hm,hr,_,_,_,hs,_,_⟩:=h;exact hs
theorem kY{α:Type}:∀ {S M:List α},S.Nodup->(∀x∈S,x∈M)->S.length<=M.length
 | [],_,_,_=>zL
 | x :: S,M,hn,hs=>by
  rw[List.nodup_cons]at hn;obtain⟨A,B,rfl⟩:=List.append_of_mem (hs x sI);have:=kY (M:=A++B) hn.2 (λy hy=>by
   have h1:=hs y (by simp[hy]);rcases List.mem_append.1 h1 with h | h
   ·exact List.mem_append.2 (.inl h)
   ·rcases List.mem_cons.1 h with h | h
    ·subst h;exact absurd hy hn.1
    ·exact List.mem_append.2 (.inr h))
  simp at this |-;omega
theorem v7.length(h:v7 w b r kv vv ok M S):S.length<=M.length:=kY h.nodup h.sub
theorem qG.range{T E':TypeId}(h:qG w b kv vv ok M es clk)(ht:P.underlying T=some (.map K E')) :
  ∃w',(Instr.range T (.map (some b))).run P w=.ok (.pointer (some ⟨w.heap.size,0,none⟩)) w'/\v7 w' b w.heap.size kv vv ok M []/\Below w.heap.size w w'/\w'.heap.size=w.heap.size+1:=by
 refine⟨_,run_range_map w T K E' b es clk ht h.heap,⟨es,clk,clk,#[],clk,h.kept (z6.alloc _ _) sI,heap_alloc_new w _,h.clock,lR,lR,List.nodup_nil,sI,?_⟩,bA,sI⟩;intro j e p _ _
 simp
theorem v7.next(h:v7 w b r kv vv ok M S)(ty:TypeId) :
  (S.Perm M/\(Instr.next (.pointer (some ⟨r,0,none⟩)) false ty).run P w=.ok (.tuple #[.bool false]) w) \/
  ∃p w',p∈M/\p∉S/\(Instr.next (.pointer (some ⟨r,0,none⟩)) false ty).run P w=.ok (.tuple #[.bool true,kv p.1,vv p.2]) w'/\v7 w' b r kv vv ok M (S ++ [p])/\z6 [r] w w'/\w'.heap.size=w.heap.size /\
   w'.rangeLeft b r<w.rangeLeft b r/\(Instr.entry (.pointer (some ⟨r,0,none⟩))).run P w'=.ok (.tuple #[kv p.1,vv p.2]) w':=by
 have E:=h.ne;obtain⟨es,g,d,d8,c0,hm,hr,B,N,F,H,A,s⟩:=h;rcases run_next_at (P:=P) w ty r b d c0 d8 es g hr hm.heap B N with⟨h0,hrun⟩ | ⟨e,he,w1,hal,hrun⟩
 ·refine .inl ⟨?_,hrun⟩;refine(List.perm_ext_iff_of_nodup H hm.nodupP).2 λp=>⟨A p,λhp=>?_⟩;obtain⟨j,hj,rfl⟩:=List.mem_iff_getElem.1 hp;obtain⟨e,he,_,_⟩:=hm.at_ (List.getElem?_eq_getElem hj);exact(s j e _ he (List.getElem?_eq_getElem hj)).2 (all_seen es d8 h0 e (List.mem_of_getElem? he))
 ·obtain⟨J,I⟩:=mem_left he;obtain⟨j,hj,rfl⟩:=List.mem_iff_getElem.1 J;have D:es.toList[j]?=some es.toList[j]:=List.getElem?_eq_getElem hj;obtain⟨p,hp,hk,hv⟩:=hm.at_key D;have O:w1.heap[r]?=some (.mapIter (some b) d d8 c0):=by rcases hal with rfl | rfl <;> exact hr
  have L:w1.heap[b]?=some (.map es g):=by rcases hal with rfl | rfl <;> exact hm.heap
  have f:=MapKept.heap_set (o':=.mapIter (some b) d (d8.push es.toList[j].born) g) O;have m:z6 [r] w (setBlock w1 r (.mapIter (some b) d (d8.push es.toList[j].born) g)):=by
   rcases hal with rfl | rfl
   ·exact⟨rfl,rfl,rfl,by simp[setBlock],λk _ hn=>f.2 k (by simpa using hn)⟩
   ·exact⟨rfl,rfl,rfl,by simp[setBlock],λk _ hn=>f.2 k (by simpa using hn)⟩
  have R:qG (setBlock w1 r (.mapIter (some b) d (d8.push es.toList[j].born) g)) b kv vv ok M es g:=hm.kept m (by simpa using λe=>E e.symm);have G:p∉S:=λhm=>(by rw[(s j _ p D hp).1 hm]at I;cases I);refine .inr ⟨p,_,List.mem_of_getElem? hp,G,by rw[hrun,hk,hv],⟨es,g,d,d8.push es.toList[j].born,g,R,f.1,B,F,F,?_,?_,?_⟩,m,?_,?_,?_⟩
  ·rw[List.nodup_append];refine⟨H,sI,λa ha c hc e=>?_⟩;simp at hc;subst hc;subst e;exact G ha
  ·intro q hq;rcases List.mem_append.1 hq with hq | hq
   ·exact A q hq
   ·simp at hq;subst hq;exact List.mem_of_getElem? hp
  ·intro j' e' p' y t;rw[contains_push,List.mem_append,Bool.or_eq_true,s j' e' p' y t];refine or_congr Iff.rfl ?_;simp only[List.mem_singleton,beq_iff_eq];constructor
   ·intro e1;subst e1;have:j'=j:=dO hm.nodupP t hp;subst this;rw[D]at y;injection y with y
    rw[y]
   ·intro e1;have e2:(es.toList.map (·.born))[j']?=some e'.born:=by rw[List.getElem?_map,y];rfl
    have e3:(es.toList.map (·.born))[j]?=some e'.born:=by rw[List.getElem?_map,D,e1];rfl
    have:j'=j:=dO hm.born e2 e3;subst this;rw[hp]at t;injection t with t
    exact t.symm
  ·rcases hal with rfl | rfl <;> simp[setBlock]
  ·unfold World.rangeLeft;have q1:(setBlock w1 r (.mapIter (some b) d (d8.push es.toList[j].born) g)).heap[b]?=some (.map es g):=(f.2 b (λe=>E e.symm)).trans L;have q2:(setBlock w1 r (.mapIter (some b) d (d8.push es.toList[j].born) g)).heap[r]?=some (.mapIter (some b) d (d8.push es.toList[j].born) g):=f.1;rw[q1,q2,hm.heap,hr];exact left_shrinks es d8 _ he
  ·have:=run_entry_at (P:=P) (setBlock w1 r (.mapIter (some b) d (d8.push es.toList[j].born) g)) r b d d8 es g es.toList[j] f.1 (f.2 b (λe=>E e.symm) |>.trans L) J hm.born;rw[hk,hv]at this;exact this
def BT[DecidableEq κ](M:List (κ×ν))(k:κ):List (κ×ν):=M.filter (λp=>decide (p.1≠k))
theorem rW[DecidableEq κ]:∀ {M:List (κ×ν)},(M.map (·.1)).Nodup->∀ {j:Nat} {p:κ×ν},M[j]?=some p->M.eraseIdx j=BT M p.1
 | [],_,j,p,h=>by simp at h
 | x :: l,hn,j,p,h=>by
  rw[List.map_cons,List.nodup_cons]at hn;unfold BT;cases j with
  | zero =>
   simp at h;subst h;rw[List.eraseIdx_cons_zero,List.filter_cons,if_neg sI];refine(List.filter_eq_self.2 λy hy=>?_).symm;simp only[decide_eq_true_eq];intro e;exact hn.1 (List.mem_map.2 ⟨y,hy,e⟩)
  | succ j =>
   simp at h;rw[List.eraseIdx_cons_succ,List.filter_cons,if_pos,rW hn.2 h]
   ·rfl
   ·simp only[decide_eq_true_eq];intro e;exact hn.1 (List.mem_map.2 ⟨p,List.mem_of_getElem? h,e.symm⟩)
theorem vd[DecidableEq κ]{M:List (κ×ν)}{k:κ}(h:k∉M.map (·.1)):BT M k=M :=
 List.filter_eq_self.2 λp hp=>by
  simp only[decide_eq_true_eq];intro e;exact h (List.mem_map.2 ⟨p,hp,e⟩)
theorem V3[DecidableEq κ]{M:List (κ×ν)}{k:κ}{p:κ×ν}:p∈BT M k↔p∈M/\p.1≠k:=by simp[BT]
theorem kE{α β:Type}(f:α->β)(l:List α)(j:Nat):(l.eraseIdx j).map f=(l.map f).eraseIdx j:=by
 induction l generalizing j with
 | nil=>rfl
 | cons x l ih=>cases j <;> simp[ih]
theorem qG.delete[DecidableEq κ]{T E' ty:TypeId}(h:qG w b kv vv ok M es clk)(E:gA P K kv ok)(ht:P.underlying T=some (.map K E')){k:κ}(hk:ok k) :
  ∃w' es',(Builtin.delete_ #[T,K] ty #[.map (some b),kv k]).run P w=.ok (.tuple #[]) w'/\qG w' b kv vv ok (BT M k) es' clk/\z6 [b] w w':=by
 obtain⟨l,hl⟩:=E.key k hk;rcases h.find E hk with⟨hrun,hno⟩ | ⟨j,p,hrun,hp,hpk⟩
 ·refine⟨_,es,?_,⟨gY _ h.lt,?_,?_,?_,?_,h.born,h.clock⟩,gV w b _⟩
  ·simp only[Builtin.delete_,List.getElem?_toArray,List.getElem?_cons_zero,List.getElem?_cons_succ,Sem.run_bind,run_underlying ht,Result.andThen_ok,jR h.heap,E.law.check w es.isEmpty hl,hrun,gJ h.heap,Sem.run_pure]
  all_goals rw[vd hno]
  ·exact h.keys
  ·exact h.vals
  ·exact h.nodup
  ·exact h.okk
 ·obtain⟨e0,g,r,m⟩:=h.at_ hp;have f:j<es.size:=by
   have:=(List.getElem?_eq_some_iff.1 g).1;simpa using this
  have d:(es.eraseIdxIfInBounds j).toList=es.toList.eraseIdx j:=by
   unfold Array.eraseIdxIfInBounds;rw[dif_pos f];simp
  have hd:BT M k=M.eraseIdx j:=by rw[rW h.nodup hp,hpk]
  refine⟨_,es.eraseIdxIfInBounds j,?_,⟨gY _ h.lt,?_,?_,?_,?_,?_,?_⟩,gV w b _⟩
  ·simp only[Builtin.delete_,List.getElem?_toArray,List.getElem?_cons_zero,List.getElem?_cons_succ,Sem.run_bind,run_underlying ht,Result.andThen_ok,jR h.heap,E.law.check w es.isEmpty hl,hrun,gJ h.heap,Sem.run_pure]
  ·rw[d,hd,kE,kE,h.keys]
  ·rw[d,hd,kE,kE,h.vals]
  ·rw[hd,kE];exact h.nodup.sublist (List.eraseIdx_sublist _ _)
  ·rw[hd];exact λq hq=>h.okk q ((List.eraseIdx_sublist _ _).subset hq)
  ·rw[d,kE];exact h.born.sublist (List.eraseIdx_sublist _ _)
  ·rw[d];exact λq hq=>h.clock q ((List.eraseIdx_sublist _ _).subset hq)
end
end
section
open Go.RowKit
section
variable {P:Program} {K T E':TypeId} {κ:Type} {kv:κ->Value} {ok:κ->Prop} {w w':World} {b:Nat} {L L':List κ} {x:κ}
def yS(w:World)(b:Nat)(kv:κ->Value)(ok:κ->Prop)(L:List κ):Prop :=
 ∃M es clk,qG w b kv Value.bool ok M es clk/\(∀x,x∈M.map (·.1)↔x∈L)/\∀p∈M,p.2=true
theorem yS.congr(h:yS w b kv ok L)(hl:∀x,x∈L↔x∈L'):yS w b kv ok L':=by
 obtain⟨M,es,d,hm,hk,ht⟩:=h;exact⟨M,es,d,hm,λx=>(hk x).trans (hl x),ht⟩
theorem yS.lt(h:yS w b kv ok L):b<w.heap.size:=by
 obtain⟨M,es,d,hm,_⟩:=h;exact hm.lt
theorem yS.kept{S:List Nat}(h:yS w b kv ok L)(k:z6 S w w')(hb:b∉S):yS w' b kv ok L:=by
 obtain⟨M,es,d,hm,hk⟩:=h;exact⟨M,es,d,hm.kept k hb,hk⟩
theorem yS.below(h:yS w b kv ok L)(k:Below w.heap.size w w'):yS w' b kv ok L:=h.kept (z6.of_below k) sI
theorem yS.new(w:World)(b:Nat)(hb:b=w.heap.size):yS (w.alloc (.map #[] 0)) b kv ok []:=⟨[],#[],0,qG.new w b hb,sI,sI⟩
theorem yS.hit(h:yS w b kv ok L)(E:gA P K kv ok)(ht:P.underlying T=some (.map K E'))(hk:ok x)(hx:x∈L) :
  (Instr.lookup T (.map (some b)) (kv x) false).run P w=.ok (.bool true) w:=by
 obtain⟨M,es,g,hm,f,d⟩:=h;obtain⟨p,hp,rfl⟩:=List.mem_map.1 ((f x).2 hx);have h1:(p.1,true)∈M:=by
  have:=d p hp
  rwa [show(p.1,true)=p from by cases p;simp_all]
 exact hm.hit E ht hk h1 false
theorem yS.miss(h:yS w b kv ok L)(E:gA P K kv ok)(ht:P.underlying T=some (.map K E'))(hz:∀w,(zeroValue E').run P w=.ok (.bool false) w)(hk:ok x)(hx:x∉L) :
  (Instr.lookup T (.map (some b)) (kv x) false).run P w=.ok (.bool false) w:=by
 obtain⟨M,es,g,hm,d,f⟩:=h;exact hm.miss E ht (hz w) hk (λh=>hx ((d x).1 h)) false
theorem yS.put[DecidableEq κ](h:yS w b kv ok L)(E:gA P K kv ok)(ht:P.underlying T=some (.map K E'))(hk:ok x) :
  ∃w',(Instr.mapUpdate T (.map (some b)) (kv x) (.bool true)).run P w=.ok () w'/\yS w' b kv ok (x :: L)/\z6 [b] w w':=by
 obtain⟨M,es,s,hm,g,k⟩:=h;obtain⟨w',r,j,f,m,d⟩:=hm.update (v:=true) E ht hk;refine⟨w',f,⟨_,r,j,m,?_,?_⟩,d⟩
 ·intro y;unfold m6;split
  ·rename_i hin
   have e:(M.map λp=>if p.1=x then(x,true)else p).map (·.1)=M.map (·.1):=by
    rw[List.map_map];refine List.map_congr_left λp _=>?_;simp only[Function.comp_apply];split
    ·rename_i h;exact h.symm
    ·rfl
   rw[e,g,List.mem_cons];exact⟨.inr,λh=>h.elim (λh=>by subst h;exact(g _).1 hin) id⟩
  ·rw[List.map_append,List.mem_append,g,List.mem_cons];simp only[List.map_cons,List.map_nil,List.mem_singleton];exact Or.comm
 ·intro p hp;unfold m6 at hp;split at hp
  ·obtain⟨q,hq,rfl⟩:=List.mem_map.1 hp;split
   ·rfl
   ·exact k q hq
  ·rcases List.mem_append.1 hp with hp | hp
   ·exact k p hp
   ·simp at hp;subst hp;rfl
theorem yS.del[DecidableEq κ](h:yS w b kv ok L)(E:gA P K kv ok)(ht:P.underlying T=some (.map K E'))(hk:ok x)(ty:TypeId) :
  ∃w',(Builtin.delete_ #[T,K] ty #[.map (some b),kv x]).run P w=.ok (.tuple #[]) w'/\yS w' b kv ok (L.filter λy=>decide (y≠x))/\z6 [b] w w':=by
 obtain⟨M,es,r,hm,k,g⟩:=h;obtain⟨w',m,f,j,d⟩:=hm.delete (ty:=ty) E ht hk;refine⟨w',f,⟨_,m,r,j,?_,?_⟩,d⟩
 ·intro y;simp only[List.mem_map,V3,List.mem_filter,decide_eq_true_eq,<-k];constructor
  ·rintro⟨p,⟨h1,h2⟩,rfl⟩;exact⟨⟨p,h1,rfl⟩,h2⟩
  ·rintro⟨⟨p,h1,rfl⟩,h2⟩;exact⟨p,⟨h1,h2⟩,rfl⟩
 ·intro p hp;exact g p (V3.1 hp).1
def jW(w:World)(b r:Nat)(kv:κ->Value)(ok:κ->Prop)(L S:List κ):Prop :=
 ∃M Z,v7 w b r kv Value.bool ok M Z/\(∀x,x∈M.map (·.1)↔x∈L)/\(∀p∈M,p.2=true)/\Z.map (·.1)=S/\(M.map (·.1)).Nodup
theorem jW.lt{r:Nat}{S:List κ}(h:jW w b r kv ok L S):r<w.heap.size/\b<w.heap.size:=by
 obtain⟨M,Z,h,_⟩:=h;exact h.lt
theorem jW.kept{r:Nat}{S:List κ}{A:List Nat}(h:jW w b r kv ok L S)(k:z6 A w w')(hb:b∉A)(hr:r∉A):jW w' b r kv ok L S:=by
 obtain⟨M,Z,h,d⟩:=h;exact⟨M,Z,h.kept k hb hr,d⟩
theorem yS.range(h:yS w b kv ok L)(ht:P.underlying T=some (.map K E')) :
  ∃w',(Instr.range T (.map (some b))).run P w=.ok (.pointer (some ⟨w.heap.size,0,none⟩)) w'/\jW w' b w.heap.size kv ok L []/\Below w.heap.size w w'/\w'.heap.size=w.heap.size+1:=by
 obtain⟨M,es,j,hm,g,f⟩:=h;obtain⟨w',d,hr,hb,hs⟩:=hm.range ht;exact⟨w',d,⟨M,[],hr,g,f,rfl,hm.nodup⟩,hb,hs⟩
theorem jW.next{r:Nat}{S:List κ}(h:jW w b r kv ok L S)(ty:TypeId) :
  ((∀x,x∈S↔x∈L)/\S.Nodup/\(Instr.next (.pointer (some ⟨r,0,none⟩)) false ty).run P w=.ok (.tuple #[.bool false]) w) \/
  ∃x w',x∈L/\x∉S/\(Instr.next (.pointer (some ⟨r,0,none⟩)) false ty).run P w=.ok (.tuple #[.bool true,kv x,.bool true]) w'/\jW w' b r kv ok L (S ++ [x])/\z6 [r] w w'/\w'.heap.size=w.heap.size /\
   w'.rangeLeft b r<w.rangeLeft b r/\(Instr.entry (.pointer (some ⟨r,0,none⟩))).run P w'=.ok (.tuple #[kv x,.bool true]) w':=by
 obtain⟨M,Z,hR,g,k,rfl,f⟩:=h;rcases hR.next (P:=P) ty with⟨hp,hrun⟩ | ⟨p,w',hpM,hpZ,hrun,hR',hk,hs,hl,hen⟩
 ·refine .inl ⟨λx=>?_,(hp.map (·.1)).nodup_iff.2 f,hrun⟩;rw[(hp.map (·.1)).mem_iff,g]
 ·have hv:=k p hpM;rw[hv]at hrun hen;refine .inr ⟨p.1,w',(g _).1 (List.mem_map.2 ⟨p,hpM,rfl⟩),?_,hrun,⟨M,Z ++ [p],hR',g,k,sI,f⟩,hk,hs,hl,hen⟩;intro hm;obtain⟨q,hq,he⟩:=List.mem_map.1 hm;have s:=hR.sub q hq;obtain⟨i,hi,m⟩:=List.mem_iff_getElem.1 hpM;obtain⟨j,hj,d⟩:=List.mem_iff_getElem.1 s;have e1:(M.map (·.1))[i]?=some p.1:=by rw[List.getElem?_map,List.getElem?_eq_getElem hi,m];rfl
  have e2:(M.map (·.1))[j]?=some p.1:=by rw[List.getElem?_map,List.getElem?_eq_getElem hj,d];simp[he]
  have:i=j:=dO f e1 e2;subst this;rw[m]at d;subst d;exact hpZ hq
end
end
abbrev vP:=Lib.compareBytes
theorem nG:∀a:List UInt8,vP a a=0
 | []=>rfl
 | c :: a=>by
  show(if c<c then(-1:Int)else if c<c then 1 else vP a a)=0;rw[if_neg sI,if_neg sI];exact nG a
theorem yf:∀a b:List UInt8,vP a b=0->a=b
 | [],[],_=>rfl
 | [],_ :: _,h=>by cases h
 | _ :: _,[],h=>by cases h
 | c :: a,d :: b,h=>by
  have h':(if c<d then(-1:Int)else if d<c then 1 else vP a b)=0:=h;by_cases h1:c<d
  ·rw[if_pos h1]at h';cases h'
  ·rw[if_neg h1]at h';by_cases h2:d<c
   ·rw[if_pos h2]at h';cases h'
   ·rw[if_neg h2]at h';have e:c=d:=by
     simp only[UInt8.lt_iff_toNat_lt]at h1 h2;exact UInt8.toNat_inj.1 oM
    rw[e,yf a b h']
theorem sW(a b:List UInt8):vP a b=0↔a=b:=⟨yf a b,λh=>by rw[h];exact nG b⟩
theorem nH:∀a b:List UInt8,vP b a = - vP a b
 | [],[]=>rfl
 | [],_ :: _=>rfl
 | _ :: _,[]=>rfl
 | c :: a,d :: b=>by
  show(if d<c then(-1:Int)else if c<d then 1 else vP b a) = -(if c<d then(-1:Int)else if d<c then 1 else vP a b);by_cases h1:c<d
  ·have h2:¬d<c:=by rw[UInt8.lt_iff_toNat_lt]at *;omega
   rw[if_neg h2,if_pos h1,if_pos h1];rfl
  ·by_cases h2:d<c
   ·rw[if_pos h2,if_neg h1,if_pos h2]
   ·rw[if_neg h2,if_neg h1,if_neg h1,if_neg h2];exact nH a b
theorem Z0:∀a b:List UInt8,vP a b = -1\/vP a b=0\/vP a b=1
 | [],[]=>.inr (.inl rfl)
 | [],_ :: _=>.inl rfl
 | _ :: _,[]=>.inr (.inr rfl)
 | c :: a,d :: b=>by
  show(if c<d then(-1:Int)else if d<c then 1 else vP a b) = -1\/(if c<d then(-1:Int)else if d<c then 1 else vP a b)=0\/(if c<d then(-1:Int)else if d<c then 1 else vP a b)=1;by_cases h1:c<d
  ·rw[if_pos h1];exact .inl rfl
  ·by_cases h2:d<c
   ·rw[if_neg h1,if_pos h2];exact .inr (.inr rfl)
   ·rw[if_neg h1,if_neg h2];exact Z0 a b
theorem lS:∀a b c:List UInt8,vP a b<0->vP b c<0->vP a c<0
 | [],[],_,h,_=>by cases h
 | [],_ :: _,[],_,h=>by cases h
 | [],_ :: _,_ :: _,_,_=>by show(-1:Int)<0;omega
 | _ :: _,[],_,h,_=>by cases h
 | _ :: _,_ :: _,[],_,h=>by cases h
 | x :: a,y :: b,z :: c,h1,h2=>by
  have f:(if x<y then(-1:Int)else if y<x then 1 else vP a b)<0:=h1;have d:(if y<z then(-1:Int)else if z<y then 1 else vP b c)<0:=h2;show(if x<z then(-1:Int)else if z<x then 1 else vP a c)<0;simp only[UInt8.lt_iff_toNat_lt]at *;by_cases p1:x.toNat<y.toNat
  ·by_cases q1:y.toNat<z.toNat
   ·rw[if_pos oM];omega
   ·rw[if_neg q1]at d;by_cases q2:z.toNat<y.toNat
    ·rw[if_pos q2]at d;omega
    ·rw[if_pos oM];omega
  ·rw[if_neg p1]at f;by_cases p2:y.toNat<x.toNat
   ·rw[if_pos p2]at f;omega
   ·rw[if_neg p2]at f;by_cases q1:y.toNat<z.toNat
    ·rw[if_pos oM];omega
    ·rw[if_neg q1]at d;by_cases q2:z.toNat<y.toNat
     ·rw[if_pos q2]at d;omega
     ·rw[if_neg q2]at d;rw[if_neg oM,if_neg oM];exact lS a b c f d
theorem bJ:∀a b:List UInt8,Op.bytesLess a b=decide (vP a b<0)
 | [],[]=>rfl
 | [],_ :: _=>rfl
 | _ :: _,[]=>rfl
 | c :: a,d :: b=>by
  show(decide (c<d)||(c==d&&Op.bytesLess a b))=decide ((if c<d then(-1:Int)else if d<c then 1 else vP a b)<0);by_cases h1:c<d
  ·simp[h1]
  ·by_cases h2:d<c
   ·have e:(c==d)=false:=by
     rw[beq_eq_false_iff_ne];rintro rfl;exact h1 h2
    simp[h1,h2,e]
   ·have e:c=d:=by
     simp only[UInt8.lt_iff_toNat_lt]at h1 h2;exact UInt8.toNat_inj.1 oM
    subst e;simp[bJ a b]
def xY(a b:ByteArray):Int:=vP a.toList b.toList
def zI(a b:zE):Int:=vP a.l b.l
def lQ(a b:Int):Int:=if a<b then -1 else if b<a then 1 else 0
def Z6(a b:ByteArray):Bool:=Op.bytesLess a.toList b.toList
theorem kD(a b:ByteArray):Z6 a b=decide (xY a b<0):=bJ _ _
theorem dQ(a b:ByteArray):xY a b=0↔a=b:=by unfold xY;rw[sW,toList_inj]
theorem vi(a:ByteArray):xY a a=0:=nG _
theorem sV(a b:ByteArray):xY b a = - xY a b:=nH _ _
theorem lP(a b c:ByteArray):xY a b<0->xY b c<0->xY a c<0:=lS _ _ _
theorem BU(a b:ByteArray):xY a b = -1\/xY a b=0\/xY a b=1:=Z0 _ _
theorem kT(a b:zE):zI a b=0↔a=b:=by
 unfold zI;rw[sW];exact⟨zE.ext',λh=>by rw[h]⟩
theorem pY(a:zE):zI a a=0:=nG _
theorem BW(a b:zE):zI b a = - zI a b:=nH _ _
theorem e7(a b c:zE):zI a b<0->zI b c<0->zI a c<0:=lS _ _ _
def orL:List Int->Int
 | []=>0
 | a :: l=>if a=0 then orL l else a
theorem nan_int(x:Int)(w:World):Calls Tryz.prog 187 #[.int .i64 x] w λe w'=>e=.returned (.bool false)/\w=w':=by
 go_enter Tryz.func187,Tryz.ntmps187
 (go_wp2_with fail);go_ret;exact⟨yF sI,rfl⟩
theorem nan_str(x:ByteArray)(w:World):Calls Tryz.prog 202 #[.string x] w λe w'=>e=.returned (.bool false)/\w=w':=by
 go_enter Tryz.func202,Tryz.ntmps202
 (go_wp2_with fail);go_ret;exact⟨yF sI,rfl⟩
theorem cmp_int(x y:Int)(w:World):Calls Tryz.prog 107 #[.int .i64 x,.int .i64 y] w λe w'=>e=.returned (.int .i64 (lQ x y))/\w=w':=by
 go_enter Tryz.func107,Tryz.ntmps107
 go_wp2_with (go_at_call 187;refine(nan_int _ _).mono ?_;rintro e w' ⟨rfl,rfl⟩)
 all_goals
  go_ret;exact⟨yA (by unfold lQ;first | rw[if_pos oM] | rw[if_neg oM,if_pos oM] | rw[if_neg oM,if_neg oM]),rfl⟩
theorem vh(x y:ByteArray)(b1 b2:Bool)(h1:Op.bytesLess x.toList y.toList=b1)(h2:(x.toList==y.toList)=b2)(w:World) :
  Calls Tryz.prog 130 #[.string x,.string y] w λe w'=>e=.returned (.int .i64 (if b1=true then -1 else if b2=true then 0 else 1))/\w=w':=by
 go_enter Tryz.func130,Tryz.ntmps130
 go_wp2_with (go_at_call 202;refine(nan_str _ _).mono ?_;rintro e w' ⟨rfl,rfl⟩)
 all_goals
  go_ret;exact⟨yA (by simp_all),rfl⟩
theorem nF(x y:ByteArray)(w:World):Calls Tryz.prog 130 #[.string x,.string y] w λe w'=>e=.returned (.int .i64 (xY x y))/\w=w':=by
 have d:Op.bytesLess x.toList y.toList=decide (xY x y<0):=bJ _ _;have f:(x.toList==y.toList)=decide (xY x y=0):=by
  rw[Bool.eq_iff_iff];simp only[beq_iff_eq,decide_eq_true_eq,dQ,toList_inj]
 refine(vh x y _ _ d f w).mono ?_;rintro e w' ⟨rfl,rfl⟩;refine⟨yA ?_,rfl⟩;rcases BU x y with h | h | h <;> rw[h] <;> rfl
theorem QA(g cap:Nat)(L:List Int)(hL:L.length<=9223372036854775807)(w:World)(hc:∀j,j<L.length->w.cell? ⟨g,j,none⟩=some (.int .i64 (L.getD j 0))) :
  Calls Tryz.prog 106 #[.slice (some ⟨g,0,none⟩) L.length cap] w λe w'=>e=.returned (.int .i64 (orL L))/\w=w':=by
 have Hc:=dH hc;clear hc;go_enter Tryz.func106,Tryz.ntmps106
 go_wp2_with fail
 go_loop [5,8] (λ_ i=>∃k:Nat,k<=L.length/\i=.int .i64 k/\Hid (orL (L.drop k)=orL L)) (λ_ i=>L.length-(intOf i).toNat)
 case atStart=>exact⟨0,zL,rfl,rfl⟩
 case round =>
  obtain⟨k,hk,rfl,hd⟩:=hrel;by_cases r:k<L.length
  ·have f:=Hc.out k r;have d:L.drop k=L.getD k 0 :: L.drop (k+1):=by
    rw[List.drop_eq_getElem_cons r];simp[List.getD,r]
   by_cases hz:L.getD k 0=0
   ·have m:(L.getD k 0 != 0)=false:=by rw[bne_eq_false_iff_eq];exact hz
    have hn:Hid (orL (L.drop (k+1))=orL L):=by
     show _=_;rw[<-hd.out,d];show _=if L.getD k 0=0 then _ else _;rw[if_pos hz]
    clear hz d;obtain⟨x,hx⟩:∃x:Int,L.getD k 0=x:=⟨_,rfl⟩
    rw[hx]at f m;have Hx:=dH hx;clear hx;go_wp2_with fail
    go_round
    case rel=>exact⟨k+1,oM,by go_num,hn⟩
    case measure=>exact sZ
   ·have m:(L.getD k 0 != 0)=true:=by rw[bne_iff_ne];exact hz
    have hn:Hid (L.getD k 0=orL L):=by
     show _=_;rw[<-hd.out,d];show _=if L.getD k 0=0 then _ else _;rw[if_neg hz]
    clear hz d;obtain⟨x,hx⟩:∃x:Int,L.getD k 0=x:=⟨_,rfl⟩
    rw[hx]at f m hn;have Hx:=dH hx;clear hx;(go_wp2_with fail);go_ret;exact⟨yA hn.out,rfl⟩
  ·(go_wp2_with fail);go_ret;have e:L.drop k = []:=List.drop_eq_nil_of_le oM;have h0:=hd.out;rw[e]at h0;exact⟨yA h0,rfl⟩
theorem tF(w:World):∀(l:List UInt8) (a:Addr) (acc:ByteArray),(∀j u,l[j]?=some u->w.cell? (a.add j)=some (.int .u8 u.toNat)) ->
  (Extern.Bytes.loadBytes a l.length acc).run Tryz.prog w=.ok ⟨acc.data++l.toArray⟩ w
 | [],a,acc,_=>by simp[Extern.Bytes.loadBytes]
 | x :: l,a,acc,h=>by
  have h0:w.cell? a=some (.int .u8 x.toNat):=by
   have:=h 0 x rfl;simpa[Addr.add]using this
  have ih:=tF w l (a.add 1) (acc.push x) (λj u hu=>by
   have:=h (j+1) u (by simpa using hu);have e:(a.add 1).add j=a.add (j+1):=by
    unfold Addr.add;by_cases hj:j=0 <;> simp[hj,Nat.add_assoc,Nat.add_comm 1 j]
   rw[e];exact this)
  have ex:((x.toNat:Int).toNat).toUInt8=x:=sI;simp only[List.length_cons,Extern.Bytes.loadBytes,Sem.run_bind,run_load,h0,Result.andThen_ok,ex];rw[ih];simp[ByteArray.push]
theorem VZ(w:World)(a b:Addr)(n m ca cb:Nat)(x y:List UInt8)(hn:x.length=n)(hm:y.length=m)
  (hx:∀j u,x[j]?=some u->w.cell? (a.add j)=some (.int .u8 u.toNat))(hy:∀j u,y[j]?=some u->w.cell? (b.add j)=some (.int .u8 u.toNat)) :
  (Extern.BytealgCompare.compare #[.slice (some a) n ca,.slice (some b) m cb]).run Tryz.prog w=.ok (.int .i64 (vP x y)) w:=by
 subst hn;subst hm;have e1:=tF w x a .empty hx;have e2:=tF w y b .empty hy;change Sem.run Tryz.prog (do pure (goInt (Extern.BytealgCompare.cmp (<-Extern.Bytes.loadBytes a x.length .empty) (<-Extern.Bytes.loadBytes b y.length .empty)))) w=_;simp only[Sem.run_bind,e1,e2,Result.andThen_ok,Sem.run_pure,goInt,Lib.cmp_eq]
 simp
theorem s5(a b:Addr)(n m ca cb:Nat)(x y:List UInt8)(w:World)(hn:x.length=n)(hm:y.length=m)
  (hx:∀j u,x[j]?=some u->w.cell? (a.add j)=some (.int .u8 u.toNat))(hy:∀j u,y[j]?=some u->w.cell? (b.add j)=some (.int .u8 u.toNat)) :
  Calls Tryz.prog 188 #[.slice (some a) n ca,.slice (some b) m cb] w λe w'=>e=.returned (.int .i64 (vP x y))/\w=w':=by
 have hr:(callFunc 238 #[.slice (some a) n ca,.slice (some b) m cb]).run Tryz.prog w=.ok (.value (.int .i64 (vP x y))) w:=by
  rw[run_callFunc_extern Tryz.func238 kR kR kR (e:=Extern.BytealgCompare.compare) kR,VZ w a b n m ca cb x y hn hm hx hy];rfl
 clear hx hy hn hm;go_enter Tryz.func188,Tryz.ntmps188
 (go_wp2_with fail);go_ret;exact⟨rfl,rfl⟩
theorem rQ{w:World}{g o:Nat}{x:zE}(h:z7 w g o 32=some (idC x)):∀j u,x.l[j]?=some u->w.cell? ((⟨g,o,none⟩:Addr).add j)=some (.int .u8 u.toNat):=by
 intro j u hu;have hj:j<32:=by
  have:=(List.getElem?_eq_some_iff.1 hu).1;rw[x.h]at this;exact this
 have d:(⟨g,o,none⟩:Addr).add j=⟨g,o+j,none⟩:=by unfold Addr.add;split <;> simp_all
 rw[d,z8 h hj,QJ,if_pos hj];unfold idB;rw[List.getD,hu];rfl
theorem aY(x y:zE)(w:World):Calls Tryz.prog 108 #[.agg (idC x),.agg (idC y)] w λe w'=>e=.returned (.int .i64 (zI x y))/\Below w.heap.size w w':=by
 have hB:Below w.heap.size w ((w.alloc (.cells (idC x) 39)).alloc (.cells (idC y) 39)):=(bA).alloc sI _;have hx:z7 ((w.alloc (.cells (idC x) 39)).alloc (.cells (idC y) 39)) w.heap.size 0 32=some (idC x):=by simp[go_sem]
 have hy:z7 ((w.alloc (.cells (idC x) 39)).alloc (.cells (idC y) 39)) (w.heap.size+1) 0 32=some (idC y):=by simp[go_sem]
 have hx:=dH (rQ hx);have hy:=dH (rQ hy);go_enter Tryz.func108,Tryz.ntmps108
 go_wp2_with fail
 ·go_ret;have h:(x==y)=true:=by assumption
  have:x=y:=by simpa using h
  subst this;exact⟨yA (pY x).symm,hB⟩
 ·go_quiet ((go_at_call 188;exact tS (s5 _ _ _ _ _ _ x.l y.l _ x.h y.h hx.out hy.out)))
  (go_wp2_with fail);go_ret;exact⟨rfl,d5 hB _⟩
section
open Go.ChangeShapes Go.WideShapes Go.ChangeAt Go.RowKit
theorem Tryz.own:ownKnob Tryz.prog.godebug=none:=kR
theorem Tryz.laidOut:laidOutB Tryz.prog=true:=kR
theorem nO{H:Type}{enc:TypeId×Value->H}{P:Program}{W W':World}(hl:laidOutB P=true)(hb:Below W.heap.size W W') :
  ∀(ts:List TypeId) (vs:List Value) (ds:List (DataW H)) (ps:List MemPlace),(∀t∈ts,P.readableRec t=true/\t<P.types.size) ->
   DataW.TrodAll enc P W 0 (λ_=>true) true ts vs ds ps->(∀x∈ps,x.block<W.heap.size) ->
   DataW.TrodAll enc P W' 0 (λb=>decide (b<W.heap.size)) true ts vs ds ps
 | [],[],[],_,_,h,_=>h
 | t :: ts,v :: vs,d :: ds,ps,hr,h,hlt=>by
  obtain⟨p,q,h1,h2,rfl⟩:=h;have f:=hr t sI;exact⟨p,q,Below.trod hl f.1 f.2 h1 hb (λx hx=>hlt x (List.mem_append.2 (.inl hx))),
   nO hl hb ts vs ds q (λt' ht=>hr t' (List.mem_cons.2 (.inr ht))) h2 (λx hx=>hlt x (List.mem_append.2 (.inr hx))),rfl⟩
 | [],_ :: _,_,_,_,h,_=>h.elim
 | [],[],_ :: _,_,_,h,_=>h.elim
 | _ :: _,[],_,_,_,h,_=>h.elim
 | _ :: _,_ :: _,[],_,_,h,_=>h.elim
theorem law_post{H:Type}{enc:TypeId×Value->H}{P:Program}{f:Func}{s:ChangeSpec}{apart k d:Bool}{W W':World}{args:Array Value}{ds:List (DataW H)}{g:List MemPlace}{tb:TypeId}
  (hl:laidOutB P=true)(hr:f.resultTypes = #[tb])(y:P.underlying tb=some .bool)(hv:s.vars = [])
  (r:s.fn H (ds ++ []) = { results:=[.lit (.bool true)],args:=ds })(m:f.params.toList.all (λt=>P.readableRec t&&decide (t<P.types.size))=true)
  (hW:DataW.Whole enc P f.params.toList s.vars apart W args.toList ds [] g)(hb:Below W.heap.size W W') :
  s.post enc P f apart k d false W args (.bool true) W':=by
 have A:=λp hp=>hW.lt p hp;have B:=hW;obtain⟨p,q,hA,hV,rfl,_,_⟩:=hW;have hq:q = []:=by rw[hv]at hV;exact hV
 subst hq;have j:∀t∈f.params.toList,P.readableRec t=true/\t<P.types.size:=by
  intro t ht;have:=List.all_eq_true.1 m t ht;simpa using this
 refine⟨ds,[],p ++ [],[],p,[],B,?_,?_,?_,?_,λh=>nomatch h⟩
 ·rw[hr,r];have e:(Value.bool true).resultList (#[tb]:Array TypeId).size = [.bool true]:=rfl;rw[e];exact trodAll_mk1 (shut_bool y true)
 ·rw[r];exact nO hl hb _ _ _ _ j hA (λx hx=>A x (List.mem_append.2 (.inl hx)))
 ·rw[r,hv];rfl
 ·exact hb.frame _
end
theorem p8{α β:Type}{f:α->Option β}:∀ {L:List α},(∀x∈L,∃y,f x=some y)->∃ys,L.mapM f=some ys
 | [],_=>⟨[],rfl⟩
 | x :: L,h=>by
  obtain⟨y,hy⟩:=h x sI;obtain⟨ys,d⟩:=p8 (L:=L) (λz hz=>h z (by simp[hz]));exact⟨y :: ys,by simp[List.mapM_cons,hy,d]⟩
theorem size3:3<=Tryz.prog.types.size:=of_decide_eq_true kR
theorem eQ:Tryz.prog.cellsOf 39=32:=kR
theorem vn:Tryz.prog.cellsOf 5=1:=kR
theorem mI(d:Nat){s:ByteArray}(h:s.size<=maxLen):∃l,Tryz.prog.keyLits (d+1) 9 [.string s]=some l:=by
 refine Option.isSome_iff_exists.1 ?_;unfold Program.keyLits;simp only[Tryz.underlying9];rw[if_pos h];rfl
theorem pW(d:Nat)(x:zE):∃l,Tryz.prog.keyLits (d+2) 39 (idC x).toList=some l:=by
 have f:∀i∈List.range 32,∃y,Tryz.prog.keyLits (d+1) 5 (((idC x).toList.drop (i*Tryz.prog.cellsOf 5)).take (Tryz.prog.cellsOf 5))=some y:=by
  intro i hi;have j:i<32:=List.mem_range.1 hi;rw[vn,Nat.mul_one];have e:((idC x).toList.drop i).take 1 = [.int .u8 (idB x i)]:=by
   have:=QJ x i;rw[if_pos j]at this;have h2:(idC x).toList[i]?=some (.int .u8 (idB x i)):=by simpa using this
   rw[List.take_one,List.head?_drop,h2];rfl
  rw[e];refine Option.isSome_iff_exists.1 ?_;unfold Program.keyLits;simp only[Tryz.underlying5];rw[if_pos ⟨trivial,by have:=idB_bd x i;simp[Lit.wf,IntKind.min,IntKind.max,IntKind.signed,IntKind.bits];omega⟩];rfl
 obtain⟨ys,g⟩:=p8 f;refine Option.isSome_iff_exists.1 ?_;unfold Program.keyLits;simp only[Tryz.underlying39];rw[if_pos (by rw[eQ];simp),g];rfl
theorem rowId:39<Tryz.prog.types.size:=of_decide_eq_true kR
theorem fK:gA Tryz.prog 39 (λx:zE=>.agg (idC x)) (λ_=>True) where
 law:=deep_law_laid Tryz.laidOut (m:=2) oM rowId kR (by rw[Tryz.underlying39])
 key:=λx _=>by
  obtain⟨d,hd⟩:∃d,Tryz.prog.types.size+1=d+2:=⟨Tryz.prog.types.size-1,oH size3⟩
  obtain⟨l,hl⟩:=pW d x;refine⟨.string (keyBytes l),?_⟩;unfold keyOf;simp only[Tryz.underlying39];have f:Tryz.prog.keyType 39=true:=kR;have hf:(Value.agg (idC x)).formed Tryz.prog 39=true:=by simp[Value.formed,Tryz.underlying39,eQ]
  rw[f,hf,hd];simp only[Bool.and_self,if_true];have:(Value.agg (idC x)).cells.toList=(idC x).toList:=rfl;rw[this,hl];rfl
 inj:=λa b h=>by injection h with h;exact QI h
section
open Go.RowKit Go.Sort
def Gr(W w:World):Prop:=∃q os,w=grow (W.drewN q) os
theorem Gr.refl(w:World):Gr w w:=⟨0,#[],by rw[grow_empty];rfl⟩
theorem Gr.drew(w:World):Gr w w.drew:=⟨1,#[],by rw[grow_empty];rfl⟩
theorem Gr.trans{a b c:World}(h:Gr a b)(k:Gr b c):Gr a c:=by
 obtain⟨q,os,rfl⟩:=h;obtain⟨q',d,rfl⟩:=k;refine⟨q+q',os++d,?_⟩;show grow (grow ((a.drewN q).drewN q') os) d=_;rw[grow_grow,World.drewN_drewN]
theorem Gr.alloc{W w:World}(h:Gr W w)(o:Obj):Gr W (w.alloc o):=h.trans ⟨0,#[o],by rw[alloc_eq_grow];rfl⟩
theorem Gr.below{W w:World}(h:Gr W w):Below W.heap.size W w:=by
 obtain⟨q,os,rfl⟩:=h;exact⟨rfl,rfl,rfl,by rw[size_grow];exact Nat.le_add_right _ _,λk hk=>heap_grow_old _ _ hk⟩
theorem Gr.drewN{W w:World}(h:Gr W w)(n:Nat):Gr W (w.drewN n):=h.trans ⟨n,#[],by rw[grow_empty]⟩
theorem QK(W:World):Nonempty (Subtype (Gr W)):=⟨⟨W,Gr.refl _⟩⟩
theorem kG{W:World}{p:Addr}{v:Value}(h:W.cell? p=some v):∀x:Subtype (Gr W),x.1.cell? p=some v :=
 λx=>(x.2.below.cell (World.block_lt_of_cell? W _ h)).trans h
theorem rR{W:World}{g o k:Nat}{cs:Array Value}(h:z7 W g o k=some cs):∀x:Subtype (Gr W),z7 x.1 g o k=some cs :=
 λx=>(z9 (x.2.below.block g (zD h)) o k).trans h
end
end Go.Proofs.YtgfpjjppeldhbaaGreatDoor
