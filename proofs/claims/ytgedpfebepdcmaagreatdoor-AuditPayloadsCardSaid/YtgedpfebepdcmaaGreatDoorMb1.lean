/- Part 1 of the texts that lead to this claim: the walks of the functions and the plain law, in order. -/
import Derived.Test.YtgedpfebepdcmaaGreatDoorProg
import Derived.WalkKit
import Derived.WalkSpells
import Derived.WalkLawsBesides
import Derived.BigQuiet
import Derived.Deep.QuietTactic
import Derived.Lib.Hide
import Derived.Lib.ConvBytes
import Derived.Deep.DeepCutAuto
import Derived.Laws.AppendOwn
import Derived.Laws.OwnMore
import Derived.Stop.BytesEq
import Derived.Deep.Quiet
import Derived.StillTail
import Derived.DeepKeys5
import Derived.StringKeys
import Derived.Maps.OwnOps
import Derived.Maps.Range
import Derived.Lib.Bytealg
import Derived.ProofKit
import Derived.OpenShut
import Derived.JoinedCond
import Derived.Sort.Grow
import Derived.Sort.LotA
namespace Go.Proofs.YtgedpfebepdcmaaGreatDoor
open Go.RowKit
set_option maxRecDepth 100000
set_option maxHeartbeats 8000000
theorem fW {B:Nat} {a w:World} (h:Below B a w) (n:Nat):Below B a (w.drewN n):=⟨h.os,h.tape,h.output,h.size,h.block⟩
theorem tF {P:Program} {f:FuncId} {args:Array Value} {w:World} {n:Nat} {v:Value}
    (h:Calls P f args (w.drewN n) fun e w'=>e = .returned v/\w.drewN n=w'):Calls P f args (w.drewN n) fun e w''=>e = .returned v/\∃m,w''=w.drewN m :=
  h.mono fun _ _ ⟨he,hm⟩=>⟨he,n,hm.symm⟩
theorem yB {k:IntKind} {a b:Int} (h:a=b):Ending.returned (.int k a) = .returned (.int k b):=by rw[h]
def bt (s:ByteArray) (k:Nat):Int:=if h:k<s.size then((s[k]'h).toNat:Int)else 0
theorem l9 {s:ByteArray} {k:Nat} (h:k<s.size):((s[k]'h).toNat:Int)=bt s k:=by unfold bt;rw[dif_pos h]
theorem qw (s:ByteArray) (k:Nat):0<=bt s k:=by unfold bt;split <;> omega
theorem zS {a b:Bool} (h:a=b):Ending.returned (.bool a) = .returned (.bool b):=by rw[h]
theorem lK {a b:ByteArray} (h:a=b):Ending.returned (.string a) = .returned (.string b):=by rw[h]
theorem toList_inj {a b:ByteArray}:a.toList=b.toList↔a=b:=by
  rw[ByteArray.toList_eq,ByteArray.toList_eq];exact⟨fun h=>ByteArray.ext (Array.toList_inj.mp h),fun h=>by rw[h]⟩
theorem xM {w w1 w2:World} (h:Below w.heap.size w w1) (k:Below w1.heap.size w1 w2):Below w.heap.size w w2:=h.trans (k.mono h.size)
section
open Go.RowKit
structure z4 (S:List Nat) (w w':World):Prop where
  os:w'.os=w.os
  tape:w'.tape=w.tape
  output:w'.output=w.output
  size:w.heap.size<=w'.heap.size
  block:∀k,k<w.heap.size->k∉S->w'.heap[k]? = w.heap[k]?
theorem z4.refl (S:List Nat) (w:World):z4 S w w:=⟨rfl,rfl,rfl,Nat.le_refl _,fun _ _ _=>rfl⟩
theorem z4.trans {S S':List Nat} {a b c:World} (h:z4 S a b) (k:z4 S' b c) (hs:∀x∈S',x∈S\/a.heap.size<=x):z4 S a c :=
  ⟨k.os.trans h.os,k.tape.trans h.tape,k.output.trans h.output,Nat.le_trans h.size k.size,fun i hi hn =>
    (k.block i (Nat.lt_of_lt_of_le hi h.size) (fun hm=>(hs i hm).elim hn (by omega))).trans (h.block i hi hn)⟩
theorem z4.mono {S S':List Nat} {a b:World} (h:z4 S a b) (hs:∀x∈S,x∈S'\/a.heap.size<=x):z4 S' a b :=
  ⟨h.os,h.tape,h.output,h.size,fun i hi hn=>h.block i hi (fun hm=>(hs i hm).elim hn (by omega))⟩
theorem z4.alloc (w:World) (o:Obj):z4 [] w (w.alloc o):=⟨rfl,rfl,rfl,by simp,fun k hk _=>Below.heap_alloc _ _ _ hk⟩
theorem z4.drew (w:World):z4 [] w w.drew:=⟨rfl,rfl,rfl,Nat.le_refl _,fun _ _ _=>rfl⟩
theorem z4.setCell (w:World) (p:Addr) (u:Value):z4 [p.block] w (w.setCell p u) :=
  ⟨rfl,rfl,rfl,by simp[World.setCell],fun k _ hn=>Below.heap_setCell _ _ _ _ (by simpa using hn)⟩
theorem z4.below {B:Nat} {S:List Nat} {w w':World} (h:z4 S w w') (hB:B<=w.heap.size) (hs:∀x∈S,B<=x):Below B w w' :=
  ⟨h.os,h.tape,h.output,h.size,fun k hk=>h.block k (by omega) (fun hm=>by have:=hs k hm;omega)⟩
theorem z4.of_below {w w':World} (h:Below w.heap.size w w'):z4 [] w w':=⟨h.os,h.tape,h.output,h.size,fun k hk _=>h.block k hk⟩
theorem z4.grown {w w':World} {row:Option Nat} (h:w.grownBy w' row):z4 row.toList w w' :=
  ⟨h.os,h.tape,h.output,h.size,fun k hk hn=>h.block k hk (fun e=>hn (by rw[<-e];simp))⟩
theorem z4.cell {S:List Nat} {w w':World} (h:z4 S w w') {p:Addr} (hp:p.block<w.heap.size) (hn:p.block∉S):w'.cell? p=w.cell? p:=World.cell?_of_block (w:=w) (h.block p.block hp hn)
theorem yy {S S':List Nat} {w:World} {q:Nat} (h:q∉S) (hq:q<w.heap.size) (hs:∀x∈S',x∈S\/w.heap.size<=x):q∉S' :=
  fun hm=>(hs q hm).elim h (by omega)
def z9 (w:World) (g o k:Nat):Option (Array Value) :=
  match w.heap[g]? with
  | some (.cells c _ _)=>if o+k<=c.size then some (c.extract o (o+k))else none
  | _=>none
def ldS (t:TypeId) (a:Addr):Sem Value:=loadVar t a
def bdS (t:TypeId) (parts:Array (Nat×Value)):Sem Value:=Instr.build t parts
def stS (t:TypeId) (a:Addr) (v:Value):Sem Unit:=storeVar t a v
theorem zB {w w':World} {g:Nat} (h:w'.heap[g]? = w.heap[g]?) (o k:Nat):z9 w' g o k=z9 w g o k:=by unfold z9;rw[h]
theorem z4.row {S:List Nat} {w w':World} (h:z4 S w w') {g:Nat} (hg:g<w.heap.size) (hn:g∉S) (o k:Nat):z9 w' g o k=z9 w g o k:=zB (h.block g hg hn) o k
theorem zI {w:World} {g o k:Nat} {cs:Array Value} (h:z9 w g o k=some cs):g<w.heap.size:=by
  rcases Nat.lt_or_ge g w.heap.size with hl | hl
  · exact hl
  · unfold z9 at h;rw[Array.getElem?_eq_none hl]at h;cases h
theorem mM {w:World} {g o k:Nat} {cs:Array Value} (h:z9 w g o k=some cs):cs.size=k:=by
  unfold z9 at h;split at h
  · split at h
    · injection h with h;subst h;simp;omega
    · cases h
  · cases h
theorem z8 {w:World} {g o k:Nat} {cs:Array Value} (h:z9 w g o k=some cs) {j:Nat} (hj:j<k):w.cell? ⟨g,o+j,none⟩=cs[j]?:=by
  unfold z9 at h;split at h
  · rename_i c t f hg
    split at h
    · injection h with h;subst h
      simp only[World.cell?,hg,Option.isSome_none,Bool.false_eq_true,if_false,Array.getElem?_extract];rw[if_pos (by omega)]
    · cases h
  · cases h
theorem zV {w:World} {g o k:Nat} {cs:Array Value} (h:z9 w g o k=some cs) {j m:Nat} (hj:j+m<=k):z9 w g (o+j) m=some (cs.extract j (j+m)):=by
  unfold z9 at h |-;split at h
  · rename_i c t f hg
    split at h
    · rename_i hle
      injection h with h;subst h
      rw[if_pos (by omega)];congr 1
      rw[Array.extract_extract];congr 1 <;> omega
    · cases h
  · cases h
@[simp,go_sem] theorem rowAt_drew (w:World) (g o k:Nat):z9 (w.drew) g o k=z9 w g o k:=rfl
@[simp,go_sem] theorem rowAt_drewN (w:World) (n g o k:Nat):z9 (w.drewN n) g o k=z9 w g o k:=rfl
@[go_sem] theorem rowAt_alloc (w:World) (c:Array Value) (e:TypeId) (fr:Nat×Nat) (g o k:Nat) :
    z9 (w.alloc (.cells c e fr)) g o k=if g=w.heap.size then(if o+k<=c.size then some (c.extract o (o+k))else none)else z9 w g o k:=by
  by_cases h:g=w.heap.size
  · subst h;unfold z9;rw[heap_alloc_new];simp
  · rw[if_neg h];refine zB ?_ o k;show(w.heap.push _)[g]? = _;rw[Array.getElem?_push,if_neg h]
section
variable {P:Program}
theorem vD {t:TypeId} {d:TypeDesc} {k:Nat} (hu:P.underlying t=some d) (hd:(match d with | .struct _ | .array _ _=>true | _=>false)=true) (hi:(P.info? t).map (·.size)=some k) (w:World) (g o:Nat) :
    (ldS t ⟨g,o,none⟩).run P w=match z9 w g o k with | some cs=>.ok (.agg cs) w | none=>(loadVar t ⟨g,o,none⟩).run P w:=by
  cases h:z9 w g o k with
  | none=>rfl
  | some cs =>
    have hsz:=mM h;have hl:(loadCells ⟨g,o,none⟩ cs.toList.length).run P w = .ok cs.toList.toArray w :=
      run_loadCells_list (P:=P) w ⟨g,o,none⟩ cs.toList (fun j v hv=>by
        have hadd:(⟨g,o,none⟩:Addr).add j=⟨g,o+j,none⟩:=by unfold Addr.add;split <;> simp_all
        have hj:j<k:=by
          have:=(List.getElem?_eq_some_iff.1 hv).1;simp at this;omega
        rw[hadd,z8 h hj];simpa using hv)
    simp only[Array.length_toList,hsz]at hl;have hagg:(isAgg t).run P w = .ok true w:=by
      cases d <;> simp_all [isAgg,run_underlying hu]
    unfold ldS loadVar;simp only[Sem.run_bind,hagg,Result.andThen_ok];cases hinfo:P.info? t with
    | none=>rw[hinfo]at hi;cases hi
    | some i =>
      rw[hinfo]at hi;have hk:i.size=k:=by simpa using hi
      simp[sizeOf,typeInfo,hinfo,hk,hl]
theorem Y2 (w:World) (z c:Array Value) (e:TypeId) (fr:Nat×Nat):(w.alloc (.cells z e fr)).setRow w.heap.size c=w.alloc (.cells c e fr):=by
  show({ w with heap:=(w.heap.push (.cells z e fr)).modify w.heap.size _ }:World) = { w with heap:=w.heap.push (.cells c e fr) }
  congr 1
  apply Array.ext
  · simp
  · intro i h1 h2;simp only[Array.getElem_modify,Array.getElem_push];by_cases h:w.heap.size=i
    · subst h;simp
    · have hi:i<w.heap.size:=by simp at h1;omega
      simp[h,hi]
theorem qB {t e:TypeId} {k:Nat} (hi:(P.info? t).map (·.size)=some k) (w:World) (z cs:Array Value) (hz:z.size=k) (hc:cs.size=k) (h1:∀u∈cs.toList,u.oneCell'=true) :
    (stS t ⟨w.heap.size,0,none⟩ (.agg cs)).run P (w.alloc (.cells z e)) = .ok () (w.alloc (.cells cs e)):=by
  unfold stS storeVar;cases hinfo:P.info? t with
  | none=>rw[hinfo]at hi;cases hi
  | some i =>
    rw[hinfo]at hi;have hk:i.size=k:=by simpa using hi
    have hst:=run_storeCells_at P w.heap.size 0 e cs.toList 0 z (w.alloc (.cells z e)) (heap_alloc_new w _) (by simp;omega) h1;have hE:(z.toList.take (0+0)++cs.toList++z.toList.drop (0+0+cs.toList.length)).toArray=cs:=by
      rw[List.drop_of_length_le (by simp;omega)]
      simp
    rw[hE,Y2]at hst;simp[Value.cells,sizeOf,typeInfo,hinfo,hk,hc];exact hst
end
theorem fM (A B C:Array Value) (i j:Nat) (hi:A.size=i) (hj:i+B.size=j):(A++B++C).extract i j=B:=by
  subst hi;subst hj;rw[Array.append_assoc];apply Array.ext'
  simp
theorem xS (A C:Array Value) (v:Value) (i:Nat) (hi:A.size=i):(A ++ #[v]++C)[i]? = some v:=by
  subst hi;rw[Array.getElem?_append_left (by simp),Array.getElem?_append_right (by omega)]
  simp
theorem fold_seg (v:List Value):∀(A B C:List Value) (n:Nat),B.length=v.length ->
    (v.zipIdx n).foldl (fun (cs:Array Value) (p:Value×Nat)=>cs.setIfInBounds (A.length-n+p.2) p.1) (A++B++C).toArray=(A++v++C).toArray\/A.length<n:=by
  induction v with
  | nil=>intro A B C n h;left;have:B = []:=List.eq_nil_of_length_eq_zero h;subst this;rfl
  | cons u v ih =>
    intro A B C n h
    match B,h with
    | b :: B,h =>
      by_cases hn:A.length<n
      · exact .inr hn
      · left
        have h1:=ih (A ++ [u]) B C (n+1) (by simpa using h);rcases h1 with h1 | h1
        · simp only[List.zipIdx_cons,List.foldl_cons];have e:(A++b :: B++C).toArray.setIfInBounds (A.length-n+n) u=(A ++ [u]++B++C).toArray:=by
            rw[Nat.sub_add_cancel (by omega)]
            simp
          rw[e];have e2:(A ++ [u]).length-(n+1)=A.length-n:=by simp
          rw[e2]at h1;rw[h1];simp
        · simp at h1;omega
theorem xD {place:Nat->Option (Nat×Nat)} {A B C:Array Value} {i off size:Nat} {v:Value} {rest:List (Nat×Value)} (hp:place i=some (off,size)) (hA:A.size=off) (hB:B.size=size) (hv:v.cells.size=size) :
    Instr.fill place (A++B++C) ((i,v) :: rest)=Instr.fill place (A++v.cells++C) rest:=by
  have hd:v.cells.zipIdx.foldl (fun (cs:Array Value) (p:Value×Nat)=>cs.setIfInBounds (off+p.2) p.1) (A++B++C)=A++v.cells++C:=by
    have:=fold_seg v.cells.toList A.toList B.toList C.toList 0 (by simp;omega);rcases this with h | h
    · simp only[Array.length_toList,Nat.sub_zero,hA]at h;have eA:(A.toList++B.toList++C.toList).toArray=A++B++C:=by apply Array.ext';simp
      have eB:(A.toList++v.cells.toList++C.toList).toArray=A++v.cells++C:=by apply Array.ext';simp
      rw[eA,eB]at h;rw[<-Array.foldl_toList,Array.toList_zipIdx];exact h
    · omega
  simp only[Instr.fill,hp];rw[if_neg (by simp[hv,hB,hA])];exact congrArg (fun cs=>Instr.fill place cs rest) hd
theorem vB {P:Program} {t:TypeId} (w:World) (hu:P.underlying t=some (.struct (P.fieldsOf t))) (z:Array Value) (hz:(zeroValue t).run P w = .ok (.agg z) w) (pl:Array (Nat×Nat))
    (hpl:((P.fieldsOf t).mapM fun (f:Field)=>do pure (f.offset,<-sizeOf f.type)).run P w = .ok pl w) (parts:List (Nat×Value)) (cs:Array Value) (hf:Instr.fill (pl[·]?) z parts=some cs) :
    (Instr.build t parts.toArray).run P w = .ok (.agg cs) w:=by
  unfold Instr.build;simp only[Sem.run_bind,hz,Result.andThen_ok,run_underlying hu,hpl,Value.cells,hf,Sem.run_pure]
end
structure zJ where
  l:List UInt8
  h:l.length=32
def yW (c:UInt8):Value:=.int .u8 c.toNat
def idC (x:zJ):Array Value:=(x.l.map yW).toArray
theorem zJ.ext' {a b:zJ} (h:a.l=b.l):a=b:=by cases a;cases b;simp_all
instance:DecidableEq zJ:=fun a b=>if h:a.l=b.l then isTrue (zJ.ext' h)else isFalse (fun e=>h (by rw[e]))
@[simp] theorem vT (x:zJ):(idC x).size=32:=by simp[idC,x.h]
theorem YN {a b:zJ} (h:idC a=idC b):a=b:=by
  apply zJ.ext';have h2:a.l.map yW=b.l.map yW:=by simpa[idC]using h
  have inj:∀x y:UInt8,yW x=yW y->x=y:=fun x y e=>by
    unfold yW at e;injection e with _ e;exact UInt8.toNat_inj.1 (by omega)
  exact(List.map_inj_right inj).1 h2
def idB (x:zJ) (i:Nat):Int:=((x.l.getD i 0).toNat:Int)
theorem idB_bd (x:zJ) (i:Nat):0<=idB x i/\idB x i<=255:=by
  have:=(x.l.getD i 0).toNat_lt;unfold idB;omega
@[go_sem] theorem YO (x:zJ) (i:Nat):(idC x)[i]? = if i<32 then some (.int .u8 (idB x i))else none:=by
  by_cases h:i<32
  · rw[if_pos h];have hl:i<x.l.length:=by rw[x.h];exact h
    simp[idC,idB,yW,List.getD,hl]
  · rw[if_neg h];exact Array.getElem?_eq_none (by rw[vT];omega)
@[go_sem] theorem idC_getElem (x:zJ) (i:Nat) (h:i<(idC x).size):(idC x)[i]'h = .int .u8 (idB x i):=by
  have h1:i<32:=by rw[vT]at h;exact h
  have h2:=YO x i;rw[if_pos h1,Array.getElem?_eq_getElem h]at h2;exact Option.some.inj h2
@[go_sem] theorem idC_all (x:zJ):(idC x).extract 0 32=idC x:=by
  have:=Array.extract_size (xs:=idC x);rwa [vT]at this
theorem qJ (x:zJ):∀u∈(idC x).toList,u.oneCell'=true:=by
  intro u hu;simp[idC]at hu;obtain⟨c,_,rfl⟩:=hu;rfl
def id0:zJ:=⟨List.replicate 32 0,by simp⟩
section
theorem kI:(Tryz.prog.info? 24).map (·.size)=some 32:=by kernel_rfl
theorem JO (w:World):(zeroValue 24).run Tryz.prog w = .ok (.agg (idC id0)) w:=by
  have h:(Tryz.prog.info? 24).bind (·.zero)=some (.agg (idC id0)):=by kernel_rfl
  cases hi:Tryz.prog.info? 24 with
  | none=>rw[hi]at h;cases h
  | some i =>
    rw[hi]at h;have hz:i.zero=some (.agg (idC id0)):=h;simp[zeroValue,typeInfo,hi,hz]
attribute [go_sem ↓] JO
@[go_sem ↓] theorem loadId_rw (a:Addr):loadVar 24 a=ldS 24 a:=rfl
@[go_sem ↓] theorem storeId_rw (a:Addr) (v:Value):storeVar 24 a v=stS 24 a v:=rfl
@[go_sem] theorem loadId_run (w:World) (g o:Nat):(ldS 24 ⟨g,o,none⟩).run Tryz.prog w=match z9 w g o 32 with | some cs=>.ok (.agg cs) w | none=>(loadVar 24 ⟨g,o,none⟩).run Tryz.prog w :=
  vD Tryz.underlying24 rfl kI w g o
@[go_sem] theorem storeId_run (w:World) (g:Nat) (hg:g=w.heap.size) (z:Array Value) (hz:z.size=32) (x:zJ) (e:TypeId):(stS 24 ⟨g,0,none⟩ (.agg (idC x))).run Tryz.prog (w.alloc (.cells z e)) = .ok () (w.alloc (.cells (idC x) e)) :=
  hg ▸ qB kI w z (idC x) hz (vT x) (qJ x)
theorem va (w:World):(sizeOf 5).run Tryz.prog w = .ok 1 w:=by
  have h:(Tryz.prog.info? 5).map (·.size)=some 1:=by kernel_rfl
  cases hi:Tryz.prog.info? 5 with
  | none=>rw[hi]at h;cases h
  | some i =>
    rw[hi]at h;have hk:i.size=1:=by simpa using h
    simp[sizeOf,typeInfo,hi,hk]
theorem sR (d:Nat) (x y:zJ) (w:World):(Op.equalIn (d+2) 24 (.agg (idC x)) (.agg (idC y))).run Tryz.prog w = .ok (x==y) w:=by
  have e:∀z:zJ,idC z=(z.l.map Extern.Stop.cell).toArray:=fun _=>rfl;have hb:(x.l==y.l)=(x==y):=by
    rw[Bool.eq_iff_iff];simp only[beq_iff_eq];exact⟨zJ.ext',fun h=>by rw[h]⟩
  rw[e x,e y,run_equalIn_bytes (P:=Tryz.prog) w d 24 5 32 Tryz.underlying24 Tryz.underlying5 va x.l y.l x.h y.h,hb]
@[go_sem ↓] theorem eqId_run (x y:zJ) (w:World):(Op.equalIn 10000 24 (.agg (idC x)) (.agg (idC y))).run Tryz.prog w = .ok (x==y) w:=sR 9998 x y w
end
section
open Go.RowKit
def z3 (cv:Bool) (o:Oper):Bool :=
  match o.op with
  | .call c=>(match c.callee with | .builtin .len=>false | .builtin .cap=>false | _=>true)
  | .alloc _ | .box _ _ | .buildSlice _ _ _ | .store _ _ _ | .insert _ _ _ _ | .mapUpdate _ _ _ _ | .mapEntry _ _ _ | .entryStore _ _ _ _ | .makeMap _ _ | .makeChan _ _ | .makeSlice _ _ _ | .range _ _ | .next _ _=>true
  | .convert _ _ _=>cv
  | _=>false
def jJ (cv:Bool) (ops:Array Oper) (i:Nat):Bool:=((ops[i]?).map (z3 cv)).getD false
def ZW (md:Region.Mode) (ops:Array Oper) (j p:Nat):Bool :=
  match ops[j]? with
  | some oj=>oj.after.any fun e=>Region.binds md e&&e.on==p
  | none=>false
def chainB (md:Region.Mode) (cv:Bool) (ops:Array Oper):Bool :=
  (List.range ops.size).all fun j=>!jJ cv ops j||(match (List.range j).reverse.find? (jJ cv ops)with | some p=>ZW md ops j p | none=>true)
section
variable {P:Program} {ops:Array Oper} {md:Region.Mode} {S:World->Prop} {cv fb:Bool}
def jD (w:World) (v:Value):Result Next->Prop
  | .ok (.value u) w'=>w'=w/\u=v
  | .ok .skip w'=>w'=w/\v=undef
  | _=>False
theorem aC {w:World} {v u:Value} {r:Result Next} (h:jD w v r) (k:jD w u r):v=u:=by
  cases r with
  | ok n w'=>cases n <;> simp only[jD]at h k <;> first | exact h.2.symm.trans k.2 | exact h.2.trans k.2.symm | exact h.elim
  | halt x w'=>exact h.elim
def xG (P:Program) (S:World->Prop) (K:Value->World->Prop):Result Next->Prop
  | .ok (.value u) w'=>S w'/\K u w'
  | .ok .skip w'=>S w'/\K undef w'
  | .ok (.enter f args) w'=>Calls P f args w' (fun e w''=>∃v,e = .returned v/\S w''/\K v w'')
  | _=>False
theorem jY {K K':Value->World->Prop} {r:Result Next} (hk:∀v w,S w->K v w->K' v w) (h:xG P S K r):xG P S K' r:=by
  cases r with
  | ok n w' =>
    cases n <;> simp only[xG]at h |-
    case value u=>exact⟨h.1,hk _ _ h.1 h.2⟩
    case skip=>exact⟨h.1,hk _ _ h.1 h.2⟩
    case enter f args=>exact h.mono fun e w'' ⟨v,he,hs,h2⟩=>⟨v,he,hs,hk _ _ hs h2⟩
  | halt x w'=>exact h.elim
theorem jP {S':World->Prop} {K K':Value->World->Prop} {r:Result Next} (hs:∀w,S w->S' w) (hk:∀v w,S w->K v w->K' v w) (h:xG P S K r):xG P S' K' r:=by
  cases r with
  | ok n w' =>
    cases n <;> simp only[xG]at h |-
    case value u=>exact⟨hs _ h.1,hk _ _ h.1 h.2⟩
    case skip=>exact⟨hs _ h.1,hk _ _ h.1 h.2⟩
    case enter f args=>exact h.mono fun e w'' ⟨v,he,hs',h2⟩=>⟨v,he,hs _ hs',hk _ _ hs' h2⟩
  | halt x w'=>exact h.elim
theorem mG {K:Value->World->Prop} {r:Result Next} (h:xG P S K r):∃v w,S w/\K v w:=by
  cases r with
  | ok n w' =>
    cases n <;> simp only[xG]at h
    case value u=>exact⟨_,_,h.1,h.2⟩
    case skip=>exact⟨_,_,h.1,h.2⟩
    case enter f args =>
      obtain⟨e,w'',fr,⟨v,_,hs,hk⟩,_⟩:=h [];exact⟨v,w'',hs,hk⟩
  | halt x w'=>exact h.elim
def cls (ops:Array Oper) (S:World->Prop) (fb:Bool) (i:Nat):World->Prop:=fun w=>S w\/(fb=true/\i+1=ops.size)
def YR (md:Region.Mode) (ops:Array Oper):Bool:=decide (0<ops.size)&&Region.sinkB md ops (ops.size-1)
def lxOp (P:Program) (ops:Array Oper) (S:World->Prop) (cv fb:Bool) (i:Nat) (K:Act->World->Prop) (a:Act) (w:World):Prop :=
  match ops[i]? with
  | none=>K a w
  | some o =>
    if Region.wanted o (yielded ops a.tmps)then
      (if z3 cv o then xG P (cls ops S fb i) (fun v w'=>K (a.put o.dst v) w') ((execOp a.eval o).run P w)
       else ∃v,(∀w',S w'->jD w' v ((execOp a.eval o).run P w'))/\K (a.put o.dst v) w)
    else K (a.put o.dst undef) w
theorem r8 {i:Nat} {a:Act} {w:World} {K K':Act->World->Prop} (hS:S w) (h:∀a w,cls ops S fb i w->K a w->K' a w) (hh:lxOp P ops S cv fb i K a w):lxOp P ops S cv fb i K' a w:=by
  have hSi:cls ops S fb i w:=.inl hS;unfold lxOp at *;split
  · exact h _ _ hSi (by simpa[*]using hh)
  · rename_i o ho
    simp only[ho]at hh;split
    · rename_i hw
      rw[if_pos hw]at hh;split
      · rename_i hc;rw[if_pos hc]at hh;exact jY (fun v w hs hk=>h _ _ hs hk) hh
      · rename_i hc;rw[if_neg hc]at hh;obtain⟨v,h1,h2⟩:=hh;exact⟨v,h1,h _ _ hSi h2⟩
    · rename_i hw;rw[if_neg hw]at hh;exact h _ _ hSi hh
def kR (P:Program) (md:Region.Mode) (ops:Array Oper) (S:World->Prop) (cv fb:Bool) (Q:Act->World->Prop):Nat->Array Bool->Act->World->Prop
  | 0,listed,a,w=>Region.ready md ops listed = []/\Q a w
  | fuel+1,listed,a,w =>
    (Region.ready md ops listed = []->Q a w) /\
    ∀i∈Region.ready md ops listed,lxOp P ops S cv fb i (kR P md ops S cv fb Q fuel (listed.setIfInBounds i true)) a w
theorem wO {Q':Exit->Act->World->Prop} {i:Nat} {a:Act} {w:World} {K K':Act->World->Prop} (hS:S w) (h:∀a w,cls ops S fb i w->K a w->K' a w) (hh:lxOp P ops S cv fb i K a w):wpOp P ops Q' i K' a w:=by
  have hSi:cls ops S fb i w:=.inl hS;unfold lxOp at hh;unfold wpOp;split
  · rename_i ho;simp only[ho]at hh;exact h _ _ hSi hh
  · rename_i o ho
    simp only[ho]at hh;split
    · rename_i hw
      rw[if_pos hw]at hh;refine .inl ?_;unfold Oper.wp;split at hh
      · generalize (execOp a.eval o).run P w=r at *;cases r with
        | ok n w' =>
          cases n <;> simp only[xG]at hh <;> simp only[Oper.upon]
          case value u=>exact h _ _ hh.1 hh.2
          case skip=>exact h _ _ hh.1 hh.2
          case enter f args=>exact hh.mono fun e w'' ⟨v,he,hs,hk⟩=>by subst he;exact h _ _ hs hk
        | halt x w'=>exact hh.elim
      · obtain⟨v,h1,h2⟩:=hh;have h3:=h1 w hS;generalize (execOp a.eval o).run P w=r at *;cases r with
        | ok n w' =>
          cases n <;> simp only[jD]at h3 <;> simp only[Oper.upon]
          case value u=>obtain⟨e1,e2⟩:=h3;rw[e1,e2];exact h _ _ hSi h2
          case skip=>obtain⟨e1,e2⟩:=h3;rw[e1,<-e2];exact h _ _ hSi h2
        | halt x w'=>exact h3.elim
    · rename_i hw;rw[if_neg hw]at hh;exact h _ _ hSi hh
structure qY (md:Region.Mode) (ops:Array Oper) (fb:Bool) (listed:Array Bool):Prop where
  inv:fb=true->YR md ops=true/\(HeadInv md ops (ops.size-1) listed\/Region.ready md ops listed = [])
theorem qY.end_ {listed:Array Bool} (h:qY md ops fb listed) (hfb:fb=true) {i:Nat} (hi:i∈Region.ready md ops listed) (he:i+1=ops.size):∀j∈Region.ready md ops listed,j=i:=by
  obtain⟨hB,h1⟩:=h.inv hfb;rcases h1 with h1 | h1
  · intro j hj;simp only[YR,Bool.and_eq_true,decide_eq_true_eq]at hB;obtain⟨hjun,oj,hoj,_⟩:=mem_ready.1 hj;have hjs:j<ops.size:=(Array.getElem?_eq_some_iff.1 hoj).1;rcases Nat.lt_or_ge j i with hlt | hge
    · exfalso
      have hch:Region.chainB md ops (ops.size-1)=true:=by
        unfold Region.chainB;rw[List.all_eq_true];intro t ht;have:=List.mem_range.1 ht
        simp;left;omega
      exact tail_waits hB.2 hch (by omega) h1 (ops.size-1-j) j rfl (by omega) hjun i (by omega) hi
    · omega
  · rw[h1]at hi;cases hi
theorem qY.set {listed:Array Bool} (h:qY md ops fb listed) {i:Nat} (hi:i∈Region.ready md ops listed):qY md ops fb (listed.setIfInBounds i true):=by
  refine⟨fun hfb=>?_⟩;obtain⟨hB,h1⟩:=h.inv hfb;refine⟨hB,?_⟩;rcases h1 with h1 | h1
  · by_cases he:i+1=ops.size
    · right
      have hall:=h.end_ hfb hi he;apply List.eq_nil_iff_forall_not_mem.2;intro j hj;obtain⟨hjun,oj,hoj,hallj⟩:=mem_ready.1 hj;have hjs:j<ops.size:=(Array.getElem?_eq_some_iff.1 hoj).1;have hji:j≠i:=by
        rintro rfl;have hsz:j<listed.size:=by rw[h1.size];exact hjs
        simp[hsz]at hjun
      simp only[YR,Bool.and_eq_true,decide_eq_true_eq]at hB;have hch:Region.chainB md ops (ops.size-1)=true:=by
        unfold Region.chainB;rw[List.all_eq_true];intro t ht;have:=List.mem_range.1 ht
        simp;left;omega
      rw[getD_set_ne true (Ne.symm hji)]at hjun;exact tail_waits hB.2 hch (by omega) h1 (ops.size-1-j) j rfl (by omega) hjun i (by omega) hi
    · left
      obtain⟨_,oi,hoi,_⟩:=mem_ready.1 hi;have his:i<ops.size:=(Array.getElem?_eq_some_iff.1 hoi).1;exact h1.set hi (by omega)
  · rw[h1]at hi;cases hi
theorem qY.cls {listed:Array Bool} {w:World} (h:qY md ops fb listed) {i j:Nat} (hi:i∈Region.ready md ops listed) (hj:j∈Region.ready md ops listed) (hji:j≠i) (hc:cls ops S fb j w):S w:=by
  rcases hc with hc | ⟨hfb,he⟩
  · exact hc
  · exact absurd (h.end_ hfb hj he i hi).symm hji
theorem kF {Q:Act->World->Prop} {Q':Exit->Act->World->Prop} (hQ:∀a w,(S w\/fb=true)->Q a w->Q' .normal a w):∀(fuel:Nat) (listed:Array Bool) (a:Act) (w:World),qY md ops fb listed->(S w\/(fb=true/\Region.ready md ops listed = [])) ->
    kR P md ops S cv fb Q fuel listed a w->wpAny P md ops Q' fuel listed a w
  | 0,_,_,_,_,hS,h=>⟨h.1,hQ _ _ (hS.imp id (·.1)) h.2⟩
  | fuel+1,listed,_,_,hI,hS,h=>⟨fun h0=>hQ _ _ (hS.imp id (·.1)) (h.1 h0),fun i hi=>by
      rcases hS with hS | ⟨_,h0⟩
      · refine wO hS (fun a' w' hS'=>kF hQ fuel _ a' w' (hI.set hi) ?_) (h.2 i hi);rcases hS' with hS' | ⟨hfb,he⟩
        · exact .inl hS'
        · right
          refine⟨hfb,?_⟩;rcases ((hI.set hi).inv hfb).2 with h1 | h1
          · exfalso
            have:=h1.tail i (by omega) (by omega);have hsz:i<(listed.setIfInBounds i true).size:=by rw[h1.size];omega
            have hsz':i<listed.size:=by simpa using hsz
            simp[hsz']at this
          · exact h1
      · rw[h0]at hi;cases hi⟩
def q8 (P:Program) (ops:Array Oper) (S:World->Prop) (cv:Bool) (o:Oper) (v:Value) (a:Act):Prop :=
  (Region.wanted o (yielded ops a.tmps)=true/\z3 cv o=false/\∀w,S w->jD w v ((execOp a.eval o).run P w)) \/
  (Region.wanted o (yielded ops a.tmps)=false/\v=undef)
theorem q8.lxOp {i:Nat} {o:Oper} {v:Value} {a:Act} {w:World} (hi:ops[i]? = some o) (hy:q8 P ops S cv o v a) {K:Act->World->Prop} (h:K (a.put o.dst v) w):lxOp P ops S cv fb i K a w:=by
  unfold Proofs.YtgedpfebepdcmaaGreatDoor.lxOp;simp only[hi];rcases hy with⟨hw,hc,hv⟩ | ⟨hw,rfl⟩
  · rw[if_pos hw,hc];exact⟨v,hv,h⟩
  · rw[if_neg (by rw[hw];simp)];exact h
theorem q8.of_same {o:Oper} {v:Value} {a a':Act} (hy:q8 P ops S cv o v a) (he:execOp a'.eval o=execOp a.eval o)
    (hw:Region.wanted o (yielded ops a'.tmps)=Region.wanted o (yielded ops a.tmps)):q8 P ops S cv o v a':=by
  unfold q8 at *;rw[he,hw];exact hy
theorem q8.uniq {o:Oper} {v u:Value} {a:Act} {w:World} (hS:S w) (h:q8 P ops S cv o v a) (k:q8 P ops S cv o u a):v=u:=by
  rcases h with⟨h1,_,h2⟩ | ⟨h1,h2⟩ <;> rcases k with⟨k1,_,k2⟩ | ⟨k1,k2⟩
  · exact aC (h2 w hS) (k2 w hS)
  · rw[h1]at k1;cases k1
  · rw[h1]at k1;cases k1
  · rw[h2,k2]
theorem eL {j:Nat} {oi oj:Oper} {v:Value} (hj:ops[j]? = some oj) (hap:oi.apart ops oj=true)
    (hsi:∀cs b,oi.op≠.select cs b) (hsj:∀cs b,oj.op≠.select cs b) {K:Act->World->Prop} {a:Act} {w:World}
    (hy:q8 P ops S cv oi v a) (h:lxOp P ops S cv fb j K (a.put oi.dst v) w) :
    lxOp P ops S cv fb j (fun a' w'=>q8 P ops S cv oi v a'/\K (a'.put oi.dst v) w') a w:=by
  obtain⟨h1,h2,h3⟩:=Oper.apart_spec hap;have keep:∀(a:Act),q8 P ops S cv oi v a->∀u,q8 P ops S cv oi v (a.put oj.dst u):=fun a hy u =>
    hy.of_same (execOp_put oi hsi a oj.dst u h3) (wanted_put oi a oj.dst u h3)
  unfold lxOp at *;simp only[hj]at *;rw[wanted_put oj a oi.dst v h1,execOp_put oj hsj a oi.dst v h1]at h;split
  · rename_i hw
    rw[if_pos hw]at h;split
    · rename_i hc
      rw[if_pos hc]at h;exact jY (fun u w' _ hk=>⟨keep a hy u,by rw[<-Act.put_comm a v u h2];exact hk⟩) h
    · rename_i hc
      rw[if_neg hc]at h;obtain⟨u,hu,hk⟩:=h;exact⟨u,hu,keep a hy u,by rw[<-Act.put_comm a v u h2];exact hk⟩
  · rename_i hw
    rw[if_neg hw]at h;exact⟨keep a hy _,by rw[<-Act.put_comm a v undef h2];exact h⟩
theorem vM {Q:Act->World->Prop} {i:Nat} {oi:Oper} {v:Value} (hi:ops[i]? = some oi) (hsel:∀(j:Nat) (o:Oper) cs b,ops[j]? = some o->o.op≠.select cs b) :
    ∀(fuel:Nat) (listed:Array Bool) (a:Act) (w:World),qY md ops fb listed->S w ->
      (∀j oj,ops[j]? = some oj->j≠i->listed.getD j true=false->(∀e∈oj.after,Region.binds md e=true->e.on≠i)->oi.apart ops oj=true) ->
      i∈Region.ready md ops listed->q8 P ops S cv oi v a ->
      kR P md ops S cv fb Q fuel (listed.setIfInBounds i true) (a.put oi.dst v) w->kR P md ops S cv fb Q (fuel+1) listed a w:=by
  intro fuel;induction fuel with
  | zero =>
    intro listed a w _ _ _ hr hy H;refine⟨fun h=>(by rw[h]at hr;cases hr),fun j hj=>?_⟩;by_cases hji:j=i
    · subst hji;exact hy.lxOp hi H
    · have:=ready_mono hj hji;rw[H.1]at this;cases this
  | succ fuel ih =>
    intro listed a w hI hS hfree hr hy H;refine⟨fun h=>(by rw[h]at hr;cases hr),fun j hj=>?_⟩;by_cases hji:j=i
    · subst hji;exact hy.lxOp hi H
    · have h1:=H.2 j (ready_mono hj hji);obtain⟨hjun,oj,hoj,hall⟩:=mem_ready.1 hj;have hnot:∀e∈oj.after,Region.binds md e=true->e.on≠i:=fun e he hb heq=>by
        have h1:=hall e he hb;have h0:=(mem_ready.1 hr).1;rw[heq]at h1;rcases Nat.lt_or_ge i listed.size with h' | h'
        · simp[h']at h0 h1;rw[h0]at h1;cases h1
        · simp[Array.getElem?_eq_none h']at h1
      have h2:=eL hoj (hfree j oj hoj hji hjun hnot) (fun cs b=>hsel i oi cs b hi) (fun cs b=>hsel j oj cs b hoj) hy h1;have hfree':∀k ok,ops[k]? = some ok->k≠i->(listed.setIfInBounds j true).getD k true=false ->
          (∀e∈ok.after,Region.binds md e=true->e.on≠i)->oi.apart ops ok=true:=fun k ok hk hki hun hno=>by
        refine hfree k ok hk hki ?_ hno;by_cases hjk:j=k
        · subst hjk;exact hjun
        · rw[getD_set_ne true hjk]at hun;exact hun
      refine r8 hS (fun a' w' hS' h3=>ih (listed.setIfInBounds j true) a' w' (hI.set hj) (hI.cls hr hj hji hS') hfree' (ready_mono hr (Ne.symm hji)) h3.1 ?_) h2;rw[Array.setIfInBounds_comm _ _ hji];exact h3.2
theorem aJ {Q:Act->World->Prop} {i:Nat} {oi:Oper} (hi:ops[i]? = some oi) (hc:z3 cv oi=true) (hsel:∀(j:Nat) (o:Oper) cs b,ops[j]? = some o->o.op≠.select cs b)
    (hch:chainB md cv ops=true) :
    ∀(fuel:Nat) (listed:Array Bool) (a:Act) (w:World),qY md ops fb listed->S w ->
      (∀j oj,ops[j]? = some oj->j≠i->listed.getD j true=false->(∀e∈oj.after,Region.binds md e=true->e.on≠i)->oi.apart ops oj=true) ->
      (∀j,jJ cv ops j=true->(j<i->listed.getD j true=true)/\(i<=j->listed.getD j false=false)) ->
      i∈Region.ready md ops listed->Region.wanted oi (yielded ops a.tmps)=true ->
      xG P (cls ops S fb i) (fun v w'=>kR P md ops S cv fb Q fuel (listed.setIfInBounds i true) (a.put oi.dst v) w') ((execOp a.eval oi).run P w)->kR P md ops S cv fb Q (fuel+1) listed a w:=by
  have key:∀(listed:Array Bool),(∀j,jJ cv ops j=true->(j<i->listed.getD j true=true)/\(i<=j->listed.getD j false=false)) ->
      ∀j∈Region.ready md ops listed,j≠i->∀oj,ops[j]? = some oj->z3 cv oj=false:=by
    intro listed hinv j hj hji oj hoj;cases hcj:z3 cv oj with
    | false=>rfl
    | true =>
      exfalso
      have hcat:jJ cv ops j=true:=by unfold jJ;rw[hoj];exact hcj
      have hciat:jJ cv ops i=true:=by unfold jJ;rw[hi];exact hc
      obtain⟨hjun,o',ho',hall⟩:=mem_ready.1 hj;obtain⟨i1,i2⟩:=hinv j hcat;rcases Nat.lt_or_ge j i with hlt | hge
      · rw[i1 hlt]at hjun;cases hjun
      · have hgt:i<j:=by omega
        have hjs:j<ops.size:=(Array.getElem?_eq_some_iff.1 hoj).1;have h1:=List.all_eq_true.1 hch j (List.mem_range.2 hjs);rw[hcat]at h1;simp only[Bool.not_true,Bool.false_or]at h1;cases hf:(List.range j).reverse.find? (jJ cv ops)with
        | none =>
          have:=List.find?_eq_none.1 hf i (by simp;omega);exact this hciat
        | some p =>
          rw[hf]at h1;have hp1:jJ cv ops p=true:=List.find?_some hf;have hpi:i<=p:=by
            rcases Nat.lt_or_ge p i with hlt | hge'
            · exfalso
              have hrev:(List.range j).reverse=((List.range j).reverse.take (j-1-i))++(i :: (List.range j).reverse.drop (j-i)):=by
                apply List.ext_getElem?;intro n;have hle:((List.range j).reverse.take (j-1-i)).length=j-1-i:=by simp;omega
                by_cases h1n:n<j-1-i
                · rw[List.getElem?_append_left (by omega),List.getElem?_take,if_pos h1n]
                · rw[List.getElem?_append_right (by omega),hle];by_cases h2n:n=j-1-i
                  · subst h2n;rw[Nat.sub_self,List.getElem?_cons_zero,List.getElem?_reverse (by simp;omega)];simp only[List.length_range];rw[List.getElem?_range (by omega)];congr 1;omega
                  · have:n-(j-1-i)=(n-(j-i))+1:=by omega
                    rw[this,List.getElem?_cons_succ,List.getElem?_drop];congr 1;omega
              rw[hrev,List.find?_append]at hf;cases ht:((List.range j).reverse.take (j-1-i)).find? (jJ cv ops)with
              | some q =>
                rw[ht]at hf;have e:q=p:=by simpa using hf
                subst e;have hm:=List.mem_of_find?_eq_some ht;obtain⟨n,hn,hq⟩:=List.mem_iff_getElem.1 hm;simp only[List.getElem_take,List.getElem_reverse,List.getElem_range,List.length_range]at hq;simp at hn;omega
              | none =>
                rw[ht]at hf;simp only[Option.none_or,List.find?_cons,hciat]at hf;have e:i=p:=by simpa using hf
                omega
            · exact hge'
          unfold ZW at h1;rw[hoj]at h1;obtain⟨e,he,hb⟩:=Array.any_eq_true'.1 h1;simp only[Bool.and_eq_true,beq_iff_eq]at hb;have e2:o'=oj:=Option.some.inj (ho'.symm.trans hoj);subst e2;have h3:=hall e he hb.1;rw[hb.2,(hinv p hp1).2 hpi]at h3;cases h3
  intro fuel;induction fuel with
  | zero =>
    intro listed a w hI hS hfree hinv hr hw H;refine⟨fun h=>(by rw[h]at hr;cases hr),fun j hj=>?_⟩;by_cases hji:j=i
    · subst hji;unfold lxOp;simp only[hi];rw[if_pos hw,if_pos hc];exact H
    · obtain⟨v,w',_,hK⟩:=mG H;have:=ready_mono hj hji;rw[hK.1]at this;cases this
  | succ fuel ih =>
    intro listed a w hI hS hfree hinv hr hw H;refine⟨fun h=>(by rw[h]at hr;cases hr),fun j hj=>?_⟩;by_cases hji:j=i
    · subst hji;unfold lxOp;simp only[hi];rw[if_pos hw,if_pos hc];exact H
    · obtain⟨hjun,oj,hoj,hall⟩:=mem_ready.1 hj;have hcj:=key listed hinv j hj hji oj hoj;have hnot:∀e∈oj.after,Region.binds md e=true->e.on≠i:=fun e he hb heq=>by
        have h1:=hall e he hb;have h0:=(mem_ready.1 hr).1;rw[heq]at h1;rcases Nat.lt_or_ge i listed.size with h' | h'
        · simp[h']at h0 h1;rw[h0]at h1;cases h1
        · simp[Array.getElem?_eq_none h']at h1
      have hap:=hfree j oj hoj hji hjun hnot;obtain⟨h1,h2,h3⟩:=Oper.apart_spec hap;have hsi:=fun cs b=>hsel i oi cs b hi;have hsj:=fun cs b=>hsel j oj cs b hoj;have both:∀u w',True->kR P md ops S cv fb Q (fuel+1) (listed.setIfInBounds i true) (a.put oi.dst u) w' ->
          ∃v,q8 P ops S cv oj v a/\kR P md ops S cv fb Q fuel ((listed.setIfInBounds i true).setIfInBounds j true) ((a.put oi.dst u).put oj.dst v) w':=by
        intro u w' _ hK;have hx:=hK.2 j (ready_mono hj hji);unfold lxOp at hx;simp only[hoj]at hx;rw[wanted_put oj a oi.dst u h1,execOp_put oj hsj a oi.dst u h1,hcj]at hx;by_cases hwj:Region.wanted oj (yielded ops a.tmps)=true
        · rw[if_pos hwj]at hx;obtain⟨v,hv,hk⟩:=hx;exact⟨v,.inl ⟨hwj,hcj,hv⟩,hk⟩
        · rw[if_neg hwj]at hx;exact⟨undef,.inr ⟨by simpa using hwj,rfl⟩,hx⟩
      obtain⟨u0,w0,hS0,hK0⟩:=mG H;obtain⟨v,hy,_⟩:=both u0 w0 trivial hK0;refine hy.lxOp hoj ?_;have hfree':∀k ok,ops[k]? = some ok->k≠i->(listed.setIfInBounds j true).getD k true=false ->
          (∀e∈ok.after,Region.binds md e=true->e.on≠i)->oi.apart ops ok=true:=fun k ok hk hki hun hno=>by
        refine hfree k ok hk hki ?_ hno;by_cases hjk:j=k
        · subst hjk;exact hjun
        · rw[getD_set_ne true hjk]at hun;exact hun
      have hinv':∀k,jJ cv ops k=true->(k<i->(listed.setIfInBounds j true).getD k true=true)/\(i<=k->(listed.setIfInBounds j true).getD k false=false):=fun k hk=>by
        have hjk:j≠k:=by
          rintro rfl;have:jJ cv ops j=z3 cv oj:=by unfold jJ;rw[hoj];rfl
          rw[this,hcj]at hk;cases hk
        rw[getD_set_ne true hjk,getD_set_ne false hjk];exact hinv k hk
      refine ih (listed.setIfInBounds j true) _ w (hI.set hj) hS hfree' hinv' (ready_mono hr (Ne.symm hji)) ?_ ?_
      · rw[wanted_put oi a oj.dst v h3];exact hw
      · rw[execOp_put oi hsi a oj.dst v h3];refine jY (fun u w' hs hk=>?_) H;obtain⟨v',hy',hk'⟩:=both u w' trivial hk;obtain rfl:=q8.uniq hS hy hy';rw[Array.setIfInBounds_comm _ _ hji,<-Act.put_comm a u v h2];exact hk'
def iW (P:Program) (ops:Array Oper) (S:World->Prop) (cv fb:Bool) (Q:Act->World->Prop):List Oper->Act->World->Prop
  | [],a,w=>Q a w
  | o :: rest,a,w =>
    if Region.wanted o (yielded ops a.tmps)then
      (if z3 cv o then S w->xG P (fun w'=>S w'\/(fb=true/\rest = [])) (fun v w'=>iW P ops S cv fb Q rest (a.put o.dst v) w') ((execOp a.eval o).run P w)
       else ∃v,(∀w',S w'->jD w' v ((execOp a.eval o).run P w'))/\iW P ops S cv fb Q rest (a.put o.dst v) w)
    else iW P ops S cv fb Q rest (a.put o.dst undef) w
theorem gI {Q:Act->World->Prop} (hs:Region.noSelect ops=true) (hch:chainB md cv ops=true):∀(l:List Oper) (k:Nat) (listed:Array Bool) (a:Act) (w:World),qY md ops fb listed->S w->(∀j,l[j]? = ops[k+j]?) ->
    (∀j,j<ops.size->listed[j]? = some (decide (j<k))) ->
    Region.lexFrom md ops l.length k listed=true->iW P ops S cv fb Q l a w->kR P md ops S cv fb Q l.length listed a w
  | [],_,_,_,_,_,_,_,_,hB,h=>⟨by simpa[Region.lexFrom]using hB,h⟩
  | o :: l,k,listed,a,w,hI,hS,hl,hlst,hB,h=>by
    have h0:ops[k]? = some o:=by simpa using(hl 0).symm
    have hk:k<ops.size:=(Array.getElem?_eq_some_iff.1 h0).1;simp only[List.length_cons,Region.lexFrom,Bool.and_eq_true]at hB;obtain⟨⟨hr,hf⟩,hB'⟩:=hB;have hr':k∈Region.ready md ops listed:=by simpa using hr
    have hl':∀j,l[j]? = ops[k+1+j]?:=fun j=>(by have:=hl (j+1);simpa[Nat.add_assoc,Nat.add_comm 1 j]using this);have hlst':∀j,j<ops.size->(listed.setIfInBounds k true)[j]? = some (decide (j<k+1)):=by
      intro j hj;by_cases e:k=j
      · subst e;have hsz:k<listed.size:=by
          rcases Nat.lt_or_ge k listed.size with h' | h'
          · exact h'
          · have:=hlst k hk;rw[Array.getElem?_eq_none h']at this;cases this
        rw[Array.getElem?_setIfInBounds_self_of_lt hsz];simp
      · rw[Array.getElem?_setIfInBounds_ne e,hlst j hj];have:decide (j<k)=decide (j<k+1):=by
          rw[Bool.eq_iff_iff];simp only[decide_eq_true_eq];omega
        rw[this]
    have hinv:∀j,jJ cv ops j=true->(j<k->listed.getD j true=true)/\(k<=j->listed.getD j false=false):=by
      intro j hj;have hjs:j<ops.size:=by
        rcases Nat.lt_or_ge j ops.size with h' | h'
        · exact h'
        · unfold jJ at hj;rw[Array.getElem?_eq_none h']at hj;cases hj
      have e:=hlst j hjs;have ed:∀d,listed.getD j d=decide (j<k):=fun d=>by
        simp[e]
      refine⟨fun hlt=>by rw[ed];simpa using hlt,fun hge=>by rw[ed];simpa using hge⟩
    unfold iW at h;have hfr:=Region.free_spec h0 hf;by_cases hw:Region.wanted o (yielded ops a.tmps)=true
    · rw[if_pos hw]at h;cases hc:z3 cv o with
      | true =>
        rw[hc,if_pos rfl]at h;refine aJ h0 hc (Region.noSelect_spec hs) hch l.length listed a w hI hS hfr hinv hr' hw
          (jP (fun w' hw'=>?_) (fun v w' hs' hk'=>?_) (h hS))
        · rcases hw' with hw' | ⟨e1,e2⟩
          · exact .inl hw'
          · right
            subst e2;have:=hl 1;simp at this;exact⟨e1,by have:=this;omega⟩
        · rcases hs' with hs' | ⟨e1,e2⟩
          · exact gI hs hch l (k+1) _ _ w' (hI.set hr') hs' hl' hlst' hB' hk'
          · subst e2;exact⟨by simpa[Region.lexFrom]using hB',hk'⟩
      | false =>
        rw[hc]at h;obtain⟨v,hv,hK⟩:=h;exact vM h0 (Region.noSelect_spec hs) l.length listed a w hI hS hfr hr' (.inl ⟨hw,hc,hv⟩)
          (gI hs hch l (k+1) _ _ w (hI.set hr') hS hl' hlst' hB' hK)
    · rw[if_neg hw]at h;exact vM h0 (Region.noSelect_spec hs) l.length listed a w hI hS hfr hr' (.inr ⟨by simpa using hw,rfl⟩)
        (gI hs hch l (k+1) _ _ w (hI.set hr') hS hl' hlst' hB' h)
structure nF (P:Program) (ops:Array Oper) (S:World->Prop) (cv fb:Bool) (Q:Act->World->Prop) (l:List Oper) (a:Act) (w:World):Prop where
  out:iW P ops S cv fb Q l a w
theorem zA {id:Nat} {Q:Exit->Act->World->Prop} {a:Act} {w:World} {l:List Oper} (S:World->Prop) (cv:Bool) (hm:P.follows .mixedOrders=true) (hB:Region.lexB .any l.toArray=true) (hC:chainB .any cv l.toArray=true) (hS:S w.drew)
    (h:nF P l.toArray S cv false (fun a' w'=>S w'->Q .normal a' w') l a w.drew):(Code.region id l.toArray true).wp P Q a w:=by
  simp only[Region.lexB,Bool.and_eq_true]at hB;have hI:qY .any l.toArray false (Array.replicate l.toArray.size false):=⟨by simp⟩
  refine wp_region_any hm (kF (S:=S) (cv:=cv) (fb:=false) (Q:=fun a' w'=>S w'->Q .normal a' w') (fun _ w' hw' h=>h (hw'.elim (fun h=>h) (by simp))) _ _ _ _ hI (.inl hS) ?_);have:=gI (S:=S) (md:=.any) hB.1 hC l 0 (Array.replicate l.toArray.size false) a w.drew hI hS (by simp) (by intro j hj;simp at hj;simp[hj]) (by simpa using hB.2) h.out;simpa using this
theorem xB {id:Nat} {Q:Exit->Act->World->Prop} {a:Act} {w:World} {l:List Oper} (S:World->Prop) (cv:Bool) (hm:P.follows .mixedOrders=true) (hB:Region.lexB .any l.toArray=true) (hC:chainB .any cv l.toArray=true) (hE:YR .any l.toArray=true) (hS:S w.drew)
    (h:nF P l.toArray S cv true (fun a' w'=>Q .normal a' w') l a w.drew):(Code.region id l.toArray true).wp P Q a w:=by
  simp only[Region.lexB,Bool.and_eq_true]at hB;have hI:qY .any l.toArray true (Array.replicate l.toArray.size false):=⟨fun _=>⟨hE,.inl ⟨by simp,fun j oj _ hj=>(by rw[getD_replicate_false]at hj;cases hj),fun t ht hts=>by simp at hts;simp[hts]⟩⟩⟩
  refine wp_region_any hm (kF (S:=S) (cv:=cv) (fb:=true) (Q:=fun a' w'=>Q .normal a' w') (fun _ w' _ h=>h) _ _ _ _ hI (.inl hS) ?_);have:=gI (S:=S) (md:=.any) hB.1 hC l 0 (Array.replicate l.toArray.size false) a w.drew hI hS (by simp) (by intro j hj;simp at hj;simp[hj]) (by simpa using hB.2) h.out;simpa using this
theorem zK {Q:Act->World->Prop} {a:Act} {w:World} (h:Q a w):nF P ops S cv fb Q [] a w:=⟨h⟩
theorem z6 {Q:Act->World->Prop} {a:Act} {w:World} {o:Oper} {rest:List Oper} (hc:z3 cv o=false)
    (h:∀K:Act->Prop,(∀a,nF P ops S cv fb Q rest a w->K a)->if Region.wanted o (yielded ops a.tmps)then(∃v,(∀x:Subtype S,jD x.1 v ((execOp a.eval o).run P x.1))/\K (a.put o.dst v))else K (a.put o.dst undef)):nF P ops S cv fb Q (o :: rest) a w:=by
  have:=h _ (fun _ h=>h);refine⟨?_⟩;unfold iW;rw[hc];split
  · rename_i hw
    rw[if_pos hw]at this;obtain⟨v,hv,hk⟩:=this;exact⟨v,fun w' hs=>hv ⟨w',hs⟩,hk.out⟩
  · rename_i hw;rw[if_neg hw]at this;exact this.out
theorem zH {Q:Act->World->Prop} {a:Act} {w:World} {o:Oper} {rest:List Oper} (hS:S w) (hc:z3 cv o=true)
    (h:∀K:Act->World->Prop,(∀a w,nF P ops S cv fb Q rest a w->K a w)->if Region.wanted o (yielded ops a.tmps)then xG P S (fun v w'=>K (a.put o.dst v) w') ((execOp a.eval o).run P w)else K (a.put o.dst undef) w):nF P ops S cv fb Q (o :: rest) a w:=by
  have:=h _ (fun _ _ h=>h);refine⟨?_⟩;unfold iW;rw[hc];split
  · rename_i hw;rw[if_pos hw]at this;exact fun _=>jP (fun _ h=>.inl h) (fun _ _ _ h=>h.out) this
  · rename_i hw;rw[if_neg hw]at this;exact this.out
theorem jS {Q:Act->World->Prop} {a:Act} {w:World} {o:Oper} (hc:z3 cv o=true)
    (h:∀K:Act->World->Prop,(∀a w,Q a w->K a w)->if Region.wanted o (yielded ops a.tmps)then xG P (fun _=>True) (fun v w'=>K (a.put o.dst v) w') ((execOp a.eval o).run P w)else K (a.put o.dst undef) w):nF P ops S cv true Q [o] a w:=by
  have:=h _ (fun _ _ h=>h);refine⟨?_⟩;unfold iW;rw[hc];split
  · rename_i hw;rw[if_pos hw]at this;exact fun _=>jP (fun _ _=>.inr ⟨rfl,rfl⟩) (fun _ _ _ h=>h) this
  · rename_i hw;rw[if_neg hw]at this;exact this
end
section
variable (P:Program) (S:World->Prop) (w w':World) (v u:Value) (K:Value->World->Prop) (f:FuncId) (args:Array Value)
@[go_sem] theorem eM:jD w v (.ok (.value u) w')=(w'=w/\u=v):=rfl
@[go_sem] theorem aD:jD w v (.ok .skip w')=(w'=w/\v=undef):=rfl
@[go_sem] theorem iH:xG P S K (.ok (.value u) w')=(S w'/\K u w'):=rfl
@[go_sem] theorem aF:xG P S K (.ok .skip w')=(S w'/\K undef w'):=rfl
@[go_sem] theorem iI:xG P S K (.ok (.enter f args) w')=Calls P f args w' (fun e w''=>∃v,e = .returned v/\S w''/\K v w''):=rfl
end
abbrev Bel (W:World):World->Prop:=fun w'=>Below W.heap.size W w'
theorem zQ (W:World):Nonempty (Subtype (Bel W)):=⟨⟨W,Below.refl _ _⟩⟩
theorem zC (W:World):Bel W W.drew:=(Below.refl _ _).drew
theorem zP {W:World} {p:Addr} {v:Value} (h:W.cell? p=some v):∀x:Subtype (Bel W),x.1.cell? p=some v :=
  fun x=>(x.2.cell (World.block_lt_of_cell? W p h)).trans h
theorem zY {W:World} {g o k:Nat} {cs:Array Value} (h:z9 W g o k=some cs):∀x:Subtype (Bel W),z9 x.1 g o k=some cs :=
  fun x=>(zB (x.2.block g (zI h)) o k).trans h
theorem rM {W w:World} (h:Bel W w) (o:Obj):Bel W (w.alloc o):=h.alloc h.size o
theorem zZ {A B:Prop} (h:A) (k:A->B):A/\B:=⟨h,k h⟩
theorem yN {W w w':World} (h:Bel W w) (k:Below w.heap.size w w'):Bel W w':=h.trans (k.mono h.size)
abbrev Kp (S:List Nat) (W:World):World->Prop:=fun w'=>z4 S W w'
theorem xA (S:List Nat) (W:World):Nonempty (Subtype (Kp S W)):=⟨⟨W,z4.refl _ _⟩⟩
theorem zW (S:List Nat) (W:World):Kp S W W.drew:=(z4.drew W).mono (by simp)
theorem zM {S:List Nat} {W:World} {p:Addr} {v:Value} (h:W.cell? p=some v) (hn:p.block∉S):∀x:Subtype (Kp S W),x.1.cell? p=some v :=
  fun x=>(x.2.cell (World.block_lt_of_cell? W p h) hn).trans h
theorem j5 {S:List Nat} {W:World} {g o k:Nat} {cs:Array Value} (h:z9 W g o k=some cs) (hn:g∉S):∀x:Subtype (Kp S W),z9 x.1 g o k=some cs :=
  fun x=>(x.2.row (zI h) hn o k).trans h
theorem jE {S:List Nat} {W w:World} (h:Kp S W w) (o:Obj):Kp S W (w.alloc o):=z4.trans h (z4.alloc w o) (by simp)
theorem wW {S S':List Nat} {W w w':World} (h:Kp S W w) (k:z4 S' w w') (hs:∀x∈S',x∈S\/W.heap.size<=x):Kp S W w':=z4.trans h k hs
theorem QB {S:List Nat} {W w w':World} (h:Kp S W w) (k:Below w.heap.size w w'):Kp S W w':=z4.trans h (z4.of_below k) (by simp)
end
section
open Go.RowKit
end
structure rN where
  k:Int
  n:Int
  l:Value
def zF (x:rN):Array Value:=#[.int .i64 x.k] ++ #[.int .i64 x.n] ++ #[x.l]
@[simp] theorem qK (x:rN):(zF x).size=3:=by simp[zF]
@[go_sem] theorem jm (x:rN):(zF x)[0]? = some (.int .i64 x.k):=by first | (simp[zF,Array.getElem?_append];done) | (rw[show zF x=((#[]:Array Value)) ++ #[.int .i64 x.k]++(#[.int .i64 x.n] ++ #[x.l])from by apply Array.ext';simp[zF]];exact xS _ _ _ _ (by simp))
@[go_sem] theorem valVC_gg0 (x:rN) (h:0<(zF x).size):(zF x)[0]'h = .int .i64 x.k:=Option.some.inj ((Array.getElem?_eq_getElem h).symm.trans (jm x))
@[go_sem] theorem jl (x:rN):(zF x)[1]? = some (.int .i64 x.n):=by first | (simp[zF,Array.getElem?_append];done) | (rw[show zF x=(#[.int .i64 x.k]) ++ #[.int .i64 x.n]++(#[x.l])from by apply Array.ext';simp[zF]];exact xS _ _ _ _ (by simp))
@[go_sem] theorem valVC_gg1 (x:rN) (h:1<(zF x).size):(zF x)[1]'h = .int .i64 x.n:=Option.some.inj ((Array.getElem?_eq_getElem h).symm.trans (jl x))
@[go_sem] theorem jk (x:rN):(zF x)[2]? = some (x.l):=by first | (simp[zF,Array.getElem?_append];done) | (rw[show zF x=(#[.int .i64 x.k] ++ #[.int .i64 x.n]) ++ #[x.l]++((#[]:Array Value))from by apply Array.ext';simp[zF]];exact xS _ _ _ _ (by simp))
@[go_sem] theorem valVC_gg2 (x:rN) (h:2<(zF x).size):(zF x)[2]'h=x.l:=Option.some.inj ((Array.getElem?_eq_getElem h).symm.trans (jk x))
@[go_sem] theorem valVC_all (x:rN):(zF x).extract 0 3=zF x:=by have:=Array.extract_size (xs:=zF x);rwa [qK]at this
theorem jF (x:rN) (hl:x.l.oneCell'=true):∀u∈(zF x).toList,u.oneCell'=true:=by
  intro u hu;simp only[zF,Array.toList_append,List.mem_append]at hu;rcases hu with(hu | hu) | hu
  · simp at hu;subst hu;rfl
  · simp at hu;subst hu;rfl
  · simp at hu;subst hu;exact hl
def yM:rN:=⟨0,0,(.slice none 0 0)⟩
theorem xI:(Tryz.prog.info? 43).map (·.size)=some 3:=by kernel_rfl
@[go_sem ↓] theorem zeroValV_run (w:World):(zeroValue 43).run Tryz.prog w = .ok (.agg (zF yM)) w:=by
  have h:(Tryz.prog.info? 43).bind (·.zero)=some (.agg (zF yM)):=by kernel_rfl
  cases hi:Tryz.prog.info? 43 with
  | none=>rw[hi]at h;cases h
  | some i =>
    rw[hi]at h;have hz:i.zero=some (.agg (zF yM)):=h;simp[zeroValue,typeInfo,hi,hz]
@[go_sem ↓] theorem loadValV_rw (a:Addr):loadVar 43 a=ldS 43 a:=rfl
@[go_sem ↓] theorem storeValV_rw (a:Addr) (v:Value):storeVar 43 a v=stS 43 a v:=rfl
@[go_sem] theorem loadValV_run (w:World) (g o:Nat):(ldS 43 ⟨g,o,none⟩).run Tryz.prog w=match z9 w g o 3 with | some cs=>.ok (.agg cs) w | none=>(loadVar 43 ⟨g,o,none⟩).run Tryz.prog w :=
  vD Tryz.underlying43 rfl xI w g o
@[go_sem] theorem iX (w:World) (g:Nat) (hg:g=w.heap.size) (z:Array Value) (hz:z.size=3) (x:rN) (hl:x.l.oneCell'=true) (e:TypeId):(stS 43 ⟨g,0,none⟩ (.agg (zF x))).run Tryz.prog (w.alloc (.cells z e)) = .ok () (w.alloc (.cells (zF x) e)) :=
  hg ▸ qB xI w z (zF x) hz (qK x) (jF x hl)
@[go_sem ↓] theorem buildValV_rw (parts:Array (Nat×Value)):Instr.build 43 parts=bdS 43 parts:=rfl
@[go_sem] theorem buildValV_e (w:World):(bdS 43 #[]).run Tryz.prog w = .ok (.agg (zF yM)) w:=by kernel_rfl
@[go_sem] theorem J5 (k:Int) (w:World):(bdS 43 #[(0,.int .i64 k)]).run Tryz.prog w = .ok (.agg (zF ⟨k,0,.slice none 0 0⟩)) w:=by kernel_rfl
section
open Go.RowKit
theorem gG {α:Type}:∀ {l:List α},l.Nodup->∀ {i j:Nat} {a:α},l[i]? = some a->l[j]? = some a->i=j
  | [],_,_,_,_,h,_=>by simp at h
  | x :: l,hn,i,j,a,hi,hj=>by
    rw[List.nodup_cons]at hn
    match i,j,hi,hj with
    | 0,0,_,_=>rfl
    | 0,j+1,hi,hj=>simp at hi hj;subst hi;exact absurd (List.mem_of_getElem? hj) hn.1
    | i+1,0,hi,hj=>simp at hi hj;subst hj;exact absurd (List.mem_of_getElem? hi) hn.1
    | i+1,j+1,hi,hj =>
      have:=gG hn.2 (i:=i) (j:=j) (a:=a) (by simpa using hi) (by simpa using hj);omega
section
variable {P:Program} {K:TypeId} {κ ν:Type}
structure dW (P:Program) (K:TypeId) {κ:Type} (kv:κ->Value) (ok:κ->Prop):Prop where
  law:WideMaps.KeyLaw P K
  key:∀k,ok k->∃l,keyOf P K (kv k)=some l
  inj:∀a b,kv a=kv b->a=b
structure qT (w:World) (b:Nat) (kv:κ->Value) (vv:ν->Value) (ok:κ->Prop) (M:List (κ×ν)) (es:Array MapEntry) (clk:Nat):Prop where
  heap:w.heap[b]? = some (.map es clk)
  keys:es.toList.map (·.key)=M.map (fun p=>kv p.1)
  vals:es.toList.map (·.val)=M.map (fun p=>vv p.2)
  nodup:(M.map (·.1)).Nodup
  okk:∀p∈M,ok p.1
  born:(es.toList.map (·.born)).Nodup
  clock:∀e∈es.toList,e.born<clk
def gB [DecidableEq κ] (M:List (κ×ν)) (k:κ) (v:ν):List (κ×ν):=if k∈M.map (·.1)then M.map (fun p=>if p.1=k then(k,v)else p)else M ++ [(k,v)]
variable {kv:κ->Value} {vv:ν->Value} {ok:κ->Prop} {w:World} {b:Nat} {M:List (κ×ν)} {es:Array MapEntry} {clk:Nat}
theorem qT.at_ (h:qT w b kv vv ok M es clk) {j:Nat} {p:κ×ν} (hp:M[j]? = some p):∃e,es.toList[j]? = some e/\e.key=kv p.1/\e.val=vv p.2:=by
  have hk:=congrArg (fun l=>l[j]?) h.keys;have hv:=congrArg (fun l=>l[j]?) h.vals;simp only[List.getElem?_map,hp,Option.map_some]at hk hv;cases he:es.toList[j]? with
  | none=>rw[he]at hk;cases hk
  | some e =>
    rw[he]at hk hv;exact⟨e,rfl,by simpa using hk,by simpa using hv⟩
theorem qT.at_key (h:qT w b kv vv ok M es clk) {j:Nat} {e:MapEntry} (he:es.toList[j]? = some e):∃p,M[j]? = some p/\e.key=kv p.1/\e.val=vv p.2:=by
  have hk:=congrArg (fun l=>l[j]?) h.keys;have hv:=congrArg (fun l=>l[j]?) h.vals;simp only[List.getElem?_map,he,Option.map_some]at hk hv;cases hp:M[j]? with
  | none=>rw[hp]at hk;cases hk
  | some p =>
    rw[hp]at hk hv;exact⟨p,rfl,by simpa using hk,by simpa using hv⟩
theorem qT.kept {S:List Nat} {w':World} (h:qT w b kv vv ok M es clk) (hk:z4 S w w') (hb:b∉S):qT w' b kv vv ok M es clk :=
  ⟨(hk.block b (by
      rcases Nat.lt_or_ge b w.heap.size with hl | hl
      · exact hl
      · have:=h.heap;rw[Array.getElem?_eq_none hl]at this;cases this) hb).trans h.heap,h.keys,h.vals,h.nodup,h.okk,h.born,h.clock⟩
theorem qT.lt (h:qT w b kv vv ok M es clk):b<w.heap.size:=by
  rcases Nat.lt_or_ge b w.heap.size with hl | hl
  · exact hl
  · have:=h.heap;rw[Array.getElem?_eq_none hl]at this;cases this
theorem qT.find (h:qT w b kv vv ok M es clk) (E:dW P K kv ok) {k:κ} (hk:ok k) :
    ((Instr.findKey K (kv k) es.toList).run P w = .ok none w/\k∉M.map (·.1)) \/
    ∃j p,(Instr.findKey K (kv k) es.toList).run P w = .ok (some (j,vv p.2)) w/\M[j]? = some p/\p.1=k:=by
  obtain⟨l,hl⟩:=E.key k hk;have hall:∀e∈es.toList,∃l,keyOf P K e.key=some l:=by
    intro e he;obtain⟨j,hj,rfl⟩:=List.mem_iff_getElem.1 he;obtain⟨p,hp,hkey,_⟩:=h.at_key (List.getElem?_eq_getElem hj);rw[hkey];exact E.key _ (h.okk p (List.mem_of_getElem? hp))
  rcases E.law.find w hl es.toList hall with⟨hrun,hno⟩ | ⟨j,e,hrun,hj,hkey⟩
  · refine .inl ⟨hrun,fun hm=>?_⟩;obtain⟨p,hp,rfl⟩:=List.mem_map.1 hm;obtain⟨j,hj,hpj⟩:=List.mem_iff_getElem.1 hp;obtain⟨e,he,hek,_⟩:=h.at_ (j:=j) (p:=p) (by rw[List.getElem?_eq_getElem hj,hpj]);exact hno e (List.mem_of_getElem? he) hek
  · obtain⟨p,hp,hk1,hv1⟩:=h.at_key hj;exact .inr ⟨j,p,by rw[hrun,hv1],hp,E.inj _ _ (hk1.symm.trans hkey)⟩
theorem qM (h:w.heap[b]? = some (.map es clk)):(getObj b).run P w = .ok (.map es clk) w:=by
  simp[getObj,Sem.run,h]
theorem qT.hit {T E':TypeId} (h:qT w b kv vv ok M es clk) (E:dW P K kv ok) (ht:P.underlying T=some (.map K E')) {k:κ} {v:ν} (hk:ok k) (hm:(k,v)∈M) (comma:Bool) :
    (Instr.lookup T (.map (some b)) (kv k) comma).run P w = .ok (if comma then .tuple #[vv v,.bool true]else vv v) w:=by
  obtain⟨l,hl⟩:=E.key k hk;rcases h.find E hk with⟨_,hno⟩ | ⟨j,p,hrun,hp,hpk⟩
  · exact absurd (List.mem_map.2 ⟨_,hm,rfl⟩) hno
  · have hpe:p=(k,v):=by
      obtain⟨i,hi,hpi⟩:=List.mem_iff_getElem.1 hm;obtain⟨hj,hpj⟩:=List.getElem?_eq_some_iff.1 hp;have hnd:=h.nodup;have e1:(M.map (·.1))[i]? = some k:=by rw[List.getElem?_map,List.getElem?_eq_getElem hi,hpi];rfl
      have e2:(M.map (·.1))[j]? = some k:=by rw[List.getElem?_map,hp];simp[hpk]
      have:i=j:=gG hnd e1 e2;subst this;rw[<-hpj,hpi]
    subst hpe;simp only[Instr.lookup,Sem.run_bind,run_underlying ht,Result.andThen_ok,qM h.heap,E.law.check w es.isEmpty hl,hrun,Sem.run_pure]
theorem qT.miss {T E':TypeId} (h:qT w b kv vv ok M es clk) (E:dW P K kv ok) (ht:P.underlying T=some (.map K E')) {z:Value} (hz:(zeroValue E').run P w = .ok z w) {k:κ} (hk:ok k) (hm:k∉M.map (·.1)) (comma:Bool) :
    (Instr.lookup T (.map (some b)) (kv k) comma).run P w = .ok (if comma then .tuple #[z,.bool false]else z) w:=by
  obtain⟨l,hl⟩:=E.key k hk;rcases h.find E hk with⟨hrun,_⟩ | ⟨j,p,hrun,hp,hpk⟩
  · simp only[Instr.lookup,Sem.run_bind,run_underlying ht,Result.andThen_ok,qM h.heap,E.law.check w es.isEmpty hl,hrun,Sem.run_pure,hz]
  · exact absurd (List.mem_map.2 ⟨p,List.mem_of_getElem? hp,hpk⟩) hm
theorem bI (w:World) (b:Nat) (o:Obj):z4 [b] w { w with heap:=w.heap.setIfInBounds b o } :=
  ⟨rfl,rfl,rfl,by simp,fun k _ hn=>by
    show(w.heap.setIfInBounds b o)[k]? = _;rw[Array.getElem?_setIfInBounds_ne (by simpa using fun e=>hn (by simp[e]))]⟩
theorem vU {w:World} {b:Nat} {es:Array MapEntry} {clk:Nat} (h:w.heap[b]? = some (.map es clk)) (o:Obj):(setObj b o).run P w = .ok () { w with heap:=w.heap.setIfInBounds b o }:=by
  simp[setObj,Sem.run,h]
theorem vW {w:World} {b:Nat} (o:Obj) (hb:b<w.heap.size):({ w with heap:=w.heap.setIfInBounds b o }:World).heap[b]? = some o:=by
  show(w.heap.setIfInBounds b o)[b]? = _;rw[Array.getElem?_setIfInBounds_self_of_lt hb]
theorem qT.update [DecidableEq κ] {T E':TypeId} (h:qT w b kv vv ok M es clk) (E:dW P K kv ok) (ht:P.underlying T=some (.map K E')) {k:κ} {v:ν} (hk:ok k) :
    ∃w' es' clk',(Instr.mapUpdate T (.map (some b)) (kv k) (vv v)).run P w = .ok () w'/\qT w' b kv vv ok (gB M k v) es' clk'/\z4 [b] w w':=by
  obtain⟨l,hl⟩:=E.key k hk;rcases h.find E hk with⟨hrun,hno⟩ | ⟨j,p,hrun,hp,hpk⟩
  · refine⟨_,es.push { key:=kv k,val:=vv v,born:=clk },clk+1,?_,⟨vW _ h.lt,?_,?_,?_,?_,?_,?_⟩,bI w b _⟩
    · simp only[Instr.mapUpdate,Sem.run_bind,run_underlying ht,Result.andThen_ok,qM h.heap,E.law.check w false hl,hrun,vU h.heap]
    · unfold gB;rw[if_neg hno];simp[h.keys]
    · unfold gB;rw[if_neg hno];simp[h.vals]
    · unfold gB;rw[if_neg hno,List.map_append,List.nodup_append];refine⟨h.nodup,by simp,?_⟩;intro a ha c hc e;simp at hc;subst hc;subst e;exact hno ha
    · unfold gB;rw[if_neg hno];intro q hq;rcases List.mem_append.1 hq with hq | hq
      · exact h.okk q hq
      · simp at hq;subst hq;exact hk
    · simp only[Array.toList_push,List.map_append,List.map_cons,List.map_nil,List.nodup_append];refine⟨h.born,by simp,?_⟩;intro a ha c hc e;simp at hc;subst hc;subst e;obtain⟨e',he',hb'⟩:=List.mem_map.1 ha;have:=h.clock e' he';omega
    · intro e he;simp only[Array.toList_push,List.mem_append,List.mem_singleton]at he;rcases he with he | he
      · have:=h.clock e he;omega
      · subst he;show clk<clk+1;omega
  · have hmem:k∈M.map (·.1):=List.mem_map.2 ⟨p,List.mem_of_getElem? hp,hpk⟩;obtain⟨e0,he0,hek,hev⟩:=h.at_ hp;have hold:((es[j]?).map (·.key)).getD (kv k)=kv k:=by
      have:es[j]? = some e0:=by simpa using he0
      rw[this];simp[hek,hpk]
    have hput:gB M k v=M.modify j (fun _=>(k,v)):=by
      unfold gB;rw[if_pos hmem];apply List.ext_getElem?;intro n;rw[List.getElem?_map,List.getElem?_modify];by_cases hn:j=n
      · subst hn;simp[hp,hpk]
      · cases hq:M[n]? with
        | none=>simp[hn]
        | some q =>
          have hne:q.1≠k:=by
            intro e;have e1:(M.map (·.1))[j]? = some k:=by rw[List.getElem?_map,hp];simp[hpk]
            have e2:(M.map (·.1))[n]? = some k:=by rw[List.getElem?_map,hq];simp[e]
            exact hn (gG h.nodup e1 e2)
          simp[hn,hne]
    refine⟨_,es.modify j fun e=>{ e with key:=kv k,val:=vv v },clk,?_,⟨vW _ h.lt,?_,?_,?_,?_,?_,?_⟩,bI w b _⟩
    · simp only[Instr.mapUpdate,Sem.run_bind,run_underlying ht,Result.andThen_ok,qM h.heap,E.law.check w false hl,hrun,hold,E.law.stays w hl,vU h.heap]
    all_goals (try rw[hput])
    · rw[Array.toList_modify];apply List.ext_getElem?;intro n;have hkn:=congrArg (fun l=>l[n]?) h.keys;simp only[List.getElem?_map]at hkn;simp only[List.getElem?_map,List.getElem?_modify];by_cases hn:j=n
      · subst hn;simp[hp,he0]
      · simpa[hn]using hkn
    · rw[Array.toList_modify];apply List.ext_getElem?;intro n;have hkn:=congrArg (fun l=>l[n]?) h.vals;simp only[List.getElem?_map]at hkn;simp only[List.getElem?_map,List.getElem?_modify];by_cases hn:j=n
      · subst hn;simp[hp,he0]
      · simpa[hn]using hkn
    · have:(M.modify j fun _=>(k,v)).map (·.1)=M.map (·.1):=by
        apply List.ext_getElem?;intro n;simp only[List.getElem?_map,List.getElem?_modify];by_cases hn:j=n
        · subst hn;simp[hp,hpk]
        · simp[hn]
      rw[this];exact h.nodup
    · intro q hq;obtain⟨n,hn,hqn⟩:=List.mem_iff_getElem.1 hq;have hq':(M.modify j fun _=>(k,v))[n]? = some q:=by rw[List.getElem?_eq_getElem hn,hqn]
      rw[List.getElem?_modify]at hq';by_cases e:j=n
      · subst e;rw[hp]at hq';simp at hq';subst hq';exact hk
      · simp[e]at hq';exact h.okk q (List.mem_of_getElem? hq')
    · have:((es.modify j fun e=>{ e with key:=kv k,val:=vv v }).toList.map (·.born))=es.toList.map (·.born):=by
        rw[Array.toList_modify];apply List.ext_getElem?;intro n;simp only[List.getElem?_map,List.getElem?_modify];by_cases hn:j=n
        · subst hn;simp[he0]
        · simp[hn]
      rw[this];exact h.born
    · intro e he;rw[Array.toList_modify]at he;obtain⟨n,hn,hen⟩:=List.mem_iff_getElem.1 he;have he':(es.toList.modify j fun e=>{ e with key:=kv k,val:=vv v })[n]? = some e:=by rw[List.getElem?_eq_getElem hn,hen]
      rw[List.getElem?_modify]at he';by_cases hj:j=n
      · subst hj;rw[he0]at he';simp at he';subst he';exact h.clock e0 (List.mem_of_getElem? he0)
      · simp[hj]at he';exact h.clock e (List.mem_of_getElem? (by simpa using he'))
theorem qT.new (w:World) (b:Nat) (hb:b=w.heap.size):qT (w.alloc (.map #[] 0)) b kv vv ok [] #[] 0:=by
  subst hb;exact⟨heap_alloc_new w _,rfl,rfl,by simp,by simp,by simp,by simp⟩
end
end
section
open Go.RowKit
open Go.ChangeMaps (setBlock)
section
variable {P:Program} {K:TypeId} {κ ν:Type} {kv:κ->Value} {vv:ν->Value} {ok:κ->Prop} {w:World} {b r:Nat} {M S:List (κ×ν)} {es:Array MapEntry} {clk:Nat}
theorem qT.nodupP (h:qT w b kv vv ok M es clk):M.Nodup:=by
  have:=h.nodup;exact List.Pairwise.of_map (·.1) (fun a b h e=>h (by rw[e])) this
def jV (w:World) (b r:Nat) (kv:κ->Value) (vv:ν->Value) (ok:κ->Prop) (M S:List (κ×ν)):Prop :=
  ∃es clk since fZ c0,qT w b kv vv ok M es clk/\w.heap[r]? = some (.mapIter (some b) since fZ c0)/\(∀x∈es.toList,x.born<since)/\since<=c0/\since<=clk /\
    S.Nodup/\(∀p∈S,p∈M)/\(∀(j:Nat) (e:MapEntry) (p:κ×ν),es.toList[j]? = some e->M[j]? = some p->(p∈S↔fZ.contains e.born=true))
theorem jV.ne (h:jV w b r kv vv ok M S):r≠b:=by
  obtain⟨es,clk,since,fZ,c0,hm,hr,_⟩:=h;rintro rfl;have:=hm.heap;rw[hr]at this;cases this
theorem jV.lt (h:jV w b r kv vv ok M S):r<w.heap.size/\b<w.heap.size:=by
  obtain⟨es,clk,since,fZ,c0,hm,hr,_⟩:=h;exact⟨(Array.getElem?_eq_some_iff.1 hr).1,hm.lt⟩
theorem jV.kept {T:List Nat} {w':World} (h:jV w b r kv vv ok M S) (hk:z4 T w w') (hb:b∉T) (hr:r∉T):jV w' b r kv vv ok M S:=by
  have hl:=h.lt;obtain⟨es,clk,since,fZ,c0,hm,hi,rest⟩:=h;exact⟨es,clk,since,fZ,c0,hm.kept hk hb,(hk.block r hl.1 hr).trans hi,rest⟩
theorem tE {T:List Nat} {w w':World} {b r:Nat} (hk:z4 T w w') (hb:b∉T) (hr:r∉T) (hbl:b<w.heap.size) (hrl:r<w.heap.size):w'.rangeLeft b r=w.rangeLeft b r:=by
  unfold World.rangeLeft;rw[hk.block b hbl hb,hk.block r hrl hr]
theorem jV.sub (h:jV w b r kv vv ok M S):∀p∈S,p∈M:=by
  obtain⟨es,clk,since,fZ,c0,hm,hr,_,_,_,_,hs,_⟩:=h;exact hs
theorem jV.nodup (h:jV w b r kv vv ok M S):S.Nodup:=by
  obtain⟨es,clk,since,fZ,c0,hm,hr,_,_,_,hs,_,_⟩:=h;exact hs
theorem pY {α:Type}:∀ {S M:List α},S.Nodup->(∀x∈S,x∈M)->S.length<=M.length
  | [],_,_,_=>Nat.zero_le _
  | x :: S,M,hn,hs=>by
    rw[List.nodup_cons]at hn;obtain⟨A,B,rfl⟩:=List.append_of_mem (hs x (by simp));have:=pY (M:=A++B) hn.2 (fun y hy=>by
      have h1:=hs y (by simp[hy]);rcases List.mem_append.1 h1 with h | h
      · exact List.mem_append.2 (.inl h)
      · rcases List.mem_cons.1 h with h | h
        · subst h;exact absurd hy hn.1
        · exact List.mem_append.2 (.inr h))
    simp at this |-;omega
theorem jV.length (h:jV w b r kv vv ok M S):S.length<=M.length:=pY h.nodup h.sub
theorem qT.range {T E':TypeId} (h:qT w b kv vv ok M es clk) (ht:P.underlying T=some (.map K E')) :
    ∃w',(Instr.range T (.map (some b))).run P w = .ok (.pointer (some ⟨w.heap.size,0,none⟩)) w'/\jV w' b w.heap.size kv vv ok M []/\Below w.heap.size w w'/\w'.heap.size=w.heap.size+1:=by
  refine⟨_,run_range_map w T K E' b es clk ht h.heap,⟨es,clk,clk,#[],clk,h.kept (z4.alloc _ _) (by simp),heap_alloc_new w _,h.clock,Nat.le_refl _,Nat.le_refl _,List.nodup_nil,by simp,?_⟩,(Below.refl _ _).alloc (Nat.le_refl _) _,by simp⟩;intro j e p _ _
  simp
theorem jV.next (h:jV w b r kv vv ok M S) (ty:TypeId) :
    (S.Perm M/\(Instr.next (.pointer (some ⟨r,0,none⟩)) false ty).run P w = .ok (.tuple #[.bool false]) w) \/
    ∃p w',p∈M/\p∉S/\(Instr.next (.pointer (some ⟨r,0,none⟩)) false ty).run P w = .ok (.tuple #[.bool true,kv p.1,vv p.2]) w'/\jV w' b r kv vv ok M (S ++ [p])/\z4 [r] w w'/\w'.heap.size=w.heap.size /\
      w'.rangeLeft b r<w.rangeLeft b r/\(Instr.entry (.pointer (some ⟨r,0,none⟩))).run P w' = .ok (.tuple #[kv p.1,vv p.2]) w':=by
  have hne:=h.ne;obtain⟨es,clk,since,fZ,c0,hm,hr,hold,hsc,hsk,hnd,hsub,hiff⟩:=h;rcases run_next_at (P:=P) w ty r b since c0 fZ es clk hr hm.heap hold hsc with⟨h0,hrun⟩ | ⟨e,he,w1,hal,hrun⟩
  · refine .inl ⟨?_,hrun⟩;refine(List.perm_ext_iff_of_nodup hnd hm.nodupP).2 fun p=>⟨hsub p,fun hp=>?_⟩;obtain⟨j,hj,rfl⟩:=List.mem_iff_getElem.1 hp;obtain⟨e,he,_,_⟩:=hm.at_ (List.getElem?_eq_getElem hj);exact(hiff j e _ he (List.getElem?_eq_getElem hj)).2 (all_seen es fZ h0 e (List.mem_of_getElem? he))
  · obtain⟨hem,hes⟩:=mem_left he;obtain⟨j,hj,rfl⟩:=List.mem_iff_getElem.1 hem;have hje:es.toList[j]? = some es.toList[j]:=List.getElem?_eq_getElem hj;obtain⟨p,hp,hk,hv⟩:=hm.at_key hje;have hr1:w1.heap[r]? = some (.mapIter (some b) since fZ c0):=by rcases hal with rfl | rfl <;> exact hr
    have hb1:w1.heap[b]? = some (.map es clk):=by rcases hal with rfl | rfl <;> exact hm.heap
    have hset:=MapKept.heap_set (o':=.mapIter (some b) since (fZ.push es.toList[j].born) clk) hr1;have hkeep:z4 [r] w (setBlock w1 r (.mapIter (some b) since (fZ.push es.toList[j].born) clk)):=by
      rcases hal with rfl | rfl
      · exact⟨rfl,rfl,rfl,by simp[setBlock],fun k _ hn=>hset.2 k (by simpa using hn)⟩
      · exact⟨rfl,rfl,rfl,by simp[setBlock],fun k _ hn=>hset.2 k (by simpa using hn)⟩
    have hm':qT (setBlock w1 r (.mapIter (some b) since (fZ.push es.toList[j].born) clk)) b kv vv ok M es clk:=hm.kept hkeep (by simpa using fun e=>hne e.symm);have hpS:p∉S:=fun hm=>(by rw[(hiff j _ p hje hp).1 hm]at hes;cases hes);refine .inr ⟨p,_,List.mem_of_getElem? hp,hpS,by rw[hrun,hk,hv],⟨es,clk,since,fZ.push es.toList[j].born,clk,hm',hset.1,hold,hsk,hsk,?_,?_,?_⟩,hkeep,?_,?_,?_⟩
    · rw[List.nodup_append];refine⟨hnd,by simp,fun a ha c hc e=>?_⟩;simp at hc;subst hc;subst e;exact hpS ha
    · intro q hq;rcases List.mem_append.1 hq with hq | hq
      · exact hsub q hq
      · simp at hq;subst hq;exact List.mem_of_getElem? hp
    · intro j' e' p' he' hp';rw[contains_push,List.mem_append,Bool.or_eq_true,hiff j' e' p' he' hp'];refine or_congr Iff.rfl ?_;simp only[List.mem_singleton,beq_iff_eq];constructor
      · intro e1;subst e1;have:j'=j:=gG hm.nodupP hp' hp;subst this;rw[hje]at he';injection he' with he'
        rw[he']
      · intro e1;have e2:(es.toList.map (·.born))[j']? = some e'.born:=by rw[List.getElem?_map,he'];rfl
        have e3:(es.toList.map (·.born))[j]? = some e'.born:=by rw[List.getElem?_map,hje,e1];rfl
        have:j'=j:=gG hm.born e2 e3;subst this;rw[hp]at hp';injection hp' with hp'
        exact hp'.symm
    · rcases hal with rfl | rfl <;> simp[setBlock]
    · unfold World.rangeLeft;have q1:(setBlock w1 r (.mapIter (some b) since (fZ.push es.toList[j].born) clk)).heap[b]? = some (.map es clk):=(hset.2 b (fun e=>hne e.symm)).trans hb1;have q2:(setBlock w1 r (.mapIter (some b) since (fZ.push es.toList[j].born) clk)).heap[r]? = some (.mapIter (some b) since (fZ.push es.toList[j].born) clk):=hset.1;rw[q1,q2,hm.heap,hr];exact left_shrinks es fZ _ he
    · have:=run_entry_at (P:=P) (setBlock w1 r (.mapIter (some b) since (fZ.push es.toList[j].born) clk)) r b since fZ es clk es.toList[j] hset.1 (hset.2 b (fun e=>hne e.symm) |>.trans hb1) hem hm.born;rw[hk,hv]at this;exact this
def delL [DecidableEq κ] (M:List (κ×ν)) (k:κ):List (κ×ν):=M.filter (fun p=>decide (p.1≠k))
end
end
section
open Go.RowKit
section
variable {P:Program} {K T E':TypeId} {κ:Type} {kv:κ->Value} {ok:κ->Prop} {w w':World} {b:Nat} {L L':List κ} {x:κ}
def qQ (w:World) (b:Nat) (kv:κ->Value) (ok:κ->Prop) (L:List κ):Prop :=
  ∃M es clk,qT w b kv Value.bool ok M es clk/\(∀x,x∈M.map (·.1)↔x∈L)/\∀p∈M,p.2=true
theorem qQ.congr (h:qQ w b kv ok L) (hl:∀x,x∈L↔x∈L'):qQ w b kv ok L':=by
  obtain⟨M,es,clk,hm,hk,ht⟩:=h;exact⟨M,es,clk,hm,fun x=>(hk x).trans (hl x),ht⟩
theorem qQ.lt (h:qQ w b kv ok L):b<w.heap.size:=by
  obtain⟨M,es,clk,hm,_⟩:=h;exact hm.lt
theorem qQ.kept {S:List Nat} (h:qQ w b kv ok L) (k:z4 S w w') (hb:b∉S):qQ w' b kv ok L:=by
  obtain⟨M,es,clk,hm,hk⟩:=h;exact⟨M,es,clk,hm.kept k hb,hk⟩
theorem qQ.below (h:qQ w b kv ok L) (k:Below w.heap.size w w'):qQ w' b kv ok L:=h.kept (z4.of_below k) (by simp)
theorem qQ.new (w:World) (b:Nat) (hb:b=w.heap.size):qQ (w.alloc (.map #[] 0)) b kv ok []:=⟨[],#[],0,qT.new w b hb,by simp,by simp⟩
theorem qQ.hit (h:qQ w b kv ok L) (E:dW P K kv ok) (ht:P.underlying T=some (.map K E')) (hk:ok x) (hx:x∈L) :
    (Instr.lookup T (.map (some b)) (kv x) false).run P w = .ok (.bool true) w:=by
  obtain⟨M,es,clk,hm,hks,htr⟩:=h;obtain⟨p,hp,rfl⟩:=List.mem_map.1 ((hks x).2 hx);have h1:(p.1,true)∈M:=by
    have:=htr p hp
    rwa [show(p.1,true)=p from by cases p;simp_all]
  exact hm.hit E ht hk h1 false
theorem qQ.miss (h:qQ w b kv ok L) (E:dW P K kv ok) (ht:P.underlying T=some (.map K E')) (hz:∀w,(zeroValue E').run P w = .ok (.bool false) w) (hk:ok x) (hx:x∉L) :
    (Instr.lookup T (.map (some b)) (kv x) false).run P w = .ok (.bool false) w:=by
  obtain⟨M,es,clk,hm,hks,htr⟩:=h;exact hm.miss E ht (hz w) hk (fun h=>hx ((hks x).1 h)) false
theorem qQ.put [DecidableEq κ] (h:qQ w b kv ok L) (E:dW P K kv ok) (ht:P.underlying T=some (.map K E')) (hk:ok x) :
    ∃w',(Instr.mapUpdate T (.map (some b)) (kv x) (.bool true)).run P w = .ok () w'/\qQ w' b kv ok (x :: L)/\z4 [b] w w':=by
  obtain⟨M,es,clk,hm,hks,htr⟩:=h;obtain⟨w',es',clk',hrun,hm',hkeep⟩:=hm.update (v:=true) E ht hk;refine⟨w',hrun,⟨_,es',clk',hm',?_,?_⟩,hkeep⟩
  · intro y;unfold gB;split
    · rename_i hin
      have e:(M.map fun p=>if p.1=x then(x,true)else p).map (·.1)=M.map (·.1):=by
        rw[List.map_map];refine List.map_congr_left fun p _=>?_;simp only[Function.comp_apply];split
        · rename_i h;exact h.symm
        · rfl
      rw[e,hks,List.mem_cons];exact⟨.inr,fun h=>h.elim (fun h=>by subst h;exact(hks _).1 hin) id⟩
    · rw[List.map_append,List.mem_append,hks,List.mem_cons];simp only[List.map_cons,List.map_nil,List.mem_singleton];exact Or.comm
  · intro p hp;unfold gB at hp;split at hp
    · obtain⟨q,hq,rfl⟩:=List.mem_map.1 hp;split
      · rfl
      · exact htr q hq
    · rcases List.mem_append.1 hp with hp | hp
      · exact htr p hp
      · simp at hp;subst hp;rfl
def SetRange (w:World) (b r:Nat) (kv:κ->Value) (ok:κ->Prop) (L S:List κ):Prop :=
  ∃M Z,jV w b r kv Value.bool ok M Z/\(∀x,x∈M.map (·.1)↔x∈L)/\(∀p∈M,p.2=true)/\Z.map (·.1)=S/\(M.map (·.1)).Nodup
end
end
abbrev kT:=Lib.compareBytes
theorem lU:∀a:List UInt8,kT a a=0
  | []=>rfl
  | c :: a=>by
    show(if c<c then(-1:Int)else if c<c then 1 else kT a a)=0;rw[if_neg (by simp),if_neg (by simp)];exact lU a
theorem BP:∀a b:List UInt8,kT a b=0->a=b
  | [],[],_=>rfl
  | [],_ :: _,h=>by cases h
  | _ :: _,[],h=>by cases h
  | c :: a,d :: b,h=>by
    have h':(if c<d then(-1:Int)else if d<c then 1 else kT a b)=0:=h;by_cases h1:c<d
    · rw[if_pos h1]at h';cases h'
    · rw[if_neg h1]at h';by_cases h2:d<c
      · rw[if_pos h2]at h';cases h'
      · rw[if_neg h2]at h';have e:c=d:=by
          simp only[UInt8.lt_iff_toNat_lt]at h1 h2;exact UInt8.toNat_inj.1 (by omega)
        rw[e,BP a b h']
theorem ZO (a b:List UInt8):kT a b=0↔a=b:=⟨BP a b,fun h=>by rw[h];exact lU b⟩
theorem rJ:∀a b:List UInt8,kT b a = - kT a b
  | [],[]=>rfl
  | [],_ :: _=>rfl
  | _ :: _,[]=>rfl
  | c :: a,d :: b=>by
    show(if d<c then(-1:Int)else if c<d then 1 else kT b a) = -(if c<d then(-1:Int)else if d<c then 1 else kT a b);by_cases h1:c<d
    · have h2:¬d<c:=by rw[UInt8.lt_iff_toNat_lt]at *;omega
      rw[if_neg h2,if_pos h1,if_pos h1];rfl
    · by_cases h2:d<c
      · rw[if_pos h2,if_neg h1,if_pos h2]
      · rw[if_neg h2,if_neg h1,if_neg h1,if_neg h2];exact rJ a b
theorem iG:∀a b:List UInt8,kT a b = -1\/kT a b=0\/kT a b=1
  | [],[]=>.inr (.inl rfl)
  | [],_ :: _=>.inl rfl
  | _ :: _,[]=>.inr (.inr rfl)
  | c :: a,d :: b=>by
    show(if c<d then(-1:Int)else if d<c then 1 else kT a b) = -1\/(if c<d then(-1:Int)else if d<c then 1 else kT a b)=0\/(if c<d then(-1:Int)else if d<c then 1 else kT a b)=1;by_cases h1:c<d
    · rw[if_pos h1];exact .inl rfl
    · by_cases h2:d<c
      · rw[if_neg h1,if_pos h2];exact .inr (.inr rfl)
      · rw[if_neg h1,if_neg h2];exact iG a b
theorem n7:∀a b c:List UInt8,kT a b<0->kT b c<0->kT a c<0
  | [],[],_,h,_=>by cases h
  | [],_ :: _,[],_,h=>by cases h
  | [],_ :: _,_ :: _,_,_=>by show(-1:Int)<0;omega
  | _ :: _,[],_,h,_=>by cases h
  | _ :: _,_ :: _,[],_,h=>by cases h
  | x :: a,y :: b,z :: c,h1,h2=>by
    have h1':(if x<y then(-1:Int)else if y<x then 1 else kT a b)<0:=h1;have h2':(if y<z then(-1:Int)else if z<y then 1 else kT b c)<0:=h2;show(if x<z then(-1:Int)else if z<x then 1 else kT a c)<0;simp only[UInt8.lt_iff_toNat_lt]at *;by_cases p1:x.toNat<y.toNat
    · by_cases q1:y.toNat<z.toNat
      · rw[if_pos (by omega)];omega
      · rw[if_neg q1]at h2';by_cases q2:z.toNat<y.toNat
        · rw[if_pos q2]at h2';omega
        · rw[if_pos (by omega)];omega
    · rw[if_neg p1]at h1';by_cases p2:y.toNat<x.toNat
      · rw[if_pos p2]at h1';omega
      · rw[if_neg p2]at h1';by_cases q1:y.toNat<z.toNat
        · rw[if_pos (by omega)];omega
        · rw[if_neg q1]at h2';by_cases q2:z.toNat<y.toNat
          · rw[if_pos q2]at h2';omega
          · rw[if_neg q2]at h2';rw[if_neg (by omega),if_neg (by omega)];exact n7 a b c h1' h2'
theorem dS:∀a b:List UInt8,Op.bytesLess a b=decide (kT a b<0)
  | [],[]=>rfl
  | [],_ :: _=>rfl
  | _ :: _,[]=>rfl
  | c :: a,d :: b=>by
    show(decide (c<d)||(c==d&&Op.bytesLess a b))=decide ((if c<d then(-1:Int)else if d<c then 1 else kT a b)<0);by_cases h1:c<d
    · simp[h1]
    · by_cases h2:d<c
      · have e:(c==d)=false:=by
          rw[beq_eq_false_iff_ne];rintro rfl;exact h1 h2
        simp[h1,h2,e]
      · have e:c=d:=by
          simp only[UInt8.lt_iff_toNat_lt]at h1 h2;exact UInt8.toNat_inj.1 (by omega)
        subst e;simp[dS a b]
def xP (a b:ByteArray):Int:=kT a.toList b.toList
def zO (a b:zJ):Int:=kT a.l b.l
def vK (a b:Int):Int:=if a<b then -1 else if b<a then 1 else 0
def bltS (a b:ByteArray):Bool:=Op.bytesLess a.toList b.toList
theorem bA (a b:ByteArray):bltS a b=decide (xP a b<0):=dS _ _
theorem fH (a b:ByteArray):xP a b=0↔a=b:=by unfold xP;rw[ZO,toList_inj]
theorem ZN (a:ByteArray):xP a a=0:=lU _
theorem rI (a b:ByteArray):xP b a = - xP a b:=rJ _ _
theorem fI (a b c:ByteArray):xP a b<0->xP b c<0->xP a c<0:=n7 _ _ _
theorem K8 (a b:ByteArray):xP a b = -1\/xP a b=0\/xP a b=1:=iG _ _
theorem jO (a b:zJ):zO a b=0↔a=b:=by
  unfold zO;rw[ZO];exact⟨zJ.ext',fun h=>by rw[h]⟩
theorem iF (a:zJ):zO a a=0:=lU _
theorem bH (a b:zJ):zO b a = - zO a b:=rJ _ _
theorem tZ (a b c:zJ):zO a b<0->zO b c<0->zO a c<0:=n7 _ _ _
def orL:List Int->Int
  | []=>0
  | a :: l=>if a=0 then orL l else a
theorem nan_int (x:Int) (w:World):Calls Tryz.prog 136 #[.int .i64 x] w fun e w'=>e = .returned (.bool false)/\w=w':=by
  go_enter Tryz.func136,Tryz.ntmps136
  (go_wp2_with fail);go_ret;exact⟨zS (by simp),rfl⟩
theorem nan_str (x:ByteArray) (w:World):Calls Tryz.prog 162 #[.string x] w fun e w'=>e = .returned (.bool false)/\w=w':=by
  go_enter Tryz.func162,Tryz.ntmps162
  (go_wp2_with fail);go_ret;exact⟨zS (by simp),rfl⟩
theorem cmp_int (x y:Int) (w:World):Calls Tryz.prog 95 #[.int .i64 x,.int .i64 y] w fun e w'=>e = .returned (.int .i64 (vK x y))/\w=w':=by
  go_enter Tryz.func95,Tryz.ntmps95
  go_wp2_with (go_at_call 136;refine(nan_int _ _).mono ?_;rintro e w' ⟨rfl,rfl⟩)
  all_goals
    go_ret;exact⟨yB (by unfold vK;first | rw[if_pos (by omega)] | rw[if_neg (by omega),if_pos (by omega)] | rw[if_neg (by omega),if_neg (by omega)]),rfl⟩
theorem qo (x y:ByteArray) (b1 b2:Bool) (h1:Op.bytesLess x.toList y.toList=b1) (h2:(x.toList==y.toList)=b2) (w:World) :
    Calls Tryz.prog 134 #[.string x,.string y] w fun e w'=>e = .returned (.int .i64 (if b1=true then -1 else if b2=true then 0 else 1))/\w=w':=by
  go_enter Tryz.func134,Tryz.ntmps134
  go_wp2_with (go_at_call 162;refine(nan_str _ _).mono ?_;rintro e w' ⟨rfl,rfl⟩)
  all_goals
    go_ret;exact⟨yB (by simp_all),rfl⟩
theorem BO (x y:ByteArray) (w:World):Calls Tryz.prog 134 #[.string x,.string y] w fun e w'=>e = .returned (.int .i64 (xP x y))/\w=w':=by
  have hlt:Op.bytesLess x.toList y.toList=decide (xP x y<0):=dS _ _;have heq:(x.toList==y.toList)=decide (xP x y=0):=by
    rw[Bool.eq_iff_iff];simp only[beq_iff_eq,decide_eq_true_eq,fH,toList_inj]
  refine(qo x y _ _ hlt heq w).mono ?_;rintro e w' ⟨rfl,rfl⟩;refine⟨yB ?_,rfl⟩;rcases K8 x y with h | h | h <;> rw[h] <;> rfl
theorem ko (g cap:Nat) (L:List Int) (hL:L.length<=9223372036854775807) (w:World) (hc:∀j,j<L.length->w.cell? ⟨g,j,none⟩=some (.int .i64 (L.getD j 0))) :
    Calls Tryz.prog 94 #[.slice (some ⟨g,0,none⟩) L.length cap] w fun e w'=>e = .returned (.int .i64 (orL L))/\w=w':=by
  have Hc:=Lib.hid hc;clear hc;go_enter Tryz.func94,Tryz.ntmps94
  go_wp2_with fail
  go_loop [5,8] (fun _ i=>∃k:Nat,k<=L.length/\i = .int .i64 k/\Hid (orL (L.drop k)=orL L)) (fun _ i=>L.length-(intOf i).toNat)
  case atStart=>exact⟨0,Nat.zero_le _,rfl,rfl⟩
  case round =>
    obtain⟨k,hk,rfl,hd⟩:=hrel;by_cases hlt:k<L.length
    · have hcell:=Hc.out k hlt;have hdrop:L.drop k=L.getD k 0 :: L.drop (k+1):=by
        rw[List.drop_eq_getElem_cons hlt];simp[List.getD,hlt]
      by_cases hz:L.getD k 0=0
      · have hz':(L.getD k 0 != 0)=false:=by rw[bne_eq_false_iff_eq];exact hz
        have hn:Hid (orL (L.drop (k+1))=orL L):=by
          show _=_;rw[<-hd.out,hdrop];show _=if L.getD k 0=0 then _ else _;rw[if_pos hz]
        clear hz hdrop;obtain⟨x,hx⟩:∃x:Int,L.getD k 0=x:=⟨_,rfl⟩
        rw[hx]at hcell hz';have Hx:=Lib.hid hx;clear hx;go_wp2_with fail
        go_round
        case rel=>exact⟨k+1,by omega,by go_num,hn⟩
        case measure=>simp[intOf];omega
      · have hz':(L.getD k 0 != 0)=true:=by rw[bne_iff_ne];exact hz
        have hn:Hid (L.getD k 0=orL L):=by
          show _=_;rw[<-hd.out,hdrop];show _=if L.getD k 0=0 then _ else _;rw[if_neg hz]
        clear hz hdrop;obtain⟨x,hx⟩:∃x:Int,L.getD k 0=x:=⟨_,rfl⟩
        rw[hx]at hcell hz' hn;have Hx:=Lib.hid hx;clear hx;(go_wp2_with fail);go_ret;exact⟨yB hn.out,rfl⟩
    · (go_wp2_with fail);go_ret;have e:L.drop k = []:=List.drop_eq_nil_of_le (by omega);have h0:=hd.out;rw[e]at h0;exact⟨yB h0,rfl⟩
theorem dQ (w:World):∀(l:List UInt8) (a:Addr) (acc:ByteArray),(∀j u,l[j]? = some u->w.cell? (a.add j)=some (.int .u8 u.toNat)) ->
    (Extern.Bytes.loadBytes a l.length acc).run Tryz.prog w = .ok ⟨acc.data++l.toArray⟩ w
  | [],a,acc,_=>by simp[Extern.Bytes.loadBytes]
  | x :: l,a,acc,h=>by
    have h0:w.cell? a=some (.int .u8 x.toNat):=by
      have:=h 0 x rfl;simpa[Addr.add]using this
    have ih:=dQ w l (a.add 1) (acc.push x) (fun j u hu=>by
      have:=h (j+1) u (by simpa using hu);have e:(a.add 1).add j=a.add (j+1):=by
        unfold Addr.add;by_cases hj:j=0 <;> simp[hj,Nat.add_assoc,Nat.add_comm 1 j]
      rw[e];exact this)
    have ex:((x.toNat:Int).toNat).toUInt8=x:=by simp
    simp only[List.length_cons,Extern.Bytes.loadBytes,Sem.run_bind,run_load,h0,Result.andThen_ok,ex];rw[ih];simp[ByteArray.push]
theorem J4 (w:World) (a b:Addr) (n m ca cb:Nat) (x y:List UInt8) (hn:x.length=n) (hm:y.length=m)
    (hx:∀j u,x[j]? = some u->w.cell? (a.add j)=some (.int .u8 u.toNat)) (hy:∀j u,y[j]? = some u->w.cell? (b.add j)=some (.int .u8 u.toNat)) :
    (Extern.BytealgCompare.compare #[.slice (some a) n ca,.slice (some b) m cb]).run Tryz.prog w = .ok (.int .i64 (kT x y)) w:=by
  subst hn;subst hm;have e1:=dQ w x a .empty hx;have e2:=dQ w y b .empty hy;change Sem.run Tryz.prog (do pure (goInt (Extern.BytealgCompare.cmp (<-Extern.Bytes.loadBytes a x.length .empty) (<-Extern.Bytes.loadBytes b y.length .empty)))) w=_;simp only[Sem.run_bind,e1,e2,Result.andThen_ok,Sem.run_pure,goInt,Lib.cmp_eq]
  simp
theorem YX (a b:Addr) (n m ca cb:Nat) (x y:List UInt8) (w:World) (hn:x.length=n) (hm:y.length=m)
    (hx:∀j u,x[j]? = some u->w.cell? (a.add j)=some (.int .u8 u.toNat)) (hy:∀j u,y[j]? = some u->w.cell? (b.add j)=some (.int .u8 u.toNat)) :
    Calls Tryz.prog 137 #[.slice (some a) n ca,.slice (some b) m cb] w fun e w'=>e = .returned (.int .i64 (kT x y))/\w=w':=by
  have hr:(callFunc 163 #[.slice (some a) n ca,.slice (some b) m cb]).run Tryz.prog w = .ok (.value (.int .i64 (kT x y))) w:=by
    rw[run_callFunc_extern Tryz.func163 (by kernel_rfl) (by kernel_rfl) (by kernel_rfl) (e:=Extern.BytealgCompare.compare) (by kernel_rfl),J4 w a b n m ca cb x y hn hm hx hy];rfl
  clear hx hy hn hm;go_enter Tryz.func137,Tryz.ntmps137
  (go_wp2_with fail);go_ret;exact⟨rfl,rfl⟩
theorem QK {w:World} {g o:Nat} {x:zJ} (h:z9 w g o 32=some (idC x)):∀j u,x.l[j]? = some u->w.cell? ((⟨g,o,none⟩:Addr).add j)=some (.int .u8 u.toNat):=by
  intro j u hu;have hj:j<32:=by
    have:=(List.getElem?_eq_some_iff.1 hu).1;rw[x.h]at this;exact this
  have hadd:(⟨g,o,none⟩:Addr).add j=⟨g,o+j,none⟩:=by unfold Addr.add;split <;> simp_all
  rw[hadd,z8 h hj,YO,if_pos hj];unfold idB;rw[List.getD,hu];rfl
theorem K6 (x y:zJ) (w:World):Calls Tryz.prog 96 #[.agg (idC x),.agg (idC y)] w fun e w'=>e = .returned (.int .i64 (zO x y))/\Below w.heap.size w w':=by
  have hB:Below w.heap.size w ((w.alloc (.cells (idC x) 24)).alloc (.cells (idC y) 24)):=((Below.refl _ _).alloc (Nat.le_refl _) _).alloc (by simp) _;have hx:z9 ((w.alloc (.cells (idC x) 24)).alloc (.cells (idC y) 24)) w.heap.size 0 32=some (idC x):=by simp[go_sem]
  have hy:z9 ((w.alloc (.cells (idC x) 24)).alloc (.cells (idC y) 24)) (w.heap.size+1) 0 32=some (idC y):=by simp[go_sem]
  have hx:=Lib.hid (QK hx);have hy:=Lib.hid (QK hy);go_enter Tryz.func96,Tryz.ntmps96
  go_wp2_with fail
  · go_ret;have h:(x==y)=true:=by assumption
    have:x=y:=by simpa using h
    subst this;exact⟨yB (iF x).symm,hB⟩
  · go_quiet ((go_at_call 137;exact tF (YX _ _ _ _ _ _ x.l y.l _ x.h y.h hx.out hy.out)))
    (go_wp2_with fail);go_ret;exact⟨rfl,fW hB _⟩
section
open Go.ChangeShapes Go.WideShapes Go.ChangeAt Go.RowKit
theorem Tryz.own:ownKnob Tryz.prog.godebug=none:=by kernel_rfl
theorem Tryz.laidOut:laidOutB Tryz.prog=true:=by kernel_rfl
theorem m9 {H:Type} {enc:TypeId×Value->H} {P:Program} {W W':World} (hl:laidOutB P=true) (hb:Below W.heap.size W W') :
    ∀(ts:List TypeId) (vs:List Value) (ds:List (DataW H)) (ps:List MemPlace),(∀t∈ts,P.readableRec t=true/\t<P.types.size) ->
      DataW.TrodAll enc P W 0 (fun _=>true) true ts vs ds ps->(∀x∈ps,x.block<W.heap.size) ->
      DataW.TrodAll enc P W' 0 (fun b=>decide (b<W.heap.size)) true ts vs ds ps
  | [],[],[],_,_,h,_=>h
  | t :: ts,v :: vs,d :: ds,ps,hr,h,hlt=>by
    obtain⟨p,q,h1,h2,rfl⟩:=h;have hrt:=hr t (by simp);exact⟨p,q,Below.trod hl hrt.1 hrt.2 h1 hb (fun x hx=>hlt x (List.mem_append.2 (.inl hx))),
      m9 hl hb ts vs ds q (fun t' ht=>hr t' (List.mem_cons.2 (.inr ht))) h2 (fun x hx=>hlt x (List.mem_append.2 (.inr hx))),rfl⟩
  | [],_ :: _,_,_,_,h,_=>h.elim
  | [],[],_ :: _,_,_,h,_=>h.elim
  | _ :: _,[],_,_,_,h,_=>h.elim
  | _ :: _,_ :: _,[],_,_,h,_=>h.elim
theorem law_post {H:Type} {enc:TypeId×Value->H} {P:Program} {f:Func} {s:ChangeSpec} {apart fresh handsOn:Bool} {W W':World} {args:Array Value} {ds:List (DataW H)} {before:List MemPlace} {tb:TypeId}
    (hl:laidOutB P=true) (hr:f.resultTypes = #[tb]) (htb:P.underlying tb=some .bool) (hv:s.vars = [])
    (hfn:s.fn H (ds ++ []) = { results:=[.lit (.bool true)],args:=ds }) (hrec:f.params.toList.all (fun t=>P.readableRec t&&decide (t<P.types.size))=true)
    (hW:DataW.Whole enc P f.params.toList s.vars apart W args.toList ds [] before) (hb:Below W.heap.size W W') :
    s.post enc P f apart fresh handsOn false W args (.bool true) W':=by
  have hlt:=fun p hp=>hW.lt p hp;have hW':=hW;obtain⟨p,q,hA,hV,rfl,_,_⟩:=hW;have hq:q = []:=by rw[hv]at hV;exact hV
  subst hq;have hrec':∀t∈f.params.toList,P.readableRec t=true/\t<P.types.size:=by
    intro t ht;have:=List.all_eq_true.1 hrec t ht;simpa using this
  refine⟨ds,[],p ++ [],[],p,[],hW',?_,?_,?_,?_,fun h=>nomatch h⟩
  · rw[hr,hfn];have e:(Value.bool true).resultList (#[tb]:Array TypeId).size = [.bool true]:=rfl;rw[e];exact trodAll_mk1 (shut_bool htb true)
  · rw[hfn];exact m9 hl hb _ _ _ _ hrec' hA (fun x hx=>hlt x (List.mem_append.2 (.inl hx)))
  · rw[hfn,hv];rfl
  · exact hb.frame _
end
theorem mC {α β:Type} {f:α->Option β}:∀ {L:List α},(∀x∈L,∃y,f x=some y)->∃ys,L.mapM f=some ys
  | [],_=>⟨[],rfl⟩
  | x :: L,h=>by
    obtain⟨y,hy⟩:=h x (by simp);obtain⟨ys,hys⟩:=mC (L:=L) (fun z hz=>h z (by simp[hz]));exact⟨y :: ys,by simp[List.mapM_cons,hy,hys]⟩
theorem size3:3<=Tryz.prog.types.size:=of_decide_eq_true (by kernel_rfl)
theorem BQ:Tryz.prog.cellsOf 24=32:=by kernel_rfl
theorem qs:Tryz.prog.cellsOf 5=1:=by kernel_rfl
theorem VY (d:Nat) (x:zJ):∃l,Tryz.prog.keyLits (d+2) 24 (idC x).toList=some l:=by
  have hall:∀i∈List.range 32,∃y,Tryz.prog.keyLits (d+1) 5 (((idC x).toList.drop (i*Tryz.prog.cellsOf 5)).take (Tryz.prog.cellsOf 5))=some y:=by
    intro i hi;have hi':i<32:=List.mem_range.1 hi;rw[qs,Nat.mul_one];have e:((idC x).toList.drop i).take 1 = [.int .u8 (idB x i)]:=by
      have:=YO x i;rw[if_pos hi']at this;have h2:(idC x).toList[i]? = some (.int .u8 (idB x i)):=by simpa using this
      rw[List.take_one,List.head?_drop,h2];rfl
    rw[e];refine Option.isSome_iff_exists.1 ?_;unfold Program.keyLits;simp only[Tryz.underlying5];rw[if_pos ⟨trivial,by have:=idB_bd x i;simp[Lit.wf,IntKind.min,IntKind.max,IntKind.signed,IntKind.bits];omega⟩];rfl
  obtain⟨ys,hys⟩:=mC hall;refine Option.isSome_iff_exists.1 ?_;unfold Program.keyLits;simp only[Tryz.underlying24];rw[if_pos (by rw[BQ];simp),hys];rfl
theorem rowId:24<Tryz.prog.types.size:=of_decide_eq_true (by kernel_rfl)
theorem p6:dW Tryz.prog 24 (fun x:zJ=>.agg (idC x)) (fun _=>True) where
  law:=deep_law_laid Tryz.laidOut (m:=2) (by omega) rowId (by kernel_rfl) (by rw[Tryz.underlying24])
  key:=fun x _=>by
    obtain⟨d,hd⟩:∃d,Tryz.prog.types.size+1=d+2:=⟨Tryz.prog.types.size-1,by have:=size3;omega⟩
    obtain⟨l,hl⟩:=VY d x;refine⟨.string (keyBytes l),?_⟩;unfold keyOf;simp only[Tryz.underlying24];have hkt:Tryz.prog.keyType 24=true:=by kernel_rfl
    have hf:(Value.agg (idC x)).formed Tryz.prog 24=true:=by simp[Value.formed,Tryz.underlying24,BQ]
    rw[hkt,hf,hd];simp only[Bool.and_self,if_true];have:(Value.agg (idC x)).cells.toList=(idC x).toList:=rfl;rw[this,hl];rfl
  inj:=fun a b h=>by injection h with h;exact YN h
section
open Go.RowKit Go.Sort
def Gr (W w:World):Prop:=∃q os,w=grow (W.drewN q) os
theorem Gr.refl (w:World):Gr w w:=⟨0,#[],by rw[grow_empty];rfl⟩
theorem Gr.drew (w:World):Gr w w.drew:=⟨1,#[],by rw[grow_empty];rfl⟩
theorem Gr.trans {a b c:World} (h:Gr a b) (k:Gr b c):Gr a c:=by
  obtain⟨q,os,rfl⟩:=h;obtain⟨q',os',rfl⟩:=k;refine⟨q+q',os++os',?_⟩;show grow (grow ((a.drewN q).drewN q') os) os'=_;rw[grow_grow,World.drewN_drewN]
theorem Gr.alloc {W w:World} (h:Gr W w) (o:Obj):Gr W (w.alloc o):=h.trans ⟨0,#[o],by rw[alloc_eq_grow];rfl⟩
theorem Gr.below {W w:World} (h:Gr W w):Below W.heap.size W w:=by
  obtain⟨q,os,rfl⟩:=h;exact⟨rfl,rfl,rfl,by rw[size_grow];exact Nat.le_add_right _ _,fun k hk=>heap_grow_old _ _ hk⟩
theorem gr_some (W:World):Nonempty (Subtype (Gr W)):=⟨⟨W,Gr.refl _⟩⟩
theorem lQ {W:World} {p:Addr} {v:Value} (h:W.cell? p=some v):∀x:Subtype (Gr W),x.1.cell? p=some v :=
  fun x=>(x.2.below.cell (World.block_lt_of_cell? W _ h)).trans h
end
section
open Go.RowKit Go.Sort
structure j8 {α:Type} (c:α->α->Int):Prop where
  zero:∀a b,c a b=0↔a=b
  anti:∀a b,c b a = - c a b
  trans:∀a b d,c a b<0->c b d<0->c a d<0
theorem pO:j8 xP:=⟨fH,rI,fI⟩
theorem qP:j8 zO:=⟨jO,bH,tZ⟩
section
variable {α:Type} {c:α->α->Int}
theorem j8.irr (T:j8 c) (a:α):¬c a a<0:=by rw[(T.zero a a).2 rfl];omega
theorem j8.self (T:j8 c) (a:α):c a a=0:=(T.zero a a).2 rfl
theorem j8.asym (T:j8 c) {a b:α} (h:c a b<0):¬c b a<0:=by have:=T.anti a b;omega
theorem j8.ne (T:j8 c) {a b:α} (h:c a b<0):a≠b:=fun e=>by subst e;exact T.irr a h
theorem j8.flip (T:j8 c) {a b:α} (h1:¬c a b<0) (h2:a≠b):c b a<0:=by
  have h3:c a b≠0:=fun e=>h2 ((T.zero a b).1 e);have:=T.anti a b;omega
theorem j8.le_trans (T:j8 c) {a b d:α} (h1:¬c b a<0) (h2:c b d<0):c a d<0:=by
  by_cases e:a=b
  · subst e;exact h2
  · exact T.trans a b d (T.flip h1 (fun e'=>e e'.symm)) h2
def orC (a b:Int):Int:=if a=0 then b else a
theorem j8.pair {β:Type} {d:β->β->Int} (T:j8 c) (U:j8 d):j8 (fun x y:α×β=>orC (c x.1 y.1) (d x.2 y.2)) where
  zero a b:=by
    unfold orC;constructor
    · intro h;split at h
      · rename_i h1;exact Prod.ext ((T.zero _ _).1 h1) ((U.zero _ _).1 h)
      · contradiction
    · intro h;subst h;rw[if_pos (T.self _)];exact U.self _
  anti a b:=by
    unfold orC;have h1:=T.anti a.1 b.1;have h2:=U.anti a.2 b.2;split <;> split <;> omega
  trans a b e:=by
    unfold orC;intro h1 h2;by_cases e1:c a.1 b.1=0
    · rw[if_pos e1]at h1;have q:=(T.zero _ _).1 e1;rw[q];by_cases e2:c b.1 e.1=0
      · rw[if_pos e2]at h2 |-;exact U.trans _ _ _ h1 h2
      · rw[if_neg e2]at h2 |-;exact h2
    · rw[if_neg e1]at h1;by_cases e2:c b.1 e.1=0
      · have q:=(T.zero _ _).1 e2;rw[<-q,if_neg e1];exact h1
      · rw[if_neg e2]at h2;have:=T.trans _ _ _ h1 h2;rw[if_neg (by omega)];exact this
theorem j8.of {β:Type} {d:β->β->Int} (T:j8 c) (f:β->α) (hf:∀x y,f x=f y->x=y) (hd:∀x y,d x y=c (f x) (f y)):j8 d where
  zero a b:=by rw[hd,T.zero];exact⟨hf a b,fun h=>by rw[h]⟩
  anti a b:=by rw[hd,hd];exact T.anti _ _
  trans a b e:=by rw[hd,hd,hd];exact T.trans _ _ _
def Ris (c:α->α->Int) (l:List α):Prop:=l.Pairwise (fun x y=>c x y<0)
theorem Ris.nil:Ris c []:=List.Pairwise.nil
theorem fP {x:α} {l:List α}:Ris c (x :: l)↔(∀y∈l,c x y<0)/\Ris c l:=List.pairwise_cons
theorem Ris.filter {l:List α} (h:Ris c l) (p:α->Bool):Ris c (l.filter p):=List.Pairwise.sublist List.filter_sublist h
theorem Ris.nodup (T:j8 c) {l:List α} (h:Ris c l):l.Nodup:=List.Pairwise.imp (S:=fun a b=>a≠b) (fun {a b} h=>T.ne h) h
def xU (c:α->α->Int):List α->α->List α
  | [],x=>[x]
  | y :: l,x=>if c y x<0 then y :: xU c l x else if c y x=0 then y :: l else x :: y :: l
def yF (c:α->α->Int) (l:List α):List α:=l.foldl (xU c) []
theorem vE (T:j8 c):∀ {l:List α} {x z:α},z∈xU c l x↔z=x\/z∈l
  | [],x,z=>by simp[xU]
  | y :: l,x,z=>by
    unfold xU;split
    · rw[List.mem_cons,vE T,List.mem_cons];constructor
      · rintro(h | h | h)
        · exact .inr (.inl h)
        · exact .inl h
        · exact .inr (.inr h)
      · rintro(h | h | h)
        · exact .inr (.inl h)
        · exact .inl h
        · exact .inr (.inr h)
    · split
      · rename_i h0
        have e:y=x:=(T.zero y x).1 h0;subst e;simp only[List.mem_cons];constructor
        · rintro(h | h)
          · exact .inl h
          · exact .inr (.inr h)
        · rintro(h | h | h)
          · exact .inl h
          · exact .inl h
          · exact .inr h
      · simp only[List.mem_cons]
theorem vR (T:j8 c):∀ {l:List α} {x:α},Ris c l->Ris c (xU c l x)
  | [],x,_=>by simp[xU,Ris]
  | y :: l,x,h=>by
    obtain⟨h1,h2⟩:=fP.1 h;unfold xU;split
    · rename_i hlt
      refine fP.2 ⟨fun z hz=>?_,vR T h2⟩;rcases (vE T).1 hz with e | hz
      · rw[e];exact hlt
      · exact h1 z hz
    · rename_i hlt
      split
      · exact h
      · rename_i h0
        have hxy:c x y<0:=by have:=T.anti y x;omega
        refine fP.2 ⟨fun z hz=>?_,h⟩;rcases List.mem_cons.1 hz with e | hz
        · rw[e];exact hxy
        · exact T.trans _ _ _ hxy (h1 z hz)
theorem gT (T:j8 c):∀(l a:List α),Ris c a->Ris c (l.foldl (xU c) a)/\∀z,z∈l.foldl (xU c) a↔z∈a\/z∈l
  | [],a,h=>⟨h,fun z=>by simp⟩
  | x :: l,a,h=>by
    obtain⟨h1,h2⟩:=gT T l (xU c a x) (vR T h);refine⟨h1,fun z=>?_⟩;rw[List.foldl_cons,h2,vE T,List.mem_cons];constructor
    · rintro((h | h) | h)
      · exact .inr (.inl h)
      · exact .inl h
      · exact .inr (.inr h)
    · rintro(h | h | h)
      · exact .inl (.inr h)
      · exact .inl (.inl h)
      · exact .inr h
theorem xE (T:j8 c) (l:List α):Ris c (yF c l):=(gT T l [] Ris.nil).1
theorem qI (T:j8 c) {l:List α} {z:α}:z∈yF c l↔z∈l:=by
  have:=(gT T l [] Ris.nil).2 z;simpa[yF]using this
theorem bE (l:List α) (x:α):yF c (l ++ [x])=xU c (yF c l) x:=by simp[yF]
theorem jX (l:List α) (x:α):(xU c l x).length<=l.length+1:=by
  induction l with
  | nil=>simp[xU]
  | cons y l ih =>
    unfold xU
    repeat' split
    all_goals simp;try omega
theorem qF (l:List α):(yF c l).length<=l.length:=by
  have h:∀(l a:List α),(l.foldl (xU c) a).length<=a.length+l.length:=by
    intro l;induction l with
    | nil=>intro a;simp
    | cons x l ih =>
      intro a;have h1:=ih (xU c a x);have h2:=jX (c:=c) a x;simp only[List.foldl_cons,List.length_cons];omega
  simpa[yF]using h l []
theorem jT (T:j8 c):∀ {l m:List α},Ris c l->Ris c m->(∀z,z∈l↔z∈m)->l=m
  | [],[],_,_,_=>rfl
  | [],y :: m,_,_,h=>absurd ((h y).2 (by simp)) (by simp)
  | x :: l,[],_,_,h=>absurd ((h x).1 (by simp)) (by simp)
  | x :: l,y :: m,hl,hm,h=>by
    obtain⟨h1,h2⟩:=fP.1 hl;obtain⟨k1,k2⟩:=fP.1 hm;have e:x=y:=by
      rcases List.mem_cons.1 ((h x).1 (by simp))with e | hx
      · exact e
      · rcases List.mem_cons.1 ((h y).2 (by simp))with e | hy
        · exact e.symm
        · exact absurd (k1 x hx) (T.asym (h1 y hy))
    subst e;congr 1
    refine jT T h2 k2 fun z=>?_;have hz:=h z;simp only[List.mem_cons]at hz;constructor
    · intro hzl;rcases hz.1 (.inr hzl)with e | e
      · subst e;exact absurd (h1 z hzl) (T.irr z)
      · exact e
    · intro hzm;rcases hz.2 (.inr hzm)with e | e
      · subst e;exact absurd (k1 z hzm) (T.irr z)
      · exact e
theorem wH (T:j8 c) {l:List α} {x:α} (h:Ris c l) (hx:x∈l):xU c l x=l :=
  jT T (vR T h) h fun z=>by rw[vE T];exact⟨fun h=>h.elim (fun e=>by rw[e];exact hx) id,.inr⟩
theorem pQ (T:j8 c) {l:List α} (h:Ris c l):yF c l=l:=jT T (xE T l) h fun _=>qI T
theorem dC (T:j8 c) {l m:List α} (h:∀z,z∈l↔z∈m):yF c l=yF c m:=jT T (xE T l) (xE T m) fun z=>by rw[qI T,qI T,h]
theorem vP:∀(l:List α) (x:α) (k:Nat),k<=l.length->(∀j (hj:j<l.length),j<k->c l[j] x<0)->(∀hk:k<l.length,0<c l[k] x)->xU c l x=l.take k++x :: l.drop k
  | [],x,k,hk,_,_=>by
    have:k=0:=by simpa using hk
    subst this;rfl
  | y :: l,x,0,_,_,h2=>by
    have h:=h2 (by simp);simp only[List.getElem_cons_zero]at h;unfold xU;rw[if_neg (by omega),if_neg (by omega)];rfl
  | y :: l,x,k+1,hk,h1,h2=>by
    have h:=h1 0 (by simp) (by omega);simp only[List.getElem_cons_zero]at h;unfold xU;rw[if_pos h,vP l x k (by simpa using hk) (fun j hj hjk=>by have:=h1 (j+1) (by simpa using hj) (by omega);simpa using this) (fun hk'=>by have:=h2 (by simpa using hk');simpa using this)];rfl
theorem KW {l:List α} (h:Ris c l) {i j:Nat} (hij:i<j) (hj:j<l.length):c (l[i]'(by omega)) l[j]<0:=List.pairwise_iff_getElem.1 h i j (by omega) hj hij
theorem swo_of (T:j8 c):SWO (fun x y=>decide (c x y<0)) where
  irrefl x:=by simpa using T.irr x
  trans x y z h1 h2:=by simp only[decide_eq_true_eq]at *;exact T.trans _ _ _ h1 h2
  ntrans x y z h1 h2:=by
    simp only[decide_eq_false_iff_not]at *;intro h3;exact h2 (T.le_trans (a:=y) (b:=x) (d:=z) h1 h3)
end
end
structure xH where
  tag:zJ
  val:ByteArray
def y9 (x:xH):Array Value:=idC x.tag ++ #[.string x.val]
@[simp] theorem n9 (x:xH):(y9 x).size=33:=by simp[y9]
@[go_sem] theorem iK (x:xH):(y9 x).extract 0 32=idC x.tag:=by
  have h:y9 x=((#[]:Array Value))++idC x.tag++(#[.string x.val]):=by first | (simp[y9,Array.append_assoc];done) | (apply Array.ext';simp[y9];done)
  rw[h];exact fM _ _ _ _ _ (by simp) (by simp)
@[go_sem] theorem lV (x:xH):(y9 x)[32]? = some (.string x.val):=by first | (simp[y9,Array.getElem?_append];done) | (rw[show y9 x=(idC x.tag) ++ #[.string x.val]++((#[]:Array Value))from by apply Array.ext';simp[y9]];exact xS _ _ _ _ (by simp))
@[go_sem] theorem bRowC_gg32 (x:xH) (h:32<(y9 x).size):(y9 x)[32]'h = .string x.val:=Option.some.inj ((Array.getElem?_eq_getElem h).symm.trans (lV x))
@[go_sem] theorem bRowC_pop (x:xH):(y9 x).pop=idC x.tag:=by apply Array.ext';simp[y9]
@[go_sem] theorem bRowC_all (x:xH):(y9 x).extract 0 33=y9 x:=by have:=Array.extract_size (xs:=y9 x);rwa [n9]at this
theorem vC (x:xH):∀u∈(y9 x).toList,u.oneCell'=true:=by
  intro u hu;simp only[y9,Array.toList_append,List.mem_append]at hu;rcases hu with hu | hu
  · exact qJ _ u hu
  · simp at hu;subst hu;rfl
def sC:xH:=⟨id0,⟨#[]⟩⟩
theorem JK {x y:xH} (h:x.tag=y.tag/\x.val=y.val):x=y:=by cases x;cases y;simp_all
instance:DecidableEq xH:=fun x y=>if h:x.tag=y.tag/\x.val=y.val then isTrue (JK h)else isFalse (fun e=>h (by subst e;simp))
def x8 (x y:xH):Int:=orL [zO x.tag y.tag,xP x.val y.val]
theorem orL2 (a b:Int):orL [a,b]=orC a b:=by
  unfold orC orL orL orL;split
  · split <;> simp_all
  · rfl
theorem bD:j8 x8:=(qP.pair pO).of (fun x:xH=>(x.tag,x.val)) (fun x y h=>by
  cases x;cases y
  simp only[Prod.mk.injEq]at h;obtain⟨h1,h2⟩:=h;subst h1;subst h2;rfl) (fun x y=>orL2 _ _)
theorem Z0 (w:World) (a b:Int):∀j,j < [a,b].length->(w.alloc (.cells #[.int .i64 a,.int .i64 b] 3)).cell? ⟨w.heap.size,j,none⟩=some (.int .i64 ([a,b].getD j 0)):=by
  intro j hj;have:j=0\/j=1:=by simp at hj;omega
  rcases this with rfl | rfl <;> simp
def rowV (x:xH):Value:=.agg (y9 x)
def kG (c:Int):Bool:=(decide (97<=c)&&decide (c<=122))||(decide (48<=c)&&decide (c<=57))||decide (c=45)
theorem zl {c:Int} {b:Bool} (h:b=kG c):Ending.returned (.bool b) = .returned (.bool (kG c)):=by rw[h]
theorem aR (c:Int) (w:World) :
    Calls Tryz.prog 117 #[.int .i32 c] w fun e w'=>e = .returned (.bool (kG c))/\w=w':=by
  go_enter Tryz.func117,Tryz.ntmps117
  go_wp2
  all_goals
    go_ret;exact⟨zl (by simp[kG]at *;omega),rfl⟩
def bC (k:Int):Int:=if k=1 then 99 else if k=2 then 115 else if k=3 then 108 else if k=4 then 109 else if k=5 then 114 else 0
theorem eN (k:Int) (w:World) :
    Calls Tryz.prog 87 #[.int .i64 k] w fun e w'=>e = .returned (.int .u8 (bC k))/\w=w':=by
  go_enter Tryz.func87,Tryz.ntmps87
  go_wp2
  all_goals
    go_ret;exact⟨yB (by simp[bC]at *;omega),rfl⟩
def dY (s:ByteArray) (i:Nat):Bool:=(List.range (s.size-i)).all fun j=>kG (bt s (i+j))
theorem lH (s:ByteArray) (i:Nat):dY s i=true↔∀j,i<=j->j<s.size->kG (bt s j)=true:=by
  simp only[dY,List.all_eq_true,List.mem_range];constructor
  · intro h j h1 h2;have:=h (j-i) (by omega)
    rwa [show i+(j-i)=j by omega]at this
  · intro h j hj;exact h _ (by omega) (by omega)
theorem aP (s:ByteArray) (i:Nat) (h:s.size<=i):dY s i=true:=(lH s i).2 fun j h1 h2=>by omega
theorem XB (s:ByteArray) (i:Nat) (h:i<s.size) (h1:kG (bt s i)=false):dY s i=false:=by
  cases e:dY s i with
  | false=>rfl
  | true=>rw[(lH s i).1 e i (Nat.le_refl _) h]at h1;cases h1
theorem aO (s:ByteArray) (i:Nat) (h1:kG (bt s i)=true):dY s (i+1)=dY s i:=by
  rw[Bool.eq_iff_iff,lH,lH];constructor
  · intro h j a b;by_cases e:j=i
    · subst e;exact h1
    · exact h j (by omega) b
  · intro h j a b;exact h j (by omega) b
def vG (s:ByteArray):Bool:=decide (2<=s.size)&&decide (s.size<=12)&&(bt s (s.size-1) != 45)&&dY s 1
theorem rT {c:Int} (h:128<=c):kG c=false:=by unfold kG;simp;omega
theorem p8 (s:ByteArray) (i:Nat) (h:i<(s.extract 1 s.size).size):(((s.extract 1 s.size)[i]'h).toNat:Int)=bt s (i+1):=by
  have hs:i+1<s.size:=by simp at h;omega
  rw[<-l9 hs];congr 2
  rw[ByteArray.getElem_extract];congr 1;omega
theorem YS (s:ByteArray) (i:Nat) (h:i<(s.extract 1 s.size).size) (hh:kG (bt s (i+1))=true) :
    Utf8.decode (s.extract 1 s.size) i=((bt s (i+1)).toNat,1):=by
  have e:=p8 s i h;have hlt:(((s.extract 1 s.size)[i]'h).toNat)<128:=by
    rcases Nat.lt_or_ge ((s.extract 1 s.size)[i]'h).toNat 128 with g | g
    · exact g
    · rw[rT (by omega)]at hh;cases hh
  rw[decode_ascii _ i h hlt,<-e];simp
theorem sM (s:ByteArray) (i:Nat) (h:i<(s.extract 1 s.size).size) (hh:kG (bt s (i+1))=false) :
    kG ((Utf8.decode (s.extract 1 s.size) i).1:Int)=false:=by
  have e:=p8 s i h;rcases Nat.lt_or_ge ((s.extract 1 s.size)[i]'h).toNat 128 with g | g
  · rw[decode_ascii _ i h g];rw[<-e]at hh;exact hh
  · have:=(decode_high _ i h g).1;exact rT (by omega)
theorem mF (s:ByteArray) (h:¬(2<=s.size/\s.size<=12)):vG s=false:=by
  unfold vG;by_cases h1:2<=s.size <;> by_cases h2:s.size<=12 <;> simp[h1,h2];omega
theorem pC (s:ByteArray) (h:bt s (s.size-1)=45):vG s=false:=by
  unfold vG;simp[h]
theorem pA (s:ByteArray) (h1:2<=s.size) (h2:s.size<=12) (h:bt s (s.size-1)≠45):vG s=dY s 1:=by
  unfold vG;simp[h1,h2,h]
theorem QO (s:ByteArray) (w:World) (h:2<=s.size) (h1:s.size<=12) (h2:bt s (s.size-1)≠45) :
    Calls Tryz.prog 86 #[.string s] w fun e w'=>e = .returned (.bool (vG s))/\Below w.heap.size w w':=by
  have h3:(((s[s.size-1]'(by omega)).toNat:Int)==45)=false:=by
    rw[beq_eq_false_iff_ne];intro g;rw[l9 (by omega)]at g;exact h2 g
  have hfin:=pA s h h1 h2;have H2:=Lib.hid hfin;clear h2 hfin;have hI:∀(p:Nat),Below w.heap.size w (w.iter (s.extract 1 s.size) p):=fun p=>(Below.refl _ _).alloc (Nat.le_refl _) _;have HI:=Lib.hid hI;clear hI;go_enter Tryz.func86,Tryz.ntmps86
  (go_wp2_with fail);go_loopw [] (fun wr=>∃i:Nat,i+1<=s.size/\wr=w.iter (s.extract 1 s.size) i/\Hid (dY s (i+1)=dY s 1)) (fun wr=>s.size-wr.iterPos w.heap.size)
  case atStart=>exact⟨0,by omega,rfl,rfl⟩
  case round =>
    obtain⟨i,hi,rfl,hc⟩:=hrel;have hsz:(s.extract 1 s.size).size=s.size-1:=by simp
    by_cases hp:i<(s.extract 1 s.size).size
    · have hnx:∀ty,(Instr.next (.pointer (some ⟨w.heap.size,0,none⟩)) true ty).run Tryz.prog (w.iter (s.extract 1 s.size) i)=_:=fun ty=>run_next_any w (s.extract 1 s.size) i ty hp;cases hb:kG (bt s (i+1))with
      | true =>
        rw[YS s i hp hb]at hnx;have e1:(((bt s (i+1)).toNat:Nat):Int)=bt s (i+1):=by have:=qw s (i+1);omega
        simp only[e1]at hnx;have Hb:=Lib.hid hb;go_wp2_with (go_at_call 117;refine(aR _ _).mono ?_;rintro e w' ⟨rfl,rfl⟩)
        go_roundw
        case rel=>exact⟨i+1,by omega,rfl,(aO s _ Hb.out).trans hc.out⟩
        case measure=>simp;omega
      | false =>
        have hd:=sM s i hp hb;go_wp2_with (go_at_call 117;refine(aR _ _).mono ?_;rintro e w' ⟨rfl,rfl⟩)
        go_ret;exact⟨zS (by rw[H2.out,<-hc.out,XB s _ (by omega) hb]),HI.out _⟩
    · have hnx:∀ty,(Instr.next (.pointer (some ⟨w.heap.size,0,none⟩)) true ty).run Tryz.prog (w.iter (s.extract 1 s.size) i)=_:=fun ty=>run_next_end w (s.extract 1 s.size) i ty hp;(go_wp2_with fail);go_ret;exact⟨zS (by rw[H2.out,<-hc.out,aP s _ (by omega)]),HI.out _⟩
theorem YQ (s:ByteArray) (w:World) (hs:s.size<=9223372036854775807) (h:¬(2<=s.size/\s.size<=12)) :
    Calls Tryz.prog 86 #[.string s] w fun e w'=>e = .returned (.bool (vG s))/\Below w.heap.size w w':=by
  have H2:=Lib.hid (mF s h);by_cases h1:2<=s.size
  · have h4:12<s.size:=by omega
    clear h;go_enter Tryz.func86,Tryz.ntmps86
    go_wp2_with fail
    all_goals
      go_ret;exact⟨zS H2.out.symm,Below.refl _ _⟩
  · clear h;go_enter Tryz.func86,Tryz.ntmps86
    go_wp2_with fail
    all_goals
      go_ret;exact⟨zS H2.out.symm,Below.refl _ _⟩
theorem QP (s:ByteArray) (w:World) (h:2<=s.size) (h1:s.size<=12) (h2:bt s (s.size-1)=45) :
    Calls Tryz.prog 86 #[.string s] w fun e w'=>e = .returned (.bool (vG s))/\Below w.heap.size w w':=by
  have h3:(((s[s.size-1]'(by omega)).toNat:Int)==45)=true:=by
    rw[beq_iff_eq];rw[l9 (by omega)];exact h2
  have H2:=Lib.hid (pC s h2);clear h2;go_enter Tryz.func86,Tryz.ntmps86
  (go_wp2_with fail);go_ret;exact⟨zS H2.out.symm,Below.refl _ _⟩
theorem eY (s:ByteArray) (w:World) (hs:s.size<=9223372036854775807) :
    Calls Tryz.prog 86 #[.string s] w fun e w'=>e = .returned (.bool (vG s))/\Below w.heap.size w w':=by
  by_cases h:2<=s.size/\s.size<=12
  · by_cases h2:bt s (s.size-1)=45
    · exact QP s w h.1 h.2 h2
    · exact QO s w h.1 h.2 h2
  · exact YQ s w hs h
def s4 (c:Int):Int:=if c=99 then 1 else if c=115 then 2 else if c=108 then 3 else if c=109 then 4 else if c=114 then 5 else 0
def yO (s:ByteArray):Int:=if vG s=true then s4 (bt s 0)else 0
theorem pB {s:ByteArray} (h:vG s=true):2<=s.size/\s.size<=12:=by
  unfold vG at h;simp at h;omega
theorem Z9 {c k:Int} (h1:1<=k) (h2:k<6) (h:bC k=c):s4 c=k:=by
  subst h;have:k=1\/k=2\/k=3\/k=4\/k=5:=by omega
  rcases this with rfl | rfl | rfl | rfl | rfl <;> decide
theorem eR {c:Int} (h:∀j:Int,1<=j->j<6->bC j≠c):s4 c=0:=by
  have a:=h 1 (by omega) (by omega);have b:=h 2 (by omega) (by omega);have d:=h 3 (by omega) (by omega);have e:=h 4 (by omega) (by omega);have f:=h 5 (by omega) (by omega);simp[bC]at a b d e f;unfold s4;rw[if_neg (by omega),if_neg (by omega),if_neg (by omega),if_neg (by omega),if_neg (by omega)]
theorem kind_no (s:ByteArray) (w:World) (hs:s.size<=9223372036854775807) (h:vG s=false) :
    Calls Tryz.prog 53 #[.string s] w fun e w'=>e = .returned (.int .i64 (yO s))/\Below w.heap.size w w':=by
  have H:Hid (yO s=0):=by show yO s=0;unfold yO;rw[h];rfl
  go_enter Tryz.func53,Tryz.ntmps53
  (go_wp2_with fail);refine(eY _ _ hs).mono ?_;rintro e w1 ⟨rfl,hb⟩;(go_wp2_with fail);go_ret;exact⟨yB H.out.symm,hb⟩
theorem kind_yes (s:ByteArray) (w:World) (hs:s.size<=9223372036854775807) (h:vG s=true) :
    Calls Tryz.prog 53 #[.string s] w fun e w'=>e = .returned (.int .i64 (yO s))/\Below w.heap.size w w':=by
  have H:Hid (yO s=s4 (bt s 0)):=by show yO s=s4 (bt s 0);unfold yO;rw[h];rfl
  have hsz:=pB h;have h0:(0:Int)<s.size:=by omega
  have hg:((s[0]'(by omega)).toNat:Int)=bt s 0:=l9 (by omega);go_enter Tryz.func53,Tryz.ntmps53
  (go_wp2_with fail);refine(eY _ _ hs).mono ?_;rintro e w1 ⟨rfl,hb⟩;(go_wp2_with fail);go_loopw [3] (fun kv wr=>∃k:Int,1<=k/\k<=6/\kv = .int .i64 k/\Below w.heap.size w wr/\Hid (∀j:Int,1<=j->j<k->bC j≠bt s 0)) (fun kv _=>(6-intOf kv).toNat)
  case atStart=>exact⟨1,by omega,by omega,rfl,hb,fun j h1 h2=>by omega⟩
  case round =>
    obtain⟨k,hk1,hk2,rfl,hb1,hj⟩:=hrel;by_cases hk:k<6
    · by_cases hl:bC k=bt s 0
      · have hl':(bC k==bt s 0)=true:=by rw[beq_iff_eq];exact hl
        have Hl:=Lib.hid hl;clear hl;go_wp2_with fail
        go_quiet ((go_at_call 87;exact tF (eN _ _)))
        (go_wp2_with fail);go_ret;exact⟨yB (by rw[H.out,Z9 hk1 hk Hl.out]),fW hb1 _⟩
      · have hl':(bC k==bt s 0)=false:=by rw[beq_eq_false_iff_ne];exact hl
        have Hl:=Lib.hid hl;clear hl;go_wp2_with fail
        go_quiet ((go_at_call 87;exact tF (eN _ _)))
        (go_wp2_with fail);go_roundw
        case rel =>
          refine⟨k+1,by omega,by omega,rfl,fW hb1 _,fun j h1 h2=>?_⟩;by_cases e:j=k
          · subst e;exact Hl.out
          · exact hj.out j h1 (by omega)
        case measure=>simp[intOf];omega
    · (go_wp2_with fail);go_ret;exact⟨yB (by rw[H.out,eR (fun j h1 h2=>hj.out j h1 (by omega))]),hb1⟩
theorem fT (s:ByteArray) (w:World) (hs:s.size<=9223372036854775807) :
    Calls Tryz.prog 53 #[.string s] w fun e w'=>e = .returned (.int .i64 (yO s))/\Below w.heap.size w w':=by
  cases h:vG s with
  | true=>exact kind_yes s w hs h
  | false=>exact kind_no s w hs h
def xN (s:ByteArray):Int:=if yO s=0 then 9 else 0
theorem bK (s:ByteArray) (w:World) (hs:s.size<=9223372036854775807) :
    Calls Tryz.prog 52 #[.string s] w fun e w'=>e = .returned (.int .i64 (xN s))/\Below w.heap.size w w':=by
  by_cases h:yO s=0
  · have h':(yO s==0)=true:=by rw[beq_iff_eq];exact h
    have H:Hid (xN s=9):=by show xN s=9;unfold xN;rw[if_pos h]
    clear h;go_enter Tryz.func52,Tryz.ntmps52
    (go_wp2_with fail);refine(fT _ _ hs).mono ?_;rintro e w1 ⟨rfl,hb⟩;(go_wp2_with fail);go_ret;exact⟨yB H.out.symm,hb⟩
  · have h':(yO s==0)=false:=by rw[beq_eq_false_iff_ne];exact h
    have H:Hid (xN s=0):=by show xN s=0;unfold xN;rw[if_neg h]
    clear h;go_enter Tryz.func52,Tryz.ntmps52
    (go_wp2_with fail);refine(fT _ _ hs).mono ?_;rintro e w1 ⟨rfl,hb⟩;(go_wp2_with fail);go_ret;exact⟨yB H.out.symm,hb⟩
end Go.Proofs.YtgedpfebepdcmaaGreatDoor
