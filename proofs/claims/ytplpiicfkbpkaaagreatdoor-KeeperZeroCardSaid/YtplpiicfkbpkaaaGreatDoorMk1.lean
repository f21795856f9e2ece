/- Part 1 of the texts that lead to this claim: the walks of the functions and the plain law, in order. -/
import Derived.Test.YtplpiicfkbpkaaaGreatDoorProg
import Derived.WalkKit
import Derived.WalkSpells
import Derived.WalkLawsBesides
import Derived.BigQuiet
import Derived.Deep.QuietTactic
import Derived.Lib.Hide
import Derived.Lib.ConvBytes
import Derived.Deep.DeepCutAuto
import Derived.Laws.AppendOwn
import Derived.Laws.OwnMore
import Derived.Stop.BytesEq
import Derived.Laws.BitsAllLaws
import Derived.Deep.Quiet
import Derived.StillTail
import Derived.Maps.AppendAt
import Derived.Lib.AppendStr
import Derived.Laws.BytesString
import Derived.Lib.BufferRead
import Derived.Defers
namespace Go.Proofs.YtplpiicfkbpkaaaGreatDoor
open Go.RowKit
open List hiding and get max min or set
open Go.Proofs.Tryz
open World
set_option maxRecDepth 100000
set_option maxHeartbeats 8000000
variable {B bytes cap g i j k n q:Nat}{a:Act}{W w w' w1:World}{P:Program}{args c cs:Array Value}{u v:Value}{s:ByteArray}{S S':List Nat}{o oi:Oper}{E T t ty:TypeId}{d f:List Oper}{A:Option Addr}{K K':Value->World->Prop}{Q Q':Exit->Act->World->Prop}{p:Prop}{L:List (Array Value)}{guard:Option (Nat×Bool)}{ops:Array Oper}{bs:List UInt8}
theorem below_drewN{a:World}(h:Below B a w)(n:Nat):Below B a (w.drewN n):=⟨h.os,h.tape,h.output,h.size,h.block⟩
theorem quiet_eq{f:FuncId}
  (h:Calls P f args (w.drewN n) λe w'=>e = .returned v/\w.drewN n=w'):Calls P f args (w.drewN n) λe d=>e = .returned v/\∃m,d=w.drewN m :=
 h.mono λ_ _ ⟨he,hm⟩=>⟨he,n,hm.symm⟩
theorem ret_int{k:IntKind}{a b:Int}(h:a=b):Ending.returned (.int k a) = .returned (.int k b):=by rw[h]
def bt(s:ByteArray)(k:Nat):Int:=if h:k<s.size then((s[k]'h).toNat:Int)else 0
theorem bt_get(h:k<s.size):((s[k]'h).toNat:Int)=bt s k:=by unfold bt;rw[dif_pos h]
theorem bt_nonneg(s:ByteArray)(k:Nat):0<=bt s k:=by unfold bt;split <;> omega
theorem ret_bool{a b:Bool}(h:a=b):Ending.returned (.bool a) = .returned (.bool b):=by rw[h]
theorem ret_str{a b:ByteArray}(h:a=b):Ending.returned (.string a) = .returned (.string b):=by rw[h]
theorem toList_inj{a b:ByteArray}:a.toList=b.toList↔a=b:=by
 rw[ByteArray.toList_eq,ByteArray.toList_eq];exact⟨λh=>ByteArray.ext (Array.toList_inj.mp h),λh=>by rw[h]⟩
theorem bel2{w2:World}(h:Below w.heap.size w w1)(k:Below w1.heap.size w1 w2):Below w.heap.size w w2:=h.trans (k.mono h.size)
section
structure Keep(S:List Nat)(w w':World):Prop where
 os:w'.os=w.os
 tape:w'.tape=w.tape
 output:w'.output=w.output
 size:w.heap.size<=w'.heap.size
 block:∀k,k<w.heap.size->k∉S->w'.heap[k]? = w.heap[k]?
theorem Keep.refl(S:List Nat)(w:World):Keep S w w:=⟨rfl,rfl,rfl,Nat.le_refl _,λ_ _ _=>rfl⟩
theorem Keep.trans{S S':List Nat}{a b c:World}(h:Keep S a b)(k:Keep S' b c)(hs:∀x∈S',x∈S\/a.heap.size<=x):Keep S a c :=
 ⟨k.os.trans h.os,k.tape.trans h.tape,k.output.trans h.output,Nat.le_trans h.size k.size,λi hi hn =>
  (k.block i (Nat.lt_of_lt_of_le hi h.size) (λhm=>(hs i hm).elim hn (by omega))).trans (h.block i hi hn)⟩
theorem Keep.mono{a b:World}(h:Keep S a b)(hs:∀x∈S,x∈S'\/a.heap.size<=x):Keep S' a b :=
 ⟨h.os,h.tape,h.output,h.size,λi hi hn=>h.block i hi (λhm=>(hs i hm).elim hn (by omega))⟩
theorem Keep.alloc(w:World)(o:Obj):Keep [] w (w.alloc o):=⟨rfl,rfl,rfl,by simp,λk hk _=>Below.heap_alloc _ _ _ hk⟩
theorem Keep.drew(w:World):Keep [] w w.drew:=⟨rfl,rfl,rfl,Nat.le_refl _,λ_ _ _=>rfl⟩
theorem Keep.setCell(w:World)(p:Addr)(u:Value):Keep [p.block] w (w.setCell p u) :=
 ⟨rfl,rfl,rfl,by simp[World.setCell],λk _ hn=>Below.heap_setCell _ _ _ _ (by simpa using hn)⟩
theorem Keep.below(h:Keep S w w')(hB:B<=w.heap.size)(hs:∀x∈S,B<=x):Below B w w' :=
 ⟨h.os,h.tape,h.output,h.size,λk hk=>h.block k (by omega) (λhm=>by have:=hs k hm;omega)⟩
theorem Keep.of_below(h:Below w.heap.size w w'):Keep [] w w':=⟨h.os,h.tape,h.output,h.size,λk hk _=>h.block k hk⟩
theorem Keep.grown{row:Option Nat}(h:w.grownBy w' row):Keep row.toList w w' :=
 ⟨h.os,h.tape,h.output,h.size,λk hk hn=>h.block k hk (λe=>hn (by rw[<-e];simp))⟩
theorem Keep.cell{S:List Nat}{w w':World}(h:Keep S w w'){p:Addr}(hp:p.block<w.heap.size)(hn:p.block∉S):w'.cell? p=w.cell? p:=cell?_of_block (w:=w) (h.block p.block hp hn)
theorem not_later(h:q∉S)(hq:q<w.heap.size)(hs:∀x∈S',x∈S\/w.heap.size<=x):q∉S' :=
 λhm=>(hs q hm).elim h (by omega)
def rowAt(w:World)(g o k:Nat):Option (Array Value) :=
 match w.heap[g]? with
 | some (.cells c _ _)=>if o+k<=c.size then some (c.extract o (o+k))else none
 | _=>none
def ldS(t:TypeId)(a:Addr):Sem Value:=loadVar t a
def bdS(t:TypeId)(parts:Array (Nat×Value)):Sem Value:=Instr.build t parts
def stS(t:TypeId)(a:Addr)(v:Value):Sem Unit:=storeVar t a v
theorem rowAt_of_block(h:w'.heap[g]? = w.heap[g]?)(o k:Nat):rowAt w' g o k=rowAt w g o k:=by unfold rowAt;rw[h]
theorem Keep.row(h:Keep S w w')(hg:g<w.heap.size)(hn:g∉S)(o k:Nat):rowAt w' g o k=rowAt w g o k:=rowAt_of_block (h.block g hg hn) o k
theorem rowAt_lt{o:Nat}(h:rowAt w g o k=some cs):g<w.heap.size:=by
 rcases Nat.lt_or_ge g w.heap.size with hl | hl
 ·exact hl
 ·unfold rowAt at h;rw[Array.getElem?_eq_none hl]at h;cases h
theorem rowAt_size{o:Nat}(h:rowAt w g o k=some cs):cs.size=k:=by
 unfold rowAt at h;split at h
 ·split at h
  ·injection h with h;subst h;simp;omega
  ·cases h
 ·cases h
theorem rowAt_cell{o:Nat}(h:rowAt w g o k=some cs)(hj:j<k):w.cell? ⟨g,o+j,none⟩=cs[j]?:=by
 unfold rowAt at h;split at h
 ·rename_i c t f hg
  split at h
  ·injection h with h;subst h
   simp only[cell?,hg,Option.isSome_none,Bool.false_eq_true,if_false,Array.getElem?_extract];rw[if_pos (by omega)]
  ·cases h
 ·cases h
theorem rowAt_sub{o:Nat}(h:rowAt w g o k=some cs){m:Nat}(hj:j+m<=k):rowAt w g (o+j) m=some (cs.extract j (j+m)):=by
 unfold rowAt at h |-;split at h
 ·rename_i c t f hg
  split at h
  ·rename_i hle
   injection h with h;subst h
   rw[if_pos (by omega)];congr 1
   rw[Array.extract_extract];congr 1 <;> omega
  ·cases h
 ·cases h
@[simp,go_sem] theorem rowAt_drew(w:World)(g o k:Nat):rowAt (w.drew) g o k=rowAt w g o k:=rfl
@[simp,go_sem] theorem rowAt_drewN(w:World)(n g o k:Nat):rowAt (w.drewN n) g o k=rowAt w g o k:=rfl
@[go_sem] theorem rowAt_alloc(w:World)(c:Array Value)(e:TypeId)(fr:Nat×Nat)(g o k:Nat) :
  rowAt (w.alloc (.cells c e fr)) g o k=if g=w.heap.size then(if o+k<=c.size then some (c.extract o (o+k))else none)else rowAt w g o k:=by
 by_cases h:g=w.heap.size
 ·subst h;unfold rowAt;rw[heap_alloc_new];simp
 ·rw[if_neg h];refine rowAt_of_block ?_ o k;show(w.heap.push _)[g]? = _;rw[Array.getElem?_push,if_neg h]
section
variable {P:Program}
theorem run_ldS{d:TypeDesc}(hu:P.underlying t=some d)(hd:(match d with | .struct _ | .array _ _=>true | _=>false)=true)(hi:(P.info? t).map (·.size)=some k)(w:World)(g o:Nat) :
  (ldS t ⟨g,o,none⟩).run P w=match rowAt w g o k with | some cs=>.ok (.agg cs) w | none=>(loadVar t ⟨g,o,none⟩).run P w:=by
 cases h:rowAt w g o k with
 | none=>rfl
 | some cs =>
  have r:=rowAt_size h;have hl:(loadCells ⟨g,o,none⟩ cs.toList.length).run P w = .ok cs.toList.toArray w :=
   run_loadCells_list (P:=P) w ⟨g,o,none⟩ cs.toList (λj v hv=>by
    have m:(⟨g,o,none⟩:Addr).add j=⟨g,o+j,none⟩:=by unfold Addr.add;split <;> simp_all
    have hj:j<k:=by
     have:=(List.getElem?_eq_some_iff.1 hv).1;simp at this;omega
    rw[m,rowAt_cell h hj];simpa using hv)
  simp only[Array.length_toList,r]at hl;have f:(isAgg t).run P w = .ok true w:=by
   cases d <;> simp_all [isAgg,run_underlying hu]
  unfold ldS loadVar;simp only[Sem.run_bind,f,Result.andThen_ok];cases hinfo:P.info? t with
  | none=>rw[hinfo]at hi;cases hi
  | some i =>
   rw[hinfo]at hi;have hk:i.size=k:=by simpa using hi
   simp[sizeOf,typeInfo,hinfo,hk,hl]
theorem setRow_alloc(w:World)(z c:Array Value)(e:TypeId)(fr:Nat×Nat):(w.alloc (.cells z e fr)).setRow w.heap.size c=w.alloc (.cells c e fr):=by
 show({ w with heap:=(w.heap.push (.cells z e fr)).modify w.heap.size _ }:World) = { w with heap:=w.heap.push (.cells c e fr) }
 congr 1
 apply Array.ext
 ·simp
 ·intro i h1 h2;simp only[Array.getElem_modify,Array.getElem_push];by_cases h:w.heap.size=i
  ·subst h;simp
  ·have hi:i<w.heap.size:=by simp at h1;omega
   simp[h,hi]
theorem run_stS_new{e:TypeId}(hi:(P.info? t).map (·.size)=some k)(w:World)(z cs:Array Value)(hz:z.size=k)(hc:cs.size=k)(h1:∀u∈cs.toList,u.oneCell'=true) :
  (stS t ⟨w.heap.size,0,none⟩ (.agg cs)).run P (w.alloc (.cells z e)) = .ok () (w.alloc (.cells cs e)):=by
 unfold stS storeVar;cases hinfo:P.info? t with
 | none=>rw[hinfo]at hi;cases hi
 | some i =>
  rw[hinfo]at hi;have hk:i.size=k:=by simpa using hi
  have d:=run_storeCells_at P w.heap.size 0 e cs.toList 0 z (w.alloc (.cells z e)) (heap_alloc_new w _) (by simp;omega) h1;have hE:(z.toList.take (0+0)++cs.toList++z.toList.drop (0+0+cs.toList.length)).toArray=cs:=by
   rw[drop_of_length_le (by simp;omega)]
   simp
  rw[hE,setRow_alloc]at d;simp[Value.cells,sizeOf,typeInfo,hinfo,hk,hc];exact d
end
theorem arr_mid(A B C:Array Value)(i j:Nat)(hi:A.size=i)(hj:i+B.size=j):(A++B++C).extract i j=B:=by
 subst hi;subst hj;rw[Array.append_assoc];apply Array.ext'
 simp
theorem arr_at(A C:Array Value)(v:Value)(i:Nat)(hi:A.size=i):(A ++ #[v]++C)[i]? = some v:=by
 subst hi;rw[Array.getElem?_append_left (by simp),Array.getElem?_append_right (by omega)]
 simp
theorem fold_seg(v:List Value):∀(A B C:List Value) (n:Nat),B.length=v.length ->
  (v.zipIdx n).foldl (fun (cs:Array Value) (p:Value×Nat)=>cs.setIfInBounds (A.length-n+p.2) p.1) (A++B++C).toArray=(A++v++C).toArray\/A.length<n:=by
 induction v with
 | nil=>intro A B C n h;left;have:B = []:=eq_nil_of_length_eq_zero h;subst this;rfl
 | cons u v ih =>
  intro A B C n h
  match B,h with
  | b :: B,h =>
   by_cases hn:A.length<n
   ·exact .inr hn
   ·left
    have h1:=ih (A ++ [u]) B C (n+1) (by simpa using h);rcases h1 with h1 | h1
    ·simp only[zipIdx_cons,foldl_cons];have e:(A++b :: B++C).toArray.setIfInBounds (A.length-n+n) u=(A ++ [u]++B++C).toArray:=by
      rw[Nat.sub_add_cancel (by omega)]
      simp
     rw[e];have e2:(A ++ [u]).length-(n+1)=A.length-n:=by simp
     rw[e2]at h1;rw[h1];simp
    ·simp at h1;omega
theorem fill_step{d:Nat->Option (Nat×Nat)}{A B C:Array Value}{off size:Nat}{f:List (Nat×Value)}(hp:d i=some (off,size))(hA:A.size=off)(hB:B.size=size)(hv:v.cells.size=size) :
  Instr.fill d (A++B++C) ((i,v) :: f)=Instr.fill d (A++v.cells++C) f:=by
 have hd:v.cells.zipIdx.foldl (fun (cs:Array Value) (p:Value×Nat)=>cs.setIfInBounds (off+p.2) p.1) (A++B++C)=A++v.cells++C:=by
  have:=fold_seg v.cells.toList A.toList B.toList C.toList 0 (by simp;omega);rcases this with h | h
  ·simp only[Array.length_toList,Nat.sub_zero,hA]at h;have eA:(A.toList++B.toList++C.toList).toArray=A++B++C:=by apply Array.ext';simp
   have eB:(A.toList++v.cells.toList++C.toList).toArray=A++v.cells++C:=by apply Array.ext';simp
   rw[eA,eB]at h;rw[<-Array.foldl_toList,Array.toList_zipIdx];exact h
  ·omega
 simp only[Instr.fill,hp];rw[if_neg (by simp[hv,hB,hA])];exact congrArg (λcs=>Instr.fill d cs f) hd
theorem run_build(w:World)(hu:P.underlying t=some (.struct (P.fieldsOf t)))(z:Array Value)(hz:(zeroValue t).run P w = .ok (.agg z) w)(pl:Array (Nat×Nat))
  (d:((P.fieldsOf t).mapM fun (f:Field)=>do pure (f.offset,<-sizeOf f.type)).run P w = .ok pl w)(parts:List (Nat×Value))(cs:Array Value)(hf:Instr.fill (pl[·]?) z parts=some cs) :
  (Instr.build t parts.toArray).run P w = .ok (.agg cs) w:=by
 unfold Instr.build;simp only[Sem.run_bind,hz,Result.andThen_ok,run_underlying hu,d,Value.cells,hf,Sem.run_pure]
end
structure Id32 where
 l:List UInt8
 h:l.length=32
def byteC(c:UInt8):Value:=.int .u8 c.toNat
def idC(x:Id32):Array Value:=(x.l.map byteC).toArray
theorem Id32.ext'{a b:Id32}(h:a.l=b.l):a=b:=by cases a;cases b;simp_all
instance:DecidableEq Id32:=λa b=>if h:a.l=b.l then isTrue (Id32.ext' h)else isFalse (λe=>h (by rw[e]))
@[simp] theorem idC_size(x:Id32):(idC x).size=32:=by simp[idC,x.h]
theorem idC_inj{a b:Id32}(h:idC a=idC b):a=b:=by
 apply Id32.ext';have h2:a.l.map byteC=b.l.map byteC:=by simpa[idC]using h
 have inj:∀x y:UInt8,byteC x=byteC y->x=y:=λx y e=>by
  unfold byteC at e;injection e with _ e;exact UInt8.toNat_inj.1 (by omega)
 exact(List.map_inj_right inj).1 h2
def idB(x:Id32)(i:Nat):Int:=((x.l.getD i 0).toNat:Int)
theorem idB_bd(x:Id32)(i:Nat):0<=idB x i/\idB x i<=255:=by
 have:=(x.l.getD i 0).toNat_lt;unfold idB;omega
@[go_sem] theorem idC_get(x:Id32)(i:Nat):(idC x)[i]? = if i<32 then some (.int .u8 (idB x i))else none:=by
 by_cases h:i<32
 ·rw[if_pos h];have hl:i<x.l.length:=by rw[x.h];exact h
  simp[idC,idB,byteC,getD,hl]
 ·rw[if_neg h];exact Array.getElem?_eq_none (by rw[idC_size];omega)
@[go_sem] theorem idC_getElem(x:Id32)(i:Nat)(h:i<(idC x).size):(idC x)[i]'h = .int .u8 (idB x i):=by
 have h1:i<32:=by rw[idC_size]at h;exact h
 have h2:=idC_get x i;rw[if_pos h1,Array.getElem?_eq_getElem h]at h2;exact Option.some.inj h2
@[go_sem] theorem idC_all(x:Id32):(idC x).extract 0 32=idC x:=by
 have:=Array.extract_size (xs:=idC x);rwa [idC_size]at this
theorem idC_one(x:Id32):∀u∈(idC x).toList,u.oneCell'=true:=by
 intro u hu;simp[idC]at hu;obtain⟨c,_,rfl⟩:=hu;rfl
def id0:Id32:=⟨replicate 32 0,by simp⟩
theorem infoId:(prog.info? 23).map (·.size)=some 32:=by kernel_rfl
theorem zeroId_run(w:World):(zeroValue 23).run prog w = .ok (.agg (idC id0)) w:=by
 have h:(prog.info? 23).bind (·.zero)=some (.agg (idC id0)):=by kernel_rfl
 cases hi:prog.info? 23 with
 | none=>rw[hi]at h;cases h
 | some i =>
  rw[hi]at h;have hz:i.zero=some (.agg (idC id0)):=h;simp[zeroValue,typeInfo,hi,hz]
attribute [go_sem ↓] zeroId_run
@[go_sem ↓] theorem loadId_rw(a:Addr):loadVar 23 a=ldS 23 a:=rfl
@[go_sem ↓] theorem storeId_rw(a:Addr)(v:Value):storeVar 23 a v=stS 23 a v:=rfl
@[go_sem] theorem loadId_run(w:World)(g o:Nat):(ldS 23 ⟨g,o,none⟩).run prog w=match rowAt w g o 32 with | some cs=>.ok (.agg cs) w | none=>(loadVar 23 ⟨g,o,none⟩).run prog w :=
 run_ldS underlying23 rfl infoId w g o
@[go_sem] theorem storeId_run(w:World)(g:Nat)(hg:g=w.heap.size)(z:Array Value)(hz:z.size=32)(x:Id32)(e:TypeId):(stS 23 ⟨g,0,none⟩ (.agg (idC x))).run prog (w.alloc (.cells z e)) = .ok () (w.alloc (.cells (idC x) e)) :=
 hg ▸ run_stS_new infoId w z (idC x) hz (idC_size x) (idC_one x)
theorem sizeByte(w:World):(sizeOf 5).run prog w = .ok 1 w:=by
 have h:(prog.info? 5).map (·.size)=some 1:=by kernel_rfl
 cases hi:prog.info? 5 with
 | none=>rw[hi]at h;cases h
 | some i =>
  rw[hi]at h;have hk:i.size=1:=by simpa using h
  simp[sizeOf,typeInfo,hi,hk]
theorem eqId_in(d:Nat)(x y:Id32)(w:World):(Op.equalIn (d+2) 23 (.agg (idC x)) (.agg (idC y))).run prog w = .ok (x==y) w:=by
 have e:∀z:Id32,idC z=(z.l.map Extern.Stop.cell).toArray:=λ_=>rfl;have hb:(x.l==y.l)=(x==y):=by
  rw[Bool.eq_iff_iff];simp only[beq_iff_eq];exact⟨Id32.ext',λh=>by rw[h]⟩
 rw[e x,e y,run_equalIn_bytes (P:=prog) w d 23 5 32 underlying23 underlying5 sizeByte x.l y.l x.h y.h,hb]
@[go_sem ↓] theorem eqId_run(x y:Id32)(w:World):(Op.equalIn 10000 23 (.agg (idC x)) (.agg (idC y))).run prog w = .ok (x==y) w:=eqId_in 9998 x y w
def nU(x:UInt32):Int:=((x.toNat:Nat):Int)
@[go_sem] theorem u_xor(x y:UInt32):bits .xor .u32 (nU x) (nU y)=nU (x ^^^ y):=by
 unfold nU;rw[u32_xor_nat _ _ x.toNat_lt y.toNat_lt,UInt32.toNat_xor]
@[go_sem] theorem u_and(x y:UInt32):bits .and .u32 (nU x) (nU y)=nU (x &&& y):=by
 unfold nU;rw[u32_and_nat _ _ x.toNat_lt y.toNat_lt,UInt32.toNat_and]
@[go_sem] theorem u_or(x y:UInt32):bits .or .u32 (nU x) (nU y)=nU (x ||| y):=by
 unfold nU;rw[u32_or_nat _ _ x.toNat_lt y.toNat_lt,UInt32.toNat_or]
@[go_sem] theorem u_add(x y:UInt32):IntKind.u32.wrap (nU x+nU y)=nU (x+y):=by
 rw[IntKind.wrap_u32',nU,nU,nU,UInt32.toNat_add];omega
@[go_sem] theorem u_not(x:UInt32):bits .xor .u32 4294967295 (nU x)=nU (~~~x):=by
 have h:=u_xor 4294967295 x;rw[show nU 4294967295=4294967295 from rfl]at h;rw[h,show(4294967295:UInt32) = -1 from rfl,UInt32.neg_one_xor]
theorem u_shr(x:UInt32)(n:Nat)(hn:n<32):nU x / 2 ^ n=nU (x >>> UInt32.ofNat n):=by
 rw[nU,nU,UInt32.toNat_shiftRight,UInt32.toNat_ofNat',Nat.mod_eq_of_lt (a:=n) (by omega),Nat.mod_eq_of_lt (a:=n) hn,Nat.shiftRight_eq_div_pow]
 push_cast;rfl
theorem u_shl(x:UInt32)(n:Nat)(hn:n<32):IntKind.u32.wrap (nU x*2 ^ n)=nU (x <<< UInt32.ofNat n):=by
 rw[nU,nU,UInt32.toNat_shiftLeft,UInt32.toNat_ofNat',Nat.mod_eq_of_lt (a:=n) (by omega),Nat.mod_eq_of_lt (a:=n) hn,Nat.shiftLeft_eq,IntKind.wrap_u32',Int.natCast_emod,Int.natCast_mul,Int.natCast_pow];rfl
def rotU(x:UInt32)(n:Nat):UInt32:=(x >>> UInt32.ofNat n) ||| (x <<< UInt32.ofNat (32-n))
def sg0(x:UInt32):UInt32:=rotU x 7 ^^^ rotU x 18 ^^^ (x >>> 3)
def sg1(x:UInt32):UInt32:=rotU x 17 ^^^ rotU x 19 ^^^ (x >>> 10)
def up0(x:UInt32):UInt32:=rotU x 2 ^^^ rotU x 13 ^^^ rotU x 22
def up1(x:UInt32):UInt32:=rotU x 6 ^^^ rotU x 11 ^^^ rotU x 25
def kU:List UInt32:=[0x428a2f98,0x71374491,0xb5c0fbcf,0xe9b5dba5,0x3956c25b,0x59f111f1,0x923f82a4,0xab1c5ed5,
 0xd807aa98,0x12835b01,0x243185be,0x550c7dc3,0x72be5d74,0x80deb1fe,0x9bdc06a7,0xc19bf174,
 0xe49b69c1,0xefbe4786,0x0fc19dc6,0x240ca1cc,0x2de92c6f,0x4a7484aa,0x5cb0a9dc,0x76f988da,
 0x983e5152,0xa831c66d,0xb00327c8,0xbf597fc7,0xc6e00bf3,0xd5a79147,0x06ca6351,0x14292967,
 0x27b70a85,0x2e1b2138,0x4d2c6dfc,0x53380d13,0x650a7354,0x766a0abb,0x81c2c92e,0x92722c85,
 0xa2bfe8a1,0xa81a664b,0xc24b8b70,0xc76c51a3,0xd192e819,0xd6990624,0xf40e3585,0x106aa070,
 0x19a4c116,0x1e376c08,0x2748774c,0x34b0bcb5,0x391c0cb3,0x4ed8aa4a,0x5b9cca4f,0x682e6ff3,
 0x748f82ee,0x78a5636f,0x84c87814,0x8cc70208,0x90befffa,0xa4506ceb,0xbef9a3f7,0xc67178f2]
def hU:List UInt32:=[0x6a09e667,0xbb67ae85,0x3c6ef372,0xa54ff53a,0x510e527f,0x9b05688c,0x1f83d9ab,0x5be0cd19]
def byU(b:List UInt8)(i:Nat):UInt32:=(b.getD i 0).toUInt32
def wordU(b:List UInt8)(i:Nat):UInt32:=((byU b i <<< 24 ||| byU b (i+1) <<< 16) ||| byU b (i+2) <<< 8) ||| byU b (i+3)
def nextU(b:List UInt8)(l:List UInt32)(i:Nat):UInt32 :=
 if i<16 then wordU b (4*i)else l.getD (i-16) 0+sg0 (l.getD (i-15) 0)+l.getD (i-7) 0+sg1 (l.getD (i-2) 0)
def schedU(b:List UInt8):Nat->List UInt32
 | 0=>[]
 | i+1=>schedU b i ++ [nextU b (schedU b i) i]
structure StU where
 a:UInt32
 b:UInt32
 c:UInt32
 d:UInt32
 e:UInt32
 f:UInt32
 g:UInt32
 h:UInt32
deriving DecidableEq
def rndU(s:StU)(k w:UInt32):StU :=
 let t:=s.h+up1 s.e+((s.e &&& s.f) ^^^ (~~~s.e &&& s.g))+k+w
 let u:=up0 s.a+(((s.a &&& s.b) ^^^ (s.a &&& s.c)) ^^^ (s.b &&& s.c))
 ⟨t+u,s.a,s.b,s.c,s.d+t,s.e,s.f,s.g⟩
def rndsU(ws:List UInt32)(s:StU):Nat->StU
 | 0=>s
 | i+1=>rndU (rndsU ws s i) (kU.getD i 0) (ws.getD i 0)
def addU(s t:StU):StU:=⟨s.a+t.a,s.b+t.b,s.c+t.c,s.d+t.d,s.e+t.e,s.f+t.f,s.g+t.g,s.h+t.h⟩
def turnU(s:StU)(b:List UInt8):StU:=addU s (rndsU (schedU b 64) s 64)
def blkU:Nat->StU->List UInt8->StU
 | 0,s,_=>s
 | n+1,s,l=>blkU n (turnU s (l.take 64)) (l.drop 64)
def firstU:StU:=⟨0x6a09e667,0xbb67ae85,0x3c6ef372,0xa54ff53a,0x510e527f,0x9b05688c,0x1f83d9ab,0x5be0cd19⟩
def lenU(n:Nat):List UInt8:=(List.range 8).map λi=>UInt8.ofNat (n*8 % 18446744073709551616 / 2 ^ (8*(7-i)))
def padU(n:Nat):List UInt8:=128 :: (replicate ((119-n % 64) % 64) 0++lenU n)
def b4U(x:UInt32):List UInt8:=[(x >>> 24).toUInt8,(x >>> 16).toUInt8,(x >>> 8).toUInt8,x.toUInt8]
def outU(s:StU):List UInt8:=b4U s.a++b4U s.b++b4U s.c++b4U s.d++b4U s.e++b4U s.f++b4U s.g++b4U s.h
def shaU(l:List UInt8):List UInt8:=outU (blkU ((l++padU l.length).length / 64) firstU (l++padU l.length))
theorem schedU_length(b:List UInt8):∀n,(schedU b n).length=n
 | 0=>rfl
 | n+1=>by rw[schedU,length_append,schedU_length b n];rfl
theorem getD_appL{α:Type}(d:α)(l m:List α)(h:j<l.length):(l++m).getD j d=l.getD j d:=by rw[getD_eq_getElem?_getD,getD_eq_getElem?_getD,getElem?_append_left h]
def wsU(b:List UInt8)(n:Nat):List UInt32:=schedU b n++replicate (64-n) 0
theorem wsU_length(b:List UInt8)(h:n<=64):(wsU b n).length=64:=by rw[wsU,length_append,schedU_length,length_replicate];omega
theorem wsU_get(b:List UInt8)(h:j<n):(wsU b n).getD j 0=(schedU b n).getD j 0:=getD_appL _ _ _ (by rw[schedU_length];omega)
theorem wsU_set(b:List UInt8)(h:n<64):(wsU b n).set n (nextU b (schedU b n) n)=wsU b (n+1):=by
 unfold wsU;rw[set_append_right _ _ (by rw[schedU_length];omega),schedU_length,Nat.sub_self,show 64-n=(64-(n+1))+1 by omega,replicate_succ,set_cons_zero,schedU,append_assoc];rfl
theorem wsU_all(b:List UInt8):wsU b 64=schedU b 64:=by simp[wsU]
theorem blkU_add(m:Nat):∀(n:Nat) (s:StU) (l:List UInt8),blkU (n+m) s l=blkU m (blkU n s l) (l.drop (64*n))
 | 0,s,l=>by simp[blkU]
 | n+1,s,l=>by
  rw[show n+1+m=(n+m)+1 by omega,blkU,blkU,blkU_add m n,drop_drop,show 64+64*n=64*(n+1) by omega]
theorem blkU_app(p:List UInt8):∀(n:Nat) (s:StU) (l:List UInt8),64*n<=l.length->blkU n s (l++p)=blkU n s l
 | 0,_,_,_=>rfl
 | n+1,s,l,h=>by
  rw[blkU,blkU,take_append_of_le_length (by omega),drop_append_of_le_length (by omega),blkU_app p n _ _ (by rw[length_drop];omega)]
theorem blkU_snoc(n:Nat)(s:StU)(l:List UInt8):blkU (n+1) s l=turnU (blkU n s l) ((l.drop (64*n)).take 64):=by
 rw[blkU_add 1 n];rfl
theorem lenU_length(n:Nat):(lenU n).length=8:=by simp[lenU]
theorem padU_length(n:Nat):(padU n).length=9+(119-n % 64) % 64:=by simp[padU,lenU_length];omega
theorem padU_whole(n:Nat):(n+(padU n).length) % 64=0:=by rw[padU_length];omega
theorem shaU_parts(l:List UInt8) :
  shaU l=outU (blkU (((l.drop (64*(l.length / 64)))++padU l.length).length / 64) (blkU (l.length / 64) firstU l) ((l.drop (64*(l.length / 64)))++padU l.length)):=by
 unfold shaU;have h1:=padU_whole l.length;have h2:(l++padU l.length).length / 64=l.length / 64+((l.drop (64*(l.length / 64)))++padU l.length).length / 64:=by
  simp only[length_append,length_drop]at *;omega
 rw[h2,blkU_add,blkU_app _ _ _ _ (by omega),drop_append_of_le_length (by omega)]
theorem b4U_length(x:UInt32):(b4U x).length=4:=rfl
theorem outU_length(s:StU):(outU s).length=32:=by simp[outU,b4U_length]
def shaI(l:List UInt8):Id32:=⟨shaU l,outU_length _⟩
section
def chainOp(cv:Bool)(o:Oper):Bool :=
 match o.op with
 | .call c=>(match c.callee with | .builtin .len=>false | .builtin .cap=>false | _=>true)
 | .alloc _ | .box _ _ | .buildSlice _ _ _ | .store _ _ _ | .insert _ _ _ _ | .mapUpdate _ _ _ _ | .mapEntry _ _ _ | .entryStore _ _ _ _ | .makeMap _ _ | .makeChan _ _ | .makeSlice _ _ _ | .range _ _ | .next _ _=>true
 | .convert _ _ _=>cv
 | _=>false
def chainAt(cv:Bool)(ops:Array Oper)(i:Nat):Bool:=((ops[i]?).map (chainOp cv)).getD false
def waitsB(md:Region.Mode)(ops:Array Oper)(j p:Nat):Bool :=
 match ops[j]? with
 | some oj=>oj.after.any λe=>Region.binds md e&&e.on==p
 | none=>false
def chainB(md:Region.Mode)(cv:Bool)(ops:Array Oper):Bool :=
 (List.range ops.size).all λj=>!chainAt cv ops j||(match (List.range j).reverse.find? (chainAt cv ops)with | some p=>waitsB md ops j p | none=>true)
section
variable {P:Program} {ops:Array Oper} {md:Region.Mode} {S:World->Prop} {cv fb:Bool}
def looseRes(w:World)(v:Value):Result Next->Prop
 | .ok (.value u) w'=>w'=w/\u=v
 | .ok .skip w'=>w'=w/\v=undef
 | _=>False
theorem looseRes_uniq{r:Result Next}(h:looseRes w v r)(k:looseRes w u r):v=u:=by
 cases r with
 | ok n w'=>cases n <;> simp only[looseRes]at h k <;> first | exact h.2.symm.trans k.2 | exact h.2.trans k.2.symm | exact h.elim
 | halt x w'=>exact h.elim
def chainRes(P:Program)(S:World->Prop)(K:Value->World->Prop):Result Next->Prop
 | .ok (.value u) w'=>S w'/\K u w'
 | .ok .skip w'=>S w'/\K undef w'
 | .ok (.enter f args) w'=>Calls P f args w' (λe w''=>∃v,e = .returned v/\S w''/\K v w'')
 | _=>False
theorem chainRes_mono{r:Result Next}(hk:∀v w,S w->K v w->K' v w)(h:chainRes P S K r):chainRes P S K' r:=by
 cases r with
 | ok n w' =>
  cases n <;> simp only[chainRes]at h |-
  case value u=>exact⟨h.1,hk _ _ h.1 h.2⟩
  case skip=>exact⟨h.1,hk _ _ h.1 h.2⟩
  case enter f args=>exact h.mono λe d ⟨v,he,hs,h2⟩=>⟨v,he,hs,hk _ _ hs h2⟩
 | halt x w'=>exact h.elim
theorem chainRes_weaken{S':World->Prop}{r:Result Next}(hs:∀w,S w->S' w)(hk:∀v w,S w->K v w->K' v w)(h:chainRes P S K r):chainRes P S' K' r:=by
 cases r with
 | ok n w' =>
  cases n <;> simp only[chainRes]at h |-
  case value u=>exact⟨hs _ h.1,hk _ _ h.1 h.2⟩
  case skip=>exact⟨hs _ h.1,hk _ _ h.1 h.2⟩
  case enter f args=>exact h.mono λe g ⟨v,he,d,h2⟩=>⟨v,he,hs _ d,hk _ _ d h2⟩
 | halt x w'=>exact h.elim
theorem chainRes_some{r:Result Next}(h:chainRes P S K r):∃v w,S w/\K v w:=by
 cases r with
 | ok n w' =>
  cases n <;> simp only[chainRes]at h
  case value u=>exact⟨_,_,h.1,h.2⟩
  case skip=>exact⟨_,_,h.1,h.2⟩
  case enter f args =>
   obtain⟨e,d,fr,⟨v,_,hs,hk⟩,_⟩:=h [];exact⟨v,d,hs,hk⟩
 | halt x w'=>exact h.elim
def cls(ops:Array Oper)(S:World->Prop)(fb:Bool)(i:Nat):World->Prop:=λw=>S w\/(fb=true/\i+1=ops.size)
def endB(md:Region.Mode)(ops:Array Oper):Bool:=decide (0<ops.size)&&Region.sinkB md ops (ops.size-1)
def lxOp(P:Program)(ops:Array Oper)(S:World->Prop)(cv fb:Bool)(i:Nat)(K:Act->World->Prop)(a:Act)(w:World):Prop :=
 match ops[i]? with
 | none=>K a w
 | some o =>
  if Region.wanted o (yielded ops a.tmps)then
   (if chainOp cv o then chainRes P (cls ops S fb i) (λv w'=>K (a.put o.dst v) w') ((execOp a.eval o).run P w)
    else ∃v,(∀w',S w'->looseRes w' v ((execOp a.eval o).run P w'))/\K (a.put o.dst v) w)
  else K (a.put o.dst undef) w
theorem lxOp_mono{K K':Act->World->Prop}(hS:S w)(h:∀a w,cls ops S fb i w->K a w->K' a w)(hh:lxOp P ops S cv fb i K a w):lxOp P ops S cv fb i K' a w:=by
 have d:cls ops S fb i w:=.inl hS;unfold lxOp at *;split
 ·exact h _ _ d (by simpa[*]using hh)
 ·rename_i o ho
  simp only[ho]at hh;split
  ·rename_i hw
   rw[if_pos hw]at hh;split
   ·rename_i hc;rw[if_pos hc]at hh;exact chainRes_mono (λv w hs hk=>h _ _ hs hk) hh
   ·rename_i hc;rw[if_neg hc]at hh;obtain⟨v,h1,h2⟩:=hh;exact⟨v,h1,h _ _ d h2⟩
  ·rename_i hw;rw[if_neg hw]at hh;exact h _ _ d hh
def wpAnyX(P:Program)(md:Region.Mode)(ops:Array Oper)(S:World->Prop)(cv fb:Bool)(Q:Act->World->Prop):Nat->Array Bool->Act->World->Prop
 | 0,listed,a,w=>Region.ready md ops listed = []/\Q a w
 | fuel+1,listed,a,w =>
  (Region.ready md ops listed = []->Q a w) /\
  ∀i∈Region.ready md ops listed,lxOp P ops S cv fb i (wpAnyX P md ops S cv fb Q fuel (listed.setIfInBounds i true)) a w
theorem wpOp_of_lxOp{K K':Act->World->Prop}(hS:S w)(h:∀a w,cls ops S fb i w->K a w->K' a w)(hh:lxOp P ops S cv fb i K a w):wpOp P ops Q' i K' a w:=by
 have d:cls ops S fb i w:=.inl hS;unfold lxOp at hh;unfold wpOp;split
 ·rename_i ho;simp only[ho]at hh;exact h _ _ d hh
 ·rename_i o ho
  simp only[ho]at hh;split
  ·rename_i hw
   rw[if_pos hw]at hh;refine .inl ?_;unfold Oper.wp;split at hh
   ·generalize (execOp a.eval o).run P w=r at *;cases r with
    | ok n w' =>
     cases n <;> simp only[chainRes]at hh <;> simp only[Oper.upon]
     case value u=>exact h _ _ hh.1 hh.2
     case skip=>exact h _ _ hh.1 hh.2
     case enter f args=>exact hh.mono λe g ⟨v,he,hs,hk⟩=>by subst he;exact h _ _ hs hk
    | halt x w'=>exact hh.elim
   ·obtain⟨v,h1,h2⟩:=hh;have h3:=h1 w hS;generalize (execOp a.eval o).run P w=r at *;cases r with
    | ok n w' =>
     cases n <;> simp only[looseRes]at h3 <;> simp only[Oper.upon]
     case value u=>obtain⟨e1,e2⟩:=h3;rw[e1,e2];exact h _ _ d h2
     case skip=>obtain⟨e1,e2⟩:=h3;rw[e1,<-e2];exact h _ _ d h2
    | halt x w'=>exact h3.elim
  ·rename_i hw;rw[if_neg hw]at hh;exact h _ _ d hh
structure EndInv(md:Region.Mode)(ops:Array Oper)(fb:Bool)(listed:Array Bool):Prop where
 inv:fb=true->endB md ops=true/\(HeadInv md ops (ops.size-1) listed\/Region.ready md ops listed = [])
theorem EndInv.end_{d:Array Bool}(h:EndInv md ops fb d)(k:fb=true)(hi:i∈Region.ready md ops d)(he:i+1=ops.size):∀j∈Region.ready md ops d,j=i:=by
 obtain⟨hB,h1⟩:=h.inv k;rcases h1 with h1 | h1
 ·intro j hj;simp only[endB,Bool.and_eq_true,decide_eq_true_eq]at hB;obtain⟨f,oj,g,_⟩:=mem_ready.1 hj;have s:j<ops.size:=(Array.getElem?_eq_some_iff.1 g).1;rcases Nat.lt_or_ge j i with r | y
  ·exfalso
   have m:Region.chainB md ops (ops.size-1)=true:=by
    unfold Region.chainB;rw[all_eq_true];intro t ht;have:=mem_range.1 ht
    simp;left;omega
   exact tail_waits hB.2 m (by omega) h1 (ops.size-1-j) j rfl (by omega) f i (by omega) hi
  ·omega
 ·rw[h1]at hi;cases hi
theorem EndInv.set{d:Array Bool}(h:EndInv md ops fb d){i:Nat}(hi:i∈Region.ready md ops d):EndInv md ops fb (d.setIfInBounds i true):=by
 refine⟨λg=>?_⟩;obtain⟨hB,h1⟩:=h.inv g;refine⟨hB,?_⟩;rcases h1 with h1 | h1
 ·by_cases he:i+1=ops.size
  ·right
   have D:=h.end_ g hi he;apply eq_nil_iff_forall_not_mem.2;intro j hj;obtain⟨f,oj,r,k⟩:=mem_ready.1 hj;have y:j<ops.size:=(Array.getElem?_eq_some_iff.1 r).1;have A:j≠i:=by
    rintro rfl;have m:j<d.size:=by rw[h1.size];exact y
    simp[m]at f
   simp only[endB,Bool.and_eq_true,decide_eq_true_eq]at hB;have B:Region.chainB md ops (ops.size-1)=true:=by
    unfold Region.chainB;rw[all_eq_true];intro t ht;have:=mem_range.1 ht
    simp;left;omega
   rw[getD_set_ne true (Ne.symm A)]at f;exact tail_waits hB.2 B (by omega) h1 (ops.size-1-j) j rfl (by omega) f i (by omega) hi
  ·left
   obtain⟨_,oi,s,_⟩:=mem_ready.1 hi;have E:i<ops.size:=(Array.getElem?_eq_some_iff.1 s).1;exact h1.set hi (by omega)
 ·rw[h1]at hi;cases hi
theorem EndInv.cls{d:Array Bool}{w:World}(h:EndInv md ops fb d){i j:Nat}(hi:i∈Region.ready md ops d)(hj:j∈Region.ready md ops d)(f:j≠i)(hc:cls ops S fb j w):S w:=by
 rcases hc with hc | ⟨g,he⟩
 ·exact hc
 ·exact absurd (h.end_ g hj he i hi).symm f
theorem wpAny_of_X{Q:Act->World->Prop}{Q':Exit->Act->World->Prop}(hQ:∀a w,(S w\/fb=true)->Q a w->Q' .normal a w):∀(fuel:Nat) (listed:Array Bool) (a:Act) (w:World),EndInv md ops fb listed->(S w\/(fb=true/\Region.ready md ops listed = [])) ->
  wpAnyX P md ops S cv fb Q fuel listed a w->wpAny P md ops Q' fuel listed a w
 | 0,_,_,_,_,hS,h=>⟨h.1,hQ _ _ (hS.imp id (·.1)) h.2⟩
 | fuel+1,listed,_,_,hI,hS,h=>⟨λh0=>hQ _ _ (hS.imp id (·.1)) (h.1 h0),λi hi=>by
   rcases hS with hS | ⟨_,h0⟩
   ·refine wpOp_of_lxOp hS (λa' w' f=>wpAny_of_X hQ fuel _ a' w' (hI.set hi) ?_) (h.2 i hi);rcases f with f | ⟨g,he⟩
    ·exact .inl f
    ·right
     refine⟨g,?_⟩;rcases ((hI.set hi).inv g).2 with h1 | h1
     ·exfalso
      have:=h1.tail i (by omega) (by omega);have j:i<(listed.setIfInBounds i true).size:=by rw[h1.size];omega
      have d:i<listed.size:=by simpa using j
      simp[d]at this
     ·exact h1
   ·rw[h0]at hi;cases hi⟩
def YieldsX(P:Program)(ops:Array Oper)(S:World->Prop)(cv:Bool)(o:Oper)(v:Value)(a:Act):Prop :=
 (Region.wanted o (yielded ops a.tmps)=true/\chainOp cv o=false/\∀w,S w->looseRes w v ((execOp a.eval o).run P w)) \/
 (Region.wanted o (yielded ops a.tmps)=false/\v=undef)
theorem YieldsX.lxOp{i:Nat}{o:Oper}{v:Value}{a:Act}{w:World}(hi:ops[i]? = some o)(hy:YieldsX P ops S cv o v a){K:Act->World->Prop}(h:K (a.put o.dst v) w):lxOp P ops S cv fb i K a w:=by
 unfold Proofs.YtplpiicfkbpkaaaGreatDoor.lxOp;simp only[hi];rcases hy with⟨hw,hc,hv⟩ | ⟨hw,rfl⟩
 ·rw[if_pos hw,hc];exact⟨v,hv,h⟩
 ·rw[if_neg (by rw[hw];simp)];exact h
theorem YieldsX.of_same{a':Act}(hy:YieldsX P ops S cv o v a)(he:execOp a'.eval o=execOp a.eval o)
  (hw:Region.wanted o (yielded ops a'.tmps)=Region.wanted o (yielded ops a.tmps)):YieldsX P ops S cv o v a':=by
 unfold YieldsX at *;rw[he,hw];exact hy
theorem YieldsX.uniq(hS:S w)(h:YieldsX P ops S cv o v a)(k:YieldsX P ops S cv o u a):v=u:=by
 rcases h with⟨h1,_,h2⟩ | ⟨h1,h2⟩ <;> rcases k with⟨k1,_,k2⟩ | ⟨k1,k2⟩
 ·exact looseRes_uniq (h2 w hS) (k2 w hS)
 ·rw[h1]at k1;cases k1
 ·rw[h1]at k1;cases k1
 ·rw[h2,k2]
theorem lxOp_put{oj:Oper}(hj:ops[j]? = some oj)(g:oi.apart ops oj=true)
  (f:∀cs b,oi.op≠.select cs b)(d:∀cs b,oj.op≠.select cs b){K:Act->World->Prop}
  (hy:YieldsX P ops S cv oi v a)(h:lxOp P ops S cv fb j K (a.put oi.dst v) w) :
  lxOp P ops S cv fb j (λa' w'=>YieldsX P ops S cv oi v a'/\K (a'.put oi.dst v) w') a w:=by
 obtain⟨h1,h2,h3⟩:=Oper.apart_spec g;have keep:∀(a:Act),YieldsX P ops S cv oi v a->∀u,YieldsX P ops S cv oi v (a.put oj.dst u):=λa hy u =>
  hy.of_same (execOp_put oi f a oj.dst u h3) (wanted_put oi a oj.dst u h3)
 unfold lxOp at *;simp only[hj]at *;rw[wanted_put oj a oi.dst v h1,execOp_put oj d a oi.dst v h1]at h;split
 ·rename_i hw
  rw[if_pos hw]at h;split
  ·rename_i hc
   rw[if_pos hc]at h;exact chainRes_mono (λu w' _ hk=>⟨keep a hy u,by rw[<-Act.put_comm a v u h2];exact hk⟩) h
  ·rename_i hc
   rw[if_neg hc]at h;obtain⟨u,hu,hk⟩:=h;exact⟨u,hu,keep a hy u,by rw[<-Act.put_comm a v u h2];exact hk⟩
 ·rename_i hw
  rw[if_neg hw]at h;exact⟨keep a hy _,by rw[<-Act.put_comm a v undef h2];exact h⟩
theorem X_first_loose{Q:Act->World->Prop}(hi:ops[i]? = some oi)(s:∀(j:Nat) (o:Oper) cs b,ops[j]? = some o->o.op≠.select cs b) :
  ∀(f:Nat) (d:Array Bool) (a:Act) (w:World),EndInv md ops fb d->S w ->
   (∀j oj,ops[j]? = some oj->j≠i->d.getD j true=false->(∀e∈oj.after,Region.binds md e=true->e.on≠i)->oi.apart ops oj=true) ->
   i∈Region.ready md ops d->YieldsX P ops S cv oi v a ->
   wpAnyX P md ops S cv fb Q f (d.setIfInBounds i true) (a.put oi.dst v) w->wpAnyX P md ops S cv fb Q (f+1) d a w:=by
 intro f;induction f with
 | zero =>
  intro d a w _ _ _ hr hy H;refine⟨λh=>(by rw[h]at hr;cases hr),λj hj=>?_⟩;by_cases g:j=i
  ·subst g;exact hy.lxOp hi H
  ·have:=ready_mono hj g;rw[H.1]at this;cases this
 | succ f ih =>
  intro d a w hI hS m hr hy H;refine⟨λh=>(by rw[h]at hr;cases hr),λj hj=>?_⟩;by_cases g:j=i
  ·subst g;exact hy.lxOp hi H
  ·have h1:=H.2 j (ready_mono hj g);obtain⟨t,oj,y,B⟩:=mem_ready.1 hj;have A:∀e∈oj.after,Region.binds md e=true->e.on≠i:=λe he hb I=>by
    have h1:=B e he hb;have h0:=(mem_ready.1 hr).1;rw[I]at h1;rcases Nat.lt_or_ge i d.size with h' | h'
    ·simp[h']at h0 h1;rw[h0]at h1;cases h1
    ·simp[Array.getElem?_eq_none h']at h1
   have h2:=lxOp_put y (m j oj y g t A) (λcs b=>s i oi cs b hi) (λcs b=>s j oj cs b y) hy h1;have r:∀k ok,ops[k]? = some ok->k≠i->(d.setIfInBounds j true).getD k true=false ->
     (∀e∈ok.after,Region.binds md e=true->e.on≠i)->oi.apart ops ok=true:=λk ok hk G D F=>by
    refine m k ok hk G ?_ F;by_cases E:j=k
    ·subst E;exact t
    ·rw[getD_set_ne true E]at D;exact D
   refine lxOp_mono hS (λa' w' J h3=>ih (d.setIfInBounds j true) a' w' (hI.set hj) (hI.cls hr hj g J) r (ready_mono hr (Ne.symm g)) h3.1 ?_) h2;rw[Array.setIfInBounds_comm _ _ g];exact h3.2
theorem X_first_chain{Q:Act->World->Prop}(hi:ops[i]? = some oi)(hc:chainOp cv oi=true)(D:∀(j:Nat) (o:Oper) cs b,ops[j]? = some o->o.op≠.select cs b)
  (a7:chainB md cv ops=true) :
  ∀(f:Nat) (d:Array Bool) (a:Act) (w:World),EndInv md ops fb d->S w ->
   (∀j oj,ops[j]? = some oj->j≠i->d.getD j true=false->(∀e∈oj.after,Region.binds md e=true->e.on≠i)->oi.apart ops oj=true) ->
   (∀j,chainAt cv ops j=true->(j<i->d.getD j true=true)/\(i<=j->d.getD j false=false)) ->
   i∈Region.ready md ops d->Region.wanted oi (yielded ops a.tmps)=true ->
   chainRes P (cls ops S fb i) (λv w'=>wpAnyX P md ops S cv fb Q f (d.setIfInBounds i true) (a.put oi.dst v) w') ((execOp a.eval oi).run P w)->wpAnyX P md ops S cv fb Q (f+1) d a w:=by
 have key:∀(d:Array Bool),(∀j,chainAt cv ops j=true->(j<i->d.getD j true=true)/\(i<=j->d.getD j false=false)) ->
   ∀j∈Region.ready md ops d,j≠i->∀oj,ops[j]? = some oj->chainOp cv oj=false:=by
  intro d g j hj t oj m;cases G:chainOp cv oj with
  | false=>rfl
  | true =>
   exfalso
   have I:chainAt cv ops j=true:=by unfold chainAt;rw[m];exact G
   have y:chainAt cv ops i=true:=by unfold chainAt;rw[hi];exact hc
   obtain⟨r,o',a0,B⟩:=mem_ready.1 hj;obtain⟨i1,i2⟩:=g j I;rcases Nat.lt_or_ge j i with T | b3
   ·rw[i1 T]at r;cases r
   ·have b2:i<j:=by omega
    have a5:j<ops.size:=(Array.getElem?_eq_some_iff.1 m).1;have h1:=all_eq_true.1 a7 j (mem_range.2 a5);rw[I]at h1;simp only[Bool.not_true,Bool.false_or]at h1;cases hf:(List.range j).reverse.find? (chainAt cv ops)with
    | none =>
     have:=find?_eq_none.1 hf i (by simp;omega);exact this y
    | some p =>
     rw[hf]at h1;have U:chainAt cv ops p=true:=find?_some hf;have Z:i<=p:=by
      rcases Nat.lt_or_ge p i with T | O
      ·exfalso
       have M:(List.range j).reverse=((List.range j).reverse.take (j-1-i))++(i :: (List.range j).reverse.drop (j-i)):=by
        apply ext_getElem?;intro n;have a2:((List.range j).reverse.take (j-1-i)).length=j-1-i:=by simp;omega
        by_cases b1:n<j-1-i
        ·rw[getElem?_append_left (by omega),getElem?_take,if_pos b1]
        ·rw[getElem?_append_right (by omega),a2];by_cases b0:n=j-1-i
         ·subst b0;rw[Nat.sub_self,getElem?_cons_zero,getElem?_reverse (by simp;omega)];simp only[length_range];rw[getElem?_range (by omega)];congr 1;omega
         ·have:n-(j-1-i)=(n-(j-i))+1:=by omega
          rw[this,getElem?_cons_succ,getElem?_drop];congr 1;omega
       rw[M,find?_append]at hf;cases ht:((List.range j).reverse.take (j-1-i)).find? (chainAt cv ops)with
       | some q =>
        rw[ht]at hf;have e:q=p:=by simpa using hf
        subst e;have hm:=mem_of_find?_eq_some ht;obtain⟨n,hn,hq⟩:=mem_iff_getElem.1 hm;simp only[getElem_take,getElem_reverse,getElem_range,length_range]at hq;simp at hn;omega
       | none =>
        rw[ht]at hf;simp only[Option.none_or,find?_cons,y]at hf;have e:i=p:=by simpa using hf
        omega
      ·exact O
     unfold waitsB at h1;rw[m]at h1;obtain⟨e,he,hb⟩:=Array.any_eq_true'.1 h1;simp only[Bool.and_eq_true,beq_iff_eq]at hb;have e2:o'=oj:=Option.some.inj (a0.symm.trans m);subst e2;have h3:=B e he hb.1;rw[hb.2,(g p U).2 Z]at h3;cases h3
 intro f;induction f with
 | zero =>
  intro d a w hI hS s g hr hw H;refine⟨λh=>(by rw[h]at hr;cases hr),λj hj=>?_⟩;by_cases t:j=i
  ·subst t;unfold lxOp;simp only[hi];rw[if_pos hw,if_pos hc];exact H
  ·obtain⟨v,w',_,hK⟩:=chainRes_some H;have:=ready_mono hj t;rw[hK.1]at this;cases this
 | succ f ih =>
  intro d a w hI hS s g hr hw H;refine⟨λh=>(by rw[h]at hr;cases hr),λj hj=>?_⟩;by_cases t:j=i
  ·subst t;unfold lxOp;simp only[hi];rw[if_pos hw,if_pos hc];exact H
  ·obtain⟨r,oj,m,B⟩:=mem_ready.1 hj;have G:=key d g j hj t oj m;have N:∀e∈oj.after,Region.binds md e=true->e.on≠i:=λe he hb a6=>by
    have h1:=B e he hb;have h0:=(mem_ready.1 hr).1;rw[a6]at h1;rcases Nat.lt_or_ge i d.size with h' | h'
    ·simp[h']at h0 h1;rw[h0]at h1;cases h1
    ·simp[Array.getElem?_eq_none h']at h1
   have a8:=s j oj m t r N;obtain⟨h1,h2,h3⟩:=Oper.apart_spec a8;have Y:=λcs b=>D i oi cs b hi;have X:=λcs b=>D j oj cs b m;have J:∀u w',True->wpAnyX P md ops S cv fb Q (f+1) (d.setIfInBounds i true) (a.put oi.dst u) w' ->
     ∃v,YieldsX P ops S cv oj v a/\wpAnyX P md ops S cv fb Q f ((d.setIfInBounds i true).setIfInBounds j true) ((a.put oi.dst u).put oj.dst v) w':=by
    intro u w' _ hK;have hx:=hK.2 j (ready_mono hj t);unfold lxOp at hx;simp only[m]at hx;rw[wanted_put oj a oi.dst u h1,execOp_put oj X a oi.dst u h1,G]at hx;by_cases L:Region.wanted oj (yielded ops a.tmps)=true
    ·rw[if_pos L]at hx;obtain⟨v,hv,hk⟩:=hx;exact⟨v,.inl ⟨L,G,hv⟩,hk⟩
    ·rw[if_neg L]at hx;exact⟨undef,.inr ⟨by simpa using L,rfl⟩,hx⟩
   obtain⟨u0,w0,b4,a9⟩:=chainRes_some H;obtain⟨v,hy,_⟩:=J u0 w0 trivial a9;refine hy.lxOp m ?_;have A:∀k ok,ops[k]? = some ok->k≠i->(d.setIfInBounds j true).getD k true=false ->
     (∀e∈ok.after,Region.binds md e=true->e.on≠i)->oi.apart ops ok=true:=λk ok hk a3 R a1=>by
    refine s k ok hk a3 ?_ a1;by_cases E:j=k
    ·subst E;exact r
    ·rw[getD_set_ne true E]at R;exact R
   have F:∀k,chainAt cv ops k=true->(k<i->(d.setIfInBounds j true).getD k true=true)/\(i<=k->(d.setIfInBounds j true).getD k false=false):=λk hk=>by
    have E:j≠k:=by
     rintro rfl;have:chainAt cv ops j=chainOp cv oj:=by unfold chainAt;rw[m];rfl
     rw[this,G]at hk;cases hk
    rw[getD_set_ne true E,getD_set_ne false E];exact g k hk
   refine ih (d.setIfInBounds j true) _ w (hI.set hj) hS A F (ready_mono hr (Ne.symm t)) ?_ ?_
   ·rw[wanted_put oi a oj.dst v h3];exact hw
   ·rw[execOp_put oi Y a oj.dst v h3];refine chainRes_mono (λu w' hs hk=>?_) H;obtain⟨v',V,a4⟩:=J u w' trivial hk;obtain rfl:=YieldsX.uniq hS hy V;rw[Array.setIfInBounds_comm _ _ t,<-Act.put_comm a u v h2];exact a4
def wpL0(P:Program)(ops:Array Oper)(S:World->Prop)(cv fb:Bool)(Q:Act->World->Prop):List Oper->Act->World->Prop
 | [],a,w=>Q a w
 | o :: rest,a,w =>
  if Region.wanted o (yielded ops a.tmps)then
   (if chainOp cv o then S w->chainRes P (λw'=>S w'\/(fb=true/\rest = [])) (λv w'=>wpL0 P ops S cv fb Q rest (a.put o.dst v) w') ((execOp a.eval o).run P w)
    else ∃v,(∀w',S w'->looseRes w' v ((execOp a.eval o).run P w'))/\wpL0 P ops S cv fb Q rest (a.put o.dst v) w)
  else wpL0 P ops S cv fb Q rest (a.put o.dst undef) w
theorem wpAnyX_lex{Q:Act->World->Prop}(hs:Region.noSelect ops=true)(m:chainB md cv ops=true):∀(l:List Oper) (k:Nat) (listed:Array Bool) (a:Act) (w:World),EndInv md ops fb listed->S w->(∀j,l[j]? = ops[k+j]?) ->
  (∀j,j<ops.size->listed[j]? = some (decide (j<k))) ->
  Region.lexFrom md ops l.length k listed=true->wpL0 P ops S cv fb Q l a w->wpAnyX P md ops S cv fb Q l.length listed a w
 | [],_,_,_,_,_,_,_,_,hB,h=>⟨by simpa[Region.lexFrom]using hB,h⟩
 | o :: l,k,listed,a,w,hI,hS,hl,hlst,hB,h=>by
  have h0:ops[k]? = some o:=by simpa using(hl 0).symm
  have hk:k<ops.size:=(Array.getElem?_eq_some_iff.1 h0).1;simp only[length_cons,Region.lexFrom,Bool.and_eq_true]at hB;obtain⟨⟨hr,hf⟩,r⟩:=hB;have g:k∈Region.ready md ops listed:=by simpa using hr
  have y:∀j,l[j]? = ops[k+1+j]?:=λj=>(by have:=hl (j+1);simpa[Nat.add_assoc,Nat.add_comm 1 j]using this);have f:∀j,j<ops.size->(listed.setIfInBounds k true)[j]? = some (decide (j<k+1)):=by
   intro j hj;by_cases e:k=j
   ·subst e;have E:k<listed.size:=by
     rcases Nat.lt_or_ge k listed.size with h' | h'
     ·exact h'
     ·have:=hlst k hk;rw[Array.getElem?_eq_none h']at this;cases this
    rw[Array.getElem?_setIfInBounds_self_of_lt E];simp
   ·rw[Array.getElem?_setIfInBounds_ne e,hlst j hj];have:decide (j<k)=decide (j<k+1):=by
     rw[Bool.eq_iff_iff];simp only[decide_eq_true_eq];omega
    rw[this]
  have A:∀j,chainAt cv ops j=true->(j<k->listed.getD j true=true)/\(k<=j->listed.getD j false=false):=by
   intro j hj;have G:j<ops.size:=by
    rcases Nat.lt_or_ge j ops.size with h' | h'
    ·exact h'
    ·unfold chainAt at hj;rw[Array.getElem?_eq_none h']at hj;cases hj
   have e:=hlst j G;have ed:∀d,listed.getD j d=decide (j<k):=λd=>by
    simp[e]
   refine⟨λF=>by rw[ed];simpa using F,λH=>by rw[ed];simpa using H⟩
  unfold wpL0 at h;have B:=Region.free_spec h0 hf;by_cases hw:Region.wanted o (yielded ops a.tmps)=true
  ·rw[if_pos hw]at h;cases hc:chainOp cv o with
   | true =>
    rw[hc,if_pos rfl]at h;refine X_first_chain h0 hc (Region.noSelect_spec hs) m l.length listed a w hI hS B A g hw
     (chainRes_weaken (λw' s=>?_) (λv w' t D=>?_) (h hS))
    ·rcases s with s | ⟨e1,e2⟩
     ·exact .inl s
     ·right
      subst e2;have:=hl 1;simp at this;exact⟨e1,by have:=this;omega⟩
    ·rcases t with t | ⟨e1,e2⟩
     ·exact wpAnyX_lex hs m l (k+1) _ _ w' (hI.set g) t y f r D
     ·subst e2;exact⟨by simpa[Region.lexFrom]using r,D⟩
   | false =>
    rw[hc]at h;obtain⟨v,hv,hK⟩:=h;exact X_first_loose h0 (Region.noSelect_spec hs) l.length listed a w hI hS B g (.inl ⟨hw,hc,hv⟩)
     (wpAnyX_lex hs m l (k+1) _ _ w (hI.set g) hS y f r hK)
  ·rw[if_neg hw]at h;exact X_first_loose h0 (Region.noSelect_spec hs) l.length listed a w hI hS B g (.inr ⟨by simpa using hw,rfl⟩)
    (wpAnyX_lex hs m l (k+1) _ _ w (hI.set g) hS y f r h)
structure wpLx(P:Program)(ops:Array Oper)(S:World->Prop)(cv fb:Bool)(Q:Act->World->Prop)(l:List Oper)(a:Act)(w:World):Prop where
 out:wpL0 P ops S cv fb Q l a w
theorem wp_region_lex{id:Nat}{l:List Oper}(S:World->Prop)(cv:Bool)(hm:P.follows .mixedOrders=true)(hB:Region.lexB .any l.toArray=true)(hC:chainB .any cv l.toArray=true)(hS:S w.drew)
  (h:wpLx P l.toArray S cv false (λa' w'=>S w'->Q .normal a' w') l a w.drew):(Code.region id l.toArray true).wp P Q a w:=by
 simp only[Region.lexB,Bool.and_eq_true]at hB;have hI:EndInv .any l.toArray false (Array.replicate l.toArray.size false):=⟨by simp⟩
 refine wp_region_any hm (wpAny_of_X (S:=S) (cv:=cv) (fb:=false) (Q:=λa' w'=>S w'->Q .normal a' w') (λ_ w' d h=>h (d.elim (λh=>h) (by simp))) _ _ _ _ hI (.inl hS) ?_);have:=wpAnyX_lex (S:=S) (md:=.any) hB.1 hC l 0 (Array.replicate l.toArray.size false) a w.drew hI hS (by simp) (by intro j hj;simp at hj;simp[hj]) (by simpa using hB.2) h.out;simpa using this
theorem wp_region_lexf{id:Nat}{l:List Oper}(S:World->Prop)(cv:Bool)(hm:P.follows .mixedOrders=true)(hB:Region.lexB .any l.toArray=true)(hC:chainB .any cv l.toArray=true)(hE:endB .any l.toArray=true)(hS:S w.drew)
  (h:wpLx P l.toArray S cv true (λa' w'=>Q .normal a' w') l a w.drew):(Code.region id l.toArray true).wp P Q a w:=by
 simp only[Region.lexB,Bool.and_eq_true]at hB;have hI:EndInv .any l.toArray true (Array.replicate l.toArray.size false):=⟨λ_=>⟨hE,.inl ⟨by simp,λj oj _ hj=>(by rw[getD_replicate_false]at hj;cases hj),λt ht d=>by simp at d;simp[d]⟩⟩⟩
 refine wp_region_any hm (wpAny_of_X (S:=S) (cv:=cv) (fb:=true) (Q:=λa' w'=>Q .normal a' w') (λ_ w' _ h=>h) _ _ _ _ hI (.inl hS) ?_);have:=wpAnyX_lex (S:=S) (md:=.any) hB.1 hC l 0 (Array.replicate l.toArray.size false) a w.drew hI hS (by simp) (by intro j hj;simp at hj;simp[hj]) (by simpa using hB.2) h.out;simpa using this
theorem wpLx_nil{Q:Act->World->Prop}(h:Q a w):wpLx P ops S cv fb Q [] a w:=⟨h⟩
theorem wpLx_loose{Q:Act->World->Prop}(hc:chainOp cv o=false)
  (h:∀K:Act->Prop,(∀a,wpLx P ops S cv fb Q d a w->K a)->if Region.wanted o (yielded ops a.tmps)then(∃v,(∀x:Subtype S,looseRes x.1 v ((execOp a.eval o).run P x.1))/\K (a.put o.dst v))else K (a.put o.dst undef)):wpLx P ops S cv fb Q (o :: d) a w:=by
 have:=h _ (λ_ h=>h);refine⟨?_⟩;unfold wpL0;rw[hc];split
 ·rename_i hw
  rw[if_pos hw]at this;obtain⟨v,hv,hk⟩:=this;exact⟨v,λw' hs=>hv ⟨w',hs⟩,hk.out⟩
 ·rename_i hw;rw[if_neg hw]at this;exact this.out
theorem wpLx_chain{Q:Act->World->Prop}(hS:S w)(hc:chainOp cv o=true)
  (h:∀K:Act->World->Prop,(∀a w,wpLx P ops S cv fb Q d a w->K a w)->if Region.wanted o (yielded ops a.tmps)then chainRes P S (λv w'=>K (a.put o.dst v) w') ((execOp a.eval o).run P w)else K (a.put o.dst undef) w):wpLx P ops S cv fb Q (o :: d) a w:=by
 have:=h _ (λ_ _ h=>h);refine⟨?_⟩;unfold wpL0;rw[hc];split
 ·rename_i hw;rw[if_pos hw]at this;exact λ_=>chainRes_weaken (λ_ h=>.inl h) (λ_ _ _ h=>h.out) this
 ·rename_i hw;rw[if_neg hw]at this;exact this.out
theorem wpLx_end{Q:Act->World->Prop}(hc:chainOp cv o=true)
  (h:∀K:Act->World->Prop,(∀a w,Q a w->K a w)->if Region.wanted o (yielded ops a.tmps)then chainRes P (λ_=>True) (λv w'=>K (a.put o.dst v) w') ((execOp a.eval o).run P w)else K (a.put o.dst undef) w):wpLx P ops S cv true Q [o] a w:=by
 have:=h _ (λ_ _ h=>h);refine⟨?_⟩;unfold wpL0;rw[hc];split
 ·rename_i hw;rw[if_pos hw]at this;exact λ_=>chainRes_weaken (λ_ _=>.inr ⟨rfl,rfl⟩) (λ_ _ _ h=>h) this
 ·rename_i hw;rw[if_neg hw]at this;exact this
end
section
variable (P:Program) (S:World->Prop) (w w':World) (v u:Value) (K:Value->World->Prop) (f:FuncId) (args:Array Value)
@[go_sem] theorem looseRes_value:looseRes w v (.ok (.value u) w')=(w'=w/\u=v):=rfl
@[go_sem] theorem looseRes_skip:looseRes w v (.ok .skip w')=(w'=w/\v=undef):=rfl
@[go_sem] theorem chainRes_value:chainRes P S K (.ok (.value u) w')=(S w'/\K u w'):=rfl
@[go_sem] theorem chainRes_skip:chainRes P S K (.ok .skip w')=(S w'/\K undef w'):=rfl
@[go_sem] theorem chainRes_enter:chainRes P S K (.ok (.enter f args) w')=Calls P f args w' (λe d=>∃v,e = .returned v/\S d/\K v d):=rfl
end
abbrev Bel(W:World):World->Prop:=λw'=>Below W.heap.size W w'
theorem bel_some(W:World):Nonempty (Subtype (Bel W)):=⟨⟨W,Below.refl _ _⟩⟩
theorem bel_drew(W:World):Bel W W.drew:=(Below.refl _ _).drew
theorem sub_cell{p:Addr}(h:W.cell? p=some v):∀x:Subtype (Bel W),x.1.cell? p=some v :=
 λx=>(x.2.cell (block_lt_of_cell? W p h)).trans h
theorem sub_row{o:Nat}(h:rowAt W g o k=some cs):∀x:Subtype (Bel W),rowAt x.1 g o k=some cs :=
 λx=>(rowAt_of_block (x.2.block g (rowAt_lt h)) o k).trans h
theorem bel_alloc(h:Bel W w)(o:Obj):Bel W (w.alloc o):=h.alloc h.size o
theorem step_keep{A B:Prop}(h:A)(k:A->B):A/\B:=⟨h,k h⟩
theorem bel_next(h:Bel W w)(k:Below w.heap.size w w'):Bel W w':=h.trans (k.mono h.size)
abbrev Kp(S:List Nat)(W:World):World->Prop:=λw'=>Keep S W w'
theorem kp_some(S:List Nat)(W:World):Nonempty (Subtype (Kp S W)):=⟨⟨W,Keep.refl _ _⟩⟩
theorem kp_drew(S:List Nat)(W:World):Kp S W W.drew:=(Keep.drew W).mono (by simp)
theorem ksub_cell{p:Addr}(h:W.cell? p=some v)(hn:p.block∉S):∀x:Subtype (Kp S W),x.1.cell? p=some v :=
 λx=>(x.2.cell (block_lt_of_cell? W p h) hn).trans h
theorem ksub_row{o:Nat}(h:rowAt W g o k=some cs)(hn:g∉S):∀x:Subtype (Kp S W),rowAt x.1 g o k=some cs :=
 λx=>(x.2.row (rowAt_lt h) hn o k).trans h
theorem kp_alloc(h:Kp S W w)(o:Obj):Kp S W (w.alloc o):=Keep.trans h (Keep.alloc w o) (by simp)
theorem kp_next(h:Kp S W w)(k:Keep S' w w')(hs:∀x∈S',x∈S\/W.heap.size<=x):Kp S W w':=Keep.trans h k hs
theorem kp_below(h:Kp S W w)(k:Below w.heap.size w w'):Kp S W w':=Keep.trans h (Keep.of_below k) (by simp)
end
theorem oM(h:p:=by omega):p:=h
theorem sI(h:p:=by simp):p:=h
theorem sO(h:p:=by simp;omega):p:=h
theorem kR(h:p:=by kernel_rfl):p:=h
theorem eX{α:Sort _}(a:α):∃b,a=b:=⟨a,rfl⟩
theorem eR{α:Sort _}(a:α):∃b,b=a:=⟨a,rfl⟩
theorem dH(h:p):Hid p:=Lib.hid h
theorem bA{o:Obj}:Below w.heap.size w (w.alloc o):=(Below.refl _ _).alloc (Nat.le_refl _) _
theorem iL{p:Nat->Prop}:∀x∈S,x∈S\/p x:=λ_ hx=>.inl hx
theorem aG{α:Type _}{l:Array α}{b:α}(h:l[i]? = some b):∃h:i<l.size,l[i]=b:=Array.getElem?_eq_some_iff.1 h
theorem sZ(h:p:=by simp[intOf];omega):p:=h
theorem oH{q:Prop}(x:q)(h:q->p:=by intro x;omega):p:=h x
theorem oS{q:Prop}(x:q)(h:q->p:=by intro x;simp;omega):p:=h x
theorem lR:n<=n:=Nat.le_refl n
theorem zL:0<=n:=Nat.zero_le n
structure zT(q:Prop):Prop where
 out:q
theorem lZ{P Q:Prop}(q:Q)(h:zT Q->P:=by intro z;(repeat(refine wpLx_loose ?_ ?_;(focus(simp only[chainOp];done));intro K hK;go_simp;refine hK _ ?_;clear hK K));exact z.out):P:=h ⟨q⟩
theorem lH{P Q:Prop}(q:Q)(h:zT Q->P:=by intro z;refine wpLx_chain hS ?_ ?_;(focus(simp only[chainOp];done));intro K hK;go_simp;revert K hK;exact z.out):P:=h ⟨q⟩
theorem lC{C P Q:Prop}(c:C)(q:Q)(h:C->zT Q->P:=by intro c z;refine wpLx_chain hS ?_ ?_;(focus(simp only[chainOp];done));intro K hK;go_simp;refine c.mono ?_;rintro e w' ⟨rfl,hb⟩;have hT:=bel_next hS hb;refine⟨_,rfl,hT,hK _ _ ?_⟩;clear hK K hb;revert w';exact z.out):P:=h c ⟨q⟩
theorem lX{id:Nat}{l:List Oper}(W:World)(h:Nonempty (Subtype (Bel W))->Bel W W.drew->wpLx P l.toArray (Bel W) false false (λa' w'=>Bel W w'->Q .normal a' w') l a W.drew)(hm:P.follows .mixedOrders=true:=by kernel_rfl)(hB:Region.lexB .any l.toArray=true:=by kernel_rfl)(hC:chainB .any false l.toArray=true:=by kernel_rfl):(Code.region id l.toArray true).wp P Q a W :=
 wp_region_lex (Bel W) false hm hB hC (bel_drew W) (h (bel_some W) (bel_drew W))
theorem kX{id:Nat}{l:List Oper}(S:List Nat)(W:World)(h:Nonempty (Subtype (Kp S W))->Kp S W W.drew->wpLx P l.toArray (Kp S W) false false (λa' w'=>Kp S W w'->Q .normal a' w') l a W.drew)(hm:P.follows .mixedOrders=true:=by kernel_rfl)(hB:Region.lexB .any l.toArray=true:=by kernel_rfl)(hC:chainB .any false l.toArray=true:=by kernel_rfl):(Code.region id l.toArray true).wp P Q a W :=
 wp_region_lex (Kp S W) false hm hB hC (kp_drew S W) (h (kp_some S W) (kp_drew S W))
theorem kF{id:Nat}{l:List Oper}(S:List Nat)(W:World)(h:Nonempty (Subtype (Kp S W))->Kp S W W.drew->wpLx P l.toArray (Kp S W) false true (λa' w'=>Q .normal a' w') l a W.drew)(hm:P.follows .mixedOrders=true:=by kernel_rfl)(hB:Region.lexB .any l.toArray=true:=by kernel_rfl)(hC:chainB .any false l.toArray=true:=by kernel_rfl)(hE:endB .any l.toArray=true:=by kernel_rfl):(Code.region id l.toArray true).wp P Q a W :=
 wp_region_lexf (Kp S W) false hm hB hC hE (kp_drew S W) (h (kp_some S W) (kp_drew S W))
theorem lQ{P Q:Prop}(q:Q)(h:zT Q->P:=by intro z;(repeat(refine wpLx_loose ?_ ?_;(focus(simp only[chainOp];done));intro K hK;go_simp;refine hK _ ?_;clear hK K));refine wpLx_chain hS ?_ ?_;(focus(simp only[chainOp];done));intro K hK;go_simp;revert K hK;exact z.out):P:=h ⟨q⟩
theorem gW{P Q:Prop}(q:Q)(h:zT Q->P:=by intro z;go_wp2_with fail;exact z.out):P:=h ⟨q⟩
theorem mG{C P Q:Prop}(c:C)(q:Q)(h:C->zT Q->P:=by intro c z;go_wp2_with fail;refine c.mono ?_;exact z.out):P:=h c ⟨q⟩
theorem gR{P Q:Prop}(q:Q)(h:zT Q->P:=by intro z;go_wp2_with fail;go_ret;exact z.out):P:=h ⟨q⟩
section
def SlR(w:World)(A:Option Addr)(n k:Nat)(L:List (Array Value)):Prop :=
 L.length=n/\(0<n->∃g o,A=some ⟨g,o,none⟩/\∀i (h:i<L.length),rowAt w g (o+i*k) k=some L[i])
def blk(A:Option Addr):List Nat:=(A.map (·.block)).toList
structure Own(w:World)(B:Nat)(E:TypeId)(k:Nat)(A:Option Addr)(n cap:Nat)(L:List (Array Value)):Prop where
 row:w.ownsRow B E k (.slice A n cap) n (L.flatMap Array.toList)
 len:L.length=n
 size:∀c∈L,c.size=k
section
variable {w w':World} {A:Option Addr} {n k B cap:Nat} {E:TypeId} {L:List (Array Value)}
theorem SlR.at_(h:SlR w A n k L)(hi:i<n):∃g o,A=some ⟨g,o,none⟩/\rowAt w g (o+i*k) k=some (L[i]'(by rw[h.1];exact hi)):=by
 obtain⟨g,o,e,hc⟩:=h.2 oM;exact⟨g,o,e,hc i (by rw[h.1];exact hi)⟩
theorem SlR.nil_:SlR w none 0 k []:=⟨rfl,λh=>absurd h oM⟩
theorem SlR.kept(h:SlR w A n k L)(hk:Keep S w w')(hn:∀x∈blk A,x∉S):SlR w' A n k L :=
 ⟨h.1,λh0=>by
  obtain⟨g,o,e,hc⟩:=h.2 h0;refine⟨g,o,e,λi hi=>?_⟩;rw[hk.row (rowAt_lt (hc i hi)) (hn g (by simp[blk,e])) _ _];exact hc i hi⟩
theorem SlR.below(h:SlR w A n k L)(hb:Below w.heap.size w w'):SlR w' A n k L:=h.kept (Keep.of_below hb) sI
theorem flat_get:∀(L:List (Array Value)) (k:Nat),(∀c∈L,c.size=k)->∀(i j:Nat) (hi:i<L.length),j<k->(L.flatMap Array.toList)[i*k+j]?=(L[i])[j]?
 | c :: L,k,hs,0,j,_,hj=>by
  have hc:=hs c sI;simp only[flatMap_cons,Nat.zero_mul,Nat.zero_add,getElem_cons_zero];rw[getElem?_append_left sO]
  simp
 | c :: L,k,hs,i+1,j,hi,hj=>by
  have hc:=hs c sI;have hl:c.toList.length=k:=by simp[hc]
  simp only[flatMap_cons,getElem_cons_succ];rw[getElem?_append_right (by rw[hl,Nat.add_mul];omega),hl];have e:(i+1)*k+j-k=i*k+j:=by rw[Nat.add_mul];omega
  rw[e];exact flat_get L k (λc h=>hs c (by simp[h])) i j (by simpa using hi) hj
theorem flat_len:∀(L:List (Array Value)) (k:Nat),(∀c∈L,c.size=k)->(L.flatMap Array.toList).length=L.length*k
 | [],_,_=>by simp
 | c :: L,k,hs=>by
  have hc:=hs c sI;simp only[flatMap_cons,length_append,length_cons];rw[flat_len L k (λc h=>hs c (by simp[h])),Nat.add_mul];simp[hc];omega
theorem Own.nil(w:World)(B:Nat)(E:TypeId)(k:Nat):Own w B E k none 0 0 []:=⟨ownsRow_nil w B E k,rfl,sI⟩
theorem Own.kept(h:Own w B E k A n cap L)(hk:Keep S w w')(hn:∀x∈blk A,x∉S):Own w' B E k A n cap L:=by
 obtain⟨⟨h1,h2⟩,hl,hs⟩:=h;refine⟨⟨h1,?_⟩,hl,hs⟩;rcases h2 with h2 | ⟨g,c,j,hv,hb,hg,d⟩
 ·exact .inl h2
 ·refine .inr ⟨g,c,j,hv,hb,?_,d⟩;have hA:A=some ⟨g,0,none⟩:=by injection hv
  have f:g<w.heap.size:=(aG hg).1;rw[hk.block g f (hn g (by simp[blk,hA]))];exact hg
theorem Own.below(h:Own w B E k A n cap L)(hb:Below w.heap.size w w'):Own w' B E k A n cap L:=h.kept (Keep.of_below hb) sI
theorem Own.mono(h:Own w B E k A n cap L){B':Nat}(hB:B'<=B):Own w B' E k A n cap L:=by
 obtain⟨⟨h1,h2⟩,hl,hs⟩:=h;refine⟨⟨h1,?_⟩,hl,hs⟩;rcases h2 with h2 | ⟨g,c,f,hv,hb,d⟩
 ·exact .inl h2
 ·exact .inr ⟨g,c,f,hv,oM,d⟩
theorem Own.at_base(h:Own w B E k A n cap L){x:Nat}(hx:x∈blk A):B<=x/\x<w.heap.size:=by
 obtain⟨⟨h1,h2⟩,hl,hs⟩:=h;rcases h2 with⟨h2,_⟩ | ⟨g,c,cur,hv,hb,hg,rest⟩
 ·have hA:A=none:=by injection h2
  subst hA;simp[blk]at hx
 ·have hA:A=some ⟨g,0,none⟩:=by injection hv
  subst hA;have:x=g:=by simpa[blk]using hx
  subst this;exact⟨hb,(aG hg).1⟩
theorem Own.addr(h:Own w B E k A n cap L):A=none\/∃g,A=some ⟨g,0,none⟩:=by
 obtain⟨⟨h1,h2⟩,hl,hs⟩:=h;rcases h2 with⟨h2,_⟩ | ⟨g,c,cur,hv,_⟩
 ·left;injection h2
 ·right;exact⟨g,by injection hv⟩
theorem Own.slr(h:Own w B E k A n cap L):SlR w A n k L:=by
 have d:=flat_len L k h.size;obtain⟨⟨h1,h2⟩,hl,hs⟩:=h;refine⟨hl,λh0=>?_⟩;rcases h2 with⟨_,h2⟩ | ⟨g,c,cur,hv,hb,hg,hnc,hcm,hcs,htake⟩
 ·omega
 ·have hA:A=some ⟨g,0,none⟩:=by injection hv
  refine⟨g,0,hA,λi hi=>?_⟩;have r:i*k+k<=n*k:=by
   have:(i+1)*k<=n*k:=Nat.mul_le_mul_right k oM;rw[Nat.add_mul]at this;omega
  have f:n*k<=cur.size:=by rw[hcs];exact Nat.mul_le_mul_right k hnc
  unfold rowAt;rw[hg];simp only[Nat.zero_add];rw[if_pos oM];congr 1
  apply Array.ext';rw[Array.toList_extract];apply ext_getElem?;intro j;by_cases hj:j<k
  ·have e1:=flat_get L k hs i j hi hj;rw[<-htake,getElem?_take,if_pos oM]at e1;simp only[extract_eq_take_drop,getElem?_take,getElem?_drop];rw[if_pos oM,e1]
   simp
  ·have m:=hs L[i] (getElem_mem hi);rw[getElem?_eq_none sO,getElem?_eq_none sO]
end
structure ElemInfo(P:Program)(T E:TypeId)(k bytes:Nat):Prop where
 und:P.underlying T=some (.slice E)
 info:∃i z,P.info? E=some i/\i.zero=some z/\i.size=k/\i.bytes=bytes/\z.cells.size=k
 pos:0<k
theorem ElemInfo.of{z:Value}(und:P.underlying T=some (.slice E))(hz:(P.info? E).bind (·.zero)=some z)(hs:(P.info? E).map (·.size)=some k)(hb:(P.info? E).map (·.bytes)=some bytes)(d:z.cells.size=k)(pos:0<k) :
  ElemInfo P T E k bytes:=by
 cases hi:P.info? E with
 | none=>rw[hi]at hz;cases hz
 | some i =>
  rw[hi]at hz hs hb;exact⟨und,⟨i,z,hi,hz,by simpa using hs,by simpa using hb,d⟩,pos⟩
theorem append_one(I:ElemInfo P T E k bytes)(f:Own w B E k A n cap L)
  {o c:Nat}(r:rowAt w q o k=some cs)(D:∀u∈cs.toList,u.oneCell'=true)(m:(n+1)*bytes<=140737488355328)(hn:n+1<=9223372036854775807)(hB:B<=w.heap.size)(ty:TypeId) :
  ∃A' cap' w',(Builtin.append_ #[T,T] ty #[.slice A n cap,.slice (some ⟨q,o,none⟩) 1 c]).run P w=.ok (.slice A' (n+1) cap') w'/\Own w' B E k A' (n+1) cap' (L ++ [cs])/\Keep (blk A) w w'/\(∀x∈blk A',x∈blk A\/w.heap.size<=x):=by
 obtain⟨i,z,hi,hz,J,N,H⟩:=I.info;have G:=rowAt_size r;obtain⟨v',w',y,d,hg,_,t⟩:=run_append_own_at (P:=P) w B T ty E i z k bytes I.und hi hz J N H I.pos (.slice A n cap) n _ f.row ⟨q,o,none⟩ 1 c cs.toList (by simp[G])
  (λj u hu=>by
   have hj:j<k:=by
    have:=(List.getElem?_eq_some_iff.1 hu).1;simp at this;omega
   have F:(⟨q,o,none⟩:Addr).add j=⟨q,o+j,none⟩:=by unfold Addr.add;split <;> simp_all
   rw[F,rowAt_cell r hj];simpa using hu) D (by simp only[maxLen];omega) m hB
 have s:∃A' cap',v'=.slice A' (n+1) cap':=by
  rcases d.2 with⟨_,h0⟩ | ⟨g,c',cur,hv,_⟩
  ·omega
  ·exact⟨_,_,hv⟩
 obtain⟨A',cap',rfl⟩:=s;have hb:(Value.slice A n cap).ownBlock=(A.map (·.block)):=by cases A <;> rfl
 have O:(Value.slice A' (n+1) cap').ownBlock=(A'.map (·.block)):=by cases A' <;> rfl
 refine⟨A',cap',w',y,⟨by simpa using d,by simp[f.len],λc' M=>?_⟩,?_,?_⟩
 ·rcases mem_append.1 M with h | h
  ·exact f.size c' h
  ·simp at h;subst h;exact G
 ·have:=Keep.grown hg
  rwa [hb]at this
 ·intro x hx;rw[hb,O]at t;rcases t with e | e
  ·left;unfold blk at hx |-;rw[e]at hx;exact hx
  ·right
   unfold blk at hx;rw[e]at hx;have:x=w.heap.size:=by simpa using hx
   omega
theorem exec_append(ρ:Operand->Value){dst:Option Tmp}{s x:Operand}{d:Array TypeId}{pos:String}{after:Array Edge}{r:Value}(hs:ρ s=v)(hx:ρ x=u)
  (h:(Builtin.append_ d ty #[v,u]).run P w=.ok r w') :
  (execOp ρ { dst:=dst,op:=.call { callee:=.builtin .append,args:=#[s,x],argTypes:=d },type:=ty,pos:=pos,after:=after,guard:=guard }).run P w=.ok (.value r) w':=by
 rw[BigFrame.execOp_builtin,BigFrame.builtin_append];have e:(#[s,x].map ρ:Array Value) = #[v,u]:=by simp[hs,hx]
 rw[e,Sem.run_bind,h];rfl
theorem L_of_append{dst:Option Tmp}{s x:Operand}{f:Array TypeId}{pos:String}{after:Array Edge}{r:Value}(hs:a.eval s=v)(hx:a.eval x=u)
  (hr:(Builtin.append_ f ty #[v,u]).run P w=.ok r w')(h:wpList P ops Q d (a.put dst r) w') :
  wpList P ops Q ({ dst:=dst,op:=.call { callee:=.builtin .append,args:=#[s,x],argTypes:=f },type:=ty,pos:=pos,after:=after,guard:=none } :: d) a w:=by
 refine wpList_plain rfl λK hK=>?_;unfold Oper.wp;rw[exec_append a.eval hs hx hr];exact hK _ _ h
theorem wpLx_append{S:World->Prop}{cv fb:Bool}{Q:Act->World->Prop}{dst:Option Tmp}{s x:Operand}{f:Array TypeId}{pos:String}{after:Array Edge}{r:Value}(hs:a.eval s=v)(hx:a.eval x=u)
  (hr:(Builtin.append_ f ty #[v,u]).run P w=.ok r w')(g:S w')(h:wpLx P ops S cv fb Q d (a.put dst r) w') :
  wpLx P ops S cv fb Q ({ dst:=dst,op:=.call { callee:=.builtin .append,args:=#[s,x],argTypes:=f },type:=ty,pos:=pos,after:=after,guard:=none } :: d) a w:=by
 refine⟨?_⟩;unfold wpL0;rw[if_pos (by rfl),if_pos (by rfl)];intro _;rw[exec_append a.eval hs hx hr];exact⟨.inl g,h.out⟩
theorem L_append{dst:Option Tmp}{s x:Operand}{pos:String}{after:Array Edge}(I:ElemInfo P T E k bytes)
  (hs:a.eval s=.slice A n cap)(m:Own w B E k A n cap L)
  {o c:Nat}(hx:a.eval x=.slice (some ⟨q,o,none⟩) 1 c)(j:rowAt w q o k=some cs)(r:∀u∈cs.toList,u.oneCell'=true)(d:(n+1)*bytes<=140737488355328)(hn:n+1<=9223372036854775807)(hB:B<=w.heap.size)
  (h:∀A' cap' w',Own w' B E k A' (n+1) cap' (L ++ [cs])->Keep (blk A) w w'->(∀x∈blk A',x∈blk A\/w.heap.size<=x)->wpList P ops Q f (a.put dst (.slice A' (n+1) cap')) w') :
  wpList P ops Q ({ dst:=dst,op:=.call { callee:=.builtin .append,args:=#[s,x],argTypes:=#[T,T] },type:=ty,pos:=pos,after:=after,guard:=none } :: f) a w:=by
 obtain⟨A',cap',w',g,h1,h2,h3⟩:=append_one I m (c:=c) j r d hn hB ty;refine wpList_plain rfl λK hK=>?_;unfold Oper.wp;rw[exec_append a.eval hs hx g];exact hK _ _ (h A' cap' w' h1 h2 h3)
theorem Lx_append{S:World->Prop}{cv fb:Bool}{Q:Act->World->Prop}{dst:Option Tmp}{s x:Operand}{pos:String}{after:Array Edge}(I:ElemInfo P T E k bytes)
  (hs:a.eval s=.slice A n cap)(m:Own w B E k A n cap L)
  {o c:Nat}(hx:a.eval x=.slice (some ⟨q,o,none⟩) 1 c)(j:rowAt w q o k=some cs)(r:∀u∈cs.toList,u.oneCell'=true)(d:(n+1)*bytes<=140737488355328)(hn:n+1<=9223372036854775807)(hB:B<=w.heap.size)
  (h:∀A' cap' w',Own w' B E k A' (n+1) cap' (L ++ [cs])->Keep (blk A) w w'->(∀x∈blk A',x∈blk A\/w.heap.size<=x)->S w'/\wpLx P ops S cv fb Q f (a.put dst (.slice A' (n+1) cap')) w') :
  wpLx P ops S cv fb Q ({ dst:=dst,op:=.call { callee:=.builtin .append,args:=#[s,x],argTypes:=#[T,T] },type:=ty,pos:=pos,after:=after,guard:=none } :: f) a w:=by
 obtain⟨A',cap',w',g,h1,h2,h3⟩:=append_one I m (c:=c) j r d hn hB ty;obtain⟨k1,k2⟩:=h A' cap' w' h1 h2 h3;exact wpLx_append hs hx g k1 k2
def bsS(T:TypeId)(n:Nat)(parts:Array (Nat×Value)):Sem Value:=Instr.buildSlice T n parts
theorem run_bsS1(I:ElemInfo P T E k bytes)(hk:k<=16777216)(w:World)(cs:Array Value)(g:cs.size=k) :
  (bsS T 1 #[(0,.agg cs)]).run P w=.ok (.slice (some ⟨w.heap.size,0,none⟩) 1 1) (w.alloc (.cells cs E)):=by
 obtain⟨i,z,hi,hz,f,s,j⟩:=I.info;have d:=I.pos;unfold bsS Instr.buildSlice;have hf:Instr.fill (λi=>some (i*k,k)) (Array.map (λx=>z.cells[x % z.cells.size]!) (Array.range (1*k))) [(0,Value.agg cs)]=some cs:=by
  have e:Array.map (λx=>z.cells[x % z.cells.size]!) (Array.range (1*k))=(#[]:Array Value)++Array.map (λx=>z.cells[x % z.cells.size]!) (Array.range (1*k)) ++ #[]:=sI;rw[e,fill_step (off:=0) (size:=k) sI rfl sI (by simp[Value.cells,g])];simp[Instr.fill,Value.cells]
 have m:¬(1*k>16777216):=oM;have r:¬(1*k=0):=oM;simp only[Sem.run_bind,run_underlying I.und,Result.andThen_ok,sizeOf,typeInfo,hi,f];simp[hi,hz,zeroValue,typeInfo,f,Nat.not_lt.2 (show k<=16777216 from hk),Nat.pos_iff_ne_zero.1 d,hf,newRow];rw[Nat.one_mul]at hf;rw[hf];rfl
end
def byteR(c:UInt8):Array Value:=#[byteC c]
def bytesR(bs:List UInt8):List (Array Value):=bs.map byteR
theorem bytesR_flat(bs:List UInt8):(bytesR bs).flatMap Array.toList=bs.map byteC:=by
 induction bs with
 | nil=>rfl
 | cons b bs ih=>simp only[bytesR,map_cons,flatMap_cons]at ih |-;rw[ih];rfl
theorem strCells_eq(s:ByteArray):Go.Lib.strCells s=s.data.toList.map byteC:=rfl
theorem append_str{U:TypeId}{i:TypeInfo}(ht:P.underlying T=some (.slice E))(hu:P.underlying U=some .string)(hi:P.info? E=some i)(hz:i.zero=some (.int .u8 0))(d:i.size=1)(F:i.bytes=1)
  (t:Own w B E 1 A n cap (bytesR bs))(s:ByteArray)(k:n+s.size<=140737488355328)(hB:B<=w.heap.size)(ty:TypeId) :
  ∃A' cap' w',(Builtin.append_ #[T,U] ty #[.slice A n cap,.string s]).run P w=.ok (.slice A' (n+s.size) cap') w'/\Own w' B E 1 A' (n+s.size) cap' (bytesR (bs++s.data.toList))/\Keep (blk A) w w'/\(∀x∈blk A',x∈blk A\/w.heap.size<=x):=by
 have f:=t.row;rw[bytesR_flat]at f;have G:n+s.size<=maxLen:=by simp only[maxLen];omega
 obtain⟨v',w',hr,h2,h3,h4⟩:=Go.Lib.run_append_own_string (P:=P) w B T U ty E i ht hu hi hz d F _ n _ f s G k hB;have D:∃A' cap',v'=.slice A' (n+s.size) cap':=by
  rcases h2.2 with⟨h0,h00⟩ | ⟨g,c',cur,hv,_⟩
  ·exact⟨none,0,by rw[h0,h00]⟩
  ·exact⟨_,_,hv⟩
 obtain⟨A',cap',rfl⟩:=D;have hb:(Value.slice A n cap).ownBlock=(A.map (·.block)):=by cases A <;> rfl
 have hk:=Keep.grown h3;rw[hb]at hk;refine⟨A',cap',w',hr,⟨?_,?_,?_⟩,hk,?_⟩
 ·rw[bytesR_flat,map_append];rw[strCells_eq]at h2;exact h2
 ·have:=t.len;simp only[bytesR,length_map,length_append]at this |-;rw[this];rfl
 ·intro c hc;simp only[bytesR,mem_map]at hc;obtain⟨b,_,rfl⟩:=hc;rfl
 ·rcases f.2 with⟨h0,h00⟩ | ⟨g,c,cur,hv,hbg,hg,hnc,hcm,hcs,htake⟩
  ·intro x hx;right
   have I:w.ownsRow w.heap.size E 1 (.slice A n cap) n (bs.map byteC):=⟨f.1,.inl ⟨h0,h00⟩⟩
   obtain⟨v2,w2,m,g2,_,_⟩:=Go.Lib.run_append_own_string (P:=P) w w.heap.size T U ty E i ht hu hi hz d F _ n _ I s G k lR;rw[hr]at m;injection m with e1 e2
   subst e1;subst e2;rcases g2.2 with⟨k0,_⟩ | ⟨g,c',cur,hv,hbg,_⟩
   ·injection k0 with k0;subst k0;simp[blk]at hx
   ·injection hv with hv;subst hv
    have:x=g:=by simpa[blk]using hx
    omega
  ·injection hv with hA M L
   subst hA;subst L;by_cases r:n+s.size<=cap
   ·have J:cur.size=cap:=by simpa using hcs
    have m:=Go.Lib.run_append_room_string (P:=P) w T U ty E i ht hu hi d g n cap cur hg s r oM;rw[hr]at m;injection m with e1 e2
    injection e1 with e1
    subst e1;intro x hx;exact .inl hx
   ·have H:(bs.map byteC).length=n:=by simpa using f.1
    have y:∀j u,(bs.map byteC)[j]?=some u->w.cell? ((⟨g,0,none⟩:Addr).add j)=some u:=f.cells (g:=g) rfl;have m:=Go.Lib.run_append_grow_string (P:=P) w T U ty E i (.int .u8 0) ht hu hi hz ⟨g,0,none⟩ n cap _ (by rw[d];simpa using H) y s oM oM (by rw[F];exact growslice_fits oM oM);rw[hr]at m;injection m with e1 e2
    injection e1 with e1
    subst e1;intro x hx;right
    have:x=w.heap.size:=by simpa[blk]using hx
    omega
theorem L_append_str{dst:Option Tmp}{sl x:Operand}{pos:String}{after:Array Edge}{U:TypeId}{i:TypeInfo}(ht:P.underlying T=some (.slice E))(hu:P.underlying U=some .string)(hi:P.info? E=some i)(hz:i.zero=some (.int .u8 0))(g:i.size=1)(k:i.bytes=1)
  (hs:a.eval sl=.slice A n cap)(j:Own w B E 1 A n cap (bytesR bs))(hx:a.eval x=.string s)(d:n+s.size<=140737488355328)(hB:B<=w.heap.size)
  (h:∀A' cap' w',Own w' B E 1 A' (n+s.size) cap' (bytesR (bs++s.data.toList))->Keep (blk A) w w'->(∀x∈blk A',x∈blk A\/w.heap.size<=x)->wpList P ops Q f (a.put dst (.slice A' (n+s.size) cap')) w') :
  wpList P ops Q ({ dst:=dst,op:=.call { callee:=.builtin .append,args:=#[sl,x],argTypes:=#[T,U] },type:=ty,pos:=pos,after:=after,guard:=none } :: f) a w:=by
 obtain⟨A',cap',w',hr,h1,h2,h3⟩:=append_str ht hu hi hz g k j s d hB ty;exact L_of_append hs hx hr (h A' cap' w' h1 h2 h3)
structure Wr where
 b:Value
 bad:Int
 made:Bool
def wrC(x:Wr):Array Value:=#[x.b] ++ #[.int .i64 x.bad] ++ #[.bool x.made]
@[simp] theorem wrC_size(x:Wr):(wrC x).size=3:=by simp[wrC]
@[go_sem] theorem wrC_g0(x:Wr):(wrC x)[0]?=some (x.b):=by first | (simp[wrC,Array.getElem?_append];done) | (rw[show wrC x=((#[]:Array Value)) ++ #[x.b]++(#[.int .i64 x.bad] ++ #[.bool x.made])from by apply Array.ext';simp[wrC]];exact arr_at _ _ _ _ sI)
@[go_sem] theorem wrC_gg0(x:Wr)(h:0<(wrC x).size):(wrC x)[0]'h=x.b:=Option.some.inj ((Array.getElem?_eq_getElem h).symm.trans (wrC_g0 x))
@[go_sem] theorem wrC_g1(x:Wr):(wrC x)[1]?=some (.int .i64 x.bad):=by first | (simp[wrC,Array.getElem?_append];done) | (rw[show wrC x=(#[x.b]) ++ #[.int .i64 x.bad]++(#[.bool x.made])from by apply Array.ext';simp[wrC]];exact arr_at _ _ _ _ sI)
@[go_sem] theorem wrC_gg1(x:Wr)(h:1<(wrC x).size):(wrC x)[1]'h=.int .i64 x.bad:=Option.some.inj ((Array.getElem?_eq_getElem h).symm.trans (wrC_g1 x))
@[go_sem] theorem wrC_g2(x:Wr):(wrC x)[2]?=some (.bool x.made):=by first | (simp[wrC,Array.getElem?_append];done) | (rw[show wrC x=(#[x.b] ++ #[.int .i64 x.bad]) ++ #[.bool x.made]++((#[]:Array Value))from by apply Array.ext';simp[wrC]];exact arr_at _ _ _ _ sI)
@[go_sem] theorem wrC_gg2(x:Wr)(h:2<(wrC x).size):(wrC x)[2]'h=.bool x.made:=Option.some.inj ((Array.getElem?_eq_getElem h).symm.trans (wrC_g2 x))
def wr0:Wr:=⟨(.slice none 0 0),0,false⟩
@[go_sem ↓] theorem zeroWr_run(w:World):(zeroValue 146).run prog w=.ok (.agg (wrC wr0)) w:=by
 have h:(prog.info? 146).bind (·.zero)=some (.agg (wrC wr0)):=kR;cases hi:prog.info? 146 with
 | none=>rw[hi]at h;cases h
 | some i =>
  rw[hi]at h;have hz:i.zero=some (.agg (wrC wr0)):=h;simp[zeroValue,typeInfo,hi,hz]
@[go_sem ↓] theorem loadWr_rw(a:Addr):loadVar 146 a=ldS 146 a:=rfl
@[go_sem ↓] theorem storeWr_rw(a:Addr)(v:Value):storeVar 146 a v=stS 146 a v:=rfl
theorem fieldsWr:prog.underlying 146=some (.struct (prog.fieldsOf 146)):=kR
theorem placesWr(w:World):((prog.fieldsOf 146).mapM fun (f:Field)=>do pure (f.offset,<-sizeOf f.type)).run prog w=.ok #[(0,1),(1,1),(2,1)] w:=kR
@[go_sem ↓] theorem buildWr_rw(parts:Array (Nat×Value)):Instr.build 146 parts=bdS 146 parts:=rfl
@[go_sem] theorem buildWr_2(a2:Bool)(w:World):(bdS 146 #[(2,.bool a2)]).run prog w=.ok (.agg (wrC ⟨(.slice none 0 0),0,a2⟩)) w:=by
 refine run_build w fieldsWr _ (zeroWr_run w) _ (placesWr w) [(2,.bool a2)] _ ?_;rw[show wrC wr0=(#[(.slice none 0 0)]++(#[.int .i64 0])) ++ #[.bool false]++(#[]:Array Value)from by first | (simp[wrC,wr0,Array.append_assoc];done) | (apply Array.ext';simp[wrC,wr0])];rw[fill_step (off:=2) (size:=1) rfl sI sI (by simp[Value.cells])];first | (simp[Instr.fill,wrC,Array.append_assoc,Value.cells];done) | (simp only[Instr.fill,wrC];congr 1;apply Array.ext';simp[Value.cells];done) | (simp only[Instr.fill,wrC];congr 1;done) | (simp only[Instr.fill,wrC];done)
theorem einfoByte:ElemInfo prog 103 5 1 1 :=
 .of (z:=.int .u8 0) underlying103 kR kR kR rfl oM
theorem byteInfo:∃i,prog.info? 5=some i/\i.zero=some (.int .u8 0)/\i.size=1/\i.bytes=1:=by
 have hz:(prog.info? 5).bind (·.zero)=some (.int .u8 0):=kR;have hs:(prog.info? 5).map (·.size)=some 1:=kR;have hb:(prog.info? 5).map (·.bytes)=some 1:=kR;cases hi:prog.info? 5 with
 | none=>rw[hi]at hz;cases hz
 | some i =>
  rw[hi]at hz hs hb;exact⟨i,rfl,hz,by simpa using hs,by simpa using hb⟩
structure WrAt(w:World)(B g:Nat)(A:Option Addr)(cap:Nat)(bs:List UInt8):Prop where
 heap:w.heap[g]?=some (.cells (wrC ⟨.slice A bs.length cap,0,true⟩) 146 (0,0))
 own:Own w B 5 1 A bs.length cap (bytesR bs)
 ne:g∉blk A
 base:B<=w.heap.size
theorem WrAt.lt(h:WrAt w B g A cap bs):g<w.heap.size:=(aG h.heap).1
theorem WrAt.cell{w:World}{B g:Nat}{A:Option Addr}{cap:Nat}{bs:List UInt8}(h:WrAt w B g A cap bs) :
  w.cell? ⟨g,0,none⟩=some (.slice A bs.length cap)/\w.cell? ⟨g,1,none⟩=some (.int .i64 0)/\w.cell? ⟨g,2,none⟩=some (.bool true):=by
 refine⟨?_,?_,?_⟩ <;> rw[cell_of_row w g _ _ _ _ h.heap] <;> simp[go_sem]
theorem WrAt.kept{w w':World}{B g:Nat}{A:Option Addr}{cap:Nat}{bs:List UInt8}{S:List Nat}(h:WrAt w B g A cap bs)(k:Keep S w w')(hg:g∉S)(hn:∀x∈blk A,x∉S):WrAt w' B g A cap bs :=
 ⟨(k.block g h.lt hg).trans h.heap,h.own.kept k hn,h.ne,Nat.le_trans h.base k.size⟩
theorem WrAt.below(h:WrAt w B g A cap bs)(k:Below w.heap.size w w'):WrAt w' B g A cap bs:=h.kept (Keep.of_below k) sI sI
def WStep(w:World)(B g:Nat)(A:Option Addr)(bs:List UInt8)(w':World):Prop :=
 ∃A' cap',WrAt w' B g A' cap' bs/\Keep (g :: blk A) w w'/\∀x∈blk A',x∈blk A\/w.heap.size<=x
theorem wnew(w:World):Calls prog 55 #[] w λe w'=>e=.returned (.pointer (some ⟨w.heap.size,0,none⟩))/\WrAt w' (w.heap.size+1) w.heap.size none 0 []/\Below w.heap.size w w':=by
 go_enter func55,ntmps55
 (go_wp2_with fail);go_ret;refine⟨rfl,⟨heap_alloc_new w _,Own.nil _ _ _ _,by simp[blk],sI⟩,bA⟩
theorem wnone(w:World)(g:Nat)(h:w.cell? ⟨g,2,none⟩=some (.bool true)):Calls prog 106 #[.pointer (some ⟨g,0,none⟩)] w λe w'=>e=.returned (.bool false)/\w=w':=by
 go_enter func106,ntmps106
 (go_wp2_with fail);go_ret;exact⟨rfl,rfl⟩
theorem heap_setCell_same{fr:Nat×Nat}(h:w.heap[g]?=some (.cells c T fr))(j:Nat)(u:Value):(w.setCell ⟨g,j,none⟩ u).heap[g]?=some (.cells (c.setIfInBounds j u) T fr):=by
 obtain⟨d,hg⟩:=aG h;show(w.heap.modify g _)[g]?=_;rw[Array.getElem?_modify];simp[h]
theorem wr_store{A':Option Addr}{cap':Nat}{bs':List UInt8}(h:WrAt w B g A cap bs)(hk:Keep (blk A) w w1)(f:Own w1 B 5 1 A' bs'.length cap' (bytesR bs'))(d:∀x∈blk A',x∈blk A\/w.heap.size<=x) :
  WStep w B g A bs' (w1.setCell ⟨g,0,none⟩ (.slice A' bs'.length cap')):=by
 have hg:w1.heap[g]?=some (.cells (wrC ⟨.slice A bs.length cap,0,true⟩) 146 (0,0)):=(hk.block g h.lt h.ne).trans h.heap;have j:g∉blk A':=not_later h.ne h.lt d;have hs:Keep [g] w1 (w1.setCell ⟨g,0,none⟩ (.slice A' bs'.length cap')):=Keep.setCell w1 ⟨g,0,none⟩ _;refine⟨A',cap',⟨?_,f.kept hs (λx hx e=>j (by simp at e;rw[<-e];exact hx)),j,?_⟩,?_,d⟩
 ·rw[heap_setCell_same hg];simp[wrC]
 ·have h1:=hk.size;have h2:=hs.size;have h3:=h.base;omega
 ·exact Keep.trans (hk.mono (S':=g :: blk A) (λx hx=>.inl (by simp[hx]))) hs (λx hx=>.inl (by simp at hx;simp[hx]))
theorem wr_facts(h:WrAt w B g A cap bs)(hk:Keep (blk A) w w1) :
  (∀j,w1.frozen? ⟨g,j,none⟩=false)/\w1.cell? ⟨g,0,none⟩=some (.slice A bs.length cap)/\w1.cell? ⟨g,1,none⟩=some (.int .i64 0):=by
 have hg:w1.heap[g]?=some (.cells (wrC ⟨.slice A bs.length cap,0,true⟩) 146 (0,0)):=(hk.block g h.lt h.ne).trans h.heap;refine⟨λj=>by simp[frozen?,hg],?_,?_⟩ <;> rw[cell_of_row w1 g _ _ _ _ hg] <;> simp[go_sem]
theorem wraw(w:World)(B g:Nat)(A:Option Addr)(cap:Nat)(bs:List UInt8)(h:WrAt w B g A cap bs)(s:ByteArray)(hs:bs.length+s.size<=1000000000) :
  Calls prog 66 #[.pointer (some ⟨g,0,none⟩),.string s] w λe w'=>e=.returned (.pointer (some ⟨g,0,none⟩))/\WStep w B g A (bs++s.data.toList) w':=by
 obtain⟨c0,c1,c2⟩:=h.cell;go_enter func66,ntmps66
 (go_wp2_with fail);refine(wnone _ _ c2).mono ?_;rintro e w' ⟨rfl,rfl⟩;obtain⟨i,i1,i2,i3,i4⟩:=byteInfo;have j:=h.own;have hb:=h.base;go_wp2_with (at_builtin;refine L_append_str underlying103 underlying9 i1 i2 i3 i4 rfl j rfl oM hb ?_;intro A' cap' w' d hk f;obtain⟨f0,d0,_⟩:=wr_facts h hk;have f0:=f0 0)
 go_ret;have e:(bs++s.data.toList).length=bs.length+s.size:=by rw[length_append];rfl
 have hw:=wr_store h hk (bs':=bs++s.data.toList) (cap':=cap') (by rw[e];exact d) f;rw[e]at hw;exact⟨rfl,hw⟩
theorem wfail_d(g e:Nat)(u:FrameMode)(w:World)(hb:w.cell? ⟨g,1,none⟩=some (.int .i64 0))(he:w.cell? ⟨e,0,none⟩=some (.int .i64 0))(hz:w.frozen? ⟨g,1,none⟩=false) :
  CallsD prog 107 #[.pointer (some ⟨g,0,none⟩),.pointer (some ⟨e,0,none⟩)] u w λen u' w'=>u'=u/\(en=.returned (.tuple #[])/\w'=w.setCell ⟨g,1,none⟩ (.int .i64 0)):=by
 go_enter_d func107,ntmps107
 go_wp2
 go_end0;exact⟨rfl,rfl⟩
theorem obits(n:Int)(w:World)(hn:n=1\/n=2\/n=4):Calls prog 108 #[.int .i64 n] w λe w'=>e=.returned (.int .i64 (8*n))/\w=w':=by
 rcases hn with rfl | rfl | rfl
 ·go_enter func108,ntmps108
  (go_wp2_with fail);go_ret;exact⟨rfl,rfl⟩
 ·go_enter func108,ntmps108
  (go_wp2_with fail);go_ret;exact⟨rfl,rfl⟩
 ·go_enter func108,ntmps108
  (go_wp2_with fail);go_ret;exact⟨rfl,rfl⟩
def beL:Nat->Nat->List UInt8
 | 0,_=>[]
 | m+1,n=>UInt8.ofNat (n / 256 ^ m) :: beL m n
theorem beL_length:∀m n,(beL m n).length=m
 | 0,_=>rfl
 | m+1,n=>by simp[beL,beL_length m n]
theorem wstep_trans{w2:World}{A1:Option Addr}{s m:List UInt8}(h1:WrAt w1 B g A1 k s)(hk:Keep (g :: blk A) w w1)(f:∀x∈blk A1,x∈blk A\/w.heap.size<=x)(h:WStep w1 B g A1 m w2):WStep w B g A m w2:=by
 obtain⟨A2,j,h2,r,d⟩:=h;refine⟨A2,j,h2,Keep.trans hk r (λx hx=>?_),λx hx=>?_⟩
 ·rcases mem_cons.1 hx with rfl | hx
  ·left;simp
  ·rcases f x hx with h | h
   ·left;simp[h]
   ·right;exact h
 ·rcases d x hx with h | h
  ·exact f x h
  ·right;have:=hk.size;omega
theorem wr_bad(h:WrAt w B g A cap bs):WStep w B g A bs (w.setCell ⟨g,1,none⟩ (.int .i64 0)):=by
 have hs:Keep [g] w (w.setCell ⟨g,1,none⟩ (.int .i64 0)):=Keep.setCell w ⟨g,1,none⟩ _;refine⟨A,cap,⟨?_,h.own.kept hs (λx hx e=>h.ne (by simp at e;rw[<-e];exact hx)),h.ne,Nat.le_trans h.base hs.size⟩,hs.mono (λx hx=>.inl (by simp at hx;simp[hx])),λx hx=>.inl hx⟩;rw[heap_setCell_same h.heap];simp[wrC]
theorem wnum(w:World)(B g:Nat)(A:Option Addr)(cap:Nat)(bs:List UInt8)(h:WrAt w B g A cap bs)(n M:Nat)(hM:M=1\/M=2\/M=4)(hn:n<256 ^ M)(hs:bs.length+M<=1000000000) :
  Calls prog 56 #[.pointer (some ⟨g,0,none⟩),.int .i64 n,.int .i64 M] w λe w'=>e=.returned (.pointer (some ⟨g,0,none⟩))/\WStep w B g A (bs++beL M n) w':=by
 obtain⟨c0,c1,c2⟩:=h.cell;have hp:(256:Nat) ^ M=2 ^ (8*M):=by rw[show(256:Nat)=2 ^ 8 from rfl,<-Nat.pow_mul]
 have T:((n:Int) / 2 ^ (8*M) != 0)=false:=by
  have h1:n / 2 ^ (8*M)=0:=Nat.div_eq_of_lt (by rw[<-hp];exact hn);have h2:((n / 2 ^ (8*M):Nat):Int)=(n:Int) / 2 ^ (8*M):=sI;rw[<-h2,h1];rfl
 have O:Below w.heap.size w (w.alloc (.cells #[.int .i64 0] 35)):=bA;have J:=h.below O;have hA:∀x∈blk A,x<w.heap.size:=λx hx=>(h.own.at_base hx).2;have a7:=h.lt;have hz:(8*(M:Int)==0)=false:=by rw[beq_eq_false_iff_ne];omega
 go_enter_defers func56,ntmps56
 (go_wp2_with fail);refine(wnone _ _ c2).mono ?_;rintro e w' ⟨rfl,rfl⟩;(go_wp2_with fail);refine(obits M _ oM).mono ?_;rintro e w' ⟨rfl,rfl⟩;(go_wp2_with fail);have a0:(w.alloc (.cells #[.int .i64 0] 35)).cell? ⟨w.heap.size,0,none⟩=some (.int .i64 0):=by simp[go_sem]
 clear T O c0 c1 c2 hn;generalize hW:w.alloc (.cells #[.int .i64 0] 35)=W at *;go_loopw [8] (λkv wr=>∃(j:Nat) (pre:List UInt8),j<=M/\pre.length+j=M/\kv=.int .i64 (8*(j:Int))/\Hid (pre++beL j n=beL M n)/\WStep W B g A (bs++pre) wr) (λkv _=>(intOf kv).toNat)
 case atStart=>exact⟨M,[],lR,sI,rfl,rfl,A,cap,by simpa using J,Keep.refl _ _,λx hx=>.inl hx⟩
 case round =>
  obtain⟨j,pre,hj,a6,rfl,t,A1,a3,d,hk,F⟩:=hrel;have E:=dH F;by_cases Z:j=0
  ·subst Z;have U:wr.cell? ⟨w.heap.size,0,none⟩=some (.int .i64 0):=(hk.cell (p:=⟨w.heap.size,0,none⟩) (by rw[<-hW];simp) (by
    simp only[mem_cons,not_or];exact⟨oM,λhx=>oH (hA _ hx)⟩)).trans a0
   obtain⟨f1,_,d1⟩:=wr_facts d (Keep.refl _ _);have f1:=f1 1;have V:pre=beL M n:=by have:=t.out;simpa[beL]using this
   subst V;(go_wp2_with fail);refine leaves_cons (f:=107) (args:=#[.pointer (some ⟨g,0,none⟩),.pointer (some ⟨w.heap.size,0,none⟩)]) sI (by simp[go_sem]) ?_;refine(wfail_d g w.heap.size .returning _ d1 U f1).mono ?_;rintro e u' a5 ⟨rfl,rfl,rfl⟩;refine⟨_,results_tmp rfl _ _ _,rfl,?_⟩;have h0:Keep [] w W:=by rw[<-hW];exact Keep.alloc _ _
   exact wstep_trans J (h0.mono sI) iL (wstep_trans d hk E.out (wr_bad d))
  ·obtain⟨j,rfl⟩:∃j',j=j'+1:=⟨j-1,oM⟩
   have e8:8*((j:Int)+1)-8=((8*j:Nat):Int):=oM;obtain⟨c0,_,_⟩:=d.cell;have R:=d.lt;obtain⟨c,hc⟩:=eX (UInt8.ofNat (n / 256 ^ j))
   have eb:IntKind.u8.wrap ((n:Int) / 2 ^ (8*(j:Int)).toNat)=((c.toNat:Nat):Int):=by
    rw[<-hc];have h1:(8*(j:Int)).toNat=8*j:=oM;have h2:(256:Nat) ^ j=2 ^ (8*j):=by rw[show(256:Nat)=2 ^ 8 from rfl,<-Nat.pow_mul]
    have h3:((n / 2 ^ (8*j):Nat):Int)=(n:Int) / 2 ^ (8*j):=sI;rw[h1,<-h3,h2];simp[IntKind.wrap,IntKind.signed,IntKind.bits]
   go_upto_region 8 with fail
   refine kF (blk A1) wr ?_;intro X hS;have b1:=ksub_cell c0 d.ne;refine lQ ?_;intro K hK;refine step_keep (Keep.trans (Keep.trans (Keep.refl (blk A1) wr) (Keep.alloc wr _) sI) (Keep.drew _) sI) (λa2=>?_);refine hK _ _ ?_;clear hK K;have N:Keep [] wr (wr.alloc (.cells #[.int .u8 c.toNat] 5)).drew:=Keep.trans (Keep.alloc wr _) (Keep.drew _) sI;have k:=d.own.kept N sI;have s:rowAt (wr.alloc (.cells #[.int .u8 c.toNat] 5)).drew wr.heap.size 0 1=some (byteR c):=by simp[go_sem,byteR,byteC]
   have D:(bs++pre).length=bs.length+pre.length:=length_append;rw[D]at k;have a8:=d.base;refine Lx_append einfoByte rfl k rfl s (by simp[byteR,byteC];rfl) oM oM sO ?_;intro A2 I w2 y Y m;have H:Keep (blk A1) wr w2:=Keep.trans (N.mono (S':=blk A1) sI) Y iL;refine step_keep H (λa1=>?_);refine lZ ?_;obtain⟨f0,d0,_⟩:=wr_facts d H;have f0:=f0 0;refine wpLx_end ?_ ?_;(focus(simp only[chainOp];done));intro K hK;go_simp;refine hK _ _ ?_;clear hK K;have L:(bs++(pre ++ [c])).length=bs.length+pre.length+1:=by simp[Nat.add_assoc]
   have G:=wr_store d H (bs':=bs++(pre ++ [c])) (A':=A2) (cap':=I) (by rw[L,<-append_assoc];simpa[bytesR]using y) (λx hx=>by
    rcases m x hx with h | h
    ·exact .inl h
    ·right;simp at h;omega)
   rw[L]at G;have r:=wstep_trans d hk E.out G;have a4:=dH r;clear G r hS a2 a1 b1 X f0 d0;(go_wp2_with fail);go_roundw
   case rel=>exact⟨j,pre ++ [c],oM,sO,by go_num,(show(pre ++ [c])++beL j n=beL M n by rw[<-t.out];simp[beL,hc]),a4.out⟩
   case measure=>exact sZ
theorem own_string(h:Own w B 5 1 A n cap (bytesR bs))(hn:n=bs.length) :
  (convert 103 9 (.slice A n cap)).run prog w=.ok (.string ⟨bs.toArray⟩) w:=by
 subst hn;rcases h.addr with rfl | ⟨g,rfl⟩
 ·have h0:bs = []:=by
   rcases h.row.2 with⟨_,h0⟩ | ⟨g,c,cur,hv,_⟩
   ·exact eq_nil_of_length_eq_zero h0
   ·cases hv
  subst h0;exact Go.Lib.run_convert_nil_bytes w _ _ _ _ underlying103 underlying5 underlying9
 ·refine run_convert_bytes_back w _ _ _ _ _ _ underlying103 underlying5 underlying9 (λj hj=>?_);have d:=h.row;rw[bytesR_flat]at d;have:=d.cells (g:=g) rfl j (byteC bs[j]) (by simp[hj]);exact this
theorem wdone(w:World)(B g:Nat)(A:Option Addr)(cap:Nat)(bs:List UInt8)(h:WrAt w B g A cap bs) :
  Calls prog 58 #[.pointer (some ⟨g,0,none⟩)] w λe w'=>e=.returned (.tuple #[.string ⟨bs.toArray⟩,.int .i64 0])/\w=w':=by
 obtain⟨c0,c1,c2⟩:=h.cell;have hs:=own_string h.own rfl;go_enter func58,ntmps58
 (go_wp2_with fail);refine(wnone _ _ c2).mono ?_;rintro e w' ⟨rfl,rfl⟩;(go_wp2_with fail);go_ret2;exact⟨rfl,rfl⟩
end Go.Proofs.YtplpiicfkbpkaaaGreatDoor
