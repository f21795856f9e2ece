/- Part 5 of the texts that lead to this claim: the walks of the functions and the plain law, in order. -/
import Derived.Test.YtgfpjjppeldhbaaGreatDoorMv4
namespace Go.Proofs.YtgfpjjppeldhbaaGreatDoor
open Go.RowKit
set_option maxRecDepth 100000
set_option maxHeartbeats 8000000
structure xC where
 val:ByteArray
 n:Int
 id:zE
def zV(x:xC):Array Value:=#[.string x.val] ++ #[.int .i64 x.n]++idC x.id
@[simp] theorem nR(x:xC):(zV x).size=34:=by simp[zV]
@[go_sem] theorem cJ(x:xC):(zV x)[0]?=some (.string x.val):=by first | (simp[zV,Array.getElem?_append];done) | (rw[show zV x=((#[]:Array Value)) ++ #[.string x.val]++(#[.int .i64 x.n]++idC x.id)from by apply Array.ext';simp[zV]];exact qO _ _ _ _ sI)
@[go_sem] theorem settingC_gg0(x:xC)(h:0<(zV x).size):(zV x)[0]'h=.string x.val:=Option.some.inj ((Array.getElem?_eq_getElem h).symm.trans (cJ x))
@[go_sem] theorem cF(x:xC):(zV x)[1]?=some (.int .i64 x.n):=by first | (simp[zV,Array.getElem?_append];done) | (rw[show zV x=(#[.string x.val]) ++ #[.int .i64 x.n]++(idC x.id)from by apply Array.ext';simp[zV]];exact qO _ _ _ _ sI)
@[go_sem] theorem settingC_gg1(x:xC)(h:1<(zV x).size):(zV x)[1]'h=.int .i64 x.n:=Option.some.inj ((Array.getElem?_eq_getElem h).symm.trans (cF x))
@[go_sem] theorem J3(x:xC):(zV x).extract 2 34=idC x.id:=by
 have h:zV x=(#[.string x.val] ++ #[.int .i64 x.n])++idC x.id++((#[]:Array Value)):=by first | (simp[zV,Array.append_assoc];done) | (apply Array.ext';simp[zV];done)
 rw[h];exact bP _ _ _ _ _ sI sI
@[go_sem] theorem settingC_all(x:xC):(zV x).extract 0 34=zV x:=by have:=Array.extract_size (xs:=zV x);rwa [nR]at this
theorem rC(x:xC):∀u∈(zV x).toList,u.oneCell'=true:=by
 intro u hu;simp only[zV,Array.toList_append,List.mem_append]at hu;rcases hu with(hu | hu) | hu
 ·simp at hu;subst hu;rfl
 ·simp at hu;subst hu;rfl
 ·exact xG _ u hu
def vU:xC:=⟨⟨#[]⟩,0,id0⟩
theorem K6{x y:xC}(h:x.val=y.val/\x.n=y.n/\x.id=y.id):x=y:=by cases x;cases y;simp_all
instance:DecidableEq xC:=λx y=>if h:x.val=y.val/\x.n=y.n/\x.id=y.id then isTrue (K6 h)else isFalse (λe=>h (by subst e;simp))
theorem cY:(Tryz.prog.info? 180).map (·.size)=some 34:=kR
@[go_sem ↓] theorem lV(w:World):(zeroValue 180).run Tryz.prog w=.ok (.agg (zV vU)) w:=by
 have h:(Tryz.prog.info? 180).bind (·.zero)=some (.agg (zV vU)):=kR;cases hi:Tryz.prog.info? 180 with
 | none=>rw[hi]at h;cases h
 | some i =>
  rw[hi]at h;have hz:i.zero=some (.agg (zV vU)):=h;simp[zeroValue,typeInfo,hi,hz]
@[go_sem ↓] theorem loadSetting_rw(a:Addr):loadVar 180 a=ldS 180 a:=rfl
@[go_sem ↓] theorem vz(a:Addr)(v:Value):storeVar 180 a v=stS 180 a v:=rfl
@[go_sem] theorem ka(w:World)(g o:Nat):(ldS 180 ⟨g,o,none⟩).run Tryz.prog w=match z7 w g o 34 with | some cs=>.ok (.agg cs) w | none=>(loadVar 180 ⟨g,o,none⟩).run Tryz.prog w :=
 vZ Tryz.underlying180 rfl cY w g o
@[go_sem] theorem xg(w:World)(g:Nat)(hg:g=w.heap.size)(z:Array Value)(hz:z.size=34)(x:xC)(e:TypeId):(stS 180 ⟨g,0,none⟩ (.agg (zV x))).run Tryz.prog (w.alloc (.cells z e))=.ok () (w.alloc (.cells (zV x) e)) :=
 hg ▸ qY cY w z (zV x) hz (nR x) (rC x)
theorem ZZ:Tryz.prog.underlying 180=some (.struct (Tryz.prog.fieldsOf 180)):=kR
theorem ZS(w:World):((Tryz.prog.fieldsOf 180).mapM fun (f:Field)=>do pure (f.offset,<-sizeOf f.type)).run Tryz.prog w=.ok #[(0,1),(1,1),(2,32)] w:=kR
@[go_sem ↓] theorem kb(parts:Array (Nat×Value)):Instr.build 180 parts=bdS 180 parts:=rfl
@[go_sem ↓] theorem fieldSetting_0(x:xC)(w:World):(Instr.field 180 (.agg (zV x)) 0).run Tryz.prog w=.ok (.string x.val) w:=by
 unfold Instr.field;simp only[Sem.run_bind,run_underlying Tryz.underlying180,Result.andThen_ok,part,asAgg,isAgg];simp[go_sem]
@[go_sem] theorem buildSetting(a0:ByteArray)(a1:Int)(a2:zE)(w:World):(bdS 180 #[(0,.string a0),(1,.int .i64 a1),(2,.agg (idC a2))]).run Tryz.prog w=.ok (.agg (zV ⟨a0,a1,a2⟩)) w:=by
 refine qP w ZZ _ (lV w) _ (ZS w) [(0,.string a0),(1,.int .i64 a1),(2,.agg (idC a2))] _ ?_;rw[show zV vU=(#[]:Array Value) ++ #[.string ⟨#[]⟩]++(#[.int .i64 0]++(idC id0))from by first | (simp[zV,vU,Array.append_assoc];done) | (apply Array.ext';simp[zV,vU])];rw[yJ (off:=0) (size:=1) rfl sI sI (by simp[Value.cells])];rw[show(#[]:Array Value)++(Value.string a0).cells++(#[.int .i64 0]++(idC id0))=(#[.string a0]) ++ #[.int .i64 0]++(idC id0)from by first | (simp[Value.cells,Array.append_assoc];done) | (apply Array.ext';simp[Value.cells];done) | (apply Array.ext';simp only[Array.toList_append];simp[Value.cells])];rw[yJ (off:=1) (size:=1) rfl sI sI (by simp[Value.cells])];rw[show(#[.string a0])++(Value.int .i64 a1).cells++(idC id0)=(#[.string a0]++(#[.int .i64 a1]))++idC id0++(#[]:Array Value)from by first | (simp[Value.cells,Array.append_assoc];done) | (apply Array.ext';simp[Value.cells];done) | (apply Array.ext';simp only[Array.toList_append];simp[Value.cells])];rw[yJ (off:=2) (size:=32) rfl sI sI (by simp[Value.cells])];first | (simp[Instr.fill,zV,Array.append_assoc,Value.cells];done) | (simp only[Instr.fill,zV];congr 1;apply Array.ext';simp[Value.cells];done) | (simp only[Instr.fill,zV];congr 1;done) | (simp only[Instr.fill,zV];done)
def dB(x y:xC):Int:=orL [lQ x.n y.n,zI x.id y.id,xY x.val y.val]
theorem BJ(w:World)(a b c:Int):∀j,j < [a,b,c].length->(w.alloc (.cells #[.int .i64 a,.int .i64 b,.int .i64 c] 3)).cell? ⟨w.heap.size,j,none⟩=some (.int .i64 ([a,b,c].getD j 0)):=by
 intro j hj;have:j=0\/j=1\/j=2:=by simp at hj;omega
 rcases this with rfl | rfl | rfl <;> simp
theorem YN(x y:xC)(w:World):Calls Tryz.prog 212 #[.agg (zV x),.agg (zV y)] w λe w'=>e=.returned (.int .i64 (dB x y))/\Below w.heap.size w w':=by
 go_enter Tryz.func212,Tryz.ntmps212
 go_upto_region 1 with fail
 obtain⟨W,hW⟩:=eR ((w.alloc (.cells (zV x) 180)).alloc (.cells (zV y) 180))
 have hB:Below w.heap.size w W:=by rw[hW];exact(bA).alloc sI _
 have a1:W.cell? ⟨w.heap.size,1,none⟩=some (.int .i64 x.n):=by rw[hW];simp[go_sem]
 have a2:W.cell? ⟨w.heap.size+1,1,none⟩=some (.int .i64 y.n):=by rw[hW];simp[go_sem]
 have a3:z7 W w.heap.size 2 32=some (idC x.id):=by rw[hW];simp[go_sem]
 have a4:z7 W (w.heap.size+1) 2 32=some (idC y.id):=by rw[hW];simp[go_sem]
 have a5:W.cell? ⟨w.heap.size,0,none⟩=some (.string x.val):=by rw[hW];simp[go_sem]
 have a6:W.cell? ⟨w.heap.size+1,0,none⟩=some (.string y.val):=by rw[hW];simp[go_sem]
 rw[<-hW];clear hW;refine lX W ?_;intro d hS;have b1:=zJ a1;have b2:=zJ a2;have b3:=zU a3;have b4:=zU a4;have b5:=zJ a5;have b6:=zJ a6;refine lZ ?_;refine lH ?_;intro K hK;refine(cmp_int _ _ _).mono ?_;rintro e w' ⟨rfl,rfl⟩;refine⟨_,rfl,hS,hK _ _ ?_⟩;clear hK K;refine lZ ?_;refine lC (aY _ _ _) ?_;clear hS;intro w' hS;refine lZ ?_;refine lH ?_;intro K hK;refine(nF _ _ _).mono ?_;rintro e w' ⟨rfl,rfl⟩;refine⟨_,rfl,hS,hK _ _ ?_⟩;clear hK K;refine lH ?_;intro K hK;refine zG (c5 hS _) (λhS=>?_);refine hK _ _ ?_;clear hK K;refine lH ?_;intro K hK;refine(QA _ _ [lQ x.n y.n,zI x.id y.id,xY x.val y.val] sI _ (BJ _ _ _ _)).mono ?_;rintro e w' ⟨rfl,rfl⟩;refine⟨_,rfl,hS,hK _ _ ?_⟩;clear hK K;refine lZ ?_;refine zC ?_;intro hS;(go_wp2_with fail);go_ret;exact⟨rfl,hB.trans (hS.mono hB.size)⟩
abbrev jE:=ByteArray×xC
theorem cmpS_ne{a b:ByteArray}(h1:¬xY a b<0)(h2:a≠b):xY b a<0:=by
 have:=sV a b;have h3:xY a b≠0:=λe=>h2 ((dQ a b).1 e);omega
theorem s4{a:ByteArray}:¬xY a a<0:=by rw[vi];omega
theorem vj{a b:ByteArray}(h:xY a b<0):¬xY b a<0:=oH (sV a b)
def g7:List jE->Prop
 | []=>True
 | x :: l=>(∀y∈l,xY x.1 y.1<0)/\g7 l
def gX:List jE->ByteArray->xC->List jE
 | [],k,x=>[(k,x)]
 | y :: l,k,x=>if xY y.1 k<0 then y :: gX l k x else if y.1=k then(if 0<dB x y.2 then(k,x) :: l else y :: l)else(k,x) :: y :: l
theorem YY:∀(l:List jE) (k:ByteArray) (x:xC),∀y∈gX l k x,y.1=k\/∃z∈l,z.1=y.1
 | [],k,x,y,hy=>by simp[gX]at hy;left;rw[hy]
 | a :: l,k,x,y,hy=>by
  unfold gX at hy;split at hy
  ·rcases List.mem_cons.1 hy with h | h
   ·right;exact⟨a,sI,by rw[h]⟩
   ·rcases YY l k x y h with h | ⟨z,hz,e⟩
    ·exact .inl h
    ·exact .inr ⟨z,List.mem_cons.2 (.inr hz),e⟩
  ·split at hy
   ·split at hy
    ·rcases List.mem_cons.1 hy with h | h
     ·left;rw[h]
     ·right;exact⟨y,List.mem_cons.2 (.inr h),rfl⟩
    ·right;exact⟨y,hy,rfl⟩
   ·rcases List.mem_cons.1 hy with h | h
    ·left;rw[h]
    ·right;exact⟨y,h,rfl⟩
theorem cW:∀(l:List jE) (k:ByteArray) (x:xC),g7 l->g7 (gX l k x)
 | [],k,x,_=>⟨sI,trivial⟩
 | a :: l,k,x,h=>by
  unfold gX;split
  ·rename_i hlt
   refine⟨λy hy=>?_,cW l k x h.2⟩;rcases YY l k x y hy with e | ⟨z,hz,e⟩
   ·rw[e];exact hlt
   ·rw[<-e];exact h.1 z hz
  ·rename_i hlt
   split
   ·rename_i he
    split
    ·exact⟨λy hy=>by rw[<-he];exact h.1 y hy,h.2⟩
    ·exact h
   ·rename_i he
    have d:xY k a.1<0:=cmpS_ne hlt he;refine⟨λy hy=>?_,h⟩;rcases List.mem_cons.1 hy with e | hy
    ·rw[e];exact d
    ·exact lP _ _ _ d (h.1 y hy)
theorem VD:∀(l:List jE) (k:ByteArray) (x:xC),k∉l.map (·.1)->(gX l k x).Perm (l ++ [(k,x)])
 | [],_,_,_=>List.Perm.refl _
 | a :: l,k,x,h=>by
  simp only[List.map_cons,List.mem_cons,not_or]at h;unfold gX;split
  ·exact(VD l k x h.2).cons a
  ·rw[if_neg (λe=>h.1 e.symm)];exact(List.perm_append_singleton (k,x) (a :: l)).symm
theorem aF:∀(l:List jE) (k:ByteArray) (x was:xC),g7 l->(k,was)∈l->gX l k x=if 0<dB x was then l.map (λp=>if p.1=k then(k,x)else p)else l
 | [],_,_,_,_,h=>by simp at h
 | a :: l,k,x,was,hr,hm=>by
  unfold gX;rcases List.mem_cons.1 hm with e | f
  ·subst e;rw[if_neg s4,if_pos rfl];have g:∀p∈l,p.1≠k:=λp hp e=>by
    have:=hr.1 p hp;rw[e]at this;exact s4 this
   split
   ·rw[List.map_cons,if_pos rfl];congr 1
    have:l.map (λp=>if p.1=k then(k,x)else p)=l:=by
     conv=>rhs;rw[<-List.map_id l]
     exact List.map_congr_left λp hp=>by rw[if_neg (g p hp)];rfl
    rw[this]
   ·rfl
  ·have d:xY a.1 k<0:=hr.1 _ f;rw[if_pos d,aF l k x was hr.2 f];have j:a.1≠k:=λe=>(by rw[e]at d;exact s4 d);split
   ·rw[List.map_cons,if_neg j]
   ·rfl
def qC(k:ByteArray)(x:xC):Int:=if 16<k.size\/16<x.val.size then 3 else if x.n<0\/2147483648<=x.n then 5 else 0
def sD(l:List jE)(k:ByteArray)(x:xC):List jE:=if qC k x=0 then gX l k x else l
def r4(l:List jE):Prop:=g7 l/\∀p∈l,qC p.1 p.2=0
theorem fY{k:ByteArray}{x:xC}(h:qC k x=0):k.size<=16/\x.val.size<=16/\0<=x.n/\x.n<2147483648:=by
 unfold qC at h;split at h
 ·omega
 ·split at h
  ·omega
  ·omega
theorem VE:∀(l:List jE) (k:ByteArray) (x:xC),∀y∈gX l k x,y=(k,x)\/y∈l
 | [],k,x,y,hy=>by simp[gX]at hy;exact .inl hy
 | a :: l,k,x,y,hy=>by
  unfold gX at hy;split at hy
  ·rcases List.mem_cons.1 hy with h | h
   ·exact .inr (by rw[h];simp)
   ·rcases VE l k x y h with h | h
    ·exact .inl h
    ·exact .inr (List.mem_cons.2 (.inr h))
  ·split at hy
   ·split at hy
    ·rcases List.mem_cons.1 hy with h | h
     ·exact .inl h
     ·exact .inr (List.mem_cons.2 (.inr h))
    ·exact .inr hy
   ·rcases List.mem_cons.1 hy with h | h
    ·exact .inl h
    ·exact .inr h
theorem zg{l:List jE}(h:r4 l)(k:ByteArray)(x:xC):r4 (sD l k x):=by
 unfold sD;split
 ·rename_i hc
  refine⟨cW l k x h.1,λp hp=>?_⟩;rcases VE l k x p hp with e | hp
  ·rw[e];exact hc
  ·exact h.2 p hp
 ·exact h
theorem VF(l:List jE)(k:ByteArray)(x:xC):(gX l k x).length<=l.length+1:=by
 induction l with
 | nil=>simp[gX]
 | cons a l ih =>
  unfold gX
  repeat' split
  all_goals simp;try omega
theorem cL(l:List jE)(k:ByteArray)(x:xC):(sD l k x).length<=l.length+1:=by
 unfold sD;split
 ·exact VF l k x
 ·omega
def lO(l:List jE)(k:ByteArray):Option xC:=(l.find? (λp=>decide (p.1=k))).map (·.2)
theorem wM(k:ByteArray)(x:xC)(w:World)(hk:k.size<=9223372036854775807)(hv:x.val.size<=9223372036854775807) :
  Calls Tryz.prog 211 #[.string k,.agg (zV x)] w λe w'=>e=.returned (.int .i64 (qC k x))/\Below w.heap.size w w':=by
 obtain⟨xv,xn,xi⟩:=x;dsimp only at hv;go_enter Tryz.func211,Tryz.ntmps211
 go_wp2_with fail
 all_goals
  go_ret;refine⟨yA ?_,bA⟩;unfold qC
  first
   | rw[if_pos (by simp only;omega)]
   | rw[if_neg (by simp only;omega),if_pos (by simp only;omega)]
   | rw[if_neg (by simp only;omega),if_neg (by simp only;omega)]
theorem XV:gA Tryz.prog 9 Value.string (λk:ByteArray=>k.size<=maxLen) where
 law:=WideMaps.string_law Tryz.underlying9
 key:=λk hk=>by
  refine⟨.string k.data.toList,?_⟩;simp[keyOf,mapKey,Tryz.underlying9,hk]
 inj:=λa b h=>by injection h
def setV(x:xC):Value:=.agg (zV x)
structure xR(w:World)(g b:Nat)(L:List jE):Prop where
 blk:w.heap[g]?=some (.cells #[.map (some b)] 177 (0,0))
 map:∃M es clk,qG w b Value.string setV (λk=>k.size<=maxLen) M es clk/\M.Perm L
 rows:r4 L
theorem xR.cell{w:World}{g b:Nat}{L:List jE}(h:xR w g b L):w.cell? ⟨g,0,none⟩=some (.map (some b)):=by
 rw[cell_of_row w g 0 _ _ _ h.blk];rfl
theorem xR.ne{w:World}{g b:Nat}{L:List jE}(h:xR w g b L):g≠b:=by
 rintro rfl;obtain⟨M,es,d,hm,_⟩:=h.map;have:=h.blk;rw[hm.heap]at this;cases this
theorem xR.lt{w:World}{g b:Nat}{L:List jE}(h:xR w g b L):g<w.heap.size/\b<w.heap.size:=by
 obtain⟨M,es,d,hm,_⟩:=h.map;exact⟨World.block_lt_of_cell? w _ h.cell,hm.lt⟩
theorem xR.kept{w w':World}{g b:Nat}{L:List jE}{S:List Nat}(h:xR w g b L)(k:z6 S w w')(hg:g∉S)(hb:b∉S):xR w' g b L:=by
 obtain⟨M,es,d,hm,hp⟩:=h.map;exact⟨(k.block g h.lt.1 hg).trans h.blk,⟨M,es,d,hm.kept k hb,hp⟩,h.rows⟩
theorem xR.below{w w':World}{g b:Nat}{L:List jE}(h:xR w g b L)(k:Below w.heap.size w w'):xR w' g b L :=
 h.kept (z6.of_below k) sI sI
theorem fX(w:World)(g b:Nat)(h:w.cell? ⟨g,0,none⟩=some (.map (some b))):Calls Tryz.prog 125 #[.pointer (some ⟨g,0,none⟩)] w λe w'=>e=.returned (.bool false)/\w=w':=by
 have hn:=λr=>run_eql_map_nil (P:=Tryz.prog) w 175 9 180 r Tryz.underlying175;go_enter Tryz.func125,Tryz.ntmps125
 (go_wp2_with fail);go_ret;exact⟨rfl,rfl⟩
theorem lnew(w:World):Calls Tryz.prog 117 #[] w λe w'=>∃g b,e=.returned (.pointer (some ⟨g,0,none⟩))/\xR w' g b []/\w.heap.size<=g/\w.heap.size<=b/\Below w.heap.size w w':=by
 have d:=@run_makeMap Tryz.prog;go_enter Tryz.func117,Tryz.ntmps117
 (go_wp2_with fail);go_ret;refine⟨w.heap.size+1,w.heap.size,rfl,⟨?_,⟨[],#[],0,?_,List.Perm.refl _⟩,⟨trivial,sI⟩⟩,oM,oM,(bA).alloc sI _⟩
 ·exact heap_alloc2_new w _ _
 ·exact(qG.new w w.heap.size rfl).kept (z6.alloc _ _) sI
theorem aM{l:List jE}{k:ByteArray}{x:xC}(h:lO l k=some x):(k,x)∈l:=by
 unfold lO at h;cases hf:l.find? (λp=>decide (p.1=k))with
 | none=>rw[hf]at h;cases h
 | some p =>
  rw[hf]at h;have h1:=List.mem_of_find?_eq_some hf;have h2:=List.find?_some hf;have h3:p.1=k:=by simpa using h2
  have h4:p.2=x:=by simpa using h
  rw[<-h3,<-h4];exact h1
theorem X6{l:List jE}{k:ByteArray}(h:lO l k=none):k∉l.map (·.1):=by
 unfold lO at h;intro hm;obtain⟨p,hp,e⟩:=List.mem_map.1 hm;cases hf:l.find? (λp=>decide (p.1=k))with
 | none=>have:=List.find?_eq_none.1 hf p hp;simp[e]at this
 | some q=>rw[hf]at h;cases h
theorem xR.look{w:World}{g b:Nat}{L:List jE}(h:xR w g b L){k:ByteArray}(hk:k.size<=maxLen) :
  (Instr.lookup 175 (.map (some b)) (.string k) true).run Tryz.prog w=.ok (.tuple #[.agg (zV ((lO L k).getD vU)),.bool (lO L k).isSome]) w:=by
 obtain⟨M,es,j,hm,hp⟩:=h.map;cases hg:lO L k with
 | none =>
  have d:k∉M.map (·.1):=λhx=>X6 hg ((hp.map (·.1)).mem_iff.1 hx);exact hm.miss XV Tryz.underlying175 (lV w) hk d true
 | some x =>
  have f:(k,x)∈M:=hp.mem_iff.2 (aM hg);exact hm.hit XV Tryz.underlying175 hk f true
def getS(L:List jE)(k:ByteArray):ByteArray:=((lO L k).getD vU).val
theorem lset_bad(k v:ByteArray)(n:Int)(d:zE)(w:World)(g b:Nat)(L:List jE)(h:xR w g b L)(hk:k.size<=9223372036854775807)(hv:v.size<=9223372036854775807)(f:qC k ⟨v,n,d⟩≠0) :
  Calls Tryz.prog 140 #[.pointer (some ⟨g,0,none⟩),.string k,.string v,.int .i64 n,.agg (idC d)] w λe w'=>e=.returned (.int .i64 (qC k ⟨v,n,d⟩))/\Below w.heap.size w w':=by
 have hc:(w.alloc (.cells (idC d) 39)).cell? ⟨g,0,none⟩=some (.map (some b)):=(World.cell?_alloc_lt w _ _ h.lt.1).trans h.cell;have hn:(qC k ⟨v,n,d⟩ != 0)=true:=by rw[bne_iff_ne];exact f
 clear f;go_enter Tryz.func140,Tryz.ntmps140
 (go_wp2_with fail);refine(fX _ _ _ hc).mono ?_;rintro e w' ⟨rfl,rfl⟩;(go_wp2_with fail);refine(wM _ ⟨v,n,d⟩ _ hk hv).mono ?_;rintro e w' ⟨rfl,hb⟩;(go_wp2_with fail);go_ret;exact⟨rfl,yE ((bA).alloc sI _) hb⟩
theorem xR.put{w:World}{g b:Nat}{L:List jE}(h:xR w g b L){k:ByteArray}{x:xC}(hk:qC k x=0)(hx:∀was,lO L k=some was->0<dB x was) :
  ∃w',(Instr.mapUpdate 175 (.map (some b)) (.string k) (.agg (zV x))).run Tryz.prog w=.ok () w'/\xR w' g b (gX L k x)/\z6 [b] w w':=by
 obtain⟨M,es,t,hm,hp⟩:=h.map;have r:k.size<=maxLen:=by have:=(fY hk).1;simp only[maxLen];omega
 obtain⟨w',s,j,f,m,d⟩:=hm.update (v:=x) XV Tryz.underlying175 r;refine⟨w',f,⟨(d.block g h.lt.1 (by simp;exact h.ne)).trans h.blk,⟨_,s,j,m,?_⟩,?_⟩,d⟩
 ·unfold m6;cases hg:lO L k with
  | none =>
   have h1:=X6 hg;have h2:k∉M.map (·.1):=λhx=>h1 ((hp.map (·.1)).mem_iff.1 hx);rw[if_neg h2];exact(hp.append_right _).trans (VD L k x h1).symm
  | some was =>
   have h1:=aM hg;have h2:k∈M.map (·.1):=List.mem_map.2 ⟨_,hp.mem_iff.2 h1,rfl⟩;rw[if_pos h2,aF L k x was h.rows.1 h1,if_pos (hx was hg)];exact hp.map _
 ·have:=zg h.rows k x;unfold sD at this
  rwa [if_pos hk]at this
theorem lset_new(k v:ByteArray)(n:Int)(d:zE)(w:World)(g b:Nat)(L:List jE)(h:xR w g b L)(m:qC k ⟨v,n,d⟩=0)(hg:lO L k=none) :
  Calls Tryz.prog 140 #[.pointer (some ⟨g,0,none⟩),.string k,.string v,.int .i64 n,.agg (idC d)] w λe w'=>e=.returned (.int .i64 0)/\xR w' g b (gX L k ⟨v,n,d⟩)/\z6 [b] w w':=by
 have s:=fY m;have hk:k.size<=9223372036854775807:=oM;have hv:v.size<=9223372036854775807:=by have:=s.2.1;simp only at this;omega
 have B:k.size<=maxLen:=by simp only[maxLen];omega
 clear s;have hc:(w.alloc (.cells (idC d) 39)).cell? ⟨g,0,none⟩=some (.map (some b)):=(World.cell?_alloc_lt w _ _ h.lt.1).trans h.cell;have t:Below w.heap.size w ((w.alloc (.cells (idC d) 39)).alloc (.cells (zV ⟨v,n,d⟩) 180)):=(bA).alloc sI _;have hn:(qC k ⟨v,n,d⟩ != 0)=false:=by rw[m];rfl
 have I:=dH m;clear m;have Hg:=dH hg;clear hg;go_enter Tryz.func140,Tryz.ntmps140
 (go_wp2_with fail);refine(fX _ _ _ hc).mono ?_;rintro e w' ⟨rfl,rfl⟩;(go_wp2_with fail);refine(wM _ ⟨v,n,d⟩ _ hk hv).mono ?_;rintro e w1 ⟨rfl,hb⟩;have r:=yE t hb;have h1:=h.below r;have R:=h1.cell;have A:=h1.look B;simp only[Hg.out,Option.getD_none,Option.isSome_none]at A;have j:z7 w1 (w.heap.size+1) 0 34=some (zV ⟨v,n,d⟩):=by
  rw[z9 (hb.block (w.heap.size+1) sI) 0 34];simp[go_sem]
 have M:w.heap.size+1<w1.heap.size:=by have:=hb.size;simp at this;omega
 have h2:xR (w1.alloc (.cells (zV vU) 180)) g b L:=h1.kept (z6.alloc _ _) sI sI;have f:z7 (w1.alloc (.cells (zV vU) 180)) (w.heap.size+1) 0 34=some (zV ⟨v,n,d⟩):=((z6.alloc w1 _).row oM sI 0 34).trans j;have G:Below w.heap.size w (w1.alloc (.cells (zV vU) 180)):=r.alloc oM _;clear j hb t hc;go_upto_region 10 with fail
 generalize w1.alloc (.cells (zV vU) 180)=W at *;obtain⟨w2,y,H,D⟩:=(h2.kept (z6.drew W) sI sI).put I.out (λJ e=>by rw[Hg.out]at e;cases e);have E:g∉[b]:=by simp;exact h.ne
 have F:=h2.cell;have O:=h.lt.2;refine kX [b] W ?_;intro N hS;have b1:=zP F E;have b2:=y9 f (S:=[b]) sO;refine lZ ?_;refine lH ?_;intro K hK;refine zG (xA hS D sI) (λhS=>?_);refine hK _ _ ?_;clear hK K;refine zC ?_;intro hS;(go_wp2_with fail);go_ret;exact⟨rfl,H,z6.trans ((z6.of_below G).mono (S':=[b]) sI) hS iL⟩
theorem BI(k v:ByteArray)(n:Int)(d:zE)(w:World)(g b:Nat)(L:List jE)(h:xR w g b L)(s:qC k ⟨v,n,d⟩=0)(j:xC)(hg:lO L k=some j)(G:0<dB ⟨v,n,d⟩ j) :
  Calls Tryz.prog 140 #[.pointer (some ⟨g,0,none⟩),.string k,.string v,.int .i64 n,.agg (idC d)] w λe w'=>e=.returned (.int .i64 0)/\xR w' g b (gX L k ⟨v,n,d⟩)/\z6 [b] w w':=by
 have D:=fY s;have hk:k.size<=9223372036854775807:=oM;have hv:v.size<=9223372036854775807:=by have:=D.2.1;simp only at this;omega
 have I:k.size<=maxLen:=by simp only[maxLen];omega
 clear D;have hc:(w.alloc (.cells (idC d) 39)).cell? ⟨g,0,none⟩=some (.map (some b)):=(World.cell?_alloc_lt w _ _ h.lt.1).trans h.cell;have E:Below w.heap.size w ((w.alloc (.cells (idC d) 39)).alloc (.cells (zV ⟨v,n,d⟩) 180)):=(bA).alloc sI _;have hn:(qC k ⟨v,n,d⟩ != 0)=false:=by rw[s];rfl
 have T:=dH s;clear s;have Hg:=dH hg;clear hg;go_enter Tryz.func140,Tryz.ntmps140
 (go_wp2_with fail);refine(fX _ _ _ hc).mono ?_;rintro e w' ⟨rfl,rfl⟩;(go_wp2_with fail);refine(wM _ ⟨v,n,d⟩ _ hk hv).mono ?_;rintro e w1 ⟨rfl,hb⟩;have B:=yE E hb;have h1:=h.below B;have Z:=h1.cell;have H:=h1.look I;simp only[Hg.out,Option.getD_some,Option.isSome_some]at H;have r:z7 w1 (w.heap.size+1) 0 34=some (zV ⟨v,n,d⟩):=by
  rw[z9 (hb.block (w.heap.size+1) sI) 0 34];simp[go_sem]
 have V:w.heap.size+1<w1.heap.size:=by have:=hb.size;simp at this;omega
 have h2:xR (w1.alloc (.cells (zV j) 180)) g b L:=h1.kept (z6.alloc _ _) sI sI;have f:z7 (w1.alloc (.cells (zV j) 180)) (w.heap.size+1) 0 34=some (zV ⟨v,n,d⟩):=((z6.alloc w1 _).row oM sI 0 34).trans r;have O:Below w.heap.size w (w1.alloc (.cells (zV j) 180)):=B.alloc oM _;have y:z7 (w1.alloc (.cells (zV j) 180)) w1.heap.size 0 34=some (zV j):=by simp[go_sem]
 clear hb E hc;(go_wp2_with fail);refine(YN _ _ _).mono ?_;rintro e W ⟨rfl,t⟩;have A:=yE O t;have h3:=h2.below t;have m:z7 W (w.heap.size+1) 0 34=some (zV ⟨v,n,d⟩):=(z9 (t.block (w.heap.size+1) sO) 0 34).trans f;clear r f t y;go_upto_region 10 with fail
 obtain⟨w2,F,R,J⟩:=(h3.kept (z6.drew W) sI sI).put T.out (λx e=>by rw[Hg.out]at e;injection e with e;subst e;exact G);have M:g∉[b]:=by simp;exact h.ne
 have N:=h3.cell;have Y:=h.lt.2;refine kX [b] W ?_;intro X hS;have b1:=zP N M;have b2:=y9 m (S:=[b]) sO;refine lZ ?_;refine lH ?_;intro K hK;refine zG (xA hS J sI) (λhS=>?_);refine hK _ _ ?_;clear hK K;refine zC ?_;intro hS;(go_wp2_with fail);go_ret;exact⟨rfl,R,z6.trans ((z6.of_below A).mono (S':=[b]) sI) hS iL⟩
theorem jg(k v:ByteArray)(n:Int)(d:zE)(w:World)(g b:Nat)(L:List jE)(h:xR w g b L)(r:qC k ⟨v,n,d⟩=0)(j:xC)(hg:lO L k=some j)(J:¬0<dB ⟨v,n,d⟩ j) :
  Calls Tryz.prog 140 #[.pointer (some ⟨g,0,none⟩),.string k,.string v,.int .i64 n,.agg (idC d)] w λe w'=>e=.returned (.int .i64 0)/\xR w' g b L/\Below w.heap.size w w':=by
 have D:=fY r;have hk:k.size<=9223372036854775807:=oM;have hv:v.size<=9223372036854775807:=by have:=D.2.1;simp only at this;omega
 have G:k.size<=maxLen:=by simp only[maxLen];omega
 clear D;have hc:(w.alloc (.cells (idC d) 39)).cell? ⟨g,0,none⟩=some (.map (some b)):=(World.cell?_alloc_lt w _ _ h.lt.1).trans h.cell;have E:Below w.heap.size w ((w.alloc (.cells (idC d) 39)).alloc (.cells (zV ⟨v,n,d⟩) 180)):=(bA).alloc sI _;have hn:(qC k ⟨v,n,d⟩ != 0)=false:=by rw[r];rfl
 have N:=dH r;clear r;have Hg:=dH hg;clear hg;go_enter Tryz.func140,Tryz.ntmps140
 (go_wp2_with fail);refine(fX _ _ _ hc).mono ?_;rintro e w' ⟨rfl,rfl⟩;(go_wp2_with fail);refine(wM _ ⟨v,n,d⟩ _ hk hv).mono ?_;rintro e w1 ⟨rfl,hb⟩;have A:=yE E hb;have h1:=h.below A;have M:=h1.cell;have F:=h1.look G;simp only[Hg.out,Option.getD_some,Option.isSome_some]at F;have m:z7 w1 (w.heap.size+1) 0 34=some (zV ⟨v,n,d⟩):=by
  rw[z9 (hb.block (w.heap.size+1) sI) 0 34];simp[go_sem]
 have I:w.heap.size+1<w1.heap.size:=by have:=hb.size;simp at this;omega
 have h2:xR (w1.alloc (.cells (zV j) 180)) g b L:=h1.kept (z6.alloc _ _) sI sI;have f:z7 (w1.alloc (.cells (zV j) 180)) (w.heap.size+1) 0 34=some (zV ⟨v,n,d⟩):=((z6.alloc w1 _).row oM sI 0 34).trans m;have H:Below w.heap.size w (w1.alloc (.cells (zV j) 180)):=A.alloc oM _;have t:z7 (w1.alloc (.cells (zV j) 180)) w1.heap.size 0 34=some (zV j):=by simp[go_sem]
 clear hb E hc;(go_wp2_with fail);refine(YN _ _ _).mono ?_;rintro e W ⟨rfl,s⟩;have y:=yE H s;have h3:=h2.below s;have B:z7 W (w.heap.size+1) 0 34=some (zV ⟨v,n,d⟩):=(z9 (s.block (w.heap.size+1) sO) 0 34).trans f;clear m f s t;(go_wp2_with fail);go_ret;exact⟨rfl,h3,y⟩
theorem lset(k v:ByteArray)(n:Int)(d:zE)(w:World)(g b:Nat)(L:List jE)(h:xR w g b L)(hk:k.size<=9223372036854775807)(hv:v.size<=9223372036854775807) :
  Calls Tryz.prog 140 #[.pointer (some ⟨g,0,none⟩),.string k,.string v,.int .i64 n,.agg (idC d)] w λe w'=>e=.returned (.int .i64 (qC k ⟨v,n,d⟩))/\xR w' g b (sD L k ⟨v,n,d⟩)/\z6 [b] w w':=by
 by_cases hc:qC k ⟨v,n,d⟩=0
 ·have hs:sD L k ⟨v,n,d⟩=gX L k ⟨v,n,d⟩:=if_pos hc;rw[hc,hs];cases hg:lO L k with
  | none=>exact lset_new k v n d w g b L h hc hg
  | some was =>
   by_cases f:0<dB ⟨v,n,d⟩ was
   ·exact BI k v n d w g b L h hc was hg f
   ·have e:gX L k ⟨v,n,d⟩=L:=by rw[aF L k _ was h.rows.1 (aM hg),if_neg f]
    rw[e];exact(jg k v n d w g b L h hc was hg f).mono λe w' ⟨he,h1,h2⟩=>⟨he,h1,(z6.of_below h2).mono sI⟩
 ·have hs:sD L k ⟨v,n,d⟩=L:=if_neg hc;rw[hs];exact(lset_bad k v n d w g b L h hk hv hc).mono λe w' ⟨he,h2⟩=>⟨he,h.below h2,(z6.of_below h2).mono sI⟩
structure xW where
 id:zE
 key:ByteArray
 val:ByteArray
def zF(x:xW):Array Value:=idC x.id ++ #[.string x.key] ++ #[.string x.val]
@[simp] theorem k7(x:xW):(zF x).size=34:=by simp[zF]
@[go_sem] theorem fJ(x:xW):(zF x).extract 0 32=idC x.id:=by
 have h:zF x=((#[]:Array Value))++idC x.id++(#[.string x.key] ++ #[.string x.val]):=by first | (simp[zF,Array.append_assoc];done) | (apply Array.ext';simp[zF];done)
 rw[h];exact bP _ _ _ _ _ sI sI
@[go_sem] theorem fA(x:xW):(zF x)[32]?=some (.string x.key):=by first | (simp[zF,Array.getElem?_append];done) | (rw[show zF x=(idC x.id) ++ #[.string x.key]++(#[.string x.val])from by apply Array.ext';simp[zF]];exact qO _ _ _ _ sI)
@[go_sem] theorem mRowC_gg32(x:xW)(h:32<(zF x).size):(zF x)[32]'h=.string x.key:=Option.some.inj ((Array.getElem?_eq_getElem h).symm.trans (fA x))
@[go_sem] theorem bZ(x:xW):(zF x)[33]?=some (.string x.val):=by first | (simp[zF,Array.getElem?_append];done) | (rw[show zF x=(idC x.id ++ #[.string x.key]) ++ #[.string x.val]++((#[]:Array Value))from by apply Array.ext';simp[zF]];exact qO _ _ _ _ sI)
@[go_sem] theorem mRowC_gg33(x:xW)(h:33<(zF x).size):(zF x)[33]'h=.string x.val:=Option.some.inj ((Array.getElem?_eq_getElem h).symm.trans (bZ x))
@[go_sem] theorem mRowC_all(x:xW):(zF x).extract 0 34=zF x:=by have:=Array.extract_size (xs:=zF x);rwa [k7]at this
theorem jd{x y:xW}(h:zF x=zF y):x=y:=by
 have h0:=congrArg (λa=>a.extract 0 32) h;simp only[fJ]at h0;have h0:=QI h0;have h1:=congrArg (λa=>a[32]?) h;simp only[fA,Option.some.injEq,Value.string.injEq]at h1;have h2:=congrArg (λa=>a[33]?) h;simp only[bZ,Option.some.injEq,Value.string.injEq]at h2;cases x;cases y;simp_all
theorem j3(x:xW):∀u∈(zF x).toList,u.oneCell'=true:=by
 intro u hu;simp only[zF,Array.toList_append,List.mem_append]at hu;rcases hu with(hu | hu) | hu
 ·exact xG _ u hu
 ·simp at hu;subst hu;rfl
 ·simp at hu;subst hu;rfl
def fB:xW:=⟨id0,⟨#[]⟩,⟨#[]⟩⟩
theorem MRow_ext{x y:xW}(h:x.id=y.id/\x.key=y.key/\x.val=y.val):x=y:=by cases x;cases y;simp_all
instance:DecidableEq xW:=λx y=>if h:x.id=y.id/\x.key=y.key/\x.val=y.val then isTrue (MRow_ext h)else isFalse (λe=>h (by subst e;simp))
theorem aJ:(Tryz.prog.info? 184).map (·.size)=some 34:=kR
@[go_sem ↓] theorem r7(w:World):(zeroValue 184).run Tryz.prog w=.ok (.agg (zF fB)) w:=by
 have h:(Tryz.prog.info? 184).bind (·.zero)=some (.agg (zF fB)):=kR;cases hi:Tryz.prog.info? 184 with
 | none=>rw[hi]at h;cases h
 | some i =>
  rw[hi]at h;have hz:i.zero=some (.agg (zF fB)):=h;simp[zeroValue,typeInfo,hi,hz]
@[go_sem ↓] theorem loadMRow_rw(a:Addr):loadVar 184 a=ldS 184 a:=rfl
@[go_sem ↓] theorem storeMRow_rw(a:Addr)(v:Value):storeVar 184 a v=stS 184 a v:=rfl
@[go_sem] theorem loadMRow_run(w:World)(g o:Nat):(ldS 184 ⟨g,o,none⟩).run Tryz.prog w=match z7 w g o 34 with | some cs=>.ok (.agg cs) w | none=>(loadVar 184 ⟨g,o,none⟩).run Tryz.prog w :=
 vZ Tryz.underlying184 rfl aJ w g o
@[go_sem] theorem storeMRow_run(w:World)(g:Nat)(hg:g=w.heap.size)(z:Array Value)(hz:z.size=34)(x:xW)(e:TypeId):(stS 184 ⟨g,0,none⟩ (.agg (zF x))).run Tryz.prog (w.alloc (.cells z e))=.ok () (w.alloc (.cells (zF x) e)) :=
 hg ▸ qY aJ w z (zF x) hz (k7 x) (j3 x)
theorem aS:Tryz.prog.underlying 184=some (.struct (Tryz.prog.fieldsOf 184)):=kR
theorem iQ(w:World):((Tryz.prog.fieldsOf 184).mapM fun (f:Field)=>do pure (f.offset,<-sizeOf f.type)).run Tryz.prog w=.ok #[(0,32),(32,1),(33,1)] w:=kR
@[go_sem ↓] theorem buildMRow_rw(parts:Array (Nat×Value)):Instr.build 184 parts=bdS 184 parts:=rfl
@[go_sem] theorem buildMRow(a0:zE)(a1:ByteArray)(a2:ByteArray)(w:World):(bdS 184 #[(0,.agg (idC a0)),(1,.string a1),(2,.string a2)]).run Tryz.prog w=.ok (.agg (zF ⟨a0,a1,a2⟩)) w:=by
 refine qP w aS _ (r7 w) _ (iQ w) [(0,.agg (idC a0)),(1,.string a1),(2,.string a2)] _ ?_;rw[show zF fB=(#[]:Array Value)++idC id0++(#[.string ⟨#[]⟩]++(#[.string ⟨#[]⟩]))from by first | (simp[zF,fB,Array.append_assoc];done) | (apply Array.ext';simp[zF,fB])];rw[yJ (off:=0) (size:=32) rfl sI sI (by simp[Value.cells])];rw[show(#[]:Array Value)++(Value.agg (idC a0)).cells++(#[.string ⟨#[]⟩]++(#[.string ⟨#[]⟩]))=(idC a0) ++ #[.string ⟨#[]⟩]++(#[.string ⟨#[]⟩])from by first | (simp[Value.cells,Array.append_assoc];done) | (apply Array.ext';simp[Value.cells];done) | (apply Array.ext';simp only[Array.toList_append];simp[Value.cells])];rw[yJ (off:=32) (size:=1) rfl sI sI (by simp[Value.cells])];rw[show(idC a0)++(Value.string a1).cells++(#[.string ⟨#[]⟩])=(idC a0++(#[.string a1])) ++ #[.string ⟨#[]⟩]++(#[]:Array Value)from by first | (simp[Value.cells,Array.append_assoc];done) | (apply Array.ext';simp[Value.cells];done) | (apply Array.ext';simp only[Array.toList_append];simp[Value.cells])];rw[yJ (off:=33) (size:=1) rfl sI sI (by simp[Value.cells])];first | (simp[Instr.fill,zF,Array.append_assoc,Value.cells];done) | (simp only[Instr.fill,zF];congr 1;apply Array.ext';simp[Value.cells];done) | (simp only[Instr.fill,zF];congr 1;done) | (simp only[Instr.fill,zF];done)
@[go_sem] theorem buildMRow_0(a0:zE)(w:World):(bdS 184 #[(0,.agg (idC a0))]).run Tryz.prog w=.ok (.agg (zF ⟨a0,⟨#[]⟩,⟨#[]⟩⟩)) w:=by
 refine qP w aS _ (r7 w) _ (iQ w) [(0,.agg (idC a0))] _ ?_;rw[show zF fB=(#[]:Array Value)++idC id0++(#[.string ⟨#[]⟩]++(#[.string ⟨#[]⟩]))from by first | (simp[zF,fB,Array.append_assoc];done) | (apply Array.ext';simp[zF,fB])];rw[yJ (off:=0) (size:=32) rfl sI sI (by simp[Value.cells])];first | (simp[Instr.fill,zF,Array.append_assoc,Value.cells];done) | (simp only[Instr.fill,zF];congr 1;apply Array.ext';simp[Value.cells];done) | (simp only[Instr.fill,zF];congr 1;done) | (simp only[Instr.fill,zF];done)
instance:Inhabited xW:=⟨fB⟩
def xN(x y:xW):Int:=orL [zI x.id y.id,xY x.key y.key,xY x.val y.val]
theorem orL3(a b c:Int):orL [a,b,c]=orC a (orC b c):=by
 unfold orC orL orL orL orL;split
 ·split
  ·split <;> simp_all
  ·rfl
 ·rfl
theorem dD:jH xN:=(q6.pair (sA.pair sA)).of (λx:xW=>(x.id,x.key,x.val)) (λx y h=>by
 cases x;cases y
 simp only[Prod.mk.injEq]at h;obtain⟨h1,h2,h3⟩:=h;subst h1;subst h2;subst h3;rfl) (λx y=>orL3 _ _ _)
theorem qt(w:World)(a b c:Int):∀j,j < [a,b,c].length->(w.alloc (.cells #[.int .i64 a,.int .i64 b,.int .i64 c] 3)).cell? ⟨w.heap.size,j,none⟩=some (.int .i64 ([a,b,c].getD j 0)):=by
 intro j hj;have:j=0\/j=1\/j=2:=by simp at hj;omega
 rcases this with rfl | rfl | rfl <;> simp
theorem morder(x y:xW)(w:World):Calls Tryz.prog 200 #[.agg (zF x),.agg (zF y)] w λe w'=>e=.returned (.int .i64 (xN x y))/\Gr w w':=by
 go_enter Tryz.func200,Tryz.ntmps200
 go_upto_region 1 with fail
 obtain⟨W,hW⟩:=eR ((w.alloc (.cells (zF x) 184)).alloc (.cells (zF y) 184))
 have hB:Gr w W:=by rw[hW];exact((Gr.refl _).alloc _).alloc _
 have a3:z7 W w.heap.size 0 32=some (idC x.id):=by rw[hW];simp[go_sem]
 have a4:z7 W (w.heap.size+1) 0 32=some (idC y.id):=by rw[hW];simp[go_sem]
 have a5:W.cell? ⟨w.heap.size,32,none⟩=some (.string x.key):=by rw[hW];simp[go_sem]
 have a6:W.cell? ⟨w.heap.size+1,32,none⟩=some (.string y.key):=by rw[hW];simp[go_sem]
 have a7:W.cell? ⟨w.heap.size,33,none⟩=some (.string x.val):=by rw[hW];simp[go_sem]
 have a8:W.cell? ⟨w.heap.size+1,33,none⟩=some (.string y.val):=by rw[hW];simp[go_sem]
 rw[<-hW];clear hW;refine bE (Gr W) false kR kR kR (Gr.drew W) ?_;have d:=QK W;have hS:=Gr.drew W;have b3:=rR a3;have b4:=rR a4;have b5:=kG a5;have b6:=kG a6;have b7:=kG a7;have b8:=kG a8;refine lZ ?_;refine lH ?_;intro K hK;refine(sU _ _ _).mono ?_;rintro e w' ⟨rfl,hb⟩;replace hS:=Gr.trans hS hb;refine⟨_,rfl,hS,hK _ _ ?_⟩;clear hK K hb;refine lZ ?_;refine lH ?_;intro K hK;refine(nF _ _ _).mono ?_;rintro e w' ⟨rfl,rfl⟩;refine⟨_,rfl,hS,hK _ _ ?_⟩;clear hK K;refine lZ ?_;refine lH ?_;intro K hK;refine(nF _ _ _).mono ?_;rintro e w' ⟨rfl,rfl⟩;refine⟨_,rfl,hS,hK _ _ ?_⟩;clear hK K;refine lH ?_;intro K hK;refine zG (Gr.alloc hS _) (λhS=>?_);refine hK _ _ ?_;clear hK K;refine lH ?_;intro K hK;refine(QA _ _ [zI x.id y.id,xY x.key y.key,xY x.val y.val] sI _ (qt _ _ _ _)).mono ?_;rintro e w' ⟨rfl,rfl⟩;refine⟨_,rfl,hS,hK _ _ ?_⟩;clear hK K;refine lZ ?_;refine zC ?_;intro hS;(go_wp2_with fail);go_ret;exact⟨rfl,hB.trans hS⟩
theorem yg:Tryz.prog.cellsOf 184=34:=kR
theorem rowMR:184<Tryz.prog.types.size:=of_decide_eq_true kR
abbrev okM(x:xW):Prop:=x.key.size<=maxLen/\x.val.size<=maxLen
theorem QG(d:Nat){x:xW}(h:okM x):∃l,Tryz.prog.keyLits (d+3) 184 (zF x).toList=some l:=by
 obtain⟨l1,h1⟩:=pW d x.id;obtain⟨l2,h2⟩:=mI (d+1) h.1;obtain⟨l3,h3⟩:=mI (d+1) h.2;have e1:((zF x).toList.drop 0).take 32=(idC x.id).toList:=by simp[zF]
 have e2:((zF x).toList.drop 32).take 1 = [.string x.key]:=by simp[zF]
 have e3:((zF x).toList.drop 33).take 1 = [.string x.val]:=by
  simp[zF,List.drop_append];rw[List.drop_eq_nil_of_le sI];rfl
 refine Option.isSome_iff_exists.1 ?_;unfold Program.keyLits;simp only[Tryz.underlying184];rw[if_pos ⟨by rw[yg];simp,kR⟩];simp only[List.mapM_cons,List.mapM_nil,eQ,VX,e1,e2,e3,h1,h2,h3];rfl
def lY(x:xW):Value:=.agg (zF x)
theorem mrowKey:gA Tryz.prog 184 lY okM where
 law:=deep_law_laid Tryz.laidOut (m:=3) oM rowMR kR (by rw[Tryz.underlying184])
 key:=λx hx=>by
  obtain⟨d,hd⟩:∃d,Tryz.prog.types.size+1=d+3:=⟨Tryz.prog.types.size-2,oH size3⟩
  obtain⟨l,hl⟩:=QG d hx;refine⟨.string (keyBytes l),?_⟩;unfold keyOf;simp only[Tryz.underlying184];have f:Tryz.prog.keyType 184=true:=kR;have hf:(lY x).formed Tryz.prog 184=true:=by simp[lY,Value.formed,Tryz.underlying184,yg]
  rw[f,hf,hd];simp only[Bool.and_self,if_true];have:(lY x).cells.toList=(zF x).toList:=rfl;rw[this,hl];rfl
 inj:=λa b h=>by unfold lY at h;injection h with h;exact jd h
section
open Go.RowKit
theorem yS.clear{P:Program}{K T E':TypeId}{κ:Type}{kv:κ->Value}{ok:κ->Prop}{w:World}{b:Nat}{L:List κ}(h:yS w b kv ok L)(ht:P.underlying T=some (.map K E'))(ty:TypeId) :
  ∃w',(Builtin.clear_ #[T] ty #[.map (some b)]).run P w=.ok (.tuple #[]) w'/\yS w' b kv ok []/\z6 [b] w w':=by
 obtain⟨M,es,d,hm,g,f⟩:=h;refine⟨_,?_,⟨[],#[],d,⟨gY _ hm.lt,rfl,rfl,sI,sI,sI,sI⟩,sI,sI⟩,gV w b _⟩;simp[Builtin.clear_,run_underlying ht,jR hm.heap,gJ hm.heap]
abbrev eL(w:World)(b:Nat)(L:List xW):Prop:=yS w b lY okM L
def vB(x:xW):Prop:=x.key.size<=16/\x.val.size<=16
theorem jb{x:xW}(h:vB x):okM x:=by
 obtain⟨h1,h2⟩:=h;exact⟨by simp only[maxLen];omega,by simp only[maxLen];omega⟩
theorem mput{w:World}{b:Nat}{X:List xW}{x:xW}(h:eL w b X)(hk:vB x):∃w',(Instr.mapUpdate 269 (.map (some b)) (.agg (zF x)) (.bool true)).run Tryz.prog w=.ok () w'/\eL w' b (x :: X)/\z6 [b] w w':=yS.put h mrowKey Tryz.underlying269 (jb hk)
theorem mclear{w:World}{b:Nat}{X:List xW}(h:eL w b X)(ty:TypeId):∃w',(Builtin.clear_ #[269] ty #[.map (some b)]).run Tryz.prog w=.ok (.tuple #[]) w'/\eL w' b []/\z6 [b] w w':=yS.clear h Tryz.underlying269 ty
structure qB(w:World)(g bl bo:Nat)(X:List xW)(O:List zE):Prop where
 blk:w.heap[g]?=some (.cells #[.map (some bl),.map (some bo)] 271 (0,0))
 live:eL w bl X
 over:bK w bo O
 ne:bl≠bo
 risX:Ris xN X
 risO:Ris zI O
 sm:∀x∈X,vB x
 apart:∀x∈X,x.id∉O
theorem iA{κ:Type}{kv:κ->Value}{ok:κ->Prop}{w:World}{b g:Nat}{X:List κ}{cs:Array Value}{t:TypeId}{f:Nat×Nat}(h:yS w b kv ok X)(hg:w.heap[g]?=some (.cells cs t f)):g≠b:=by
 rintro rfl;obtain⟨M,es,d,hm,_⟩:=h;rw[hm.heap]at hg;cases hg
section
variable {w w':World} {g bl bo:Nat} {X:List xW} {O:List zE}
theorem qB.cell0(h:qB w g bl bo X O):w.cell? ⟨g,0,none⟩=some (.map (some bl)):=by rw[cell_of_row w g 0 _ _ _ h.blk];rfl
theorem qB.cell1(h:qB w g bl bo X O):w.cell? ⟨g,1,none⟩=some (.map (some bo)):=by rw[cell_of_row w g 1 _ _ _ h.blk];rfl
theorem qB.lt(h:qB w g bl bo X O):g<w.heap.size/\bl<w.heap.size/\bo<w.heap.size:=⟨(aG h.blk).1,h.live.lt,h.over.lt⟩
theorem qB.nel(h:qB w g bl bo X O):g≠bl:=iA h.live h.blk
theorem qB.neo(h:qB w g bl bo X O):g≠bo:=iA h.over h.blk
theorem qB.kept{S:List Nat}(h:qB w g bl bo X O)(k:z6 S w w')(hg:g∉S)(hl:bl∉S)(ho:bo∉S):qB w' g bl bo X O :=
 ⟨(k.block g h.lt.1 hg).trans h.blk,h.live.kept k hl,h.over.kept k ho,h.ne,h.risX,h.risO,h.sm,h.apart⟩
theorem qB.below(h:qB w g bl bo X O)(k:Below w.heap.size w w'):qB w' g bl bo X O:=h.kept (z6.of_below k) sI sI sI
end
theorem pP(w:World)(g b:Nat)(h:w.cell? ⟨g,0,none⟩=some (.map (some b))):Calls Tryz.prog 198 #[.pointer (some ⟨g,0,none⟩)] w λe w'=>e=.returned (.bool false)/\w=w':=by
 have hn:=λr=>run_eql_map_nil (P:=Tryz.prog) w 269 184 4 r Tryz.underlying269;go_enter Tryz.func198,Tryz.ntmps198
 (go_wp2_with fail);go_ret;exact⟨rfl,rfl⟩
theorem mnew(w:World):Calls Tryz.prog 118 #[] w λe w'=>∃g bl bo,e=.returned (.pointer (some ⟨g,0,none⟩))/\qB w' g bl bo [] []/\w.heap.size<=g/\w.heap.size<=bl/\w.heap.size<=bo/\Below w.heap.size w w':=by
 have d:=@run_makeMap Tryz.prog;go_enter Tryz.func118,Tryz.ntmps118
 (go_wp2_with fail);go_ret;have k1:=yS.new (kv:=lY) (ok:=okM) w w.heap.size rfl;have k2:=yS.new (kv:=idV) (ok:=gP) (w.alloc (.map #[] 0)) (w.heap.size+1) sI;refine⟨w.heap.size+2,w.heap.size,w.heap.size+1,rfl,⟨?_,(k1.kept (z6.alloc _ _) sI).kept (z6.alloc _ _) sI,k2.kept (z6.alloc _ _) sI,oM,Ris.nil,Ris.nil,sI,sI⟩,oM,oM,oM,((bA).alloc sI _).alloc sO _⟩;have:=heap_alloc_new ((w.alloc (.map #[] 0)).alloc (.map #[] 0)) (.cells #[.map (some w.heap.size),.map (some (w.heap.size+1))] 271 (0,0));simpa using this
theorem nE:xH Tryz.prog 181 184 34 64 :=
 .of (z:=.agg (zF fB)) Tryz.underlying181 kR kR kR (k7 _) oM
@[go_sem ↓] theorem bsMRow_rw(n:Nat)(parts:Array (Nat×Value)):Instr.buildSlice 181 n parts=bsS 181 n parts:=rfl
@[go_sem] theorem bsMRow_run(w:World)(x:xW):(bsS 181 1 #[(0,.agg (zF x))]).run Tryz.prog w=.ok (.slice (some ⟨w.heap.size,0,none⟩) 1 1) (w.alloc (.cells (zF x) 184)) :=
 bF nE oM w (zF x) (k7 x)
def wK(X:List xW)(O:List zE):List xW:=X.filter λx=>decide (x.id∉O)
theorem msweep(wS:World)(g bl bo:Nat)(X:List xW)(O:List zE)(E:wS.heap[g]?=some (.cells #[.map (some bl),.map (some bo)] 271 (0,0)))(hl:eL wS bl X)(ho:bK wS bo O)(b6:bl≠bo)(hr:Ris xN X)(f2:∀x∈X,vB x)(hn:X.length<=1000000) :
  Calls Tryz.prog 213 #[.pointer (some ⟨g,0,none⟩)] wS λe w'=>e=.returned (.tuple #[])/\eL w' bl (wK X O)/\z6 [bl] wS w':=by
 have h9:=hl.lt;have h8:=ho.lt;have c7:=(aG E).1;have R:g≠bl:=iA hl E;have e0:wS.cell? ⟨g,0,none⟩=some (.map (some bl)):=by rw[cell_of_row wS g 0 _ _ _ E];rfl
 have g4:wS.cell? ⟨g,1,none⟩=some (.map (some bo)):=by rw[cell_of_row wS g 1 _ _ _ E];rfl
 obtain⟨w0,f,hR,g6,h7⟩:=yS.range (P:=Tryz.prog) (kv:=lY) (ok:=okM) hl Tryz.underlying269;go_enter Tryz.func213,Tryz.ntmps213
 (go_wp2_with fail);clear f E;go_loopw [2] (λout wr=>∃S A cap,out=.slice A (wK S O).length cap/\jW wr bl wS.heap.size lY okM X S/\Own wr w0.heap.size 184 34 A (wK S O).length cap ((wK S O).map zF)/\Below wS.heap.size wS wr/\w0.heap.size<=wr.heap.size) (λ_ wr=>wr.rangeLeft bl wS.heap.size)
 case atStart=>exact⟨[],none,0,rfl,hR,Own.nil _ _ _ _,g6,lR⟩
 case round =>
  obtain⟨S,A,cap,rfl,hR,t,hb,h6⟩:=hrel;rcases hR.next (P:=Tryz.prog) 0 with⟨hall,c4,f⟩ | ⟨x,w1,hxL,hxS,f,hR1,hk1,hs1,hl1,hen⟩
  ·have a8:=(hb.cell (p:=⟨g,0,none⟩) c7).trans e0;obtain⟨wc,c8,f4,c6⟩:=mclear (hl.below hb) 0;have g3:=(c6.cell (p:=⟨g,0,none⟩) (show g<wr.heap.size by have:=hb.size;omega) (by simpa using R)).trans a8;have hp:S.Perm X:=(List.perm_ext_iff_of_nodup c4 (hr.nodup dD)).2 hall;have g8:S.length=X.length:=hp.length_eq;have N:∀x,x∈wK S O↔x∈wK X O:=λx=>(by unfold wK;simp[hall]);have U:∀x∈wK S O,vB x:=λx hx=>f2 x ((hall x).1 (List.mem_filter.1 hx).1);have c5:(wK S O).length<=1000000:=by have:(wK S O).length<=S.length:=List.length_filter_le _ _;omega
   have I:=t.kept c6 (λy hy=>oS ((t.at_base hy).1));have f8:z6 [bl] wS wc:=z6.trans ((z6.of_below hb).mono (S':=[bl]) sI) c6 iL;obtain⟨T,hT⟩:=eX (wK S O)
   rw[hT]at N U c5 I |-;have d1:=dH N;have h5:=dH hall;clear hT hall N hp g8 t hR hb;(go_wp2_with fail);clear c8 f a8;go_loopw [33] (λi wr=>∃k:Nat,k<=T.length/\i=.int .i64 k/\eL wr bl (T.take k)/\z6 [bl] wS wr/\Own wr w0.heap.size 184 34 A T.length cap (T.map zF)) (λi _=>T.length-(intOf i).toNat)
   case atStart=>exact⟨0,zL,rfl,f4,f8,I⟩
   case round =>
    obtain⟨k,hk,rfl,hm,a6,s⟩:=hrel;by_cases a5:k<T.length
    ·obtain⟨q,o,rfl,a1⟩:=s.slr.at_ a5;obtain rfl:o=0:=by
      rcases s.addr with e | ⟨g',e⟩
      ·cases e
      ·injection e with e;injection e
     rw[Nat.zero_add,List.getElem_map]at a1;have d2:vB (T[k]'a5):=U _ (List.getElem_mem _);have b8:T.take (k+1)=T.take k ++ [T[k]'a5]:=by rw[List.take_add_one,List.getElem?_eq_getElem a5];rfl
     obtain⟨x,hx⟩:=eX (T[k]'a5)
     rw[hx]at a1 d2 b8;have h0:=dH b8;clear hx b8;have F:Below wr.heap.size wr (wr.alloc (.cells (zF x) 184)):=bA;have d6:=yS.below hm F;have H:=s.below F;have V:=(F.cell (p:=⟨g,0,none⟩) (show g<wr.heap.size by have:=a6.size;omega)).trans ((a6.cell (p:=⟨g,0,none⟩) c7 (by simpa using R)).trans e0);have G:z7 (wr.alloc (.cells (zF x) 184)) wr.heap.size 0 34=some (zF x):=by simp[go_sem]
     have d8:z6 [bl] wS (wr.alloc (.cells (zF x) 184)):=z6.trans a6 (z6.of_below F) sI;have f0:=a6.size;go_upto_region 10 with fail
     obtain⟨W1,b3⟩:=eR (wr.alloc (.cells (zF x) 184))
     rw[<-b3]at d6 H V G d8 |-;clear b3;obtain⟨w2,f,f3,d9⟩:=mput (x:=x) (d6.kept (z6.drew W1) sI) d2;have g2:g∉[bl]:=by simpa using R
     refine kX [bl] W1 ?_;intro b6 hS;have b1:=zP V g2;have b2:=y9 G (S:=[bl]) sO;refine lZ ?_;refine lH ?_;intro K hK;refine zG (xA hS d9 sI) (λhS=>?_);refine hK _ _ ?_;clear hK K;refine zC ?_;intro hS;have e7:z6 [bl] W1 w2:=hS;have a2:=H.kept e7 (λy hy=>oS ((s.at_base hy).1));have g0:=z6.trans d8 e7 iL;clear b1 b2 b6 hS d9 f V G;(go_wp2_with fail);go_roundw
     case rel=>exact⟨k+1,oM,by go_num,yS.congr f3 (λy=>by rw[h0.out];simp[or_comm]),g0,a2⟩
     case measure=>exact sZ
    ·have e2:T.take k=T:=List.take_of_length_le oM;rw[e2]at hm;(go_wp2_with fail);go_end0;exact⟨rfl,yS.congr hm d1.out,a6⟩
  ·have i0:(wK S O).length+1<=1000000:=by
    obtain⟨M,Z,hZ,f9,_,g7,c4⟩:=hR1;have h1:=hZ.length;have h2:(Z.map (·.1)).length=(S ++ [x]).length:=by rw[g7]
    have h3:(M.map (·.1)).length<=X.length:=kY c4 (λy hy=>(f9 y).1 hy);have h4:(wK S O).length<=S.length:=List.length_filter_le _ _;simp at h2 h3;omega
   have d7:wK (S ++ [x]) O=if x.id∈O then wK S O else wK S O ++ [x]:=by
    unfold wK;rw[List.filter_append];by_cases e:x.id∈O <;> simp[e]
   have J:=t.kept hk1 (λy hy=>oS ((t.at_base hy).1));have e4:Below wS.heap.size wS w1:=hb.trans (hk1.below (B:=wS.heap.size) oM sI);have F:Below w1.heap.size w1 (w1.alloc (.cells (zF x) 184)):=bA;have b5:=hR1.kept (z6.of_below F) sI sI;have f7:(w1.alloc (.cells (zF x) 184)).rangeLeft bl wS.heap.size=w1.rangeLeft bl wS.heap.size:=xB (z6.of_below F) sI sI hR1.lt.2 hR1.lt.1;have D:=J.below F;have f1:w0.heap.size<=w1.heap.size:=oM;have b9:wS.heap.size<=w1.heap.size:=oM;have b0:Below wS.heap.size wS (w1.alloc (.cells (zF x) 184)):=e4.trans (F.mono b9);have G:z7 (w1.alloc (.cells (zF x) 184)) w1.heap.size 0 34=some (zF x):=by simp[go_sem]
   have V:=(b0.cell (p:=⟨g,1,none⟩) c7).trans g4;have c3:bK (w1.alloc (.cells (zF x) 184)) bo O:=ho.kept (z6.of_below (b0.mono lR)) sI;have L:w0.heap.size<=(w1.alloc (.cells (zF x) 184)).heap.size:=sO;change (Instr.next _ _ _).run Tryz.prog wr=.ok (.tuple #[.bool true,.agg (zF x),.bool true]) w1 at f;change (Instr.entry _).run Tryz.prog w1=.ok (.tuple #[.agg (zF x),.bool true]) w1 at hen;have e9:=dH d7;clear t hb hk1 hs1 hR1 J e4 F d7;go_upto_region 4 with fail
   obtain⟨W1,b3⟩:=eR (w1.alloc (.cells (zF x) 184))
   obtain⟨gx,g1⟩:=eX w1.heap.size
   rw[g1]at G;rw[<-b3]at b5 f7 D b0 G V c3 L |-;have d3:z7 W1 gx 0 32=some (idC x.id):=by have:=zX G (j:=0) (m:=32) oM;rwa [fJ]at this
   have hk:∀y:Subtype (Bel W1),(Instr.lookup 75 (.map (some bo)) (.agg (idC x.id)) false).run Tryz.prog y.1=.ok (.bool (decide (x.id∈O))) y.1:=λy=>yb (c3.below y.2);obtain⟨r,c2⟩:=eX (decide (x.id∈O))
   rw[c2]at hk;have e8:=dH c2;clear f hen b3 c2;refine lX W1 ?_;intro b6 hS;have b1:=zJ V;have b2:=zU d3;refine lZ ?_;refine zC ?_;intro hS;have b4:jW W1.drew bl wS.heap.size lY okM X (S ++ [x]):=b5.kept (z6.drew W1) sI sI;have f6:W1.drew.rangeLeft bl wS.heap.size=W1.rangeLeft bl wS.heap.size:=xB (z6.drew W1) sI sI b5.lt.2 b5.lt.1;have d:=D.kept (z6.drew W1) sI;have c9:Below wS.heap.size wS W1.drew:=b0.drew;have c1:z7 W1.drew gx 0 34=some (zF x):=G;have Y:w0.heap.size<=W1.drew.heap.size:=L;clear b1 b2 b6 hS hk V d3 G D b0 b5 c3 L;obtain⟨W2,e6⟩:=eX W1.drew
   rw[e6]at b4 f6 d c9 c1 Y |-;clear e6;cases r with
   | true =>
    have a7:x.id∈O:=of_decide_eq_true e8.out;have e5:=e9.out;rw[if_pos a7]at e5;have E5:=dH e5;clear e5 a7;(go_wp2_with fail);go_roundw
    case rel=>exact⟨S ++ [x],A,cap,by rw[E5.out],b4,by rw[E5.out];exact d,c9,Y⟩
    case measure=>omega
   | false =>
    have a7:x.id∉O:=of_decide_eq_false e8.out;have e5:=e9.out;rw[if_neg a7]at e5;have E5:=dH e5;clear e5 a7;have a9:Below W2.heap.size W2 (W2.alloc (.cells (zF x) 184)):=bA;have a4:=d.below a9;have a0:z7 (W2.alloc (.cells (zF x) 184)) W2.heap.size 0 34=some (zF x):=by simp[go_sem]
    go_wp2_with (at_builtin;refine yM nE rfl a4 rfl a0 (j3 _) oM oM sO ?_;intro A' cap' w5 a3 b7 d4)
    have e3:bl∉blk A:=λhx=>(oH ((d.at_base hx).1));have d5:wS.heap.size∉blk A:=λhx=>(oH ((d.at_base hx).1));have d0:=b4.kept (z6.of_below a9) sI sI;have g9:=d0.kept b7 e3 d5;have f5:w5.rangeLeft bl wS.heap.size=W2.rangeLeft bl wS.heap.size :=
     (xB b7 e3 d5 d0.lt.2 d0.lt.1).trans (xB (z6.of_below a9) sI sI b4.lt.2 b4.lt.1)
    have c0:w0.heap.size<=w5.heap.size:=by
     have e1:=a9.size;have e2:=b7.size;omega
    have g5:Below wS.heap.size wS w5:=c9.trans ((a9.mono oM).trans (b7.below (B:=wS.heap.size) sO λy hy=>oH ((d.at_base hy).1)));(go_wp2_with fail);go_roundw
    case rel=>exact⟨S ++ [x],A',cap',by rw[E5.out];simp,g9,by rw[E5.out];simpa using a3,g5,c0⟩
    case measure=>omega
end
def lJ(O T:List zE):List zE:=T.foldl (xS zI) O
theorem iN{O T:List zE}(h:Ris zI O):Ris zI (lJ O T):=(wO q6 T O h).1
theorem V1{O T:List zE}(h:Ris zI O){x:zE}:x∈lJ O T↔x∈O\/x∈T:=(wO q6 T O h).2 x
theorem qq(O T:List zE)(t:zE):lJ O (T ++ [t])=xS zI (lJ O T) t:=by simp[lJ]
theorem VH{w:World}{g o k b:Nat}{cs:Array Value}{κ:Type}{kv:κ->Value}{ok:κ->Prop}{X:List κ}(h:z7 w g o k=some cs)(hs:yS w b kv ok X):g≠b:=by
 rintro rfl;obtain⟨M,es,d,hm,_⟩:=hs;unfold z7 at h;rw[hm.heap]at h;cases h
def ZQ(X:List xW)(O:List zE)(x:xW)(T:List zE):List xW:=wK (xS xN X x) (lJ O T)
theorem mset(d:zE)(key val:ByteArray)(A:Option Addr)(n cap:Nat)(T:List zE)(w:World)(g bl bo:Nat)(X:List xW)(O:List zE)(h:qB w g bl bo X O)(hT:zY w A n T)(d6:key.size<=16)(c9:val.size<=16)(hn:n<=1000000)(hX:X.length<1000000) :
  Calls Tryz.prog 141 #[.pointer (some ⟨g,0,none⟩),.agg (idC d),.string key,.string val,.slice A n cap] w λe w'=>e=.returned (.int .i64 0)/\qB w' g bl bo (ZQ X O ⟨d,key,val⟩ T) (lJ O T)/\z6 [bl,bo] w w':=by
 have L:=hT.len;have j:=dH L;have M:Below w.heap.size w (w.alloc (.cells (idC d) 39)):=bA;have h0:=h.below M;have R:z7 (w.alloc (.cells (idC d) 39)) w.heap.size 0 32=some (idC d):=by simp[go_sem]
 have b3:vB ⟨d,key,val⟩:=⟨d6,c9⟩
 have d9:=h.lt;clear L;go_enter Tryz.func141,Tryz.ntmps141
 go_upto_region 1 with fail
 obtain⟨ga,a7⟩:=eX w.heap.size
 have b0:=dH a7;rw[a7]at R d9 M |-;obtain⟨W0,c7⟩:=eR (w.alloc (.cells (idC d) 39))
 rw[<-c7]at h0 R M |-;clear c7 a7;(go_wp2_with fail);refine(pP W0 g bl h0.cell0).mono ?_;rintro e w1 ⟨rfl,rfl⟩;go_upto_region 6 with fail
 have c2:g∉[bl]:=by simpa using h0.nel
 have c3:=h0.cell0;obtain⟨w2,E,b7,c1⟩:=mput (x:=⟨d,key,val⟩) (h0.live.kept (z6.drew W0) sI) b3;refine kX [bl] W0 ?_;intro a2 hS;have b1:=zP c3 c2;have b2:=y9 R (S:=[bl]) sO;refine lZ ?_;refine lH ?_;intro K hK;refine zG (xA hS c1 sI) (λhS=>?_);refine hK _ _ ?_;clear hK K;refine zC ?_;intro hS;have B:z6 [bl] W0 w2:=hS;have c4:=(B.block g h0.lt.1 c2).trans h0.blk;have d4:bK w2 bo O:=h0.over.kept B (by simpa using λe=>h0.ne e.symm);have e1:z6 [bl,bo] w w2:=z6.trans ((z6.of_below (M.mono (by rw[b0.out];exact lR))).mono (S':=[bl,bo]) sI) (B.mono (S':=[bl,bo]) sI) iL;have b6:eL w2 bl (xS xN X ⟨d,key,val⟩):=yS.congr b7 (λy=>by rw[qN dD,List.mem_cons]);have r:=vA dD (x:=⟨d,key,val⟩) h.risX;have D:∀y∈xS xN X ⟨d,key,val⟩,vB y:=λy hy=>by
  rcases (qN dD).1 hy with e | hy
  ·rw[e];exact b3
  ·exact h.sm y hy
 have b8:(xS xN X ⟨d,key,val⟩).length<=1000000:=oH (jV (c:=xN) X ⟨d,key,val⟩);have N:Hid (ZQ X O ⟨d,key,val⟩ T=wK (xS xN X ⟨d,key,val⟩) (lJ O T)):=rfl;obtain⟨X1,c5⟩:=eX (xS xN X ⟨d,key,val⟩)
 rw[c5]at b6 r D b8 N;have a5:=h.nel;have a4:=h.neo;have s:=h.ne;have d1:=h.risO;have J:=h.live;have I:=h.over;clear c5 b1 b2 a2 hS c1 E R c3 B h0 M b7 hX;(go_wp2_with fail);go_loopw [33] (λi wr=>∃k:Nat,k<=n/\i=.int .i64 k/\eL wr bl X1/\bK wr bo (lJ O (T.take k))/\z6 [bl,bo] w wr) (λi _=>n-(intOf i).toNat)
 case atStart=>exact⟨0,zL,rfl,b6,d4,e1⟩
 case round =>
  obtain⟨k,hk,rfl,hm,ho,H⟩:=hrel;have F:wr.cell? ⟨g,1,none⟩=some (.map (some bo)):=(H.cell (p:=⟨g,1,none⟩) (show g<w.heap.size by have:=b0.out;omega) sO).trans h.cell1;have f:=(H.block g (oH b0.out) sO).trans h.blk;by_cases G:k<n
  ·obtain⟨q,o,rfl,m⟩:=hT.get G (by rw[j.out];exact G);have d3:q≠bl:=VH m J;have d2:q≠bo:=VH m I;have d0:z7 wr q (o+k*32) 32=some (idC (T[k]'(by rw[j.out];exact G))):=(H.row (zD m) (by simp[d3,d2]) _ _).trans m;have U:T.take (k+1)=T.take k ++ [T[k]'(by rw[j.out];exact G)]:=by rw[List.take_add_one,List.getElem?_eq_getElem (by rw[j.out];exact G)];rfl
   obtain⟨x,hx⟩:=eX (T[k]'(by rw[j.out];exact G))
   rw[hx]at d0 U;have e3:=dH U;clear hx U m;have Z:Below wr.heap.size wr (wr.alloc (.cells (idC x) 39)):=bA;have a3:=yS.below hm Z;have a1:=yS.below ho Z;have a9:=(Z.cell (p:=⟨g,1,none⟩) (World.block_lt_of_cell? wr _ F)).trans F;have a0:z7 (wr.alloc (.cells (idC x) 39)) wr.heap.size 0 32=some (idC x):=by simp[go_sem]
   have b9:z6 [bl,bo] w (wr.alloc (.cells (idC x) 39)):=z6.trans H (z6.of_below Z) sI;have e0:bo<wr.heap.size:=ho.lt;go_upto_region 10 with fail
   obtain⟨W1,c6⟩:=eR (wr.alloc (.cells (idC x) 39))
   rw[<-c6]at a3 a1 a9 a0 b9 |-;clear c6;obtain⟨w5,E,b4,c0⟩:=jq (x:=x) (a1.kept (z6.drew W1) sI);have a6:g∉[bo]:=by simpa using a4
   refine kX [bo] W1 ?_;intro a2 hS;have b1:=zP a9 a6;have b2:=y9 a0 (S:=[bo]) sO;refine lZ ?_;refine lH ?_;intro K hK;refine zG (xA hS c0 sI) (λhS=>?_);refine hK _ _ ?_;clear hK K;refine zC ?_;intro hS;have B:z6 [bo] W1 w5:=hS;have d5:=a3.kept B (by simpa using s);have d7:z6 [bl,bo] w w5:=z6.trans b9 (B.mono (S':=[bl,bo]) sI) iL;have V:bK w5 bo (lJ O (T.take (k+1))):=yS.congr b4 (λy=>by rw[e3.out,qq,qN q6,List.mem_cons]);clear b1 b2 a2 hS c0 E a9 a0 b4 B a3 a1;(go_wp2_with fail);go_roundw
   case rel=>exact⟨k+1,oM,by go_num,d5,V,d7⟩
   case measure=>exact sZ
  ·have e2:T.take k=T:=List.take_of_length_le (by rw[j.out];omega);rw[e2]at ho;have c8:=msweep wr g bl bo X1 (lJ O T) f hm ho s r D b8;clear e2 F;(go_wp2_with fail);refine c8.mono ?_;rintro e w6 ⟨rfl,b5,Y⟩;have t:=(Y.block g (by have:=(aG f).1;exact this) (by simpa using a5)).trans f;have V:=ho.kept Y (by simpa using λe=>s e.symm);have a8:qB w6 g bl bo (ZQ X O ⟨d,key,val⟩ T) (lJ O T):=by
    rw[N.out];exact⟨t,b5,V,s,r.filter _,iN d1,λy hy=>D y (List.mem_filter.1 hy).1,λy hy=>by have:=(List.mem_filter.1 hy).2;simpa using this⟩
   have d8:z6 [bl,bo] w w6:=z6.trans H (Y.mono (S':=[bl,bo]) sI) iL;clear c8 b5 Y t V f hm ho H;(go_wp2_with fail);go_ret;exact⟨rfl,a8,d8⟩
section
section
variable {ι ν:Type} (kid:ι->List ν) (idn:ν->ι) (N:List ν) (refn:ν->ι) (z:ι)
def dA:Nat->ι->List ν
 | 0,_=>[]
 | k+1,r=>(kid r).flatMap λc=>c :: dA k (idn c)
def Deep:Nat->ι->Prop
 | 0,_=>False
 | k+1,r=>∀c∈kid r,Deep k (idn c)
def workL:Nat->List ν->List ν
 | 0,_=>[]
 | _+1,[]=>[]
 | k+1,n :: row=>n :: workL k (kid (idn n)++row)
def gN(k:Nat)(row:List ν):List ν:=row.flatMap λc=>c :: dA kid idn k (idn c)
variable {kid idn N refn z}
theorem rX:∀ {k:Nat} {r:ι},Deep kid idn k r->Deep kid idn (k+1) r
 | 0,_,h=>h.elim
 | _+1,_,h=>λc hc=>rX (h c hc)
theorem Q7:∀ {k:Nat} {r:ι},Deep kid idn k r->dA kid idn (k+1) r=dA kid idn k r
 | 0,_,h=>h.elim
 | k+1,r,h=>by
  show(kid r).flatMap _=(kid r).flatMap _;have:∀l:List ν,(∀c∈l,Deep kid idn k (idn c))->l.flatMap (λc=>c :: dA kid idn (k+1) (idn c))=l.flatMap (λc=>c :: dA kid idn k (idn c)):=by
   intro l;induction l with
   | nil=>intro _;rfl
   | cons c l ih =>
    intro hl;rw[List.flatMap_cons,List.flatMap_cons,Q7 (hl c sI),ih (λd hd=>hl d (by simp[hd]))]
  exact this _ h
theorem sH{k:Nat}{n:ν}{row:List ν}(hn:Deep kid idn k (idn n)):gN kid idn k (n :: row)=n :: gN kid idn k (kid (idn n)++row):=by
 cases k with
 | zero=>exact hn.elim
 | succ k =>
  unfold gN;rw[List.flatMap_cons,List.flatMap_append,List.cons_append];congr 2
  show(kid (idn n)).flatMap _=_;have h2:dA kid idn (k+1+1) (idn n)=dA kid idn (k+1) (idn n):=Q7 hn;exact h2.symm
theorem XF{k:Nat}{n:ν}(hn:Deep kid idn k (idn n)):∀c∈kid (idn n),Deep kid idn k (idn c):=by
 cases k with
 | zero=>exact hn.elim
 | succ k=>exact λc hc=>rX (hn c hc)
inductive K7(kid:ι->List ν)(idn:ν->ι)(z:ι):List ι->Prop
 | root:K7 kid idn z [z]
 | step {r:ι} {p:List ι} {c:ν} (h:K7 kid idn z (r :: p)) (hc:c∈kid r):K7 kid idn z (idn c :: r :: p)
theorem BC(hid:∀a∈N,∀b∈N,idn a=idn b->a=b)(hk:∀r,∀c∈kid r,c∈N/\refn c=r)(hz:∀a∈N,idn a≠z){q:List ι}(h:K7 kid idn z q){c:ν}(hc:c∈N)(hm:idn c∈q) :
  ∃s t,q=s++idn c :: refn c :: t:=by
 induction h with
 | root=>simp at hm;exact absurd hm (hz c hc)
 | @step r p d h hd ih =>
  by_cases e:idn c=idn d
  ·obtain⟨g,f⟩:=hk _ _ hd;have:=hid c hc d g e;subst this;exact⟨[],p,by simp[f]⟩
  ·rcases List.mem_cons.1 hm with h1 | h1
   ·exact absurd h1 e
   ·obtain⟨s,t,hq⟩:=ih h1;exact⟨idn d :: s,t,by rw[hq];rfl⟩
theorem BD(hid:∀a∈N,∀b∈N,idn a=idn b->a=b)(hk:∀r,∀c∈kid r,c∈N/\refn c=r)(hz:∀a∈N,idn a≠z){q:List ι}(h:K7 kid idn z q):q.Nodup:=by
 induction h with
 | root=>simp
 | @step r p d h hd ih =>
  refine List.nodup_cons.2 ⟨λhm=>?_,ih⟩;obtain⟨g,f⟩:=hk _ _ hd;obtain⟨s,t,hq⟩:=BC hid hk hz h g hm;rw[f]at hq;rw[hq]at ih;cases s with
  | nil =>
   simp only[List.nil_append]at ih hq;injection hq with h1 h2
   rw[<-h1]at ih;simp at ih
  | cons a s =>
   injection hq with h1 h2
   rw[<-h1]at ih;simp at ih
theorem path_sub(hk:∀r,∀c∈kid r,c∈N/\refn c=r){q:List ι}(h:K7 kid idn z q):∀x∈q,x∈z :: N.map idn:=by
 induction h with
 | root=>simp
 | @step r p d h hd ih =>
  intro x hx;rcases List.mem_cons.1 hx with e | hx
  ·subst e;exact List.mem_cons.2 (.inr (List.mem_map.2 ⟨d,(hk _ _ hd).1,rfl⟩))
  ·exact ih x hx
theorem i8{α:Type}:∀ {S M:List α},S.Nodup->(∀x∈S,x∈M)->S.length<=M.length
 | [],M,_,_=>zL
 | x :: S,M,hn,hs=>by
  classical
  obtain⟨h1,h2⟩:=List.nodup_cons.1 hn;have:=i8 (M:=M.erase x) h2 (λy hy=>(List.mem_erase_of_ne (λe=>h1 (by rw[<-e];exact hy))).2 (hs y (by simp[hy])));rw[List.length_erase_of_mem (hs x sI)]at this;have h3:=List.length_pos_of_mem (hs x sI);simp only[List.length_cons];omega
theorem XE(hid:∀a∈N,∀b∈N,idn a=idn b->a=b)(hk:∀r,∀c∈kid r,c∈N/\refn c=r)(hz:∀a∈N,idn a≠z) :
  ∀(f:Nat) (r:ι) (p:List ι),K7 kid idn z (r :: p)->N.length+1<f+(r :: p).length->Deep kid idn f r
 | 0,r,p,h,hf=>by
  have:=i8 (BD hid hk hz h) (path_sub hk h);simp only[List.length_cons,List.length_map]at this hf;omega
 | f+1,r,p,h,hf=>λc hc=>XE hid hk hz f _ _ (h.step hc) (by simp only[List.length_cons]at hf |-;omega)
theorem ve(hid:∀a∈N,∀b∈N,idn a=idn b->a=b)(hk:∀r,∀c∈kid r,c∈N/\refn c=r)(hz:∀a∈N,idn a≠z):Deep kid idn (N.length+1) z :=
 XE hid hk hz _ z [] K7.root sI
theorem JL{k:Nat}(h:Deep kid idn k z):dA kid idn k z=gN kid idn k (kid z):=by
 rw[<-Q7 h];rfl
theorem Q8{k:Nat}{r:ι}(h:Deep kid idn k r):∀j,dA kid idn (k+j) r=dA kid idn k r/\Deep kid idn (k+j) r
 | 0=>⟨rfl,h⟩
 | j+1=>by
  obtain⟨h1,h2⟩:=Q8 h j;exact⟨(Q7 h2).trans h1,rX h2⟩
theorem pre_any{k m:Nat}{r:ι}(h:Deep kid idn k r)(h':Deep kid idn m r):dA kid idn k r=dA kid idn m r:=by
 rw[<-(Q8 h m).1,Nat.add_comm,(Q8 h' k).1]
structure tI(N:List ν)(idn:ν->ι)(refn:ν->ι)(z:ι)(out row:List ν):Prop where
 nodup:(out++row).Nodup
 sub:∀x∈out++row,x∈N
 par:∀x∈out++row,refn x=z\/∃y∈out,idn y=refn x
theorem tI.step(hid:∀a∈N,∀b∈N,idn a=idn b->a=b)(hk:∀r,∀c∈kid r,c∈N/\refn c=r)(hz:∀a∈N,idn a≠z)(k:∀r,(kid r).Nodup){out row:List ν}{n:ν}(h:tI N idn refn z out (n :: row)) :
  tI N idn refn z (out ++ [n]) (kid (idn n)++row):=by
 have g:n∈N:=h.sub n sI;have j:n∉out:=λhm=>by
  have:=h.nodup;rw[List.nodup_append]at this;exact this.2.2 n hm n sI rfl
 have d:∀x∈kid (idn n),x∉out++n :: row:=by
  intro x hx hm;obtain⟨m,f⟩:=hk _ x hx;rcases h.par x hm with e | ⟨y,hy,e⟩
  ·exact hz n g (f.symm.trans e)
  ·rw[f]at e;have:=hid y (h.sub y (List.mem_append.2 (.inl hy))) n g e;subst this;exact j hy
 have hp:(out ++ [n]++(kid (idn n)++row)).Perm (kid (idn n)++(out++n :: row)):=by
  have:out ++ [n]++(kid (idn n)++row)=(out ++ [n])++kid (idn n)++row:=sI;rw[this];have e2:kid (idn n)++(out++n :: row)=kid (idn n)++(out ++ [n])++row:=sI;rw[e2];exact List.Perm.append_right _ List.perm_append_comm
 refine⟨hp.nodup_iff.2 ?_,λx hx=>?_,λx hx=>?_⟩
 ·rw[List.nodup_append];exact⟨k _,h.nodup,λa ha b hb e=>by subst e;exact d a ha hb⟩
 ·rcases List.mem_append.1 (hp.mem_iff.1 hx)with hx | hx
  ·exact(hk _ x hx).1
  ·exact h.sub x hx
 ·rcases List.mem_append.1 (hp.mem_iff.1 hx)with hx | hx
  ·exact .inr ⟨n,sI,(hk _ x hx).2.symm⟩
  ·rcases h.par x hx with e | ⟨y,hy,e⟩
   ·exact .inl e
   ·exact .inr ⟨y,by simp[hy],e⟩
theorem tI.all(hid:∀a∈N,∀b∈N,idn a=idn b->a=b)(hk:∀r,∀c∈kid r,c∈N/\refn c=r)(hz:∀a∈N,idn a≠z)(d:∀r,(kid r).Nodup){k:Nat} :
  ∀(m:Nat) {out row:List ν},tI N idn refn z out row->(∀c∈row,Deep kid idn k (idn c))->(gN kid idn k row).length=m->(out++gN kid idn k row).Nodup/\∀x∈out++gN kid idn k row,x∈N
 | m,out,[],h,_,_=>⟨by simpa[gN]using h.nodup,λx hx=>h.sub x (by simpa[gN]using hx)⟩
 | 0,out,n :: row,h,hd,hm=>by rw[sH (hd n sI)]at hm;simp at hm
 | m+1,out,n :: row,h,hd,hm=>by
  have hn:=hd n sI;rw[sH hn]at hm |-;have:=tI.all hid hk hz d m (h.step hid hk hz d) (λc hc=>by
   rcases List.mem_append.1 hc with hc | hc
   ·exact XF hn c hc
   ·exact hd c (by simp[hc])) (by simpa using hm)
  simpa using this
theorem tI.root(hk:∀r,∀c∈kid r,c∈N/\refn c=r)(d:∀r,(kid r).Nodup):tI N idn refn z [] (kid z) :=
 ⟨by simpa using d z,λx hx=>(hk z x (by simpa using hx)).1,λx hx=>.inl (hk z x (by simpa using hx)).2⟩
theorem qr(hid:∀a∈N,∀b∈N,idn a=idn b->a=b)(hk:∀r,∀c∈kid r,c∈N/\refn c=r)(hz:∀a∈N,idn a≠z)(d:∀r,(kid r).Nodup){k:Nat}(h:Deep kid idn k z) :
  (dA kid idn k z).Nodup/\∀x∈dA kid idn k z,x∈N:=by
 have hd:∀c∈kid z,Deep kid idn k (idn c):=by
  cases k with
  | zero=>exact h.elim
  | succ k=>exact λc hc=>rX (h c hc)
 have:=tI.all hid hk hz d _ (tI.root (z:=z) (refn:=refn) (idn:=idn) hk d) hd rfl;rw[JL h];simpa using this
end
end
structure zO where
 id:zE
 h:Int
 ref:zE
 val:ByteArray
theorem zO.ext'{a b:zO}(h1:a.id=b.id)(h2:a.h=b.h)(h3:a.ref=b.ref)(h4:a.val=b.val):a=b:=by cases a;cases b;simp_all
theorem totI:jH lQ where
 zero a b:=by unfold lQ;constructor <;> intro h <;> (repeat' split at *) <;> omega
 anti a b:=by unfold lQ;(repeat' split) <;> omega
 trans a b d:=by unfold lQ;(repeat' split) <;> omega
theorem jH.rev{α:Type}{c:α->α->Int}(T:jH c):jH (λa b=>c b a) where
 zero a b:=by rw[T.zero];exact⟨Eq.symm,Eq.symm⟩
 anti a b:=T.anti _ _
 trans a b d h1 h2:=T.trans _ _ _ h2 h1
def fO(a b:zO):Int:=orC (lQ b.h a.h) (orC (zI b.id a.id) (orC (zI a.ref b.ref) (xY a.val b.val)))
theorem XT:jH fO :=
 jH.of (c:=fun (x y:Int×(zE×(zE×ByteArray)))=>orC (lQ y.1 x.1) (orC (zI y.2.1 x.2.1) (orC (zI x.2.2.1 y.2.2.1) (xY x.2.2.2 y.2.2.2))))
  (jH.pair (c:=λa b=>lQ b a) totI.rev (jH.pair (c:=λa b=>zI b a) q6.rev (jH.pair q6 sA))) (λn=>(n.h,n.id,n.ref,n.val))
  (λx y h=>by simp only[Prod.mk.injEq]at h;exact zO.ext' h.2.1 h.1 h.2.2.1 h.2.2.2) (λ_ _=>rfl)
def tY(a b:zO):Int:=orC (zI a.id b.id) (orC (lQ a.h b.h) (orC (zI a.ref b.ref) (xY a.val b.val)))
theorem eH:jH tY :=
 jH.of (c:=fun (x y:zE×(Int×(zE×ByteArray)))=>orC (zI x.1 y.1) (orC (lQ x.2.1 y.2.1) (orC (zI x.2.2.1 y.2.2.1) (xY x.2.2.2 y.2.2.2))))
  (jH.pair q6 (jH.pair totI (jH.pair q6 sA))) (λn=>(n.id,n.h,n.ref,n.val))
  (λx y h=>by simp only[Prod.mk.injEq]at h;exact zO.ext' h.1 h.2.1 h.2.2.1 h.2.2.2) (λ_ _=>rfl)
def mT(ah:Int)(a:zE)(bh:Int)(b:zE):Bool:=if ah=bh then decide (zI a b<0)else decide (ah<bh)
def s7(N:List zO):Prop:=∀a∈N,∀b∈N,a.id=b.id->a=b
theorem aZ{a b:zO}(h:a.id≠b.id):decide (fO b a<0)=mT a.h a.id b.h b.id:=by
 have hid:zI a.id b.id≠0:=λe=>h ((kT _ _).1 e);unfold fO mT orC lQ;by_cases e:a.h=b.h
 ·rw[if_pos (by rw[if_neg oM,if_neg oM]),if_neg hid,if_pos e]
 ·rw[if_neg e];rw[if_neg (by(repeat' split) <;> omega)];by_cases h1:a.h<b.h
  ·rw[if_pos h1];simp[h1]
  ·rw[if_neg h1,if_pos oM];simp[h1]
def qF(N:List zO)(r:zE):List zO:=yB fO (N.filter λn=>decide (n.ref=r))
theorem wI{N:List zO}{r:zE}{n:zO}:n∈qF N r↔n∈N/\n.ref=r:=by unfold qF;rw[qE XT];simp
theorem mB(N:List zO)(r:zE):Ris fO (qF N r):=xJ XT _
theorem aC{N M:List zO}(h:∀n,n∈N↔n∈M)(r:zE):qF N r=qF M r:=m8 XT λz=>by simp[h]
theorem jo(N:List zO)(n:zO)(r:zE):qF (n :: N) r=if n.ref=r then xS fO (qF N r) n else qF N r:=by
 refine bL XT (mB _ _) ?_ λz=>?_
 ·split
  ·exact vA XT (mB _ _)
  ·exact mB _ _
 ·rw[wI,List.mem_cons];split
  ·rename_i e
   rw[qN XT,wI];constructor
   ·rintro⟨h1 | h1,h2⟩
    ·exact .inl h1
    ·exact .inr ⟨h1,h2⟩
   ·rintro(h1 | ⟨h1,h2⟩)
    ·subst h1;exact⟨.inl rfl,e⟩
    ·exact⟨.inr h1,h2⟩
  ·rename_i e
   rw[wI];constructor
   ·rintro⟨h1 | h1,h2⟩
    ·subst h1;exact absurd h2 e
    ·exact⟨h1,h2⟩
   ·rintro⟨h1,h2⟩;exact⟨.inr h1,h2⟩
theorem gU(N:List zO)(r:zE):(qF N r).length<=N.length:=by
 unfold qF;exact Nat.le_trans (xF _) (List.length_filter_le _ _)
def jJ(N:List zO):List zO:=dA (qF N) zO.id (N.length+1) id0
def gB(N:List zO):Prop:=s7 N/\∀a∈N,a.id≠id0
theorem gB.deep{N:List zO}(h:gB N):Deep (qF N) zO.id (N.length+1) id0 :=
 ve (N:=N) (refn:=zO.ref) h.1 (λ_ _ hc=>wI.1 hc) h.2
theorem kids_fun{N M:List zO}(h:∀n,n∈N↔n∈M):qF N=qF M:=funext λr=>aC h r
theorem gB.congr{N M:List zO}(h:∀n,n∈N↔n∈M)(f:gB N):gB M :=
 ⟨λa ha b hb e=>f.1 a ((h a).2 ha) b ((h b).2 hb) e,λa ha=>f.2 a ((h a).2 ha)⟩
theorem Q9{N M:List zO}(h:∀n,n∈N↔n∈M)(f:gB N):jJ N=jJ M:=by
 unfold jJ;have h1:=f.deep;have h2:=(f.congr h).deep;rw[kids_fun h]at h1 |-;exact pre_any h1 h2
theorem lL{N:List zO}(f:gB N):(jJ N).Nodup/\∀x∈jJ N,x∈N :=
 qr (refn:=zO.ref) f.1 (λ_ _ hc=>wI.1 hc) f.2 (λr=>(mB N r).nodup XT) f.deep
theorem bG{N:List zO}(f:gB N):(jJ N).length<=N.length:=i8 (lL f).1 (lL f).2
def d8(N:List zO)(G:List zE):List ByteArray:=((jJ N).filter λn=>decide (n.id∉G)).map zO.val
def qX(n:zO):Int:=if 16<n.val.size then 3 else if n.h<1\/1073741824<n.h\/n.id=id0 then 5 else 0
def mJ(N:List zO)(n:zO):List zO:=if qX n=0 then(if n.id∈N.map zO.id then N else xS tY N n)else N
structure jZ(N:List zO):Prop where
 ris:Ris tY N
 one:s7 N
 ok:∀n∈N,qX n=0
theorem gQ{n:zO}(h:qX n=0):n.id≠id0/\n.val.size<=16/\1<=n.h/\n.h<=1073741824:=by
 unfold qX at h;split at h
 ·cases h
 ·split at h
  ·cases h
  ·rename_i h1 h2
   refine⟨λe=>h2 (.inr (.inr e)),oM,?_,?_⟩
   ·exact Classical.byContradiction λhh=>h2 (.inl oM)
   ·exact Classical.byContradiction λhh=>h2 (.inr (.inl oM))
theorem jZ.forest{N:List zO}(h:jZ N):gB N:=⟨h.one,λa ha=>(gQ (h.ok a ha)).1⟩
theorem jZ.nil:jZ []:=⟨Ris.nil,λa ha=>by simp at ha,sI⟩
theorem jZ.ins{N:List zO}(h:jZ N)(n:zO):jZ (mJ N n):=by
 unfold mJ;split
 ·rename_i hE
  split
  ·exact h
  ·rename_i hn
   have f:∀a∈N,a.id≠n.id:=λa ha e=>hn (List.mem_map.2 ⟨a,ha,e⟩);refine⟨vA eH h.ris,λa ha b hb e=>?_,λa ha=>?_⟩
   ·rcases (qN eH).1 ha with ha1 | ha1 <;> rcases (qN eH).1 hb with d | d
    ·rw[ha1,d]
    ·rw[ha1]at e;exact absurd e.symm (f b d)
    ·rw[d]at e;exact absurd e (f a ha1)
    ·exact h.one a ha1 b d e
   ·rcases (qN eH).1 ha with ha | ha
    ·rw[ha];exact hE
    ·exact h.ok a ha
 ·exact h
section
open Go.RowKit
def sM{α:Type}:List α->Nat->Option α
 | [],_=>none
 | x :: _,0=>some x
 | _ :: l,i+1=>sM l i
theorem zv{α:Type}:∀(l:List α) (i:Nat),sM l i=l[i]?
 | [],_=>rfl
 | _ :: _,0=>rfl
 | _ :: l,i+1=>by simpa[sM]using zv l i
theorem mE{ops:Array Oper}{i:Nat}{o:Oper}(h:sM ops.toList i=some o):ops[i]?=some o:=by
 rw[zv]at h;simpa using h
inductive xQ where
 | done:xQ
 | loose (i:Nat) (n:xQ):xQ
 | one (i:Nat) (n:xQ):xQ
 | two (i:Nat) (n:xQ) (j:Nat) (m:xQ):xQ
 | three (i:Nat) (n:xQ) (j:Nat) (m:xQ) (k:Nat) (l:xQ):xQ
def xQ.depth:xQ->Nat
 | .done=>0
 | .loose _ n=>n.depth+1
 | .one _ n=>n.depth+1
 | .two _ n _ m=>max n.depth m.depth+1
 | .three _ n _ m _ l=>max (max n.depth m.depth) l.depth+1
def xQ.ok(md:Region.Mode)(ops:Array Oper):xQ->Array Bool->Bool
 | .done,listed=>(Region.ready md ops listed).isEmpty
 | .loose i n,listed=>(Region.ready md ops listed).contains i&&Region.free md ops listed i&&n.ok md ops (listed.setIfInBounds i true)
 | .one i n,listed=>(Region.ready md ops listed == [i])&&n.ok md ops (listed.setIfInBounds i true)
 | .two i n j m,listed=>(Region.ready md ops listed == [i,j])&&n.ok md ops (listed.setIfInBounds i true)&&m.ok md ops (listed.setIfInBounds j true)
 | .three i n j m k l,listed=>(Region.ready md ops listed == [i,j,k])&&n.ok md ops (listed.setIfInBounds i true)&&m.ok md ops (listed.setIfInBounds j true)&&l.ok md ops (listed.setIfInBounds k true)
def k6(md:Region.Mode)(cv:Bool)(ops:Array Oper)(skip:List Nat):Nat->Array Bool->xQ
 | 0,_=>.done
 | f+1,listed =>
  match (Region.ready md ops listed).find? (λi=>(!jP cv ops i||skip.contains i)&&Region.free md ops listed i)with
  | some i=>.loose i (k6 md cv ops skip f (listed.setIfInBounds i true))
  | none =>
   match Region.ready md ops listed with
   | [i]=>.one i (k6 md cv ops skip f (listed.setIfInBounds i true))
   | [i,j]=>.two i (k6 md cv ops skip f (listed.setIfInBounds i true)) j (k6 md cv ops skip f (listed.setIfInBounds j true))
   | [i,j,k]=>.three i (k6 md cv ops skip f (listed.setIfInBounds i true)) j (k6 md cv ops skip f (listed.setIfInBounds j true)) k (k6 md cv ops skip f (listed.setIfInBounds k true))
   | _=>.done
section
variable {P:Program} {ops:Array Oper} {md:Region.Mode} {S:World->Prop} {cv fb:Bool}
def fF(P:Program)(ops:Array Oper)(S:World->Prop)(cv fb:Bool)(i:Nat)(K:Act->World->Prop)(a:Act)(w:World):Prop :=
 match ops[i]? with
 | none=>False
 | some o=>if Region.wanted o (yielded ops a.tmps)then yO cv o=true/\qI P (cls ops S fb i) (λv w'=>K (a.put o.dst v) w') ((execOp a.eval o).run P w)else K (a.put o.dst undef) w
def gI(P:Program)(ops:Array Oper)(S:World->Prop)(cv fb:Bool)(Q:Act->World->Prop):xQ->Act->World->Prop
 | .done,a,w=>Q a w
 | .loose i n,a,w =>
  match ops[i]? with
  | none=>False
  | some o=>if Region.wanted o (yielded ops a.tmps)then yO cv o=false/\∃v,(∀w',S w'->jU w' v ((execOp a.eval o).run P w'))/\gI P ops S cv fb Q n (a.put o.dst v) w else gI P ops S cv fb Q n (a.put o.dst undef) w
 | .one i n,a,w=>fF P ops S cv fb i (gI P ops S cv fb Q n) a w
 | .two i n j m,a,w=>fF P ops S cv fb i (gI P ops S cv fb Q n) a w/\fF P ops S cv fb j (gI P ops S cv fb Q m) a w
 | .three i n j m k l,a,w=>fF P ops S cv fb i (gI P ops S cv fb Q n) a w/\fF P ops S cv fb j (gI P ops S cv fb Q m) a w/\fF P ops S cv fb k (gI P ops S cv fb Q l) a w
theorem tN{i:Nat}{K K':Act->World->Prop}{a:Act}{w:World}(hS:S w)(hk:∀a w,cls ops S fb i w->K a w->K' a w)(h:fF P ops S cv fb i K a w):lxOp P ops S cv fb i K' a w:=by
 unfold fF at h;unfold lxOp;split at h
 ·exact h.elim
 ·rename_i o ho
  simp only[ho];split at h
  ·rename_i hw
   rw[if_pos hw,if_pos h.1];exact gE (λv w' hs d=>hk _ _ hs d) h.2
  ·rename_i hw
   rw[if_neg hw];exact hk _ _ (.inl hS) h
theorem c8{Q:Act->World->Prop}(hs:Region.noSelect ops=true):∀(T:xQ) (r:Nat) (d:Array Bool) (a:Act) (w:World),kI md ops fb d->(S w\/(fb=true/\Region.ready md ops d = [])) ->
  T.ok md ops d=true->T.depth<=r->gI P ops S cv fb Q T a w->d7 P md ops S cv fb Q r d a w:=by
 have after:∀ {i:Nat} {d:Array Bool} {w':World},kI md ops fb d->i∈Region.ready md ops d->cls ops S fb i w'->S w'\/(fb=true/\Region.ready md ops (d.setIfInBounds i true) = []):=by
  intro i d w' hI hi hc;rcases hc with hc | ⟨G,he⟩
  ·exact .inl hc
  ·right
   refine⟨G,?_⟩;rcases ((hI.set hi).inv G).2 with h1 | h1
   ·exfalso
    have:=h1.tail i oM oM;have H:i<(d.setIfInBounds i true).size:=by rw[h1.size];omega
    have D:i<d.size:=by simpa using H
    simp[D]at this
   ·exact h1
 have g:∀ {i:Nat} {d:Array Bool} {w:World},i∈Region.ready md ops d->(S w\/(fb=true/\Region.ready md ops d = []))->S w:=by
  intro i d w hi h;rcases h with h | ⟨_,h⟩
  ·exact h
  ·rw[h]at hi;cases hi
 intro T;induction T with
 | done =>
  intro r d a w _ _ t _ h;have h0:Region.ready md ops d = []:=by simpa[xQ.ok]using t
  cases r with
  | zero=>exact⟨h0,h⟩
  | succ f=>exact⟨λ_=>h,λi hi=>by rw[h0]at hi;cases hi⟩
 | loose i n ih =>
  intro r d a w hI A t hd h;simp only[xQ.ok,Bool.and_eq_true]at t;obtain⟨⟨hr,hf⟩,hn⟩:=t;have y:i∈Region.ready md ops d:=by simpa using hr
  have hS:=g y A;cases r with
  | zero=>simp[xQ.depth]at hd
  | succ f =>
   have B:n.depth<=f:=by simp[xQ.depth]at hd;omega
   unfold gI at h;split at h
   ·exact h.elim
   ·rename_i o ho
    split at h
    ·rename_i hw
     obtain⟨hc,v,hv,hk⟩:=h;exact gF ho (Region.noSelect_spec hs) f d a w hI hS (Region.free_spec ho hf) y (.inl ⟨hw,hc,hv⟩) (ih f _ _ w (hI.set y) (.inl hS) hn B hk)
    ·rename_i hw
     exact gF ho (Region.noSelect_spec hs) f d a w hI hS (Region.free_spec ho hf) y (.inr ⟨by simpa using hw,rfl⟩) (ih f _ _ w (hI.set y) (.inl hS) hn B h)
 | one i n ih =>
  intro r d a w hI A t hd h;simp only[xQ.ok,Bool.and_eq_true,beq_iff_eq]at t;obtain⟨hr,hn⟩:=t;have y:i∈Region.ready md ops d:=by rw[hr];simp
  have hS:=g y A;cases r with
  | zero=>simp[xQ.depth]at hd
  | succ f =>
   have B:n.depth<=f:=by simp[xQ.depth]at hd;omega
   refine⟨λh0=>(by rw[hr]at h0;cases h0),λx hx=>?_⟩;have s:=hx;rw[hr]at s;obtain rfl:x=i:=by simpa using s
   exact tN hS (λa' w' hc hk=>ih f _ a' w' (hI.set hx) (after hI hx hc) hn B hk) h
 | two i n j m ih1 ih2 =>
  intro r d a w hI A t hd h;simp only[xQ.ok,Bool.and_eq_true,beq_iff_eq]at t;obtain⟨⟨hr,hn⟩,hm⟩:=t;have hS:=g (i:=i) (by rw[hr];simp) A;cases r with
  | zero=>simp[xQ.depth]at hd
  | succ f =>
   have F:n.depth<=f:=by simp[xQ.depth]at hd;omega
   have E:m.depth<=f:=by simp[xQ.depth]at hd;omega
   refine⟨λh0=>(by rw[hr]at h0;cases h0),λx hx=>?_⟩;have s:=hx;rw[hr]at s;rcases List.mem_cons.1 s with rfl | s
   ·exact tN hS (λa' w' hc hk=>ih1 f _ a' w' (hI.set hx) (after hI hx hc) hn F hk) h.1
   ·obtain rfl:x=j:=by simpa using s
    exact tN hS (λa' w' hc hk=>ih2 f _ a' w' (hI.set hx) (after hI hx hc) hm E hk) h.2
 | three i n j m k l ih1 ih2 ih3 =>
  intro r d a w hI A t hd h;simp only[xQ.ok,Bool.and_eq_true,beq_iff_eq]at t;obtain⟨⟨⟨hr,hn⟩,hm⟩,hl⟩:=t;have hS:=g (i:=i) (by rw[hr];simp) A;cases r with
  | zero=>simp[xQ.depth]at hd
  | succ f =>
   have F:n.depth<=f:=by simp[xQ.depth]at hd;omega
   have E:m.depth<=f:=by simp[xQ.depth]at hd;omega
   have I:l.depth<=f:=by simp[xQ.depth]at hd;omega
   refine⟨λh0=>(by rw[hr]at h0;cases h0),λx hx=>?_⟩;have s:=hx;rw[hr]at s;rcases List.mem_cons.1 s with rfl | s
   ·exact tN hS (λa' w' hc hk=>ih1 f _ a' w' (hI.set hx) (after hI hx hc) hn F hk) h.1
   ·rcases List.mem_cons.1 s with rfl | s
    ·exact tN hS (λa' w' hc hk=>ih2 f _ a' w' (hI.set hx) (after hI hx hc) hm E hk) h.2.1
    ·obtain rfl:x=k:=by simpa using s
     exact tN hS (λa' w' hc hk=>ih3 f _ a' w' (hI.set hx) (after hI hx hc) hl I hk) h.2.2
structure tK(P:Program)(ops:Array Oper)(S:World->Prop)(cv fb:Bool)(Q:Act->World->Prop)(T:xQ)(a:Act)(w:World):Prop where
 out:gI P ops S cv fb Q T a w
theorem v9{id:Nat}{Q:Exit->Act->World->Prop}{a:Act}{w:World}{ops:Array Oper}(T:xQ)(S:World->Prop)(cv:Bool)(hm:P.follows .mixedOrders=true)(hs:Region.noSelect ops=true)(hT:T.ok .any ops (Array.replicate ops.size false)=true)(hd:Nat.ble T.depth ops.size=true)(hS:S w.drew)
  (h:tK P ops S cv false (λa' w'=>S w'->Q .normal a' w') T a w.drew):(Code.region id ops true).wp P Q a w:=by
 have hI:kI .any ops false (Array.replicate ops.size false):=⟨sI⟩
 exact wp_region_any hm (dT (S:=S) (cv:=cv) (fb:=false) (Q:=λa' w'=>S w'->Q .normal a' w') (λ_ w' d h=>h (d.elim (λh=>h) sI)) _ _ _ _ hI (.inl hS)
  (c8 (md:=.any) hs T _ _ a w.drew hI (.inl hS) hT (Nat.le_of_ble_eq_true hd) h.out))
theorem d6{id:Nat}{Q:Exit->Act->World->Prop}{a:Act}{w:World}{ops:Array Oper}(T:xQ)(S:World->Prop)(cv:Bool)(hm:P.follows .mixedOrders=true)(hs:Region.noSelect ops=true)(hT:T.ok .any ops (Array.replicate ops.size false)=true)(hd:Nat.ble T.depth ops.size=true)(hE:VS .any ops=true)(hS:S w.drew)
  (h:tK P ops S cv true (λa' w'=>Q .normal a' w') T a w.drew):(Code.region id ops true).wp P Q a w:=by
 have hI:kI .any ops true (Array.replicate ops.size false):=⟨λ_=>⟨hE,.inl ⟨sI,λj oj _ hj=>(by rw[getD_replicate_false]at hj;cases hj),λt ht d=>by simp[d]⟩⟩⟩
 exact wp_region_any hm (dT (S:=S) (cv:=cv) (fb:=true) (Q:=λa' w'=>Q .normal a' w') (λ_ w' _ h=>h) _ _ _ _ hI (.inl hS)
  (c8 (md:=.any) hs T _ _ a w.drew hI (.inl hS) hT (Nat.le_of_ble_eq_true hd) h.out))
variable {Q:Act->World->Prop} {a:Act} {w:World} {o:Oper} {i j k:Nat} {n m l:xQ}
theorem fS(h:Q a w):tK P ops S cv fb Q .done a w:=⟨h⟩
theorem KJ(d:sM ops.toList i=some o)(hc:yO cv o=false)
  (h:∀K:Act->Prop,(∀a,tK P ops S cv fb Q n a w->K a)->if Region.wanted o (yielded ops a.tmps)then(∃v,(∀x:Subtype S,jU x.1 v ((execOp a.eval o).run P x.1))/\K (a.put o.dst v))else K (a.put o.dst undef)):tK P ops S cv fb Q (.loose i n) a w:=by
 have ho:=mE d;have:=h _ (λ_ h=>h);refine⟨?_⟩;unfold gI;simp only[ho];split
 ·rename_i hw
  rw[if_pos hw]at this;obtain⟨v,hv,hk⟩:=this;exact⟨hc,v,λw' hs=>hv ⟨w',hs⟩,hk.out⟩
 ·rename_i hw;rw[if_neg hw]at this;exact this.out
theorem kf(hS:S w)(d:sM ops.toList i=some o)(hc:yO cv o=true)
  (h:∀K:Act->World->Prop,(∀a w,tK P ops S cv fb Q n a w->K a w)->if Region.wanted o (yielded ops a.tmps)then qI P S (λv w'=>K (a.put o.dst v) w') ((execOp a.eval o).run P w)else K (a.put o.dst undef) w):tK P ops S cv fb Q (.one i n) a w:=by
 have ho:=mE d;have:=h _ (λ_ _ h=>h);refine⟨?_⟩;unfold gI fF;simp only[ho];split
 ·rename_i hw;rw[if_pos hw]at this;exact⟨hc,kC (λ_ h=>.inl h) (λ_ _ _ h=>h.out) this⟩
 ·rename_i hw;rw[if_neg hw]at this;exact this.out
theorem tJ(h1:tK P ops S cv fb Q (.one i n) a w)(h2:tK P ops S cv fb Q (.one j m) a w):tK P ops S cv fb Q (.two i n j m) a w:=⟨⟨h1.out,h2.out⟩⟩
theorem fE(d:sM ops.toList i=some o)(hc:yO cv o=true)(hi:(i+1==ops.size)=true)
  (h:∀K:Act->World->Prop,(∀a w,Q a w->K a w)->if Region.wanted o (yielded ops a.tmps)then qI P (λ_=>True) (λv w'=>K (a.put o.dst v) w') ((execOp a.eval o).run P w)else K (a.put o.dst undef) w):tK P ops S cv true Q (.one i .done) a w:=by
 have ho:=mE d;have:=h _ (λ_ _ h=>h);refine⟨?_⟩;unfold gI fF;simp only[ho];split
 ·rename_i hw;rw[if_pos hw]at this;exact⟨hc,kC (λ_ _=>.inr ⟨rfl,beq_iff_eq.1 hi⟩) (λ_ _ _ h=>h) this⟩
 ·rename_i hw;rw[if_neg hw]at this;exact this
end
end
section
open Go.RowKit
section
variable {P:Program} {ops:Array Oper} {S:World->Prop} {cv fb:Bool} {Q:Act->World->Prop} {a:Act} {w:World} {o:Oper} {i:Nat} {n:xQ}
theorem wpTz(hc:yO cv o=false)(h:∀K:Act->Prop,(∀a,tK P ops S cv fb Q n a w->K a)->if Region.wanted o (yielded ops a.tmps)then(∃v,(∀x:Subtype S,jU x.1 v ((execOp a.eval o).run P x.1))/\K (a.put o.dst v))else K (a.put o.dst undef))(ho:sM ops.toList i=some o:=by rfl):tK P ops S cv fb Q (.loose i n) a w:=KJ ho hc h
theorem wpTh(hS:S w)(hc:yO cv o=true)(h:∀K:Act->World->Prop,(∀a w,tK P ops S cv fb Q n a w->K a w)->if Region.wanted o (yielded ops a.tmps)then qI P S (λv w'=>K (a.put o.dst v) w') ((execOp a.eval o).run P w)else K (a.put o.dst undef) w)(ho:sM ops.toList i=some o:=by rfl):tK P ops S cv fb Q (.one i n) a w:=kf hS ho hc h
end
theorem tZ{P Q:Prop}(q:Q)(h:zT Q->P:=by intro z;(repeat(refine wpTz ?_ ?_;(focus(simp only[yO];done));intro K hK;go_simp;refine hK _ ?_;clear hK K));exact z.out):P:=h ⟨q⟩
theorem tH{P Q:Prop}(q:Q)(h:zT Q->P:=by intro z;refine wpTh hS ?_ ?_;(focus(simp only[yO];done));intro K hK;go_simp;revert K hK;exact z.out):P:=h ⟨q⟩
end
section
open Go.RowKit
def slS(T:TypeId)(x:Value)(lo hi mx:Option Value):Sem Value:=Instr.sliceAt T x lo hi mx
section
variable {P:Program} {T E:TypeId} {k bytes:Nat}
theorem xH.sizeOf_run(I:xH P T E k bytes)(w:World):(Go.sizeOf E).run P w=.ok k w:=by
 obtain⟨i,z,hi,hz,d,g,f⟩:=I.info;simp[Go.sizeOf,typeInfo,hi,d]
theorem bX(w:World)(m cap:Nat)(hm:m<=cap)(c:BoundsCode):(Instr.sliceBound (.int .i64 m) cap c).run P w=.ok m w:=by
 unfold Instr.sliceBound;have h1:(asIntOf (.int .i64 (m:Int))).run P w=.ok (.i64,(m:Int)) w:=rfl;simp only[Sem.run_bind,h1,Result.andThen_ok];rw[if_pos ⟨oM,oM⟩]
 simp
theorem lD(I:xH P T E k bytes)(w:World)(x:Value)(lo hi mx:Option Value):(slS T x lo hi mx).run P w=(Instr.slice T x lo hi mx).run P w:=by
 unfold slS;simp[Instr.sliceAt,run_underlying I.und]
theorem dY(I:xH P T E k bytes)(w:World)(A:Option Addr)(n cap m:Nat)(hm:m<=cap) :
  (slS T (.slice A n cap) none (some (.int .i64 m)) none).run P w=.ok (.slice A m cap) w:=by
 rw[lD I];unfold Instr.slice Instr.sliceBounds;simp only[Sem.run_bind,run_underlying I.und,Result.andThen_ok,Sem.run_pure,bX w m cap hm,I.sizeOf_run w];have e:(if cap=0 then A else A.map λa=>a.add (0*k))=A:=by
  split
  ·rfl
  ·cases A with
   | none=>rfl
   | some a=>simp[Addr.add]
 simp only[Nat.sub_zero,e]
theorem lB(I:xH P T E k bytes)(w:World)(A:Option Addr)(n cap m:Nat)(hm:m<=n)(hc:n<=cap)(hA:A=none->cap=0)(f:∀a,A=some a->a.spot=none) :
  ∃A2 c2,(slS T (.slice A n cap) (some (.int .i64 m)) none none).run P w=.ok (.slice A2 (n-m) c2) w/\(∀(w':World) (L:List (Array Value)),SlR w' A n k L->SlR w' A2 (n-m) k (L.drop m))/\(A2=none->c2=0):=by
 refine⟨if cap=m then A else A.map λa=>a.add (m*k),cap-m,?_,?_,?_⟩
 ·rw[lD I];unfold Instr.slice Instr.sliceBounds;simp only[Sem.run_bind,run_underlying I.und,Result.andThen_ok,Sem.run_pure,bX w m n hm,I.sizeOf_run w,Option.isSome_none,Bool.false_eq_true,if_false]
 ·intro w' L hL;by_cases d:cap=m
  ·have:n-m=0:=oM;rw[this];exact⟨by rw[List.length_drop,hL.1];omega,λh=>absurd h oM⟩
  ·rw[if_neg d];cases A with
   | none=>exact absurd (hA rfl) oM
   | some a =>
    obtain⟨g,o,sp⟩:=a;have:sp=none:=f _ rfl;subst this;have e:(⟨g,o,none⟩:Addr).add (m*k)=⟨g,o+m*k,none⟩:=by unfold Addr.add;split <;> simp_all
    simp only[Option.map_some,e];exact hL.drop_ hm
 ·intro h;by_cases d:cap=m
  ·omega
  ·rw[if_neg d]at h;cases A with
   | none=>have:=hA rfl;omega
   | some a=>cases h
theorem Own.hi(I:xH P T E k bytes){w:World}{B:Nat}{A:Option Addr}{n cap:Nat}{L:List (Array Value)}(h:Own w B E k A n cap L){m:Nat}(hm:m<=n) :
  ∃A2 c2,(∀w0:World,(slS T (.slice A n cap) (some (.int .i64 m)) none none).run P w0=.ok (.slice A2 (n-m) c2) w0)/\(∀w':World,SlR w' A n k L->SlR w' A2 (n-m) k (L.drop m))/\(A2=none->c2=0):=by
 have hA:=h.cap_le;have d:∀a,A=some a->a.spot=none:=λa e=>by
  rcases h.addr with e' | ⟨g,e'⟩
  ·rw[e']at e;cases e
  ·rw[e']at e;injection e with e;rw[<-e]
 obtain⟨A2,c2,h1,h2,h3⟩:=lB (P:=P) I w A n cap m hm hA.1 (λe=>(hA.2 e).2) d;refine⟨A2,c2,λw0=>?_,λw' hw=>h2 w' L hw,h3⟩;obtain⟨A3,c3,k1,_,_⟩:=lB (P:=P) I w0 A n cap m hm hA.1 (λe=>(hA.2 e).2) d;rw[lD I]at h1 k1 |-;unfold Instr.slice Instr.sliceBounds at h1 k1 |-;simp only[Sem.run_bind,run_underlying I.und,Result.andThen_ok,Sem.run_pure,bX _ m n hm,I.sizeOf_run,Option.isSome_none,Bool.false_eq_true,if_false]at h1 |-;injection h1 with h1 _
 rw[h1]
end
theorem dL{P:Program}{ops:Array Oper}{S:World->Prop}{cv fb:Bool}{Q:Act->World->Prop}{a:Act}{w:World}{i:Nat}{nx:xQ}{dst:Option Tmp}{s x:Operand}{ty:TypeId}{pos:String}{after:Array Edge}{T E:TypeId}{k bytes:Nat}(I:xH P T E k bytes)
  (D:sM ops.toList i=some { dst:=dst,op:=.call { callee:=.builtin .append,args:=#[s,x],argTypes:=#[T,T] },type:=ty,pos:=pos,after:=after,guard:=none })
  {B:Nat}{A:Option Addr}{n cap:Nat}{L:List (Array Value)}(hs:a.eval s=.slice A n cap)(t:Own w B E k A n cap L)
  {A2:Option Addr}{m c:Nat}{R:List (Array Value)}(hx:a.eval x=.slice A2 m c)(g:SlR w A2 m k R)(f:A2=none->c=0)(y:∀r∈R,∀u∈r.toList,u.oneCell'=true)(d:(n+m)*bytes<=140737488355328)(hn:n+m<=9223372036854775807)(hB:B<=w.heap.size)
  (h:∀A' cap' w',Own w' B E k A' (n+m) cap' (L++R)->z6 (blk A) w w'->(∀x∈blk A',x∈blk A\/w.heap.size<=x)->S w'/\tK P ops S cv fb Q nx (a.put dst (.slice A' (n+m) cap')) w') :
  tK P ops S cv fb Q (.one i nx) a w:=by
 obtain⟨A',cap',w',j,h1,h2,h3⟩:=eC I t g f y d hn hB ty;obtain⟨k1,k2⟩:=h A' cap' w' h1 h2 h3;have ho:=mE D;refine⟨?_⟩;unfold gI fF;simp only[ho];rw[if_pos (by rfl)];rw[fC a.eval hs hx j];exact⟨rfl,.inl k1,k2.out⟩
theorem b9{P:Program}{ops:Array Oper}{S:World->Prop}{cv fb:Bool}{Q:Act->World->Prop}{a:Act}{w:World}{i:Nat}{nx:xQ}{dst:Option Tmp}{s x:Operand}{ty:TypeId}{pos:String}{after:Array Edge}{T E:TypeId}{k bytes:Nat}(I:xH P T E k bytes)
  (r:sM ops.toList i=some { dst:=dst,op:=.call { callee:=.builtin .append,args:=#[s,x],argTypes:=#[T,T] },type:=ty,pos:=pos,after:=after,guard:=none })
  {B:Nat}{A:Option Addr}{n cap:Nat}{L:List (Array Value)}(hs:a.eval s=.slice A n cap)(j:Own w B E k A n cap L)
  {q o c:Nat}{cs:Array Value}(hx:a.eval x=.slice (some ⟨q,o,none⟩) 1 c)(g:z7 w q o k=some cs)(m:∀u∈cs.toList,u.oneCell'=true)(d:(n+1)*bytes<=140737488355328)(hn:n+1<=9223372036854775807)(hB:B<=w.heap.size)
  (h:∀A' cap' w',Own w' B E k A' (n+1) cap' (L ++ [cs])->z6 (blk A) w w'->(∀x∈blk A',x∈blk A\/w.heap.size<=x)->S w'/\tK P ops S cv fb Q nx (a.put dst (.slice A' (n+1) cap')) w') :
  tK P ops S cv fb Q (.one i nx) a w:=by
 obtain⟨A',cap',w',f,h1,h2,h3⟩:=r0 I j (c:=c) g m d hn hB ty;obtain⟨k1,k2⟩:=h A' cap' w' h1 h2 h3;have ho:=mE r;refine⟨?_⟩;unfold gI fF;simp only[ho];rw[if_pos (by rfl)];rw[fC a.eval hs hx f];exact⟨rfl,.inl k1,k2.out⟩
end
section
open Go.RowKit
structure SlW(w:World)(A:Option Addr)(n cap k:Nat)(L:List (Array Value)):Prop where
 rd:SlR w A n k L
 le:n<=cap
 nil:A=none->cap=0
 plain:∀a,A=some a->a.spot=none
section
variable {P:Program} {T E:TypeId} {k bytes:Nat} {w w':World} {A:Option Addr} {n cap:Nat} {L:List (Array Value)}
theorem SlW.none_:SlW w none 0 0 k []:=⟨SlR.nil_,lR,λ_=>rfl,λa e=>by cases e⟩
theorem SlW.kept{S:List Nat}(h:SlW w A n cap k L)(hk:z6 S w w')(hn:∀x∈blk A,x∉S):SlW w' A n cap k L:=⟨h.rd.kept hk hn,h.le,h.nil,h.plain⟩
theorem SlW.below(h:SlW w A n cap k L)(hb:Below w.heap.size w w'):SlW w' A n cap k L:=⟨h.rd.below hb,h.le,h.nil,h.plain⟩
theorem SlW.len(h:SlW w A n cap k L):L.length=n:=h.rd.1
theorem Own.slw{B:Nat}(h:Own w B E k A n cap L):SlW w A n cap k L:=by
 have hA:=h.cap_le;refine⟨h.slr,hA.1,λe=>(hA.2 e).2,λa e=>?_⟩;rcases h.addr with e' | ⟨g,e'⟩
 ·rw[e']at e;cases e
 ·rw[e']at e;injection e with e;rw[<-e]
theorem SlW.lo(I:xH P T E k bytes)(h:SlW w A n cap k L){m:Nat}(hm:m<=n)(w0:World):(slS T (.slice A n cap) none (some (.int .i64 m)) none).run P w0=.ok (.slice A m cap) w0 :=
 dY I w0 A n cap m (Nat.le_trans hm h.le)
theorem SlW.hi(I:xH P T E k bytes)(h:SlW w A n cap k L){m:Nat}(hm:m<=n) :
  ∃A2 c2,(∀w0:World,(slS T (.slice A n cap) (some (.int .i64 m)) none none).run P w0=.ok (.slice A2 (n-m) c2) w0)/\(∀w':World,SlR w' A n k L->SlR w' A2 (n-m) k (L.drop m))/\(A2=none->c2=0):=by
 obtain⟨A2,c2,h1,h2,h3⟩:=lB (P:=P) I w A n cap m hm h.le h.nil h.plain;refine⟨A2,c2,λw0=>?_,λw' hw=>h2 w' L hw,h3⟩;obtain⟨A3,c3,k1,_,_⟩:=lB (P:=P) I w0 A n cap m hm h.le h.nil h.plain;rw[lD I]at h1 k1 |-;unfold Instr.slice Instr.sliceBounds at h1 k1 |-;simp only[Sem.run_bind,run_underlying I.und,Result.andThen_ok,Sem.run_pure,bX _ m n hm,I.sizeOf_run,Option.isSome_none,Bool.false_eq_true,if_false]at h1 |-;injection h1 with h1 _
 rw[h1]
end
end
end Go.Proofs.YtgfpjjppeldhbaaGreatDoor
