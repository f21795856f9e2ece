/- Part 5 of the texts that lead to this claim: the walks of the functions and the plain law, in order. -/
import Derived.Test.YtdjiaickicgdlaaGreatDoorMg4
import Derived.Test.YtdjiaickicgdlaaGreatDoorLayGrow
import Derived.LoopN
namespace Go.Proofs.YtdjiaickicgdlaaGreatDoor
open Go.RowKit
open List hiding and get max min or set
open Go.Proofs.Tryz
open World
set_option maxRecDepth 100000
set_option maxHeartbeats 8000000
variable {P:Program}{κ:Type}{w:World}{b k:Nat}{cs:Array Value}{t:TypeId}{f:Nat×Nat}{ops:Array Oper}{a:Act}{Q:Exit->Act->World->Prop}{es:Array MapEntry}
structure qO where
 id:zB
 key:ByteArray
 val:ByteArray
def zV(x:qO):Array Value:=idC x.id ++ #[.string x.key] ++ #[.string x.val]
@[simp] theorem gJ(x:qO):(zV x).size=34:=by simp[zV]
@[go_sem] theorem QL(x:qO):(zV x).extract 0 32=idC x.id:=by
 have h:zV x=((#[]:Array Value))++idC x.id++(#[.string x.key] ++ #[.string x.val]):=by first | (simp[zV,Array.append_assoc];done) | (apply Array.ext';simp[zV];done)
 rw[h];exact bC _ _ _ _ _ sI sI
@[go_sem] theorem aR(x:qO):(zV x)[32]?=some (.string x.key):=by first | (simp[zV,Array.getElem?_append];done) | (rw[show zV x=(idC x.id) ++ #[.string x.key]++(#[.string x.val])from by apply Array.ext';simp[zV]];exact xM _ _ _ _ sI)
@[go_sem] theorem mRowC_gg32(x:qO)(h:32<(zV x).size):(zV x)[32]'h=.string x.key:=Option.some.inj ((Array.getElem?_eq_getElem h).symm.trans (aR x))
@[go_sem] theorem aQ(x:qO):(zV x)[33]?=some (.string x.val):=by first | (simp[zV,Array.getElem?_append];done) | (rw[show zV x=(idC x.id ++ #[.string x.key]) ++ #[.string x.val]++((#[]:Array Value))from by apply Array.ext';simp[zV]];exact xM _ _ _ _ sI)
@[go_sem] theorem mRowC_gg33(x:qO)(h:33<(zV x).size):(zV x)[33]'h=.string x.val:=Option.some.inj ((Array.getElem?_eq_getElem h).symm.trans (aQ x))
@[go_sem] theorem mRowC_all(x:qO):(zV x).extract 0 34=zV x:=by have:=Array.extract_size (xs:=zV x);rwa [gJ]at this
theorem mRowC_inj{x y:qO}(h:zV x=zV y):x=y:=by
 have h0:=congrArg (λa=>a.extract 0 32) h;simp only[QL]at h0;have h0:=yb h0;have h1:=congrArg (λa=>a[32]?) h;simp only[aR,Option.some.injEq,Value.string.injEq]at h1;have h2:=congrArg (λa=>a[33]?) h;simp only[aQ,Option.some.injEq,Value.string.injEq]at h2;cases x;cases y;simp_all
theorem m6(x:qO):∀u∈(zV x).toList,u.oneCell'=true:=by
 intro u hu;simp only[zV,Array.toList_append,mem_append]at hu;rcases hu with(hu | hu) | hu
 ·exact yN _ u hu
 ·simp at hu;subst hu;rfl
 ·simp at hu;subst hu;rfl
def pF:qO:=⟨id0,⟨#[]⟩,⟨#[]⟩⟩
theorem MRow_ext{x y:qO}(h:x.id=y.id/\x.key=y.key/\x.val=y.val):x=y:=by cases x;cases y;simp_all
instance:DecidableEq qO:=λx y=>if h:x.id=y.id/\x.key=y.key/\x.val=y.val then isTrue (MRow_ext h)else isFalse (λe=>h (by subst e;simp))
theorem QY:(prog.info? 230).map (·.size)=some 34:=kR
@[go_sem ↓] theorem eL(w:World):(zeroValue 230).run prog w=.ok (.agg (zV pF)) w:=by
 have h:(prog.info? 230).bind (·.zero)=some (.agg (zV pF)):=kR;cases hi:prog.info? 230 with
 | none=>rw[hi]at h;cases h
 | some i =>
  rw[hi]at h;have hz:i.zero=some (.agg (zV pF)):=h;simp[zeroValue,typeInfo,hi,hz]
@[go_sem ↓] theorem loadMRow_rw(a:Addr):loadVar 230 a=ldS 230 a:=rfl
@[go_sem ↓] theorem storeMRow_rw(a:Addr)(v:Value):storeVar 230 a v=stS 230 a v:=rfl
@[go_sem] theorem loadMRow_run(w:World)(g o:Nat):(ldS 230 ⟨g,o,none⟩).run prog w=match zA w g o 34 with | some cs=>.ok (.agg cs) w | none=>(loadVar 230 ⟨g,o,none⟩).run prog w :=
 jK underlying230 rfl QY w g o
@[go_sem] theorem storeMRow_run(w:World)(g:Nat)(hg:g=w.heap.size)(z:Array Value)(hz:z.size=34)(x:qO)(e:TypeId):(stS 230 ⟨g,0,none⟩ (.agg (zV x))).run prog (w.alloc (.cells z e))=.ok () (w.alloc (.cells (zV x) e)) :=
 hg ▸ xZ QY w z (zV x) hz (gJ x) (m6 x)
theorem JA:prog.underlying 230=some (.struct (prog.fieldsOf 230)):=kR
theorem Q3(w:World):((prog.fieldsOf 230).mapM fun (f:Field)=>do pure (f.offset,<-sizeOf f.type)).run prog w=.ok #[(0,32),(32,1),(33,1)] w:=kR
@[go_sem ↓] theorem buildMRow_rw(parts:Array (Nat×Value)):Instr.build 230 parts=bdS 230 parts:=rfl
@[go_sem] theorem buildMRow(a0:zB)(a1:ByteArray)(a2:ByteArray)(w:World):(bdS 230 #[(0,.agg (idC a0)),(1,.string a1),(2,.string a2)]).run prog w=.ok (.agg (zV ⟨a0,a1,a2⟩)) w:=by
 refine qL w JA _ (eL w) _ (Q3 w) [(0,.agg (idC a0)),(1,.string a1),(2,.string a2)] _ ?_;rw[show zV pF=(#[]:Array Value)++idC id0++(#[.string ⟨#[]⟩]++(#[.string ⟨#[]⟩]))from by first | (simp[zV,pF,Array.append_assoc];done) | (apply Array.ext';simp[zV,pF])];rw[yT (off:=0) (size:=32) rfl sI sI (by simp[Value.cells])];rw[show(#[]:Array Value)++(Value.agg (idC a0)).cells++(#[.string ⟨#[]⟩]++(#[.string ⟨#[]⟩]))=(idC a0) ++ #[.string ⟨#[]⟩]++(#[.string ⟨#[]⟩])from by first | (simp[Value.cells,Array.append_assoc];done) | (apply Array.ext';simp[Value.cells];done) | (apply Array.ext';simp only[Array.toList_append];simp[Value.cells])];rw[yT (off:=32) (size:=1) rfl sI sI (by simp[Value.cells])];rw[show(idC a0)++(Value.string a1).cells++(#[.string ⟨#[]⟩])=(idC a0++(#[.string a1])) ++ #[.string ⟨#[]⟩]++(#[]:Array Value)from by first | (simp[Value.cells,Array.append_assoc];done) | (apply Array.ext';simp[Value.cells];done) | (apply Array.ext';simp only[Array.toList_append];simp[Value.cells])];rw[yT (off:=33) (size:=1) rfl sI sI (by simp[Value.cells])];first | (simp[Instr.fill,zV,Array.append_assoc,Value.cells];done) | (simp only[Instr.fill,zV];congr 1;apply Array.ext';simp[Value.cells];done) | (simp only[Instr.fill,zV];congr 1;done) | (simp only[Instr.fill,zV];done)
@[go_sem] theorem buildMRow_0(a0:zB)(w:World):(bdS 230 #[(0,.agg (idC a0))]).run prog w=.ok (.agg (zV ⟨a0,⟨#[]⟩,⟨#[]⟩⟩)) w:=by
 refine qL w JA _ (eL w) _ (Q3 w) [(0,.agg (idC a0))] _ ?_;rw[show zV pF=(#[]:Array Value)++idC id0++(#[.string ⟨#[]⟩]++(#[.string ⟨#[]⟩]))from by first | (simp[zV,pF,Array.append_assoc];done) | (apply Array.ext';simp[zV,pF])];rw[yT (off:=0) (size:=32) rfl sI sI (by simp[Value.cells])];first | (simp[Instr.fill,zV,Array.append_assoc,Value.cells];done) | (simp only[Instr.fill,zV];congr 1;apply Array.ext';simp[Value.cells];done) | (simp only[Instr.fill,zV];congr 1;done) | (simp only[Instr.fill,zV];done)
instance:Inhabited qO:=⟨pF⟩
def jZ(x y:qO):Int:=orL [yE x.id y.id,qV x.key y.key,qV x.val y.val]
theorem orL3(a b c:Int):orL [a,b,c]=orC a (orC b c):=by
 unfold orC orL orL orL orL;split
 ·split
  ·split <;> simp_all
  ·rfl
 ·rfl
theorem XJ:qN jZ:=(vQ.pair (V0.pair V0)).of (λx:qO=>(x.id,x.key,x.val)) (λx y h=>by
 cases x;cases y
 simp only[Prod.mk.injEq]at h;obtain⟨h1,h2,h3⟩:=h;subst h1;subst h2;subst h3;rfl) (λx y=>orL3 _ _ _)
theorem or3_cells(w:World)(a b c:Int):∀j,j < [a,b,c].length->(w.alloc (.cells #[.int .i64 a,.int .i64 b,.int .i64 c] 3)).cell? ⟨w.heap.size,j,none⟩=some (.int .i64 ([a,b,c].getD j 0)):=by
 intro j hj;have:j=0\/j=1\/j=2:=by simp at hj;omega
 rcases this with rfl | rfl | rfl <;> simp
theorem morder(x y:qO)(w:World):Calls prog 190 #[.agg (zV x),.agg (zV y)] w λe w'=>e=.returned (.int .i64 (jZ x y))/\Gr w w':=by
 go_enter func190,ntmps190
 go_upto_region 1 with fail
 obtain⟨W,hW⟩:=eR ((w.alloc (.cells (zV x) 230)).alloc (.cells (zV y) 230))
 have hB:Gr w W:=by rw[hW];exact((Gr.refl _).alloc _).alloc _
 have a3:zA W w.heap.size 0 32=some (idC x.id):=by rw[hW];simp[go_sem]
 have a4:zA W (w.heap.size+1) 0 32=some (idC y.id):=by rw[hW];simp[go_sem]
 have a5:W.cell? ⟨w.heap.size,32,none⟩=some (.string x.key):=by rw[hW];simp[go_sem]
 have a6:W.cell? ⟨w.heap.size+1,32,none⟩=some (.string y.key):=by rw[hW];simp[go_sem]
 have a7:W.cell? ⟨w.heap.size,33,none⟩=some (.string x.val):=by rw[hW];simp[go_sem]
 have a8:W.cell? ⟨w.heap.size+1,33,none⟩=some (.string y.val):=by rw[hW];simp[go_sem]
 rw[<-hW];clear hW;refine bL (Gr W) false kR kR kR (Gr.drew W) ?_;have d:=ye W;have hS:=Gr.drew W;have b3:=iR a3;have b4:=iR a4;have b5:=kH a5;have b6:=kH a6;have b7:=kH a7;have b8:=kH a8;refine lQ ?_;intro K hK;refine(ZE _ _ _).mono ?_;rintro e w' ⟨rfl,hb⟩;replace hS:=Gr.trans hS hb;refine⟨_,rfl,hS,hK _ _ ?_⟩;clear hK K hb;refine lQ ?_;intro K hK;refine(rD _ _ _).mono ?_;rintro e w' ⟨rfl,rfl⟩;refine⟨_,rfl,hS,hK _ _ ?_⟩;clear hK K;refine lQ ?_;intro K hK;refine(rD _ _ _).mono ?_;rintro e w' ⟨rfl,rfl⟩;refine⟨_,rfl,hS,hK _ _ ?_⟩;clear hK K;refine lH ?_;intro K hK;refine zI (Gr.alloc hS _) (λhS=>?_);refine hK _ _ ?_;clear hK K;refine lH ?_;intro K hK;refine(zv _ _ [yE x.id y.id,qV x.key y.key,qV x.val y.val] sI _ (or3_cells _ _ _ _)).mono ?_;rintro e w' ⟨rfl,rfl⟩;refine⟨_,rfl,hS,hK _ _ ?_⟩;clear hK K;refine lZ ?_;refine zD ?_;intro hS;(go_wp2_with fail);go_ret;exact⟨rfl,hB.trans hS⟩
theorem cellsMR:prog.cellsOf 230=34:=kR
theorem rowMR:230<prog.types.size:=of_decide_eq_true kR
abbrev okM(x:qO):Prop:=x.key.size<=maxLen/\x.val.size<=maxLen
theorem ya(d:Nat){x:qO}(h:okM x):∃l,prog.keyLits (d+3) 230 (zV x).toList=some l:=by
 obtain⟨l1,h1⟩:=sY d x.id;obtain⟨l2,h2⟩:=pJ (d+1) h.1;obtain⟨l3,h3⟩:=pJ (d+1) h.2;have e1:((zV x).toList.drop 0).take 32=(idC x.id).toList:=by simp[zV]
 have e2:((zV x).toList.drop 32).take 1 = [.string x.key]:=by simp[zV]
 have e3:((zV x).toList.drop 33).take 1 = [.string x.val]:=by
  simp[zV,drop_append];rw[drop_eq_nil_of_le sI];rfl
 refine Option.isSome_iff_exists.1 ?_;unfold Program.keyLits;simp only[underlying230];rw[if_pos ⟨by rw[cellsMR];simp,kR⟩];simp only[mapM_cons,mapM_nil,X9,cellsStr,e1,e2,e3,h1,h2,h3];rfl
def nI(x:qO):Value:=.agg (zV x)
theorem mrowKey:bH prog 230 nI okM where
 law:=deep_law_laid Tryz.laidOut (m:=3) oM rowMR kR (by rw[underlying230])
 key:=λx hx=>by
  obtain⟨d,hd⟩:∃d,prog.types.size+1=d+3:=⟨prog.types.size-2,oH size3⟩
  obtain⟨l,hl⟩:=ya d hx;refine⟨.string (keyBytes l),?_⟩;unfold keyOf;simp only[underlying230];have f:prog.keyType 230=true:=kR;have hf:(nI x).formed prog 230=true:=by simp[nI,Value.formed,underlying230,cellsMR]
  rw[f,hf,hd];simp only[Bool.and_self,if_true];have:(nI x).cells.toList=(zV x).toList:=rfl;rw[this,hl];rfl
 inj:=λa b h=>by unfold nI at h;injection h with h;exact mRowC_inj h
section
theorem yM.clear{K T E':TypeId}{kv:κ->Value}{ok:κ->Prop}{L:List κ}(h:yM w b kv ok L)(ht:P.underlying T=some (.map K E'))(ty:TypeId) :
  ∃w',(Builtin.clear_ #[T] ty #[.map (some b)]).run P w=.ok (.tuple #[]) w'/\yM w' b kv ok []/\z9 [b] w w':=by
 obtain⟨M,es,d,hm,g,f⟩:=h;refine⟨_,?_,⟨[],#[],d,⟨dF _ hm.lt,rfl,rfl,sI,sI,sI,sI⟩,sI,sI⟩,dE w b _⟩;simp[Builtin.clear_,run_underlying ht,j4 hm.heap,d6 hm.heap]
abbrev YU(w:World)(b:Nat)(L:List qO):Prop:=yM w b nI okM L
def fE(x:qO):Prop:=x.key.size<=16/\x.val.size<=16
theorem msmall_ok{x:qO}(h:fE x):okM x:=by
 obtain⟨h1,h2⟩:=h;exact⟨by simp only[maxLen];omega,by simp only[maxLen];omega⟩
theorem mput{X:List qO}{x:qO}(h:YU w b X)(hk:fE x):∃w',(Instr.mapUpdate 279 (.map (some b)) (.agg (zV x)) (.bool true)).run prog w=.ok () w'/\YU w' b (x :: X)/\z9 [b] w w':=yM.put h mrowKey underlying279 (msmall_ok hk)
theorem mclear{X:List qO}(h:YU w b X)(ty:TypeId):∃w',(Builtin.clear_ #[279] ty #[.map (some b)]).run prog w=.ok (.tuple #[]) w'/\YU w' b []/\z9 [b] w w':=yM.clear h underlying279 ty
structure xS(w:World)(g bl bo:Nat)(X:List qO)(O:List zB):Prop where
 blk:w.heap[g]?=some (.cells #[.map (some bl),.map (some bo)] 281 (0,0))
 live:YU w bl X
 over:jS w bo O
 ne:bl≠bo
 risX:Ris jZ X
 risO:Ris yE O
 sm:∀x∈X,fE x
 apart:∀x∈X,x.id∉O
theorem XO{kv:κ->Value}{ok:κ->Prop}{g:Nat}{X:List κ}(h:yM w b kv ok X)(hg:w.heap[g]?=some (.cells cs t f)):g≠b:=by
 rintro rfl;obtain⟨M,es,d,hm,_⟩:=h;rw[hm.heap]at hg;cases hg
section
variable {w w':World} {g bl bo:Nat} {X:List qO} {O:List zB}
theorem xS.cell0(h:xS w g bl bo X O):w.cell? ⟨g,0,none⟩=some (.map (some bl)):=by rw[cell_of_row w g 0 _ _ _ h.blk];rfl
theorem xS.cell1(h:xS w g bl bo X O):w.cell? ⟨g,1,none⟩=some (.map (some bo)):=by rw[cell_of_row w g 1 _ _ _ h.blk];rfl
theorem xS.lt(h:xS w g bl bo X O):g<w.heap.size/\bl<w.heap.size/\bo<w.heap.size:=⟨(aG h.blk).1,h.live.lt,h.over.lt⟩
theorem xS.nel(h:xS w g bl bo X O):g≠bl:=XO h.live h.blk
theorem xS.neo(h:xS w g bl bo X O):g≠bo:=XO h.over h.blk
theorem xS.kept{S:List Nat}(h:xS w g bl bo X O)(k:z9 S w w')(hg:g∉S)(hl:bl∉S)(ho:bo∉S):xS w' g bl bo X O :=
 ⟨(k.block g h.lt.1 hg).trans h.blk,h.live.kept k hl,h.over.kept k ho,h.ne,h.risX,h.risO,h.sm,h.apart⟩
theorem xS.below(h:xS w g bl bo X O)(k:Below w.heap.size w w'):xS w' g bl bo X O:=h.kept (z9.of_below k) sI sI sI
end
theorem QJ(w:World)(g b:Nat)(h:w.cell? ⟨g,0,none⟩=some (.map (some b))):Calls prog 208 #[.pointer (some ⟨g,0,none⟩)] w λe w'=>e=.returned (.bool false)/\w=w':=by
 have hn:=λr=>run_eql_map_nil (P:=prog) w 279 230 4 r underlying279;go_enter func208,ntmps208
 (go_wp2_with fail);go_ret;exact⟨rfl,rfl⟩
theorem mnew(w:World):Calls prog 142 #[] w λe w'=>∃g bl bo,e=.returned (.pointer (some ⟨g,0,none⟩))/\xS w' g bl bo [] []/\w.heap.size<=g/\w.heap.size<=bl/\w.heap.size<=bo/\Below w.heap.size w w':=by
 have d:=@run_makeMap prog;go_enter func142,ntmps142
 (go_wp2_with fail);go_ret;have k1:=yM.new (kv:=nI) (ok:=okM) w w.heap.size rfl;have k2:=yM.new (kv:=idV) (ok:=vN) (w.alloc (.map #[] 0)) (w.heap.size+1) sI;refine⟨w.heap.size+2,w.heap.size,w.heap.size+1,rfl,⟨?_,(k1.kept (z9.alloc _ _) sI).kept (z9.alloc _ _) sI,k2.kept (z9.alloc _ _) sI,oM,Ris.nil,Ris.nil,sI,sI⟩,oM,oM,oM,((bA).alloc sI _).alloc sO _⟩;have:=heap_alloc_new ((w.alloc (.map #[] 0)).alloc (.map #[] 0)) (.cells #[.map (some w.heap.size),.map (some (w.heap.size+1))] 281 (0,0));simpa using this
theorem rC:yR prog 227 230 34 64 :=
 .of (z:=.agg (zV pF)) underlying227 kR kR kR (gJ _) oM
@[go_sem ↓] theorem bsMRow_rw(n:Nat)(parts:Array (Nat×Value)):Instr.buildSlice 227 n parts=bsS 227 n parts:=rfl
@[go_sem] theorem bsMRow_run(w:World)(x:qO):(bsS 227 1 #[(0,.agg (zV x))]).run prog w=.ok (.slice (some ⟨w.heap.size,0,none⟩) 1 1) (w.alloc (.cells (zV x) 230)) :=
 fK rC oM w (zV x) (gJ x)
def m7(X:List qO)(O:List zB):List qO:=X.filter λx=>decide (x.id∉O)
theorem msweep(wS:World)(g bl bo:Nat)(X:List qO)(O:List zB)(E:wS.heap[g]?=some (.cells #[.map (some bl),.map (some bo)] 281 (0,0)))(hl:YU wS bl X)(ho:jS wS bo O)(b6:bl≠bo)(hr:Ris jZ X)(f2:∀x∈X,fE x)(hn:X.length<=1000000) :
  Calls prog 287 #[.pointer (some ⟨g,0,none⟩)] wS λe w'=>e=.returned (.tuple #[])/\YU w' bl (m7 X O)/\z9 [bl] wS w':=by
 have h9:=hl.lt;have h8:=ho.lt;have c7:=(aG E).1;have R:g≠bl:=XO hl E;have e0:wS.cell? ⟨g,0,none⟩=some (.map (some bl)):=by rw[cell_of_row wS g 0 _ _ _ E];rfl
 have g4:wS.cell? ⟨g,1,none⟩=some (.map (some bo)):=by rw[cell_of_row wS g 1 _ _ _ E];rfl
 obtain⟨w0,f,hR,g6,h7⟩:=yM.range (P:=prog) (kv:=nI) (ok:=okM) hl underlying279;go_enter func287,ntmps287
 (go_wp2_with fail);clear f E;go_loopw [2] (λout wr=>∃S A cap,out=.slice A (m7 S O).length cap/\v6 wr bl wS.heap.size nI okM X S/\Own wr w0.heap.size 230 34 A (m7 S O).length cap ((m7 S O).map zV)/\Below wS.heap.size wS wr/\w0.heap.size<=wr.heap.size) (λ_ wr=>wr.rangeLeft bl wS.heap.size)
 case atStart=>exact⟨[],none,0,rfl,hR,Own.nil _ _ _ _,g6,lR⟩
 case round =>
  obtain⟨S,A,cap,rfl,hR,t,hb,h6⟩:=hrel;rcases hR.next (P:=prog) 0 with⟨hall,c4,f⟩ | ⟨x,w1,hxL,hxS,f,hR1,hk1,hs1,hl1,hen⟩
  ·have a8:=(hb.cell (p:=⟨g,0,none⟩) c7).trans e0;obtain⟨wc,c8,f4,c6⟩:=mclear (hl.below hb) 0;have g3:=(c6.cell (p:=⟨g,0,none⟩) (show g<wr.heap.size by have:=hb.size;omega) (by simpa using R)).trans a8;have hp:S.Perm X:=(perm_ext_iff_of_nodup c4 (hr.nodup XJ)).2 hall;have g8:S.length=X.length:=hp.length_eq;have N:∀x,x∈m7 S O↔x∈m7 X O:=λx=>(by unfold m7;simp[hall]);have U:∀x∈m7 S O,fE x:=λx hx=>f2 x ((hall x).1 (mem_filter.1 hx).1);have c5:(m7 S O).length<=1000000:=by have:(m7 S O).length<=S.length:=length_filter_le _ _;omega
   have I:=t.kept c6 (λy hy=>oS ((t.at_base hy).1));have f8:z9 [bl] wS wc:=z9.trans ((z9.of_below hb).mono (S':=[bl]) sI) c6 iL;obtain⟨T,hT⟩:=eX (m7 S O)
   rw[hT]at N U c5 I |-;have d1:=dH N;have h5:=dH hall;clear hT hall N hp g8 t hR hb;(go_wp2_with fail);clear c8 f a8;go_loopw [33] (λi wr=>∃k:Nat,k<=T.length/\i=.int .i64 k/\YU wr bl (T.take k)/\z9 [bl] wS wr/\Own wr w0.heap.size 230 34 A T.length cap (T.map zV)) (λi _=>T.length-(intOf i).toNat)
   case atStart=>exact⟨0,zL,rfl,f4,f8,I⟩
   case round =>
    obtain⟨k,hk,rfl,hm,a6,s⟩:=hrel;by_cases a5:k<T.length
    ·obtain⟨q,o,rfl,a1⟩:=s.slr.at_ a5;obtain rfl:o=0:=by
      rcases s.addr with e | ⟨g',e⟩
      ·cases e
      ·injection e with e;injection e
     rw[Nat.zero_add,getElem_map]at a1;have d2:fE (T[k]'a5):=U _ (getElem_mem _);have b8:T.take (k+1)=T.take k ++ [T[k]'a5]:=by rw[take_add_one,getElem?_eq_getElem a5];rfl
     obtain⟨x,hx⟩:=eX (T[k]'a5)
     rw[hx]at a1 d2 b8;have h0:=dH b8;clear hx b8;have F:Below wr.heap.size wr (wr.alloc (.cells (zV x) 230)):=bA;have d6:=yM.below hm F;have H:=s.below F;have V:=(F.cell (p:=⟨g,0,none⟩) (show g<wr.heap.size by have:=a6.size;omega)).trans ((a6.cell (p:=⟨g,0,none⟩) c7 (by simpa using R)).trans e0);have G:zA (wr.alloc (.cells (zV x) 230)) wr.heap.size 0 34=some (zV x):=by simp[go_sem]
     have d8:z9 [bl] wS (wr.alloc (.cells (zV x) 230)):=z9.trans a6 (z9.of_below F) sI;have f0:=a6.size;go_upto_region 10 with fail
     obtain⟨W1,b3⟩:=eR (wr.alloc (.cells (zV x) 230))
     rw[<-b3]at d6 H V G d8 |-;clear b3;obtain⟨w2,f,f3,d9⟩:=mput (x:=x) (d6.kept (z9.drew W1) sI) d2;have g2:g∉[bl]:=by simpa using R
     refine kX [bl] W1 ?_;intro b6 hS;have b1:=zG V g2;have b2:=zY G (S:=[bl]) sO;refine lQ ?_;intro K hK;refine zI (yC hS d9 sI) (λhS=>?_);refine hK _ _ ?_;clear hK K;refine zD ?_;intro hS;have e7:z9 [bl] W1 w2:=hS;have a2:=H.kept e7 (λy hy=>oS ((s.at_base hy).1));have g0:=z9.trans d8 e7 iL;clear b1 b2 b6 hS d9 f V G;(go_wp2_with fail);go_roundw
     case rel=>exact⟨k+1,oM,by go_num,yM.congr f3 (λy=>by rw[h0.out];simp[or_comm]),g0,a2⟩
     case measure=>exact sZ
    ·have e2:T.take k=T:=take_of_length_le oM;rw[e2]at hm;(go_wp2_with fail);go_end0;exact⟨rfl,yM.congr hm d1.out,a6⟩
  ·have i0:(m7 S O).length+1<=1000000:=by
    obtain⟨M,Z,hZ,f9,_,g7,c4⟩:=hR1;have h1:=hZ.length;have h2:(Z.map (·.1)).length=(S ++ [x]).length:=by rw[g7]
    have h3:(M.map (·.1)).length<=X.length:=gH c4 (λy hy=>(f9 y).1 hy);have h4:(m7 S O).length<=S.length:=length_filter_le _ _;simp at h2 h3;omega
   have d7:m7 (S ++ [x]) O=if x.id∈O then m7 S O else m7 S O ++ [x]:=by
    unfold m7;rw[filter_append];by_cases e:x.id∈O <;> simp[e]
   have J:=t.kept hk1 (λy hy=>oS ((t.at_base hy).1));have e4:Below wS.heap.size wS w1:=hb.trans (hk1.below (B:=wS.heap.size) oM sI);have F:Below w1.heap.size w1 (w1.alloc (.cells (zV x) 230)):=bA;have b5:=hR1.kept (z9.of_below F) sI sI;have f7:(w1.alloc (.cells (zV x) 230)).rangeLeft bl wS.heap.size=w1.rangeLeft bl wS.heap.size:=qD (z9.of_below F) sI sI hR1.lt.2 hR1.lt.1;have D:=J.below F;have f1:w0.heap.size<=w1.heap.size:=oM;have b9:wS.heap.size<=w1.heap.size:=oM;have b0:Below wS.heap.size wS (w1.alloc (.cells (zV x) 230)):=e4.trans (F.mono b9);have G:zA (w1.alloc (.cells (zV x) 230)) w1.heap.size 0 34=some (zV x):=by simp[go_sem]
   have V:=(b0.cell (p:=⟨g,1,none⟩) c7).trans g4;have c3:jS (w1.alloc (.cells (zV x) 230)) bo O:=ho.kept (z9.of_below (b0.mono lR)) sI;have L:w0.heap.size<=(w1.alloc (.cells (zV x) 230)).heap.size:=sO;change (Instr.next _ _ _).run prog wr=.ok (.tuple #[.bool true,.agg (zV x),.bool true]) w1 at f;change (Instr.entry _).run prog w1=.ok (.tuple #[.agg (zV x),.bool true]) w1 at hen;have e9:=dH d7;clear t hb hk1 hs1 hR1 J e4 F d7;go_upto_region 4 with fail
   obtain⟨W1,b3⟩:=eR (w1.alloc (.cells (zV x) 230))
   obtain⟨gx,g1⟩:=eX w1.heap.size
   rw[g1]at G;rw[<-b3]at b5 f7 D b0 G V c3 L |-;have d3:zA W1 gx 0 32=some (idC x.id):=by have:=yF G (j:=0) (m:=32) oM;rwa [QL]at this
   have hk:∀y:Subtype (Bel W1),(Instr.lookup 66 (.map (some bo)) (.agg (idC x.id)) false).run prog y.1=.ok (.bool (decide (x.id∈O))) y.1:=λy=>vq (c3.below y.2);obtain⟨r,c2⟩:=eX (decide (x.id∈O))
   rw[c2]at hk;have e8:=dH c2;clear f hen b3 c2;refine lX W1 ?_;intro b6 hS;have b1:=zK V;have b2:=zS d3;refine lZ ?_;refine zD ?_;intro hS;have b4:v6 W1.drew bl wS.heap.size nI okM X (S ++ [x]):=b5.kept (z9.drew W1) sI sI;have f6:W1.drew.rangeLeft bl wS.heap.size=W1.rangeLeft bl wS.heap.size:=qD (z9.drew W1) sI sI b5.lt.2 b5.lt.1;have d:=D.kept (z9.drew W1) sI;have c9:Below wS.heap.size wS W1.drew:=b0.drew;have c1:zA W1.drew gx 0 34=some (zV x):=G;have Y:w0.heap.size<=W1.drew.heap.size:=L;clear b1 b2 b6 hS hk V d3 G D b0 b5 c3 L;obtain⟨W2,e6⟩:=eX W1.drew
   rw[e6]at b4 f6 d c9 c1 Y |-;clear e6;cases r with
   | true =>
    have a7:x.id∈O:=of_decide_eq_true e8.out;have e5:=e9.out;rw[if_pos a7]at e5;have E5:=dH e5;clear e5 a7;(go_wp2_with fail);go_roundw
    case rel=>exact⟨S ++ [x],A,cap,by rw[E5.out],b4,by rw[E5.out];exact d,c9,Y⟩
    case measure=>omega
   | false =>
    have a7:x.id∉O:=of_decide_eq_false e8.out;have e5:=e9.out;rw[if_neg a7]at e5;have E5:=dH e5;clear e5 a7;have a9:Below W2.heap.size W2 (W2.alloc (.cells (zV x) 230)):=bA;have a4:=d.below a9;have a0:zA (W2.alloc (.cells (zV x) 230)) W2.heap.size 0 34=some (zV x):=by simp[go_sem]
    go_wp2_with (at_builtin;refine xN rC rfl a4 rfl a0 (m6 _) oM oM sO ?_;intro A' cap' w5 a3 b7 d4)
    have e3:bl∉blk A:=λhx=>(oH ((d.at_base hx).1));have d5:wS.heap.size∉blk A:=λhx=>(oH ((d.at_base hx).1));have d0:=b4.kept (z9.of_below a9) sI sI;have g9:=d0.kept b7 e3 d5;have f5:w5.rangeLeft bl wS.heap.size=W2.rangeLeft bl wS.heap.size :=
     (qD b7 e3 d5 d0.lt.2 d0.lt.1).trans (qD (z9.of_below a9) sI sI b4.lt.2 b4.lt.1)
    have c0:w0.heap.size<=w5.heap.size:=by
     have e1:=a9.size;have e2:=b7.size;omega
    have g5:Below wS.heap.size wS w5:=c9.trans ((a9.mono oM).trans (b7.below (B:=wS.heap.size) sO λy hy=>oH ((d.at_base hy).1)));(go_wp2_with fail);go_roundw
    case rel=>exact⟨S ++ [x],A',cap',by rw[E5.out];simp,g9,by rw[E5.out];simpa using a3,g5,c0⟩
    case measure=>omega
end
def aM(O T:List zB):List zB:=T.foldl (jO yE) O
theorem putO_ris{O T:List zB}(h:Ris yE O):Ris yE (aM O T):=(mX vQ T O h).1
theorem putO_snoc(O T:List zB)(t:zB):aM O (T ++ [t])=jO yE (aM O T) t:=by simp[aM]
theorem vr{g o:Nat}{kv:κ->Value}{ok:κ->Prop}{X:List κ}(h:zA w g o k=some cs)(hs:yM w b kv ok X):g≠b:=by
 rintro rfl;obtain⟨M,es,d,hm,_⟩:=hs;unfold zA at h;rw[hm.heap]at h;cases h
def setX(X:List qO)(O:List zB)(x:qO)(T:List zB):List qO:=m7 (jO jZ X x) (aM O T)
theorem mset(d:zB)(key val:ByteArray)(A:Option Addr)(n cap:Nat)(T:List zB)(w:World)(g bl bo:Nat)(X:List qO)(O:List zB)(h:xS w g bl bo X O)(hT:zX w A n T)(d6:key.size<=16)(c9:val.size<=16)(hn:n<=1000000)(hX:X.length<1000000) :
  Calls prog 245 #[.pointer (some ⟨g,0,none⟩),.agg (idC d),.string key,.string val,.slice A n cap] w λe w'=>e=.returned (.int .i64 0)/\xS w' g bl bo (setX X O ⟨d,key,val⟩ T) (aM O T)/\z9 [bl,bo] w w':=by
 have L:=hT.len;have j:=dH L;have M:Below w.heap.size w (w.alloc (.cells (idC d) 31)):=bA;have h0:=h.below M;have R:zA (w.alloc (.cells (idC d) 31)) w.heap.size 0 32=some (idC d):=by simp[go_sem]
 have b3:fE ⟨d,key,val⟩:=⟨d6,c9⟩
 have d9:=h.lt;clear L;go_enter func245,ntmps245
 go_upto_region 1 with fail
 obtain⟨ga,a7⟩:=eX w.heap.size
 have b0:=dH a7;rw[a7]at R d9 M |-;obtain⟨W0,c7⟩:=eR (w.alloc (.cells (idC d) 31))
 rw[<-c7]at h0 R M |-;clear c7 a7;(go_wp2_with fail);refine(QJ W0 g bl h0.cell0).mono ?_;rintro e w1 ⟨rfl,rfl⟩;go_upto_region 6 with fail
 have c2:g∉[bl]:=by simpa using h0.nel
 have c3:=h0.cell0;obtain⟨w2,E,b7,c1⟩:=mput (x:=⟨d,key,val⟩) (h0.live.kept (z9.drew W0) sI) b3;refine kX [bl] W0 ?_;intro a2 hS;have b1:=zG c3 c2;have b2:=zY R (S:=[bl]) sO;refine lQ ?_;intro K hK;refine zI (yC hS c1 sI) (λhS=>?_);refine hK _ _ ?_;clear hK K;refine zD ?_;intro hS;have B:z9 [bl] W0 w2:=hS;have c4:=(B.block g h0.lt.1 c2).trans h0.blk;have d4:jS w2 bo O:=h0.over.kept B (by simpa using λe=>h0.ne e.symm);have e1:z9 [bl,bo] w w2:=z9.trans ((z9.of_below (M.mono (by rw[b0.out];exact lR))).mono (S':=[bl,bo]) sI) (B.mono (S':=[bl,bo]) sI) iL;have b6:YU w2 bl (jO jZ X ⟨d,key,val⟩):=yM.congr b7 (λy=>by rw[jG XJ,mem_cons]);have r:=dA XJ (x:=⟨d,key,val⟩) h.risX;have D:∀y∈jO jZ X ⟨d,key,val⟩,fE y:=λy hy=>by
  rcases (jG XJ).1 hy with e | hy
  ·rw[e];exact b3
  ·exact h.sm y hy
 have b8:(jO jZ X ⟨d,key,val⟩).length<=1000000:=oH (tQ (c:=jZ) X ⟨d,key,val⟩);have N:Hid (setX X O ⟨d,key,val⟩ T=m7 (jO jZ X ⟨d,key,val⟩) (aM O T)):=rfl;obtain⟨X1,c5⟩:=eX (jO jZ X ⟨d,key,val⟩)
 rw[c5]at b6 r D b8 N;have a5:=h.nel;have a4:=h.neo;have s:=h.ne;have d1:=h.risO;have J:=h.live;have I:=h.over;clear c5 b1 b2 a2 hS c1 E R c3 B h0 M b7 hX;(go_wp2_with fail);go_loopw [33] (λi wr=>∃k:Nat,k<=n/\i=.int .i64 k/\YU wr bl X1/\jS wr bo (aM O (T.take k))/\z9 [bl,bo] w wr) (λi _=>n-(intOf i).toNat)
 case atStart=>exact⟨0,zL,rfl,b6,d4,e1⟩
 case round =>
  obtain⟨k,hk,rfl,hm,ho,H⟩:=hrel;have F:wr.cell? ⟨g,1,none⟩=some (.map (some bo)):=(H.cell (p:=⟨g,1,none⟩) (show g<w.heap.size by have:=b0.out;omega) sO).trans h.cell1;have f:=(H.block g (oH b0.out) sO).trans h.blk;by_cases G:k<n
  ·obtain⟨q,o,rfl,m⟩:=hT.get G (by rw[j.out];exact G);have d3:q≠bl:=vr m J;have d2:q≠bo:=vr m I;have d0:zA wr q (o+k*32) 32=some (idC (T[k]'(by rw[j.out];exact G))):=(H.row (zE m) (by simp[d3,d2]) _ _).trans m;have U:T.take (k+1)=T.take k ++ [T[k]'(by rw[j.out];exact G)]:=by rw[take_add_one,getElem?_eq_getElem (by rw[j.out];exact G)];rfl
   obtain⟨x,hx⟩:=eX (T[k]'(by rw[j.out];exact G))
   rw[hx]at d0 U;have e3:=dH U;clear hx U m;have Z:Below wr.heap.size wr (wr.alloc (.cells (idC x) 31)):=bA;have a3:=yM.below hm Z;have a1:=yM.below ho Z;have a9:=(Z.cell (p:=⟨g,1,none⟩) (block_lt_of_cell? wr _ F)).trans F;have a0:zA (wr.alloc (.cells (idC x) 31)) wr.heap.size 0 32=some (idC x):=by simp[go_sem]
   have b9:z9 [bl,bo] w (wr.alloc (.cells (idC x) 31)):=z9.trans H (z9.of_below Z) sI;have e0:bo<wr.heap.size:=ho.lt;go_upto_region 10 with fail
   obtain⟨W1,c6⟩:=eR (wr.alloc (.cells (idC x) 31))
   rw[<-c6]at a3 a1 a9 a0 b9 |-;clear c6;obtain⟨w5,E,b4,c0⟩:=vl (x:=x) (a1.kept (z9.drew W1) sI);have a6:g∉[bo]:=by simpa using a4
   refine kX [bo] W1 ?_;intro a2 hS;have b1:=zG a9 a6;have b2:=zY a0 (S:=[bo]) sO;refine lQ ?_;intro K hK;refine zI (yC hS c0 sI) (λhS=>?_);refine hK _ _ ?_;clear hK K;refine zD ?_;intro hS;have B:z9 [bo] W1 w5:=hS;have d5:=a3.kept B (by simpa using s);have d7:z9 [bl,bo] w w5:=z9.trans b9 (B.mono (S':=[bl,bo]) sI) iL;have V:jS w5 bo (aM O (T.take (k+1))):=yM.congr b4 (λy=>by rw[e3.out,putO_snoc,jG vQ,mem_cons]);clear b1 b2 a2 hS c0 E a9 a0 b4 B a3 a1;(go_wp2_with fail);go_roundw
   case rel=>exact⟨k+1,oM,by go_num,d5,V,d7⟩
   case measure=>exact sZ
  ·have e2:T.take k=T:=take_of_length_le (by rw[j.out];omega);rw[e2]at ho;have c8:=msweep wr g bl bo X1 (aM O T) f hm ho s r D b8;clear e2 F;(go_wp2_with fail);refine c8.mono ?_;rintro e w6 ⟨rfl,b5,Y⟩;have t:=(Y.block g (by have:=(aG f).1;exact this) (by simpa using a5)).trans f;have V:=ho.kept Y (by simpa using λe=>s e.symm);have a8:xS w6 g bl bo (setX X O ⟨d,key,val⟩ T) (aM O T):=by
    rw[N.out];exact⟨t,b5,V,s,r.filter _,putO_ris d1,λy hy=>D y (mem_filter.1 hy).1,λy hy=>by have:=(mem_filter.1 hy).2;simpa using this⟩
   have d8:z9 [bl,bo] w w6:=z9.trans H (Y.mono (S':=[bl,bo]) sI) iL;clear c8 b5 Y t V f hm ho H;(go_wp2_with fail);go_ret;exact⟨rfl,a8,d8⟩
section
section
variable {ι ν:Type} (kid:ι->List ν) (idn:ν->ι) (N:List ν) (refn:ν->ι) (z:ι)
def tY:Nat->ι->List ν
 | 0,_=>[]
 | k+1,r=>(kid r).flatMap λc=>c :: tY k (idn c)
def Deep:Nat->ι->Prop
 | 0,_=>False
 | k+1,r=>∀c∈kid r,Deep k (idn c)
def i7(k:Nat)(row:List ν):List ν:=row.flatMap λc=>c :: tY kid idn k (idn c)
variable {kid idn N refn z}
theorem yl:∀ {k:Nat} {r:ι},Deep kid idn k r->Deep kid idn (k+1) r
 | 0,_,h=>h.elim
 | _+1,_,h=>λc hc=>yl (h c hc)
theorem pre_up:∀ {k:Nat} {r:ι},Deep kid idn k r->tY kid idn (k+1) r=tY kid idn k r
 | 0,_,h=>h.elim
 | k+1,r,h=>by
  show(kid r).flatMap _=(kid r).flatMap _;have:∀l:List ν,(∀c∈l,Deep kid idn k (idn c))->l.flatMap (λc=>c :: tY kid idn (k+1) (idn c))=l.flatMap (λc=>c :: tY kid idn k (idn c)):=by
   intro l;induction l with
   | nil=>intro _;rfl
   | cons c l ih =>
    intro hl;rw[flatMap_cons,flatMap_cons,pre_up (hl c sI),ih (λd hd=>hl d (by simp[hd]))]
  exact this _ h
theorem K3{n:ν}{row:List ν}(hn:Deep kid idn k (idn n)):i7 kid idn k (n :: row)=n :: i7 kid idn k (kid (idn n)++row):=by
 cases k with
 | zero=>exact hn.elim
 | succ k =>
  unfold i7;rw[flatMap_cons,flatMap_append,cons_append];congr 2
  show(kid (idn n)).flatMap _=_;have h2:tY kid idn (k+1+1) (idn n)=tY kid idn (k+1) (idn n):=pre_up hn;exact h2.symm
theorem deep_kids{n:ν}(hn:Deep kid idn k (idn n)):∀c∈kid (idn n),Deep kid idn k (idn c):=by
 cases k with
 | zero=>exact hn.elim
 | succ k=>exact λc hc=>yl (hn c hc)
inductive Path(kid:ι->List ν)(idn:ν->ι)(z:ι):List ι->Prop
 | root:Path kid idn z [z]
 | step {r:ι} {p:List ι} {c:ν} (h:Path kid idn z (r :: p)) (hc:c∈kid r):Path kid idn z (idn c :: r :: p)
theorem path_split(hid:∀a∈N,∀b∈N,idn a=idn b->a=b)(hk:∀r,∀c∈kid r,c∈N/\refn c=r)(hz:∀a∈N,idn a≠z){q:List ι}(h:Path kid idn z q){c:ν}(hc:c∈N)(hm:idn c∈q) :
  ∃s t,q=s++idn c :: refn c :: t:=by
 induction h with
 | root=>simp at hm;exact absurd hm (hz c hc)
 | @step r p d h hd ih =>
  by_cases e:idn c=idn d
  ·obtain⟨g,f⟩:=hk _ _ hd;have:=hid c hc d g e;subst this;exact⟨[],p,by simp[f]⟩
  ·rcases mem_cons.1 hm with h1 | h1
   ·exact absurd h1 e
   ·obtain⟨s,t,hq⟩:=ih h1;exact⟨idn d :: s,t,by rw[hq];rfl⟩
theorem path_nodup(hid:∀a∈N,∀b∈N,idn a=idn b->a=b)(hk:∀r,∀c∈kid r,c∈N/\refn c=r)(hz:∀a∈N,idn a≠z){q:List ι}(h:Path kid idn z q):q.Nodup:=by
 induction h with
 | root=>simp
 | @step r p d h hd ih =>
  refine nodup_cons.2 ⟨λhm=>?_,ih⟩;obtain⟨g,f⟩:=hk _ _ hd;obtain⟨s,t,hq⟩:=path_split hid hk hz h g hm;rw[f]at hq;rw[hq]at ih;cases s with
  | nil =>
   simp only[nil_append]at ih hq;injection hq with h1 h2
   rw[<-h1]at ih;simp at ih
  | cons a s =>
   injection hq with h1 h2
   rw[<-h1]at ih;simp at ih
theorem path_sub(hk:∀r,∀c∈kid r,c∈N/\refn c=r){q:List ι}(h:Path kid idn z q):∀x∈q,x∈z :: N.map idn:=by
 induction h with
 | root=>simp
 | @step r p d h hd ih =>
  intro x hx;rcases mem_cons.1 hx with e | hx
  ·subst e;exact mem_cons.2 (.inr (mem_map.2 ⟨d,(hk _ _ hd).1,rfl⟩))
  ·exact ih x hx
theorem XL{α:Type}:∀ {S M:List α},S.Nodup->(∀x∈S,x∈M)->S.length<=M.length
 | [],M,_,_=>zL
 | x :: S,M,hn,hs=>by
  classical
  obtain⟨h1,h2⟩:=nodup_cons.1 hn;have:=XL (M:=M.erase x) h2 (λy hy=>(mem_erase_of_ne (λe=>h1 (by rw[<-e];exact hy))).2 (hs y (by simp[hy])));rw[length_erase_of_mem (hs x sI)]at this;have h3:=length_pos_of_mem (hs x sI);simp only[length_cons];omega
theorem BJ(hid:∀a∈N,∀b∈N,idn a=idn b->a=b)(hk:∀r,∀c∈kid r,c∈N/\refn c=r)(hz:∀a∈N,idn a≠z) :
  ∀(f:Nat) (r:ι) (p:List ι),Path kid idn z (r :: p)->N.length+1<f+(r :: p).length->Deep kid idn f r
 | 0,r,p,h,hf=>by
  have:=XL (path_nodup hid hk hz h) (path_sub hk h);simp only[length_cons,length_map]at this hf;omega
 | f+1,r,p,h,hf=>λc hc=>BJ hid hk hz f _ _ (h.step hc) (by simp only[length_cons]at hf |-;omega)
theorem deep_root(hid:∀a∈N,∀b∈N,idn a=idn b->a=b)(hk:∀r,∀c∈kid r,c∈N/\refn c=r)(hz:∀a∈N,idn a≠z):Deep kid idn (N.length+1) z :=
 BJ hid hk hz _ z [] Path.root sI
theorem pre_root(h:Deep kid idn k z):tY kid idn k z=i7 kid idn k (kid z):=by
 rw[<-pre_up h];rfl
structure lE(N:List ν)(idn:ν->ι)(refn:ν->ι)(z:ι)(out row:List ν):Prop where
 nodup:(out++row).Nodup
 sub:∀x∈out++row,x∈N
 par:∀x∈out++row,refn x=z\/∃y∈out,idn y=refn x
theorem lE.step(hid:∀a∈N,∀b∈N,idn a=idn b->a=b)(hk:∀r,∀c∈kid r,c∈N/\refn c=r)(hz:∀a∈N,idn a≠z)(k:∀r,(kid r).Nodup){out row:List ν}{n:ν}(h:lE N idn refn z out (n :: row)) :
  lE N idn refn z (out ++ [n]) (kid (idn n)++row):=by
 have g:n∈N:=h.sub n sI;have j:n∉out:=λhm=>by
  have:=h.nodup;rw[nodup_append]at this;exact this.2.2 n hm n sI rfl
 have d:∀x∈kid (idn n),x∉out++n :: row:=by
  intro x hx hm;obtain⟨m,f⟩:=hk _ x hx;rcases h.par x hm with e | ⟨y,hy,e⟩
  ·exact hz n g (f.symm.trans e)
  ·rw[f]at e;have:=hid y (h.sub y (mem_append.2 (.inl hy))) n g e;subst this;exact j hy
 have hp:(out ++ [n]++(kid (idn n)++row)).Perm (kid (idn n)++(out++n :: row)):=by
  have:out ++ [n]++(kid (idn n)++row)=(out ++ [n])++kid (idn n)++row:=sI;rw[this];have e2:kid (idn n)++(out++n :: row)=kid (idn n)++(out ++ [n])++row:=sI;rw[e2];exact Perm.append_right _ perm_append_comm
 refine⟨hp.nodup_iff.2 ?_,λx hx=>?_,λx hx=>?_⟩
 ·rw[nodup_append];exact⟨k _,h.nodup,λa ha b hb e=>by subst e;exact d a ha hb⟩
 ·rcases mem_append.1 (hp.mem_iff.1 hx)with hx | hx
  ·exact(hk _ x hx).1
  ·exact h.sub x hx
 ·rcases mem_append.1 (hp.mem_iff.1 hx)with hx | hx
  ·exact .inr ⟨n,sI,(hk _ x hx).2.symm⟩
  ·rcases h.par x hx with e | ⟨y,hy,e⟩
   ·exact .inl e
   ·exact .inr ⟨y,by simp[hy],e⟩
theorem lE.all(hid:∀a∈N,∀b∈N,idn a=idn b->a=b)(hk:∀r,∀c∈kid r,c∈N/\refn c=r)(hz:∀a∈N,idn a≠z)(d:∀r,(kid r).Nodup){k:Nat} :
  ∀(m:Nat) {out row:List ν},lE N idn refn z out row->(∀c∈row,Deep kid idn k (idn c))->(i7 kid idn k row).length=m->(out++i7 kid idn k row).Nodup/\∀x∈out++i7 kid idn k row,x∈N
 | m,out,[],h,_,_=>⟨by simpa[i7]using h.nodup,λx hx=>h.sub x (by simpa[i7]using hx)⟩
 | 0,out,n :: row,h,hd,hm=>by rw[K3 (hd n sI)]at hm;simp at hm
 | m+1,out,n :: row,h,hd,hm=>by
  have hn:=hd n sI;rw[K3 hn]at hm |-;have:=lE.all hid hk hz d m (h.step hid hk hz d) (λc hc=>by
   rcases mem_append.1 hc with hc | hc
   ·exact deep_kids hn c hc
   ·exact hd c (by simp[hc])) (by simpa using hm)
  simpa using this
theorem lE.root(hk:∀r,∀c∈kid r,c∈N/\refn c=r)(d:∀r,(kid r).Nodup):lE N idn refn z [] (kid z) :=
 ⟨by simpa using d z,λx hx=>(hk z x (by simpa using hx)).1,λx hx=>.inl (hk z x (by simpa using hx)).2⟩
theorem pre_nodup(hid:∀a∈N,∀b∈N,idn a=idn b->a=b)(hk:∀r,∀c∈kid r,c∈N/\refn c=r)(hz:∀a∈N,idn a≠z)(d:∀r,(kid r).Nodup)(h:Deep kid idn k z) :
  (tY kid idn k z).Nodup/\∀x∈tY kid idn k z,x∈N:=by
 have hd:∀c∈kid z,Deep kid idn k (idn c):=by
  cases k with
  | zero=>exact h.elim
  | succ k=>exact λc hc=>yl (h c hc)
 have:=lE.all hid hk hz d _ (lE.root (z:=z) (refn:=refn) (idn:=idn) hk d) hd rfl;rw[pre_root h];simpa using this
end
end
structure zW where
 id:zB
 h:Int
 ref:zB
 val:ByteArray
theorem zW.ext'{a b:zW}(h1:a.id=b.id)(h2:a.h=b.h)(h3:a.ref=b.ref)(h4:a.val=b.val):a=b:=by cases a;cases b;simp_all
theorem totI:qN fX where
 zero a b:=by unfold fX;constructor <;> intro h <;> (repeat' split at *) <;> omega
 anti a b:=by unfold fX;(repeat' split) <;> omega
 trans a b d:=by unfold fX;(repeat' split) <;> omega
theorem qN.rev{α:Type}{c:α->α->Int}(T:qN c):qN (λa b=>c b a) where
 zero a b:=by rw[T.zero];exact⟨Eq.symm,Eq.symm⟩
 anti a b:=T.anti _ _
 trans a b d h1 h2:=T.trans _ _ _ h2 h1
def n0(a b:zW):Int:=orC (fX b.h a.h) (orC (yE b.id a.id) (orC (yE a.ref b.ref) (qV a.val b.val)))
theorem xp:qN n0 :=
 qN.of (c:=fun (x y:Int×(zB×(zB×ByteArray)))=>orC (fX y.1 x.1) (orC (yE y.2.1 x.2.1) (orC (yE x.2.2.1 y.2.2.1) (qV x.2.2.2 y.2.2.2))))
  (qN.pair (c:=λa b=>fX b a) totI.rev (qN.pair (c:=λa b=>yE b a) vQ.rev (qN.pair vQ V0))) (λn=>(n.h,n.id,n.ref,n.val))
  (λx y h=>by simp only[Prod.mk.injEq]at h;exact zW.ext' h.2.1 h.1 h.2.2.1 h.2.2.2) (λ_ _=>rfl)
def cmpM(a b:zW):Int:=orC (yE a.id b.id) (orC (fX a.h b.h) (orC (yE a.ref b.ref) (qV a.val b.val)))
theorem totM:qN cmpM :=
 qN.of (c:=fun (x y:zB×(Int×(zB×ByteArray)))=>orC (yE x.1 y.1) (orC (fX x.2.1 y.2.1) (orC (yE x.2.2.1 y.2.2.1) (qV x.2.2.2 y.2.2.2))))
  (qN.pair vQ (qN.pair totI (qN.pair vQ V0))) (λn=>(n.id,n.h,n.ref,n.val))
  (λx y h=>by simp only[Prod.mk.injEq]at h;exact zW.ext' h.1 h.2.1 h.2.2.1 h.2.2.2) (λ_ _=>rfl)
def bG(ah:Int)(a:zB)(bh:Int)(b:zB):Bool:=if ah=bh then decide (yE a b<0)else decide (ah<bh)
def OneId(N:List zW):Prop:=∀a∈N,∀b∈N,a.id=b.id->a=b
theorem cmpN_ahead{a b:zW}(h:a.id≠b.id):decide (n0 b a<0)=bG a.h a.id b.h b.id:=by
 have hid:yE a.id b.id≠0:=λe=>h ((gL _ _).1 e);unfold n0 bG orC fX;by_cases e:a.h=b.h
 ·rw[if_pos (by rw[if_neg oM,if_neg oM]),if_neg hid,if_pos e]
 ·rw[if_neg e];rw[if_neg (by(repeat' split) <;> omega)];by_cases h1:a.h<b.h
  ·rw[if_pos h1];simp[h1]
  ·rw[if_neg h1,if_pos oM];simp[h1]
def vC(N:List zW)(r:zB):List zW:=kO n0 (N.filter λn=>decide (n.ref=r))
theorem lY{N:List zW}{r:zB}{n:zW}:n∈vC N r↔n∈N/\n.ref=r:=by unfold vC;rw[kY xp];simp
theorem i6(N:List zW)(r:zB):Ris n0 (vC N r):=kV xp _
theorem kids_congr{N M:List zW}(h:∀n,n∈N↔n∈M)(r:zB):vC N r=vC M r:=p4 xp λz=>by simp[h]
theorem kids_cons(N:List zW)(n:zW)(r:zB):vC (n :: N) r=if n.ref=r then jO n0 (vC N r) n else vC N r:=by
 refine gS xp (i6 _ _) ?_ λz=>?_
 ·split
  ·exact dA xp (i6 _ _)
  ·exact i6 _ _
 ·rw[lY,mem_cons];split
  ·rename_i e
   rw[jG xp,lY];constructor
   ·rintro⟨h1 | h1,h2⟩
    ·exact .inl h1
    ·exact .inr ⟨h1,h2⟩
   ·rintro(h1 | ⟨h1,h2⟩)
    ·subst h1;exact⟨.inl rfl,e⟩
    ·exact⟨.inr h1,h2⟩
  ·rename_i e
   rw[lY];constructor
   ·rintro⟨h1 | h1,h2⟩
    ·subst h1;exact absurd h2 e
    ·exact⟨h1,h2⟩
   ·rintro⟨h1,h2⟩;exact⟨.inr h1,h2⟩
theorem pI(N:List zW)(r:zB):(vC N r).length<=N.length:=by
 unfold vC;exact Nat.le_trans (mJ _) (length_filter_le _ _)
def dQ(N:List zW):List zW:=tY (vC N) zW.id (N.length+1) id0
def eH(N:List zW):Prop:=OneId N/\∀a∈N,a.id≠id0
theorem eH.deep{N:List zW}(h:eH N):Deep (vC N) zW.id (N.length+1) id0 :=
 deep_root (N:=N) (refn:=zW.ref) h.1 (λ_ _ hc=>lY.1 hc) h.2
theorem mN{N:List zW}(f:eH N):(dQ N).Nodup/\∀x∈dQ N,x∈N :=
 pre_nodup (refn:=zW.ref) f.1 (λ_ _ hc=>lY.1 hc) f.2 (λr=>(i6 N r).nodup xp) f.deep
theorem l9{N:List zW}(f:eH N):(dQ N).length<=N.length:=XL (mN f).1 (mN f).2
def dN(N:List zW)(G:List zB):List ByteArray:=((dQ N).filter λn=>decide (n.id∉G)).map zW.val
def vS(n:zW):Int:=if 16<n.val.size then 3 else if n.h<1\/1073741824<n.h\/n.id=id0 then 5 else 0
theorem iD{n:zW}(h:vS n=0):n.id≠id0/\n.val.size<=16/\1<=n.h/\n.h<=1073741824:=by
 unfold vS at h;split at h
 ·cases h
 ·split at h
  ·cases h
  ·rename_i h1 h2
   refine⟨λe=>h2 (.inr (.inr e)),oM,?_,?_⟩
   ·exact Classical.byContradiction λhh=>h2 (.inl oM)
   ·exact Classical.byContradiction λhh=>h2 (.inr (.inl oM))
section
def zw{α:Type}:List α->Nat->Option α
 | [],_=>none
 | x :: _,0=>some x
 | _ :: l,i+1=>zw l i
theorem nthL_eq{α:Type}:∀(l:List α) (i:Nat),zw l i=l[i]?
 | [],_=>rfl
 | _ :: _,0=>rfl
 | _ :: l,i+1=>by simpa[zw]using nthL_eq l i
theorem QE{i:Nat}{o:Oper}(h:zw ops.toList i=some o):ops[i]?=some o:=by
 rw[nthL_eq]at h;simpa using h
inductive qQ where
 | done:qQ
 | loose (i:Nat) (n:qQ):qQ
 | one (i:Nat) (n:qQ):qQ
 | two (i:Nat) (n:qQ) (j:Nat) (m:qQ):qQ
 | three (i:Nat) (n:qQ) (j:Nat) (m:qQ) (k:Nat) (l:qQ):qQ
def qQ.depth:qQ->Nat
 | .done=>0
 | .loose _ n=>n.depth+1
 | .one _ n=>n.depth+1
 | .two _ n _ m=>max n.depth m.depth+1
 | .three _ n _ m _ l=>max (max n.depth m.depth) l.depth+1
def qQ.ok(md:Region.Mode)(ops:Array Oper):qQ->Array Bool->Bool
 | .done,listed=>(Region.ready md ops listed).isEmpty
 | .loose i n,listed=>(Region.ready md ops listed).contains i&&Region.free md ops listed i&&n.ok md ops (listed.setIfInBounds i true)
 | .one i n,listed=>(Region.ready md ops listed == [i])&&n.ok md ops (listed.setIfInBounds i true)
 | .two i n j m,listed=>(Region.ready md ops listed == [i,j])&&n.ok md ops (listed.setIfInBounds i true)&&m.ok md ops (listed.setIfInBounds j true)
 | .three i n j m k l,listed=>(Region.ready md ops listed == [i,j,k])&&n.ok md ops (listed.setIfInBounds i true)&&m.ok md ops (listed.setIfInBounds j true)&&l.ok md ops (listed.setIfInBounds k true)
section
variable {P:Program} {ops:Array Oper} {md:Region.Mode} {S:World->Prop} {cv fb:Bool}
def rU(P:Program)(ops:Array Oper)(S:World->Prop)(cv fb:Bool)(i:Nat)(K:Act->World->Prop)(a:Act)(w:World):Prop :=
 match ops[i]? with
 | none=>False
 | some o=>if Region.wanted o (yielded ops a.tmps)then yO cv o=true/\qG P (cls ops S fb i) (λv w'=>K (a.put o.dst v) w') ((execOp a.eval o).run P w)else K (a.put o.dst undef) w
def eM(P:Program)(ops:Array Oper)(S:World->Prop)(cv fb:Bool)(Q:Act->World->Prop):qQ->Act->World->Prop
 | .done,a,w=>Q a w
 | .loose i n,a,w =>
  match ops[i]? with
  | none=>False
  | some o=>if Region.wanted o (yielded ops a.tmps)then yO cv o=false/\∃v,(∀w',S w'->vK w' v ((execOp a.eval o).run P w'))/\eM P ops S cv fb Q n (a.put o.dst v) w else eM P ops S cv fb Q n (a.put o.dst undef) w
 | .one i n,a,w=>rU P ops S cv fb i (eM P ops S cv fb Q n) a w
 | .two i n j m,a,w=>rU P ops S cv fb i (eM P ops S cv fb Q n) a w/\rU P ops S cv fb j (eM P ops S cv fb Q m) a w
 | .three i n j m k l,a,w=>rU P ops S cv fb i (eM P ops S cv fb Q n) a w/\rU P ops S cv fb j (eM P ops S cv fb Q m) a w/\rU P ops S cv fb k (eM P ops S cv fb Q l) a w
theorem lM{i:Nat}{K K':Act->World->Prop}(hS:S w)(hk:∀a w,cls ops S fb i w->K a w->K' a w)(h:rU P ops S cv fb i K a w):lxOp P ops S cv fb i K' a w:=by
 unfold rU at h;unfold lxOp;split at h
 ·exact h.elim
 ·rename_i o ho
  simp only[ho];split at h
  ·rename_i hw
   rw[if_pos hw,if_pos h.1];exact gY (λv w' hs d=>hk _ _ hs d) h.2
  ·rename_i hw
   rw[if_neg hw];exact hk _ _ (.inl hS) h
theorem ZT{Q:Act->World->Prop}(hs:Region.noSelect ops=true):∀(T:qQ) (r:Nat) (d:Array Bool) (a:Act) (w:World),kS md ops fb d->(S w\/(fb=true/\Region.ready md ops d = [])) ->
  T.ok md ops d=true->T.depth<=r->eM P ops S cv fb Q T a w->tV P md ops S cv fb Q r d a w:=by
 have after:∀ {i:Nat} {d:Array Bool} {w':World},kS md ops fb d->i∈Region.ready md ops d->cls ops S fb i w'->S w'\/(fb=true/\Region.ready md ops (d.setIfInBounds i true) = []):=by
  intro i d w' hI hi hc;rcases hc with hc | ⟨G,he⟩
  ·exact .inl hc
  ·right
   refine⟨G,?_⟩;rcases ((hI.set hi).inv G).2 with h1 | h1
   ·exfalso
    have:=h1.tail i oM oM;have H:i<(d.setIfInBounds i true).size:=by rw[h1.size];omega
    have D:i<d.size:=by simpa using H
    simp[D]at this
   ·exact h1
 have g:∀ {i:Nat} {d:Array Bool} {w:World},i∈Region.ready md ops d->(S w\/(fb=true/\Region.ready md ops d = []))->S w:=by
  intro i d w hi h;rcases h with h | ⟨_,h⟩
  ·exact h
  ·rw[h]at hi;cases hi
 intro T;induction T with
 | done =>
  intro r d a w _ _ t _ h;have h0:Region.ready md ops d = []:=by simpa[qQ.ok]using t
  cases r with
  | zero=>exact⟨h0,h⟩
  | succ f=>exact⟨λ_=>h,λi hi=>by rw[h0]at hi;cases hi⟩
 | loose i n ih =>
  intro r d a w hI A t hd h;simp only[qQ.ok,Bool.and_eq_true]at t;obtain⟨⟨hr,hf⟩,hn⟩:=t;have y:i∈Region.ready md ops d:=by simpa using hr
  have hS:=g y A;cases r with
  | zero=>simp[qQ.depth]at hd
  | succ f =>
   have B:n.depth<=f:=by simp[qQ.depth]at hd;omega
   unfold eM at h;split at h
   ·exact h.elim
   ·rename_i o ho
    split at h
    ·rename_i hw
     obtain⟨hc,v,hv,hk⟩:=h;exact gZ ho (Region.noSelect_spec hs) f d a w hI hS (Region.free_spec ho hf) y (.inl ⟨hw,hc,hv⟩) (ih f _ _ w (hI.set y) (.inl hS) hn B hk)
    ·rename_i hw
     exact gZ ho (Region.noSelect_spec hs) f d a w hI hS (Region.free_spec ho hf) y (.inr ⟨by simpa using hw,rfl⟩) (ih f _ _ w (hI.set y) (.inl hS) hn B h)
 | one i n ih =>
  intro r d a w hI A t hd h;simp only[qQ.ok,Bool.and_eq_true,beq_iff_eq]at t;obtain⟨hr,hn⟩:=t;have y:i∈Region.ready md ops d:=by rw[hr];simp
  have hS:=g y A;cases r with
  | zero=>simp[qQ.depth]at hd
  | succ f =>
   have B:n.depth<=f:=by simp[qQ.depth]at hd;omega
   refine⟨λh0=>(by rw[hr]at h0;cases h0),λx hx=>?_⟩;have s:=hx;rw[hr]at s;obtain rfl:x=i:=by simpa using s
   exact lM hS (λa' w' hc hk=>ih f _ a' w' (hI.set hx) (after hI hx hc) hn B hk) h
 | two i n j m ih1 ih2 =>
  intro r d a w hI A t hd h;simp only[qQ.ok,Bool.and_eq_true,beq_iff_eq]at t;obtain⟨⟨hr,hn⟩,hm⟩:=t;have hS:=g (i:=i) (by rw[hr];simp) A;cases r with
  | zero=>simp[qQ.depth]at hd
  | succ f =>
   have F:n.depth<=f:=by simp[qQ.depth]at hd;omega
   have E:m.depth<=f:=by simp[qQ.depth]at hd;omega
   refine⟨λh0=>(by rw[hr]at h0;cases h0),λx hx=>?_⟩;have s:=hx;rw[hr]at s;rcases mem_cons.1 s with rfl | s
   ·exact lM hS (λa' w' hc hk=>ih1 f _ a' w' (hI.set hx) (after hI hx hc) hn F hk) h.1
   ·obtain rfl:x=j:=by simpa using s
    exact lM hS (λa' w' hc hk=>ih2 f _ a' w' (hI.set hx) (after hI hx hc) hm E hk) h.2
 | three i n j m k l ih1 ih2 ih3 =>
  intro r d a w hI A t hd h;simp only[qQ.ok,Bool.and_eq_true,beq_iff_eq]at t;obtain⟨⟨⟨hr,hn⟩,hm⟩,hl⟩:=t;have hS:=g (i:=i) (by rw[hr];simp) A;cases r with
  | zero=>simp[qQ.depth]at hd
  | succ f =>
   have F:n.depth<=f:=by simp[qQ.depth]at hd;omega
   have E:m.depth<=f:=by simp[qQ.depth]at hd;omega
   have I:l.depth<=f:=by simp[qQ.depth]at hd;omega
   refine⟨λh0=>(by rw[hr]at h0;cases h0),λx hx=>?_⟩;have s:=hx;rw[hr]at s;rcases mem_cons.1 s with rfl | s
   ·exact lM hS (λa' w' hc hk=>ih1 f _ a' w' (hI.set hx) (after hI hx hc) hn F hk) h.1
   ·rcases mem_cons.1 s with rfl | s
    ·exact lM hS (λa' w' hc hk=>ih2 f _ a' w' (hI.set hx) (after hI hx hc) hm E hk) h.2.1
    ·obtain rfl:x=k:=by simpa using s
     exact lM hS (λa' w' hc hk=>ih3 f _ a' w' (hI.set hx) (after hI hx hc) hl I hk) h.2.2
structure sD(P:Program)(ops:Array Oper)(S:World->Prop)(cv fb:Bool)(Q:Act->World->Prop)(T:qQ)(a:Act)(w:World):Prop where
 out:eM P ops S cv fb Q T a w
theorem j2{id:Nat}{ops:Array Oper}(T:qQ)(S:World->Prop)(cv:Bool)(hm:P.follows .mixedOrders=true)(hs:Region.noSelect ops=true)(hT:T.ok .any ops (Array.replicate ops.size false)=true)(hd:Nat.ble T.depth ops.size=true)(hS:S w.drew)
  (h:sD P ops S cv false (λa' w'=>S w'->Q .normal a' w') T a w.drew):(Code.region id ops true).wp P Q a w:=by
 have hI:kS .any ops false (Array.replicate ops.size false):=⟨sI⟩
 exact wp_region_any hm (wM (S:=S) (cv:=cv) (fb:=false) (Q:=λa' w'=>S w'->Q .normal a' w') (λ_ w' d h=>h (d.elim (λh=>h) sI)) _ _ _ _ hI (.inl hS)
  (ZT (md:=.any) hs T _ _ a w.drew hI (.inl hS) hT (Nat.le_of_ble_eq_true hd) h.out))
theorem nG{id:Nat}{ops:Array Oper}(T:qQ)(S:World->Prop)(cv:Bool)(hm:P.follows .mixedOrders=true)(hs:Region.noSelect ops=true)(hT:T.ok .any ops (Array.replicate ops.size false)=true)(hd:Nat.ble T.depth ops.size=true)(hE:endB .any ops=true)(hS:S w.drew)
  (h:sD P ops S cv true (λa' w'=>Q .normal a' w') T a w.drew):(Code.region id ops true).wp P Q a w:=by
 have hI:kS .any ops true (Array.replicate ops.size false):=⟨λ_=>⟨hE,.inl ⟨sI,λj oj _ hj=>(by rw[getD_replicate_false]at hj;cases hj),λt ht d=>by simp[d]⟩⟩⟩
 exact wp_region_any hm (wM (S:=S) (cv:=cv) (fb:=true) (Q:=λa' w'=>Q .normal a' w') (λ_ w' _ h=>h) _ _ _ _ hI (.inl hS)
  (ZT (md:=.any) hs T _ _ a w.drew hI (.inl hS) hT (Nat.le_of_ble_eq_true hd) h.out))
variable {Q:Act->World->Prop} {a:Act} {w:World} {o:Oper} {i j k:Nat} {n m l:qQ}
theorem vH(h:Q a w):sD P ops S cv fb Q .done a w:=⟨h⟩
theorem wpTx_loose(d:zw ops.toList i=some o)(hc:yO cv o=false)
  (h:∀K:Act->Prop,(∀a,sD P ops S cv fb Q n a w->K a)->if Region.wanted o (yielded ops a.tmps)then(∃v,(∀x:Subtype S,vK x.1 v ((execOp a.eval o).run P x.1))/\K (a.put o.dst v))else K (a.put o.dst undef)):sD P ops S cv fb Q (.loose i n) a w:=by
 have ho:=QE d;have:=h _ (λ_ h=>h);refine⟨?_⟩;unfold eM;simp only[ho];split
 ·rename_i hw
  rw[if_pos hw]at this;obtain⟨v,hv,hk⟩:=this;exact⟨hc,v,λw' hs=>hv ⟨w',hs⟩,hk.out⟩
 ·rename_i hw;rw[if_neg hw]at this;exact this.out
theorem wpTx_one(hS:S w)(d:zw ops.toList i=some o)(hc:yO cv o=true)
  (h:∀K:Act->World->Prop,(∀a w,sD P ops S cv fb Q n a w->K a w)->if Region.wanted o (yielded ops a.tmps)then qG P S (λv w'=>K (a.put o.dst v) w') ((execOp a.eval o).run P w)else K (a.put o.dst undef) w):sD P ops S cv fb Q (.one i n) a w:=by
 have ho:=QE d;have:=h _ (λ_ _ h=>h);refine⟨?_⟩;unfold eM rU;simp only[ho];split
 ·rename_i hw;rw[if_pos hw]at this;exact⟨hc,k8 (λ_ h=>.inl h) (λ_ _ _ h=>h.out) this⟩
 ·rename_i hw;rw[if_neg hw]at this;exact this.out
theorem XE(h1:sD P ops S cv fb Q (.one i n) a w)(h2:sD P ops S cv fb Q (.one j m) a w):sD P ops S cv fb Q (.two i n j m) a w:=⟨⟨h1.out,h2.out⟩⟩
theorem xd(d:zw ops.toList i=some o)(hc:yO cv o=true)(hi:(i+1==ops.size)=true)
  (h:∀K:Act->World->Prop,(∀a w,Q a w->K a w)->if Region.wanted o (yielded ops a.tmps)then qG P (λ_=>True) (λv w'=>K (a.put o.dst v) w') ((execOp a.eval o).run P w)else K (a.put o.dst undef) w):sD P ops S cv true Q (.one i .done) a w:=by
 have ho:=QE d;have:=h _ (λ_ _ h=>h);refine⟨?_⟩;unfold eM rU;simp only[ho];split
 ·rename_i hw;rw[if_pos hw]at this;exact⟨hc,k8 (λ_ _=>.inr ⟨rfl,beq_iff_eq.1 hi⟩) (λ_ _ _ h=>h) this⟩
 ·rename_i hw;rw[if_neg hw]at this;exact this
end
end
section
section
variable {P:Program} {ops:Array Oper} {S:World->Prop} {cv fb:Bool} {Q:Act->World->Prop} {a:Act} {w:World} {o:Oper} {i:Nat} {n:qQ}
theorem wpTz(hc:yO cv o=false)(h:∀K:Act->Prop,(∀a,sD P ops S cv fb Q n a w->K a)->if Region.wanted o (yielded ops a.tmps)then(∃v,(∀x:Subtype S,vK x.1 v ((execOp a.eval o).run P x.1))/\K (a.put o.dst v))else K (a.put o.dst undef))(ho:zw ops.toList i=some o:=by rfl):sD P ops S cv fb Q (.loose i n) a w:=wpTx_loose ho hc h
theorem wpTh(hS:S w)(hc:yO cv o=true)(h:∀K:Act->World->Prop,(∀a w,sD P ops S cv fb Q n a w->K a w)->if Region.wanted o (yielded ops a.tmps)then qG P S (λv w'=>K (a.put o.dst v) w') ((execOp a.eval o).run P w)else K (a.put o.dst undef) w)(ho:zw ops.toList i=some o:=by rfl):sD P ops S cv fb Q (.one i n) a w:=wpTx_one hS ho hc h
end
theorem tZ{P Q:Prop}(q:Q)(h:zT Q->P:=by intro z;(repeat(refine wpTz ?_ ?_;(focus(simp only[yO];done));intro K hK;go_simp;refine hK _ ?_;clear hK K));exact z.out):P:=h ⟨q⟩
theorem tH{P Q:Prop}(q:Q)(h:zT Q->P:=by intro z;refine wpTh hS ?_ ?_;(focus(simp only[yO];done));intro K hK;go_simp;revert K hK;exact z.out):P:=h ⟨q⟩
end
section
def slS(T:TypeId)(x:Value)(lo hi mx:Option Value):Sem Value:=Instr.sliceAt T x lo hi mx
section
variable {P:Program} {T E:TypeId} {k bytes:Nat}
theorem yR.sizeOf_run(I:yR P T E k bytes)(w:World):(Go.sizeOf E).run P w=.ok k w:=by
 obtain⟨i,z,hi,hz,d,g,f⟩:=I.info;simp[Go.sizeOf,typeInfo,hi,d]
theorem kD(w:World)(m cap:Nat)(hm:m<=cap)(c:BoundsCode):(Instr.sliceBound (.int .i64 m) cap c).run P w=.ok m w:=by
 unfold Instr.sliceBound;have h1:(asIntOf (.int .i64 (m:Int))).run P w=.ok (.i64,(m:Int)) w:=rfl;simp only[Sem.run_bind,h1,Result.andThen_ok];rw[if_pos ⟨oM,oM⟩]
 simp
theorem tJ(I:yR P T E k bytes)(w:World)(x:Value)(lo hi mx:Option Value):(slS T x lo hi mx).run P w=(Instr.slice T x lo hi mx).run P w:=by
 unfold slS;simp[Instr.sliceAt,run_underlying I.und]
theorem sJ(I:yR P T E k bytes)(w:World)(A:Option Addr)(n cap m:Nat)(hm:m<=cap) :
  (slS T (.slice A n cap) none (some (.int .i64 m)) none).run P w=.ok (.slice A m cap) w:=by
 rw[tJ I];unfold Instr.slice Instr.sliceBounds;simp only[Sem.run_bind,run_underlying I.und,Result.andThen_ok,Sem.run_pure,kD w m cap hm,I.sizeOf_run w];have e:(if cap=0 then A else A.map λa=>a.add (0*k))=A:=by
  split
  ·rfl
  ·cases A with
   | none=>rfl
   | some a=>simp[Addr.add]
 simp only[Nat.sub_zero,e]
theorem XQ(I:yR P T E k bytes)(w:World)(A:Option Addr)(n cap m:Nat)(hm:m<=n)(hc:n<=cap)(hA:A=none->cap=0)(f:∀a,A=some a->a.spot=none) :
  ∃A2 c2,(slS T (.slice A n cap) (some (.int .i64 m)) none none).run P w=.ok (.slice A2 (n-m) c2) w/\(∀(w':World) (L:List (Array Value)),SlR w' A n k L->SlR w' A2 (n-m) k (L.drop m))/\(A2=none->c2=0):=by
 refine⟨if cap=m then A else A.map λa=>a.add (m*k),cap-m,?_,?_,?_⟩
 ·rw[tJ I];unfold Instr.slice Instr.sliceBounds;simp only[Sem.run_bind,run_underlying I.und,Result.andThen_ok,Sem.run_pure,kD w m n hm,I.sizeOf_run w,Option.isSome_none,Bool.false_eq_true,if_false]
 ·intro w' L hL;by_cases d:cap=m
  ·have:n-m=0:=oM;rw[this];exact⟨by rw[length_drop,hL.1];omega,λh=>absurd h oM⟩
  ·rw[if_neg d];cases A with
   | none=>exact absurd (hA rfl) oM
   | some a =>
    obtain⟨g,o,sp⟩:=a;have:sp=none:=f _ rfl;subst this;have e:(⟨g,o,none⟩:Addr).add (m*k)=⟨g,o+m*k,none⟩:=by unfold Addr.add;split <;> simp_all
    simp only[Option.map_some,e];exact hL.drop_ hm
 ·intro h;by_cases d:cap=m
  ·omega
  ·rw[if_neg d]at h;cases A with
   | none=>have:=hA rfl;omega
   | some a=>cases h
end
end
section
structure SlW(w:World)(A:Option Addr)(n cap k:Nat)(L:List (Array Value)):Prop where
 rd:SlR w A n k L
 le:n<=cap
 nil:A=none->cap=0
 plain:∀a,A=some a->a.spot=none
section
variable {P:Program} {T E:TypeId} {k bytes:Nat} {w w':World} {A:Option Addr} {n cap:Nat} {L:List (Array Value)}
theorem SlW.none_:SlW w none 0 0 k []:=⟨SlR.nil_,lR,λ_=>rfl,λa e=>by cases e⟩
theorem SlW.kept{S:List Nat}(h:SlW w A n cap k L)(hk:z9 S w w')(hn:∀x∈blk A,x∉S):SlW w' A n cap k L:=⟨h.rd.kept hk hn,h.le,h.nil,h.plain⟩
theorem SlW.below(h:SlW w A n cap k L)(hb:Below w.heap.size w w'):SlW w' A n cap k L:=⟨h.rd.below hb,h.le,h.nil,h.plain⟩
theorem SlW.len(h:SlW w A n cap k L):L.length=n:=h.rd.1
theorem Own.slw{B:Nat}(h:Own w B E k A n cap L):SlW w A n cap k L:=by
 have hA:=h.cap_le;refine⟨h.slr,hA.1,λe=>(hA.2 e).2,λa e=>?_⟩;rcases h.addr with e' | ⟨g,e'⟩
 ·rw[e']at e;cases e
 ·rw[e']at e;injection e with e;rw[<-e]
theorem SlW.lo(I:yR P T E k bytes)(h:SlW w A n cap k L){m:Nat}(hm:m<=n)(w0:World):(slS T (.slice A n cap) none (some (.int .i64 m)) none).run P w0=.ok (.slice A m cap) w0 :=
 sJ I w0 A n cap m (Nat.le_trans hm h.le)
theorem SlW.hi(I:yR P T E k bytes)(h:SlW w A n cap k L){m:Nat}(hm:m<=n) :
  ∃A2 c2,(∀w0:World,(slS T (.slice A n cap) (some (.int .i64 m)) none none).run P w0=.ok (.slice A2 (n-m) c2) w0)/\(∀w':World,SlR w' A n k L->SlR w' A2 (n-m) k (L.drop m))/\(A2=none->c2=0):=by
 obtain⟨A2,c2,h1,h2,h3⟩:=XQ (P:=P) I w A n cap m hm h.le h.nil h.plain;refine⟨A2,c2,λw0=>?_,λw' hw=>h2 w' L hw,h3⟩;obtain⟨A3,c3,k1,_,_⟩:=XQ (P:=P) I w0 A n cap m hm h.le h.nil h.plain;rw[tJ I]at h1 k1 |-;unfold Instr.slice Instr.sliceBounds at h1 k1 |-;simp only[Sem.run_bind,run_underlying I.und,Result.andThen_ok,Sem.run_pure,kD _ m n hm,I.sizeOf_run,Option.isSome_none,Bool.false_eq_true,if_false]at h1 |-;injection h1 with h1 _
 rw[h1]
end
end
section
structure fI where
 h:Int
 ref:zB
 val:ByteArray
def zP(x:fI):Array Value:=#[.int .i64 x.h]++idC x.ref ++ #[.string x.val]
@[simp] theorem ZV(x:fI):(zP x).size=34:=by simp[zP]
@[go_sem] theorem aJ(x:fI):(zP x)[0]?=some (.int .i64 x.h):=by first | (simp[zP,Array.getElem?_append];done) | (rw[show zP x=((#[]:Array Value)) ++ #[.int .i64 x.h]++(idC x.ref ++ #[.string x.val])from by apply Array.ext';simp[zP]];exact xM _ _ _ _ sI)
@[go_sem] theorem sNodeC_gg0(x:fI)(h:0<(zP x).size):(zP x)[0]'h=.int .i64 x.h:=Option.some.inj ((Array.getElem?_eq_getElem h).symm.trans (aJ x))
@[go_sem] theorem wG(x:fI):(zP x).extract 1 33=idC x.ref:=by
 have h:zP x=(#[.int .i64 x.h])++idC x.ref++(#[.string x.val]):=by first | (simp[zP,Array.append_assoc];done) | (apply Array.ext';simp[zP];done)
 rw[h];exact bC _ _ _ _ _ sI sI
@[go_sem] theorem sNodeC_g33(x:fI):(zP x)[33]?=some (.string x.val):=by first | (simp[zP,Array.getElem?_append];done) | (rw[show zP x=(#[.int .i64 x.h]++idC x.ref) ++ #[.string x.val]++((#[]:Array Value))from by apply Array.ext';simp[zP]];exact xM _ _ _ _ sI)
@[go_sem] theorem sNodeC_gg33(x:fI)(h:33<(zP x).size):(zP x)[33]'h=.string x.val:=Option.some.inj ((Array.getElem?_eq_getElem h).symm.trans (sNodeC_g33 x))
@[go_sem] theorem sNodeC_all(x:fI):(zP x).extract 0 34=zP x:=by have:=Array.extract_size (xs:=zP x);rwa [ZV]at this
theorem XP(x:fI):∀u∈(zP x).toList,u.oneCell'=true:=by
 intro u hu;simp only[zP,Array.toList_append,mem_append]at hu;rcases hu with(hu | hu) | hu
 ·simp at hu;subst hu;rfl
 ·exact yN _ u hu
 ·simp at hu;subst hu;rfl
def qW:fI:=⟨0,id0,⟨#[]⟩⟩
theorem SNode_ext{x y:fI}(h:x.h=y.h/\x.ref=y.ref/\x.val=y.val):x=y:=by cases x;cases y;simp_all
instance:DecidableEq fI:=λx y=>if h:x.h=y.h/\x.ref=y.ref/\x.val=y.val then isTrue (SNode_ext h)else isFalse (λe=>h (by subst e;simp))
theorem KS:(prog.info? 240).map (·.size)=some 34:=kR
@[go_sem ↓] theorem rP(w:World):(zeroValue 240).run prog w=.ok (.agg (zP qW)) w:=by
 have h:(prog.info? 240).bind (·.zero)=some (.agg (zP qW)):=kR;cases hi:prog.info? 240 with
 | none=>rw[hi]at h;cases h
 | some i =>
  rw[hi]at h;have hz:i.zero=some (.agg (zP qW)):=h;simp[zeroValue,typeInfo,hi,hz]
@[go_sem ↓] theorem loadSNode_rw(a:Addr):loadVar 240 a=ldS 240 a:=rfl
@[go_sem ↓] theorem storeSNode_rw(a:Addr)(v:Value):storeVar 240 a v=stS 240 a v:=rfl
@[go_sem] theorem loadSNode_run(w:World)(g o:Nat):(ldS 240 ⟨g,o,none⟩).run prog w=match zA w g o 34 with | some cs=>.ok (.agg cs) w | none=>(loadVar 240 ⟨g,o,none⟩).run prog w :=
 jK underlying240 rfl KS w g o
@[go_sem] theorem nT(w:World)(g:Nat)(hg:g=w.heap.size)(z:Array Value)(hz:z.size=34)(x:fI)(e:TypeId):(stS 240 ⟨g,0,none⟩ (.agg (zP x))).run prog (w.alloc (.cells z e))=.ok () (w.alloc (.cells (zP x) e)) :=
 hg ▸ xZ KS w z (zP x) hz (ZV x) (XP x)
theorem km:prog.underlying 240=some (.struct (prog.fieldsOf 240)):=kR
theorem je(w:World):((prog.fieldsOf 240).mapM fun (f:Field)=>do pure (f.offset,<-sizeOf f.type)).run prog w=.ok #[(0,1),(1,32),(33,1)] w:=kR
@[go_sem ↓] theorem buildSNode_rw(parts:Array (Nat×Value)):Instr.build 240 parts=bdS 240 parts:=rfl
@[go_sem ↓] theorem fieldSNode_0(x:fI)(w:World):(Instr.field 240 (.agg (zP x)) 0).run prog w=.ok (.int .i64 x.h) w:=by
 unfold Instr.field;simp only[Sem.run_bind,run_underlying underlying240,Result.andThen_ok,part,asAgg,isAgg];simp[go_sem]
@[go_sem ↓] theorem fieldSNode_2(x:fI)(w:World):(Instr.field 240 (.agg (zP x)) 2).run prog w=.ok (.string x.val) w:=by
 unfold Instr.field;simp only[Sem.run_bind,run_underlying underlying240,Result.andThen_ok,part,asAgg,isAgg];simp[go_sem]
@[go_sem] theorem buildSNode(a0:Int)(a1:zB)(a2:ByteArray)(w:World):(bdS 240 #[(0,.int .i64 a0),(1,.agg (idC a1)),(2,.string a2)]).run prog w=.ok (.agg (zP ⟨a0,a1,a2⟩)) w:=by
 refine qL w km _ (rP w) _ (je w) [(0,.int .i64 a0),(1,.agg (idC a1)),(2,.string a2)] _ ?_;rw[show zP qW=(#[]:Array Value) ++ #[.int .i64 0]++(idC id0++(#[.string ⟨#[]⟩]))from by first | (simp[zP,qW,Array.append_assoc];done) | (apply Array.ext';simp[zP,qW])];rw[yT (off:=0) (size:=1) rfl sI sI (by simp[Value.cells])];rw[show(#[]:Array Value)++(Value.int .i64 a0).cells++(idC id0++(#[.string ⟨#[]⟩]))=(#[.int .i64 a0])++idC id0++(#[.string ⟨#[]⟩])from by first | (simp[Value.cells,Array.append_assoc];done) | (apply Array.ext';simp[Value.cells];done) | (apply Array.ext';simp only[Array.toList_append];simp[Value.cells])];rw[yT (off:=1) (size:=32) rfl sI sI (by simp[Value.cells])];rw[show(#[.int .i64 a0])++(Value.agg (idC a1)).cells++(#[.string ⟨#[]⟩])=(#[.int .i64 a0]++(idC a1)) ++ #[.string ⟨#[]⟩]++(#[]:Array Value)from by first | (simp[Value.cells,Array.append_assoc];done) | (apply Array.ext';simp[Value.cells];done) | (apply Array.ext';simp only[Array.toList_append];simp[Value.cells])];rw[yT (off:=33) (size:=1) rfl sI sI (by simp[Value.cells])];first | (simp[Instr.fill,zP,Array.append_assoc,Value.cells];done) | (simp only[Instr.fill,zP];congr 1;apply Array.ext';simp[Value.cells];done) | (simp only[Instr.fill,zP];congr 1;done) | (simp only[Instr.fill,zP];done)
def aN(x:fI):Value:=.agg (zP x)
def xH(n:zW):fI:=⟨n.h,n.ref,n.val⟩
structure Sl where
 A:Option Addr
 n:Nat
 c:Nat
def slV(s:Sl):Value:=.slice s.A s.n s.c
structure xF(w:World)(M:List Nat)(g bn bb bg:Nat)(N:List zW)(G:List zB):Prop where
 blk:w.heap[g]?=some (.cells #[.map (some bn),.map (some bb),.map (some bg)] 238 (0,0))
 nodes:∃es clk,yL w bn idV aN vN (N.map λn=>(n.id,xH n)) es clk
 behind:∃BM es clk,yL w bb idV slV vN BM es clk/\(∀p∈BM,SlW w p.2.A p.2.n p.2.c 32 (((vC N p.1).map zW.id).map idC)/\∀x∈Go.Proofs.YtdjiaickicgdlaaGreatDoor.blk p.2.A,x∉M/\x<w.heap.size)/\∀r,r∉BM.map (·.1)->vC N r = []
 gone:jS w bg G
 inM:bn∈M/\bb∈M/\bg∈M
 ne:bn≠bb/\bn≠bg/\bb≠bg
 one:OneId N
 ok:∀n∈N,vS n=0
section
variable {w w':World} {M:List Nat} {g bn bb bg:Nat} {N:List zW} {G:List zB}
theorem xF.cell0(h:xF w M g bn bb bg N G):w.cell? ⟨g,0,none⟩=some (.map (some bn)):=by rw[cell_of_row w g 0 _ _ _ h.blk];rfl
theorem xF.cell1(h:xF w M g bn bb bg N G):w.cell? ⟨g,1,none⟩=some (.map (some bb)):=by rw[cell_of_row w g 1 _ _ _ h.blk];rfl
theorem xF.cell2(h:xF w M g bn bb bg N G):w.cell? ⟨g,2,none⟩=some (.map (some bg)):=by rw[cell_of_row w g 2 _ _ _ h.blk];rfl
theorem xF.ltg(h:xF w M g bn bb bg N G):g<w.heap.size:=(aG h.blk).1
theorem iG{ν:Type}{kv:κ->Value}{vv:ν->Value}{ok:κ->Prop}{w:World}{g:Nat}{X:List (κ×ν)}{d:Nat}(h:yL w b kv vv ok X es d)(hg:w.heap[g]?=some (.cells cs t f)):g≠b:=by
 rintro rfl;rw[h.heap]at hg;cases hg
theorem xF.neg(h:xF w M g bn bb bg N G):g≠bn/\g≠bb/\g≠bg:=by
 obtain⟨es,f,hn⟩:=h.nodes;obtain⟨BM,j,d,hb,_⟩:=h.behind;refine⟨iG hn h.blk,iG hb h.blk,?_⟩;rintro rfl;obtain⟨M',es,f,hm,_⟩:=h.gone;have:=h.blk.symm.trans hm.heap;cases this
theorem xF.lt(h:xF w M g bn bb bg N G):bn<w.heap.size/\bb<w.heap.size/\bg<w.heap.size:=by
 obtain⟨es,j,hn⟩:=h.nodes;obtain⟨BM,f,d,hb,_⟩:=h.behind;exact⟨hn.lt,hb.lt,h.gone.lt⟩
theorem xF.kept{S:List Nat}(h:xF w M g bn bb bg N G)(k:z9 S w w')(hS:∀x∈S,x∈M\/w.heap.size<=x)(hg:g∉S)(h1:bn∉S)(h2:bb∉S)(h3:bg∉S):xF w' M g bn bb bg N G:=by
 obtain⟨es,s,hn⟩:=h.nodes;obtain⟨BM,r,d,hb,f,m⟩:=h.behind;refine⟨(k.block g h.ltg hg).trans h.blk,⟨es,s,hn.kept k h1⟩,⟨BM,r,d,hb.kept k h2,λp hp=>?_,m⟩,h.gone.kept k h3,h.inM,h.ne,h.one,h.ok⟩;obtain⟨s1,s2⟩:=f p hp;refine⟨?_,λx hx=>⟨(s2 x hx).1,Nat.lt_of_lt_of_le (s2 x hx).2 k.size⟩⟩;refine⟨⟨s1.rd.1,λh0=>?_⟩,s1.le,s1.nil,s1.plain⟩;obtain⟨q,o,e,hc⟩:=s1.rd.2 h0;refine⟨q,o,e,λi hi=>?_⟩;have j:=zE (hc i hi);rw[k.row j (λhm=>(hS q hm).elim (s2 q (by simp[Go.Proofs.YtdjiaickicgdlaaGreatDoor.blk,e])).1 oM) _ _];exact hc i hi
theorem xF.below(h:xF w M g bn bb bg N G)(k:Below w.heap.size w w'):xF w' M g bn bb bg N G:=h.kept (z9.of_below k) sI sI sI sI sI
theorem xF.moreM{M':List Nat}(h:xF w M g bn bb bg N G)(hM:∀x∈M,x∈M')(hn:∀x∈M',x∈M\/w.heap.size<=x):xF w M' g bn bb bg N G:=by
 obtain⟨BM,k,f,hb,d,j⟩:=h.behind;refine⟨h.blk,h.nodes,⟨BM,k,f,hb,λp hp=>⟨(d p hp).1,λx hx=>⟨λhm=>?_,((d p hp).2 x hx).2⟩⟩,j⟩,h.gone,⟨hM _ h.inM.1,hM _ h.inM.2.1,hM _ h.inM.2.2⟩,h.ne,h.one,h.ok⟩;rcases hn x hm with h1 | h1
 ·exact((d p hp).2 x hx).1 h1
 ·have:=((d p hp).2 x hx).2;omega
end
theorem nZ(w:World)(g b:Nat)(h:w.cell? ⟨g,0,none⟩=some (.map (some b))):Calls prog 212 #[.pointer (some ⟨g,0,none⟩)] w λe w'=>e=.returned (.bool false)/\w=w':=by
 have hn:=λr=>run_eql_map_nil (P:=prog) w 236 31 240 r underlying236;go_enter func212,ntmps212
 (go_wp2_with fail);go_ret;exact⟨rfl,rfl⟩
theorem sqnew(w:World):Calls prog 143 #[] w λe w'=>∃g bn bb bg,e=.returned (.pointer (some ⟨g,0,none⟩))/\(∀M,bn∈M->bb∈M->bg∈M->xF w' M g bn bb bg [] [])/\w.heap.size<=g/\w.heap.size<=bn/\w.heap.size<=bb/\w.heap.size<=bg/\Below w.heap.size w w':=by
 have d:=@run_makeMap prog;go_enter func143,ntmps143
 (go_wp2_with fail);go_ret;have k1:=yL.new (kv:=idV) (vv:=aN) (ok:=vN) w w.heap.size rfl;have k2:=yL.new (kv:=idV) (vv:=slV) (ok:=vN) (w.alloc (.map #[] 0)) (w.heap.size+1) sI;have k3:=yM.new (kv:=idV) (ok:=vN) ((w.alloc (.map #[] 0)).alloc (.map #[] 0)) (w.heap.size+2) sI;refine⟨w.heap.size+3,w.heap.size,w.heap.size+1,w.heap.size+2,rfl,λM i1 i2 i3=>⟨?_,⟨_,_,((k1.kept (z9.alloc _ _) sI).kept (z9.alloc _ _) sI).kept (z9.alloc _ _) sI⟩,⟨[],_,_,(k2.kept (z9.alloc _ _) sI).kept (z9.alloc _ _) sI,sI,λr _=>rfl⟩,k3.kept (z9.alloc _ _) sI,⟨i1,i2,i3⟩,oM,λa ha=>by simp at ha,sI⟩,oM,oM,oM,oM,(((bA).alloc sI _).alloc sO _).alloc sO _⟩;have:=heap_alloc_new (((w.alloc (.map #[] 0)).alloc (.map #[] 0)).alloc (.map #[] 0)) (.cells #[.map (some w.heap.size),.map (some (w.heap.size+1)),.map (some (w.heap.size+2))] 238 (0,0));simpa using this
theorem zi(d:zB)(n:zW)(hd:d=n.id)(w:World)(hv:n.val.size<=9223372036854775807) :
  Calls prog 192 #[.agg (idC d),.agg (zP (xH n))] w λe w'=>e=.returned (.int .i64 (vS n))/\Below w.heap.size w w':=by
 subst hd;obtain⟨d,h,ref,val⟩:=n;unfold xH;have hB:Below w.heap.size w ((w.alloc (.cells (idC d) 31)).alloc (.cells (zP ⟨h,ref,val⟩) 240)):=(bA).alloc sI _;have hE:vS ⟨d,h,ref,val⟩=if 16<val.size then 3 else if h<1\/1073741824<h\/d=id0 then 5 else 0:=rfl;have HE:=dH hE;clear hE;dsimp only at *;obtain⟨b,hb⟩:=eX (d==id0)
 have Hb:=dH hb;cases b
 all_goals
  clear hb;go_enter func192,ntmps192
  go_wp2_with fail
  all_goals
   go_ret;exact⟨yA (by rw[HE.out];have f:=Hb.out;(repeat' split) <;> first | rfl | omega | (simp_all;done) | (simp_all;omega)),hB⟩
theorem yd(ah:Int)(a:zB)(bh:Int)(b:zB)(w:World) :
  Calls prog 162 #[.int .i64 ah,.agg (idC a),.int .i64 bh,.agg (idC b)] w λe w'=>e=.returned (.bool (bG ah a bh b))/\Below w.heap.size w w':=by
 have hB:Below w.heap.size w ((w.alloc (.cells (idC a) 31)).alloc (.cells (idC b) 31)):=(bA).alloc sI _;have hA:bG ah a bh b=if ah=bh then decide (yE a b<0)else decide (ah<bh):=rfl;have HA:=dH hA;clear hA;by_cases h:ah=bh
 ·subst h;go_enter func162,ntmps162
  (go_wp2_with fail);refine(ZF a b _).mono ?_;rintro e w1 ⟨rfl,d⟩;have f:=yK hB d;clear hB d;(go_wp2_with fail);go_ret;exact⟨yB (by rw[HA.out];simp),f⟩
 ·have hn:(ah != bh)=true:=by simpa using h
  have g:(ah==bh)=false:=by simpa using h
  have Hh:=dH h;clear h;go_enter func162,ntmps162
  (go_wp2_with fail);go_ret;exact⟨yB (by rw[HA.out,if_neg Hh.out]),hB⟩
theorem sqdel(d:zB)(w:World)(M:List Nat)(g bn bb bg:Nat)(N:List zW)(G:List zB)(h:xF w M g bn bb bg N G) :
  Calls prog 247 #[.pointer (some ⟨g,0,none⟩),.agg (idC d)] w λe w'=>e=.returned (.int .i64 0)/\xF w' M g bn bb bg N (jO yE G d)/\z9 [bg] w w':=by
 have hB:Below w.heap.size w (w.alloc (.cells (idC d) 31)):=bA;have h1:=h.below hB;have hr:zA (w.alloc (.cells (idC d) 31)) w.heap.size 0 32=some (idC d):=by simp[go_sem]
 have F:=h.lt;go_enter func247,ntmps247
 go_upto_region 1 with fail
 obtain⟨ga,k⟩:=eX w.heap.size
 have L:=dH k;rw[k]at hr hB F |-;obtain⟨W,hW⟩:=eR (w.alloc (.cells (idC d) 31))
 rw[<-hW]at h1 hr hB |-;clear hW k;(go_wp2_with fail);refine(nZ W g bn h1.cell0).mono ?_;rintro e w1 ⟨rfl,rfl⟩;go_upto_region 3 with fail
 have B:=h1.cell2;obtain⟨w2,j,D,y⟩:=vl (x:=d) (h1.gone.kept (z9.drew W) sI);have A:g∉[bg]:=by simpa using h1.neg.2.2
 refine kX [bg] W ?_;intro E hS;have b1:=zG B A;have b2:=zY hr (S:=[bg]) sO;refine lQ ?_;intro K hK;refine zI (yC hS y sI) (λhS=>?_);refine hK _ _ ?_;clear hK K;refine zD ?_;intro hS;have f:z9 [bg] W w2:=hS;obtain⟨es,J,hn⟩:=h1.nodes;obtain⟨BM,I,r,hb,s,t⟩:=h1.behind;have m:xF w2 M g bn bb bg N (jO yE G d):=by
  refine⟨(f.block g h1.ltg A).trans h1.blk,⟨es,J,hn.kept f (by simpa using h1.ne.2.1)⟩,⟨BM,I,r,hb.kept f (by simpa using h1.ne.2.2),λp hp=>?_,t⟩,yM.congr D (λx=>by rw[jG vQ,mem_cons]),h1.inM,h1.ne,h1.one,h1.ok⟩;obtain⟨s1,s2⟩:=s p hp;exact⟨s1.kept f (λx hx hm=>by have e:x=bg:=by simpa using hm
                                                                                                                                                                                                                                                                       subst e;exact(s2 x hx).1 h1.inM.2.2),λx hx=>⟨(s2 x hx).1,Nat.lt_of_lt_of_le (s2 x hx).2 f.size⟩⟩
 have H:z9 [bg] w w2:=z9.trans ((z9.of_below (hB.mono (by rw[L.out];exact lR))).mono (S':=[bg]) sI) f iL;clear b1 b2 E hS y j hr B h1 hB D hn hb s t f;(go_wp2_with fail);go_ret;exact⟨rfl,m,H⟩
end
section
open Go.RowKit Go.Shelf
theorem tI{T E:TypeId}{bytes:Nat}(I:yR P T E k bytes)(w:World)(A:Option Addr)(n cap m:Nat)(hm:m<=cap) :
  (slS T (.slice A n cap) none (some (.int .i64 m)) (some (.int .i64 m))).run P w=.ok (.slice A m m) w:=by
 rw[tJ I];unfold Instr.slice Instr.sliceBounds;simp only[Sem.run_bind,run_underlying I.und,Result.andThen_ok,Sem.run_pure,kD w m cap hm,kD w m m lR,I.sizeOf_run w];have e:(if m=0 then A else A.map λa=>a.add (0*k))=A:=by
  split
  ·rfl
  ·cases A with
   | none=>rfl
   | some a=>simp[Addr.add]
 simp only[Nat.sub_zero,e]
theorem grow0(w:World)(n:Nat)(h0:0<n)(hn:n<=1000000) :
  Calls prog 290 #[.slice none 0 0,.int .i64 n] w λe w'=>∃A cap,e=.returned (.slice A 0 cap)/\Own w' w.heap.size 31 32 A 0 cap []/\Below w.heap.size w w':=by
 obtain⟨i,z,hi,hz,s,r,m⟩:=yP.info;have c:=Any8.slices_Grow_grow layGrowId i z hi hz oM none 0 0 n [] w lR oM (by rw[r];omega) oM sI (λ_=>rfl) sI;have k:layGrowId_ren.t 25=31:=rfl;have hG:=grownCap_ge w (0+n) 0 31;have hM:=grownCap_le_maxLen w (0+n) 0 31 (by unfold maxLen;omega);rw[k]at c;obtain⟨G,j⟩:=eX (grownCap w (0+n) 0 31)
 rw[j]at c hG hM;clear j k;refine c.mono ?_;rintro e w' ⟨rfl,rfl⟩;obtain⟨cs,g⟩:=eX (#[]++Builtin.zeroCells z.cells (0+n-0)++Builtin.zeroCells z.cells (G-(0+n)):Array Value)
 have d:cs.size=G*32:=by
  rw[<-g,Array.size_append,Array.size_append,size_zeroCells,size_zeroCells,m];simp only[size_toArray,length_nil,Nat.zero_add,Nat.sub_zero];rw[<-Nat.add_mul,show n+(G-n)=G from by omega]
 have f:(([]:List Value).toArray++Builtin.zeroCells z.cells (0+n-0)++Builtin.zeroCells z.cells (G-(0+n)):Array Value)=cs:=g;rw[f];refine⟨some ⟨w.heap.size,0,none⟩,G,rfl,⟨⟨rfl,.inr ⟨w.heap.size,G,cs,rfl,lR,heap_alloc_new w.drew _,zL,hM,d,rfl⟩⟩,rfl,sI⟩,((Below.refl _ _).drew).alloc lR _⟩
theorem X8(w:World)(q c0:Nat)(A1 A2 A3:Option Addr)(n1 n2 n3 c1 c2 c3:Nat)(R1 R2 R3:List zB)(h1:zX w A1 n1 R1)(h2:zX w A2 n2 R2)(h3:zX w A3 n3 R3)(f1:A1=none->c1=0)(f2:A2=none->c2=0)(f3:A3=none->c3=0)
  (k0:w.cell? ⟨q,0,none⟩=some (.slice A1 n1 c1))(k1:w.cell? ⟨q,1,none⟩=some (.slice A2 n2 c2))(k2:w.cell? ⟨q,2,none⟩=some (.slice A3 n3 c3))(hp:0<n1+n2+n3)(hn:n1+n2+n3<=1000000) :
  Calls prog 257 #[.slice (some ⟨q,0,none⟩) 3 c0] w λe w'=>∃A cap,e=.returned (.slice A (n1+n2+n3) cap)/\Own w' w.heap.size 31 32 A (n1+n2+n3) cap ((R1++R2++R3).map idC)/\Below w.heap.size w w':=by
 have cg:=grow0 w (n1+n2+n3) hp hn;rw[show((n1+n2+n3:Nat):Int)=(n1:Int)+(n2:Int)+(n3:Int)from by omega]at cg;go_enter func257,ntmps257
 (go_wp2_with fail);refine wp_loop_rounds 4 ?_;rw[rounds_succ];(go_wp2_with fail);rw[rounds_succ];(go_wp2_with fail);rw[rounds_succ];(go_wp2_with fail);rw[rounds_succ];(go_wp2_with fail);refine cg.mono ?_;rintro e w1 ⟨A,cap,rfl,j,hb⟩;have U:=(hb.cell (block_lt_of_cell? w _ k0)).trans k0;have X:=(hb.cell (block_lt_of_cell? w _ k1)).trans k1;have O:=(hb.cell (block_lt_of_cell? w _ k2)).trans k2;have t1:zX w1 A1 n1 R1:=SlR.below h1 hb;have t2:zX w1 A2 n2 R2:=SlR.below h2 hb;have t3:zX w1 A3 n3 R3:=SlR.below h3 hb;have hq:q<w.heap.size:=block_lt_of_cell? w _ k0;have D:∀R:List zB,∀r∈R.map idC,∀u∈r.toList,u.oneCell'=true:=λR r hr=>by
  obtain⟨x,_,rfl⟩:=mem_map.1 hr;exact yN x
 have a3:=hb.size;have m:=dH D;clear cg D;(go_wp2_with fail);refine wp_loop_rounds 4 ?_;rw[rounds_succ];go_wp2_with (at_builtin;refine mF yP rfl j rfl t1 f1 (m.out _) oM oM oM ?_;intro B1 d1 w2 f H B)
 simp only[Nat.zero_add,nil_append]at f;have k:Below w.heap.size w w2:=hb.trans (H.below (oH hb.size) (λx hx=>(j.at_base hx).1));have a1:=k.size;have V:=(k.cell (block_lt_of_cell? w _ k1)).trans k1;have N:=(k.cell (block_lt_of_cell? w _ k2)).trans k2;have Z:=(k.cell (block_lt_of_cell? w _ k0)).trans k0;have L:zX w2 A2 n2 R2:=SlR.below h2 k;clear H B j U X O;rw[rounds_succ];go_wp2_with (at_builtin;refine mF yP rfl f rfl L f2 (m.out _) oM oM oM ?_;intro B3 d3 w3 d G y)
 simp only[<-map_append]at d;have s:Below w.heap.size w w3:=k.trans (G.below (oH k.size) (λx hx=>(f.at_base hx).1));have a0:=s.size;have T:=(s.cell (block_lt_of_cell? w _ k1)).trans k1;have M:=(s.cell (block_lt_of_cell? w _ k2)).trans k2;have Y:=(s.cell (block_lt_of_cell? w _ k0)).trans k0;have J:zX w3 A3 n3 R3:=SlR.below h3 s;clear G y f Z V N;rw[rounds_succ];go_wp2_with (at_builtin;refine mF yP rfl d rfl J f3 (m.out _) oM oM oM ?_;intro B4 d4 w4 g F t)
 have I:Below w.heap.size w w4:=s.trans (F.below oM (λx hx=>(d.at_base hx).1));rw[<-map_append]at g;have E:=dH g;have a2:=(I.cell (block_lt_of_cell? w _ k0)).trans k0;clear F t d Y T M g;rw[rounds_succ];(go_wp2_with fail);go_ret;exact⟨B4,d4,rfl,E.out,I⟩
end
end Go.Proofs.YtdjiaickicgdlaaGreatDoor
