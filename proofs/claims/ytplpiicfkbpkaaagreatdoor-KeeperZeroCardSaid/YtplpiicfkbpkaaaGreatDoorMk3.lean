/- Part 3 of the texts that lead to this claim: the walks of the functions and the plain law, in order. -/
import Derived.Test.YtplpiicfkbpkaaaGreatDoorMk2
import Derived.ProofKit
import Derived.OpenShut
import Derived.JoinedCond
import Derived.Sort.Grow
import Derived.Deep.Slices
import Derived.RowKit
import Derived.Lib.BufferWrite
import Derived.Lib.LaidTab
namespace Go.Proofs.YtplpiicfkbpkaaaGreatDoor
open Go.RowKit
open List hiding and get max min or set
open Go.Proofs.Tryz
open World
set_option maxRecDepth 100000
set_option maxHeartbeats 8000000
variable {w w':World}{B base cap g k m n o:Nat}{H α:Type}{P:Program}{args:Array Value}{E T ty:TypeId}{j:Bool}{cs:List Value}{S:List Nat}{L R:List (Array Value)}{A A2:Option Addr}{ops:Array Oper}{Q:Exit->Act->World->Prop}
theorem nan_int(x:Int)(w:World):Calls prog 334 #[.int .i64 x] w λe w'=>e=.returned (.bool false)/\w=w':=by
 go_enter func334,ntmps334
 (go_wp2_with fail);go_ret;exact⟨ret_bool sI,rfl⟩
theorem nan_str(x:ByteArray)(w:World):Calls prog 311 #[.string x] w λe w'=>e=.returned (.bool false)/\w=w':=by
 go_enter func311,ntmps311
 (go_wp2_with fail);go_ret;exact⟨ret_bool sI,rfl⟩
theorem cmp_int(x y:Int)(w:World):Calls prog 329 #[.int .i64 x,.int .i64 y] w λe w'=>e=.returned (.int .i64 (cmpI x y))/\w=w':=by
 go_enter func329,ntmps329
 go_wp2_with (go_at_call 334;refine(nan_int _ _).mono ?_;rintro e w' ⟨rfl,rfl⟩)
 all_goals
  go_ret;exact⟨ret_int (by unfold cmpI;first | rw[if_pos oM] | rw[if_neg oM,if_pos oM] | rw[if_neg oM,if_neg oM]),rfl⟩
theorem cmp_str_h(x y:ByteArray)(b1 b2:Bool)(h1:Op.bytesLess x.toList y.toList=b1)(h2:(x.toList==y.toList)=b2)(w:World) :
  Calls prog 287 #[.string x,.string y] w λe w'=>e=.returned (.int .i64 (if b1=true then -1 else if b2=true then 0 else 1))/\w=w':=by
 go_enter func287,ntmps287
 go_wp2_with (go_at_call 311;refine(nan_str _ _).mono ?_;rintro e w' ⟨rfl,rfl⟩)
 all_goals
  go_ret;exact⟨ret_int (by simp_all),rfl⟩
theorem cmp_str(x y:ByteArray)(w:World):Calls prog 287 #[.string x,.string y] w λe w'=>e=.returned (.int .i64 (cmpS x y))/\w=w':=by
 have d:Op.bytesLess x.toList y.toList=decide (cmpS x y<0):=bytesLess_cmp _ _;have f:(x.toList==y.toList)=decide (cmpS x y=0):=by
  rw[Bool.eq_iff_iff];simp only[beq_iff_eq,decide_eq_true_eq,cmpS_zero,toList_inj]
 refine(cmp_str_h x y _ _ d f w).mono ?_;rintro e w' ⟨rfl,rfl⟩;refine⟨ret_int ?_,rfl⟩;rcases cmpS_range x y with h | h | h <;> rw[h] <;> rfl
theorem or_any(g cap:Nat)(L:List Int)(hL:L.length<=9223372036854775807)(w:World)(hc:∀j,j<L.length->w.cell? ⟨g,j,none⟩=some (.int .i64 (L.getD j 0))) :
  Calls prog 286 #[.slice (some ⟨g,0,none⟩) L.length cap] w λe w'=>e=.returned (.int .i64 (orL L))/\w=w':=by
 have Hc:=dH hc;clear hc;go_enter func286,ntmps286
 go_wp2_with fail
 go_loop [5,8] (λ_ i=>∃k:Nat,k<=L.length/\i=.int .i64 k/\Hid (orL (L.drop k)=orL L)) (λ_ i=>L.length-(intOf i).toNat)
 case atStart=>exact⟨0,zL,rfl,rfl⟩
 case round =>
  obtain⟨k,hk,rfl,hd⟩:=hrel;by_cases r:k<L.length
  ·have f:=Hc.out k r;have d:L.drop k=L.getD k 0 :: L.drop (k+1):=by
    rw[drop_eq_getElem_cons r];simp[getD,r]
   by_cases hz:L.getD k 0=0
   ·have m:(L.getD k 0 != 0)=false:=by rw[bne_eq_false_iff_eq];exact hz
    have hn:Hid (orL (L.drop (k+1))=orL L):=by
     show _=_;rw[<-hd.out,d];show _=if L.getD k 0=0 then _ else _;rw[if_pos hz]
    clear hz d;obtain⟨x,hx⟩:∃x:Int,L.getD k 0=x:=⟨_,rfl⟩
    rw[hx]at f m;have Hx:=dH hx;clear hx;go_wp2_with fail
    go_round
    case rel=>exact⟨k+1,oM,by go_num,hn⟩
    case measure=>exact sZ
   ·have m:(L.getD k 0 != 0)=true:=by rw[bne_iff_ne];exact hz
    have hn:Hid (L.getD k 0=orL L):=by
     show _=_;rw[<-hd.out,d];show _=if L.getD k 0=0 then _ else _;rw[if_neg hz]
    clear hz d;obtain⟨x,hx⟩:∃x:Int,L.getD k 0=x:=⟨_,rfl⟩
    rw[hx]at f m hn;have Hx:=dH hx;clear hx;(go_wp2_with fail);go_ret;exact⟨ret_int hn.out,rfl⟩
  ·(go_wp2_with fail);go_ret;have e:L.drop k = []:=drop_eq_nil_of_le oM;have h0:=hd.out;rw[e]at h0;exact⟨ret_int h0,rfl⟩
theorem loadBytes_run(w:World):∀(l:List UInt8) (a:Addr) (acc:ByteArray),(∀j u,l[j]?=some u->w.cell? (a.add j)=some (.int .u8 u.toNat)) ->
  (Extern.Bytes.loadBytes a l.length acc).run prog w=.ok ⟨acc.data++l.toArray⟩ w
 | [],a,acc,_=>by simp[Extern.Bytes.loadBytes]
 | x :: l,a,acc,h=>by
  have h0:w.cell? a=some (.int .u8 x.toNat):=by
   have:=h 0 x rfl;simpa[Addr.add]using this
  have ih:=loadBytes_run w l (a.add 1) (acc.push x) (λj u hu=>by
   have:=h (j+1) u (by simpa using hu);have e:(a.add 1).add j=a.add (j+1):=by
    unfold Addr.add;by_cases hj:j=0 <;> simp[hj,Nat.add_assoc,Nat.add_comm 1 j]
   rw[e];exact this)
  have ex:((x.toNat:Int).toNat).toUInt8=x:=sI;simp only[length_cons,Extern.Bytes.loadBytes,Sem.run_bind,run_load,h0,Result.andThen_ok,ex];rw[ih];simp[ByteArray.push]
theorem byteCmp_run(w:World)(a b:Addr)(n m ca cb:Nat)(x y:List UInt8)(hn:x.length=n)(hm:y.length=m)
  (hx:∀j u,x[j]?=some u->w.cell? (a.add j)=some (.int .u8 u.toNat))(hy:∀j u,y[j]?=some u->w.cell? (b.add j)=some (.int .u8 u.toNat)) :
  (Extern.BytealgCompare.compare #[.slice (some a) n ca,.slice (some b) m cb]).run prog w=.ok (.int .i64 (cmpB x y)) w:=by
 subst hn;subst hm;have e1:=loadBytes_run w x a .empty hx;have e2:=loadBytes_run w y b .empty hy;change Sem.run prog (do pure (goInt (Extern.BytealgCompare.cmp (<-Extern.Bytes.loadBytes a x.length .empty) (<-Extern.Bytes.loadBytes b y.length .empty)))) w=_;simp only[Sem.run_bind,e1,e2,Result.andThen_ok,Sem.run_pure,goInt,Lib.cmp_eq]
 simp
theorem bytesCmp_any(a b:Addr)(n m ca cb:Nat)(x y:List UInt8)(w:World)(hn:x.length=n)(hm:y.length=m)
  (hx:∀j u,x[j]?=some u->w.cell? (a.add j)=some (.int .u8 u.toNat))(hy:∀j u,y[j]?=some u->w.cell? (b.add j)=some (.int .u8 u.toNat)) :
  Calls prog 232 #[.slice (some a) n ca,.slice (some b) m cb] w λe w'=>e=.returned (.int .i64 (cmpB x y))/\w=w':=by
 have hr:(callFunc 269 #[.slice (some a) n ca,.slice (some b) m cb]).run prog w=.ok (.value (.int .i64 (cmpB x y))) w:=by
  rw[run_callFunc_extern func269 kR kR kR (e:=Extern.BytealgCompare.compare) kR,byteCmp_run w a b n m ca cb x y hn hm hx hy];rfl
 clear hx hy hn hm;go_enter func232,ntmps232
 (go_wp2_with fail);go_ret;exact⟨rfl,rfl⟩
theorem id_cells{x:Id32}(h:rowAt w g o 32=some (idC x)):∀j u,x.l[j]?=some u->w.cell? ((⟨g,o,none⟩:Addr).add j)=some (.int .u8 u.toNat):=by
 intro j u hu;have hj:j<32:=by
  have:=(List.getElem?_eq_some_iff.1 hu).1;rw[x.h]at this;exact this
 have d:(⟨g,o,none⟩:Addr).add j=⟨g,o+j,none⟩:=by unfold Addr.add;split <;> simp_all
 rw[d,rowAt_cell h hj,idC_get,if_pos hj];unfold idB;rw[getD,hu];rfl
theorem cmp_id(x y:Id32)(w:World):Calls prog 173 #[.agg (idC x),.agg (idC y)] w λe w'=>e=.returned (.int .i64 (cmpId x y))/\Below w.heap.size w w':=by
 have hB:Below w.heap.size w ((w.alloc (.cells (idC x) 23)).alloc (.cells (idC y) 23)):=(bA).alloc sI _;have hx:rowAt ((w.alloc (.cells (idC x) 23)).alloc (.cells (idC y) 23)) w.heap.size 0 32=some (idC x):=by simp[go_sem]
 have hy:rowAt ((w.alloc (.cells (idC x) 23)).alloc (.cells (idC y) 23)) (w.heap.size+1) 0 32=some (idC y):=by simp[go_sem]
 have hx:=dH (id_cells hx);have hy:=dH (id_cells hy);go_enter func173,ntmps173
 go_wp2_with fail
 ·go_ret;have h:(x==y)=true:=by assumption
  have:x=y:=by simpa using h
  subst this;exact⟨ret_int (cmpId_self x).symm,hB⟩
 ·go_quiet ((go_at_call 232;exact quiet_eq (bytesCmp_any _ _ _ _ _ _ x.l y.l _ x.h y.h hx.out hy.out)))
  (go_wp2_with fail);go_ret;exact⟨rfl,below_drewN hB _⟩
section
open Go.ChangeShapes Go.WideShapes Go.ChangeAt Go.RowKit
theorem Tryz.own:ownKnob prog.godebug=none:=kR
theorem Tryz.laidOut:laidOutB prog=true:=kR
theorem trodAll_below{H:Type}{enc:TypeId×Value->H}{P:Program}{W W':World}(hl:laidOutB P=true)(hb:Below W.heap.size W W') :
  ∀(ts:List TypeId) (vs:List Value) (ds:List (DataW H)) (ps:List MemPlace),(∀t∈ts,P.readableRec t=true/\t<P.types.size) ->
   DataW.TrodAll enc P W 0 (λ_=>true) true ts vs ds ps->(∀x∈ps,x.block<W.heap.size) ->
   DataW.TrodAll enc P W' 0 (λb=>decide (b<W.heap.size)) true ts vs ds ps
 | [],[],[],_,_,h,_=>h
 | t :: ts,v :: vs,d :: ds,ps,hr,h,hlt=>by
  obtain⟨p,q,h1,h2,rfl⟩:=h;have f:=hr t sI;exact⟨p,q,Below.trod hl f.1 f.2 h1 hb (λx hx=>hlt x (mem_append.2 (.inl hx))),
   trodAll_below hl hb ts vs ds q (λt' ht=>hr t' (mem_cons.2 (.inr ht))) h2 (λx hx=>hlt x (mem_append.2 (.inr hx))),rfl⟩
 | [],_ :: _,_,_,_,h,_=>h.elim
 | [],[],_ :: _,_,_,h,_=>h.elim
 | _ :: _,[],_,_,_,h,_=>h.elim
 | _ :: _,_ :: _,[],_,_,h,_=>h.elim
theorem law_post{enc:TypeId×Value->H}{f:Func}{s:ChangeSpec}{apart k d:Bool}{W W':World}{ds:List (DataW H)}{g:List MemPlace}{tb:TypeId}
  (hl:laidOutB P=true)(hr:f.resultTypes = #[tb])(y:P.underlying tb=some .bool)(hv:s.vars = [])
  (r:s.fn H (ds ++ []) = { results:=[.lit (.bool true)],args:=ds })(m:f.params.toList.all (λt=>P.readableRec t&&decide (t<P.types.size))=true)
  (hW:DataW.Whole enc P f.params.toList s.vars apart W args.toList ds [] g)(hb:Below W.heap.size W W') :
  s.post enc P f apart k d false W args (.bool true) W':=by
 have A:=λp hp=>hW.lt p hp;have B:=hW;obtain⟨p,q,hA,hV,rfl,_,_⟩:=hW;have hq:q = []:=by rw[hv]at hV;exact hV
 subst hq;have j:∀t∈f.params.toList,P.readableRec t=true/\t<P.types.size:=by
  intro t ht;have:=all_eq_true.1 m t ht;simpa using this
 refine⟨ds,[],p ++ [],[],p,[],B,?_,?_,?_,?_,λh=>nomatch h⟩
 ·rw[hr,r];have e:(Value.bool true).resultList (#[tb]:Array TypeId).size = [.bool true]:=rfl;rw[e];exact trodAll_mk1 (shut_bool y true)
 ·rw[r];exact trodAll_below hl hb _ _ _ _ j hA (λx hx=>A x (mem_append.2 (.inl hx)))
 ·rw[r,hv];rfl
 ·exact hb.frame _
end
theorem mapM_some_all{α β:Type}{f:α->Option β}:∀ {L:List α},(∀x∈L,∃y,f x=some y)->∃ys,L.mapM f=some ys
 | [],_=>⟨[],rfl⟩
 | x :: L,h=>by
  obtain⟨y,hy⟩:=h x sI;obtain⟨ys,d⟩:=mapM_some_all (L:=L) (λz hz=>h z (by simp[hz]));exact⟨y :: ys,by simp[mapM_cons,hy,d]⟩
theorem size3:3<=prog.types.size:=of_decide_eq_true kR
theorem cellsId:prog.cellsOf 23=32:=kR
theorem cellsByte:prog.cellsOf 5=1:=kR
theorem keyLits_str(d:Nat){s:ByteArray}(h:s.size<=maxLen):∃l,prog.keyLits (d+1) 9 [.string s]=some l:=by
 refine Option.isSome_iff_exists.1 ?_;unfold Program.keyLits;simp only[underlying9];rw[if_pos h];rfl
theorem keyLits_id(d:Nat)(x:Id32):∃l,prog.keyLits (d+2) 23 (idC x).toList=some l:=by
 have f:∀i∈List.range 32,∃y,prog.keyLits (d+1) 5 (((idC x).toList.drop (i*prog.cellsOf 5)).take (prog.cellsOf 5))=some y:=by
  intro i hi;have j:i<32:=mem_range.1 hi;rw[cellsByte,Nat.mul_one];have e:((idC x).toList.drop i).take 1 = [.int .u8 (idB x i)]:=by
   have:=idC_get x i;rw[if_pos j]at this;have h2:(idC x).toList[i]?=some (.int .u8 (idB x i)):=by simpa using this
   rw[take_one,head?_drop,h2];rfl
  rw[e];refine Option.isSome_iff_exists.1 ?_;unfold Program.keyLits;simp only[underlying5];rw[if_pos ⟨trivial,by have:=idB_bd x i;simp[Lit.wf,IntKind.min,IntKind.max,IntKind.signed,IntKind.bits];omega⟩];rfl
 obtain⟨ys,g⟩:=mapM_some_all f;refine Option.isSome_iff_exists.1 ?_;unfold Program.keyLits;simp only[underlying23];rw[if_pos (by rw[cellsId];simp),g];rfl
theorem rowId:23<prog.types.size:=of_decide_eq_true kR
theorem idKey:KeyEnc prog 23 (λx:Id32=>.agg (idC x)) (λ_=>True) where
 law:=deep_law_laid Tryz.laidOut (m:=2) oM rowId kR (by rw[underlying23])
 key:=λx _=>by
  obtain⟨d,hd⟩:∃d,prog.types.size+1=d+2:=⟨prog.types.size-1,oH size3⟩
  obtain⟨l,hl⟩:=keyLits_id d x;refine⟨.string (keyBytes l),?_⟩;unfold keyOf;simp only[underlying23];have f:prog.keyType 23=true:=kR;have hf:(Value.agg (idC x)).formed prog 23=true:=by simp[Value.formed,underlying23,cellsId]
  rw[f,hf,hd];simp only[Bool.and_self,if_true];have:(Value.agg (idC x)).cells.toList=(idC x).toList:=rfl;rw[this,hl];rfl
 inj:=λa b h=>by injection h with h;exact idC_inj h
section
open Go.RowKit Go.Sort
def Gr(W w:World):Prop:=∃q os,w=grow (W.drewN q) os
theorem Gr.refl(w:World):Gr w w:=⟨0,#[],by rw[grow_empty];rfl⟩
theorem Gr.trans{a b c:World}(h:Gr a b)(k:Gr b c):Gr a c:=by
 obtain⟨q,os,rfl⟩:=h;obtain⟨q',d,rfl⟩:=k;refine⟨q+q',os++d,?_⟩;show grow (grow ((a.drewN q).drewN q') os) d=_;rw[grow_grow,drewN_drewN]
theorem Gr.alloc{W w:World}(h:Gr W w)(o:Obj):Gr W (w.alloc o):=h.trans ⟨0,#[o],by rw[alloc_eq_grow];rfl⟩
theorem Gr.drewN{W w:World}(h:Gr W w)(n:Nat):Gr W (w.drewN n):=h.trans ⟨n,#[],by rw[grow_empty]⟩
end
structure BRow where
 tag:Id32
 val:ByteArray
def bRowC(x:BRow):Array Value:=idC x.tag ++ #[.string x.val]
@[simp] theorem bRowC_size(x:BRow):(bRowC x).size=33:=by simp[bRowC]
@[go_sem] theorem bRowC_e0(x:BRow):(bRowC x).extract 0 32=idC x.tag:=by
 have h:bRowC x=((#[]:Array Value))++idC x.tag++(#[.string x.val]):=by first | (simp[bRowC,Array.append_assoc];done) | (apply Array.ext';simp[bRowC];done)
 rw[h];exact arr_mid _ _ _ _ _ sI sI
@[go_sem] theorem bRowC_g32(x:BRow):(bRowC x)[32]?=some (.string x.val):=by first | (simp[bRowC,Array.getElem?_append];done) | (rw[show bRowC x=(idC x.tag) ++ #[.string x.val]++((#[]:Array Value))from by apply Array.ext';simp[bRowC]];exact arr_at _ _ _ _ sI)
@[go_sem] theorem bRowC_pop(x:BRow):(bRowC x).pop=idC x.tag:=by apply Array.ext';simp[bRowC]
@[go_sem] theorem bRowC_all(x:BRow):(bRowC x).extract 0 33=bRowC x:=by have:=Array.extract_size (xs:=bRowC x);rwa [bRowC_size]at this
theorem bRowC_inj{x y:BRow}(h:bRowC x=bRowC y):x=y:=by
 have h0:=congrArg (λa=>a.extract 0 32) h;simp only[bRowC_e0]at h0;have h0:=idC_inj h0;have h1:=congrArg (λa=>a[32]?) h;simp only[bRowC_g32,Option.some.injEq,Value.string.injEq]at h1;cases x;cases y;simp_all
theorem bRowC_one(x:BRow):∀u∈(bRowC x).toList,u.oneCell'=true:=by
 intro u hu;simp only[bRowC,Array.toList_append,mem_append]at hu;rcases hu with hu | hu
 ·exact idC_one _ u hu
 ·simp at hu;subst hu;rfl
def bRow0:BRow:=⟨id0,⟨#[]⟩⟩
theorem BRow_ext{x y:BRow}(h:x.tag=y.tag/\x.val=y.val):x=y:=by cases x;cases y;simp_all
instance:DecidableEq BRow:=λx y=>if h:x.tag=y.tag/\x.val=y.val then isTrue (BRow_ext h)else isFalse (λe=>h (by subst e;simp))
theorem infoBRow:(prog.info? 314).map (·.size)=some 33:=kR
@[go_sem ↓] theorem zeroBRow_run(w:World):(zeroValue 314).run prog w=.ok (.agg (bRowC bRow0)) w:=by
 have h:(prog.info? 314).bind (·.zero)=some (.agg (bRowC bRow0)):=kR;cases hi:prog.info? 314 with
 | none=>rw[hi]at h;cases h
 | some i =>
  rw[hi]at h;have hz:i.zero=some (.agg (bRowC bRow0)):=h;simp[zeroValue,typeInfo,hi,hz]
@[go_sem ↓] theorem loadBRow_rw(a:Addr):loadVar 314 a=ldS 314 a:=rfl
@[go_sem ↓] theorem storeBRow_rw(a:Addr)(v:Value):storeVar 314 a v=stS 314 a v:=rfl
@[go_sem] theorem loadBRow_run(w:World)(g o:Nat):(ldS 314 ⟨g,o,none⟩).run prog w=match rowAt w g o 33 with | some cs=>.ok (.agg cs) w | none=>(loadVar 314 ⟨g,o,none⟩).run prog w :=
 run_ldS underlying314 rfl infoBRow w g o
@[go_sem] theorem storeBRow_run(w:World)(g:Nat)(hg:g=w.heap.size)(z:Array Value)(hz:z.size=33)(x:BRow)(e:TypeId):(stS 314 ⟨g,0,none⟩ (.agg (bRowC x))).run prog (w.alloc (.cells z e))=.ok () (w.alloc (.cells (bRowC x) e)) :=
 hg ▸ run_stS_new infoBRow w z (bRowC x) hz (bRowC_size x) (bRowC_one x)
theorem fieldsBRow:prog.underlying 314=some (.struct (prog.fieldsOf 314)):=kR
theorem placesBRow(w:World):((prog.fieldsOf 314).mapM fun (f:Field)=>do pure (f.offset,<-sizeOf f.type)).run prog w=.ok #[(0,32),(32,1)] w:=kR
@[go_sem ↓] theorem buildBRow_rw(parts:Array (Nat×Value)):Instr.build 314 parts=bdS 314 parts:=rfl
@[go_sem] theorem buildBRow(a0:Id32)(a1:ByteArray)(w:World):(bdS 314 #[(0,.agg (idC a0)),(1,.string a1)]).run prog w=.ok (.agg (bRowC ⟨a0,a1⟩)) w:=by
 refine run_build w fieldsBRow _ (zeroBRow_run w) _ (placesBRow w) [(0,.agg (idC a0)),(1,.string a1)] _ ?_;rw[show bRowC bRow0=(#[]:Array Value)++idC id0++(#[.string ⟨#[]⟩])from by first | (simp[bRowC,bRow0,Array.append_assoc];done) | (apply Array.ext';simp[bRowC,bRow0])];rw[fill_step (off:=0) (size:=32) rfl sI sI (by simp[Value.cells])];rw[show(#[]:Array Value)++(Value.agg (idC a0)).cells++(#[.string ⟨#[]⟩])=(idC a0) ++ #[.string ⟨#[]⟩]++(#[]:Array Value)from by first | (simp[Value.cells,Array.append_assoc];done) | (apply Array.ext';simp[Value.cells];done) | (apply Array.ext';simp only[Array.toList_append];simp[Value.cells])];rw[fill_step (off:=32) (size:=1) rfl sI sI (by simp[Value.cells])];first | (simp[Instr.fill,bRowC,Array.append_assoc,Value.cells];done) | (simp only[Instr.fill,bRowC];congr 1;apply Array.ext';simp[Value.cells];done) | (simp only[Instr.fill,bRowC];congr 1;done) | (simp only[Instr.fill,bRowC];done)
def cmpRow(x y:BRow):Int:=orL [cmpId x.tag y.tag,cmpS x.val y.val]
theorem orL2(a b:Int):orL [a,b]=orC a b:=by
 unfold orC orL orL orL;split
 ·split <;> simp_all
 ·rfl
theorem totRow:TotC cmpRow:=(totId.pair totS).of (λx:BRow=>(x.tag,x.val)) (λx y h=>by
 cases x;cases y
 simp only[Prod.mk.injEq]at h;obtain⟨h1,h2⟩:=h;subst h1;subst h2;rfl) (λx y=>orL2 _ _)
theorem cmp_id_gr(x y:Id32)(w:World):Calls prog 173 #[.agg (idC x),.agg (idC y)] w λe w'=>e=.returned (.int .i64 (cmpId x y))/\Gr w w':=by
 have hB:Gr w ((w.alloc (.cells (idC x) 23)).alloc (.cells (idC y) 23)):=((Gr.refl _).alloc _).alloc _;have hx:rowAt ((w.alloc (.cells (idC x) 23)).alloc (.cells (idC y) 23)) w.heap.size 0 32=some (idC x):=by simp[go_sem]
 have hy:rowAt ((w.alloc (.cells (idC x) 23)).alloc (.cells (idC y) 23)) (w.heap.size+1) 0 32=some (idC y):=by simp[go_sem]
 have hx:=dH (id_cells hx);have hy:=dH (id_cells hy);go_enter func173,ntmps173
 go_wp2_with fail
 ·go_ret;have h:(x==y)=true:=by assumption
  have:x=y:=by simpa using h
  subst this;exact⟨ret_int (cmpId_self x).symm,hB⟩
 ·go_quiet ((go_at_call 232;exact quiet_eq (bytesCmp_any _ _ _ _ _ _ x.l y.l _ x.h y.h hx.out hy.out)))
  (go_wp2_with fail);go_ret;exact⟨rfl,hB.drewN _⟩
theorem cellsRow:prog.cellsOf 314=33:=kR
theorem rowRow:314<prog.types.size:=of_decide_eq_true kR
theorem cellsStr:prog.cellsOf 9=1:=kR
theorem keyLits_row(d:Nat){x:BRow}(h:x.val.size<=maxLen):∃l,prog.keyLits (d+3) 314 (bRowC x).toList=some l:=by
 obtain⟨l1,h1⟩:=keyLits_id d x.tag;obtain⟨l2,h2⟩:=keyLits_str (d+1) h;have e1:((bRowC x).toList.drop 0).take 32=(idC x.tag).toList:=by simp[bRowC]
 have e2:((bRowC x).toList.drop 32).take 1 = [.string x.val]:=by simp[bRowC]
 refine Option.isSome_iff_exists.1 ?_;unfold Program.keyLits;simp only[underlying314];rw[if_pos ⟨by rw[cellsRow];simp,kR⟩];simp only[mapM_cons,mapM_nil,cellsId,cellsStr,e1,e2,h1,h2];rfl
def rowV(x:BRow):Value:=.agg (bRowC x)
theorem rowKey:KeyEnc prog 314 rowV (λx=>x.val.size<=maxLen) where
 law:=deep_law_laid Tryz.laidOut (m:=3) oM rowRow kR (by rw[underlying314])
 key:=λx hx=>by
  obtain⟨d,hd⟩:∃d,prog.types.size+1=d+3:=⟨prog.types.size-2,oH size3⟩
  obtain⟨l,hl⟩:=keyLits_row d hx;refine⟨.string (keyBytes l),?_⟩;unfold keyOf;simp only[underlying314];have f:prog.keyType 314=true:=kR;have hf:(rowV x).formed prog 314=true:=by simp[rowV,Value.formed,underlying314,cellsRow]
  rw[f,hf,hd];simp only[Bool.and_self,if_true];have:(rowV x).cells.toList=(bRowC x).toList:=rfl;rw[this,hl];rfl
 inj:=λa b h=>by unfold rowV at h;injection h with h;exact bRowC_inj h
section
open Go.RowKit Go.WideShapes
section
variable {P:Program} {w:World}
def Opens(P:Program)(w:World)(T:TypeId){α:Type}(e:α->Array Value)(ok:α->Prop):Prop :=
 ∀ {H:Type} (enc:TypeId×Value->H) (base:Nat) (spare:Nat->Bool) (held:Bool) (fuel:Nat) (cs:List Value) (x:DataW H×List MemPlace),
  DataW.trod enc P w base spare held fuel T cs=some x->∃a,cs=(e a).toList/\ok a
theorem opens_string(u:P.underlying T=some .string):Opens P w T (λs:ByteArray=>#[.string s]) (λs=>s.size<=maxLen):=by
 intro H enc base d f g cs x h;obtain⟨s,rfl,_,hs⟩:=DataW.trod_string u h;exact⟨s,rfl,hs⟩
theorem opens_int{k:IntKind}(u:P.underlying T=some (.int k)):Opens P w T (λn:Int=>#[.int k n]) (λn=>(Lit.int k n).wf=true):=by
 intro H enc base d f g cs x h;obtain⟨n,rfl,_,hs⟩:=DataW.trod_int u h;exact⟨n,rfl,hs⟩
theorem opens_field{U:TypeId}{fs:Array Field}{e:α->Array Value}{ok:α->Prop}{enc:TypeId×Value->H}{d:Nat->Bool}{xs:List (DataW H×List MemPlace)}
  (g:xs.length=fs.size)(m:∀(i:Nat) (f:Field),fs[i]?=some f->DataW.trod enc P w base d j n f.type ((cs.drop f.offset).take (P.cellsOf f.type))=xs[i]?)
  (o:Opens P w U e ok)(i off k:Nat)(f:Field)(hf:fs[i]?=some f)(ht:f.type=U)(ho:f.offset=off)(hk:P.cellsOf U=k):∃a,(cs.drop off).take k=(e a).toList/\ok a:=by
 have h:=m i f hf;rw[ht,ho,hk]at h;have hi:i<xs.length:=by rw[g];exact(aG hf).1
 rw[getElem?_eq_getElem hi]at h;exact o _ _ _ _ _ _ _ h
theorem take_seg:cs.drop o=(cs.drop o).take k++cs.drop (o+k):=by
 rw[<-drop_drop,take_append_drop]
theorem rowAt_of_cells(h:w.cells? base ⟨g,o,none⟩ k=some cs)(hk:0<k):rowAt w g o k=some cs.toArray:=by
 unfold cells? at h;split at h
 ·have j:cs.length=k:=by simpa using mapM_some_length h
  have d:∀i,i<k->w.cell? ⟨g,o+i,none⟩=cs[i]?:=by
   intro i hi;have:=mapM_some_get h i i (by simp[hi]);rw[<-this];congr 1
   unfold Addr.add;split
   ·rename_i e;subst e;rfl
   ·rfl
  have h0:=d (k-1) oM;rw[getElem?_eq_getElem oM]at h0;unfold rowAt;cases hb:w.heap[g]? with
  | none=>simp[cell?,hb]at h0
  | some b =>
   cases b with
   | cells c t f =>
    have h1:∀i,i<k->c[o+i]?=cs[i]?:=by
     intro i hi;have:=d i hi;simpa[cell?,hb]using this
    have m:o+k<=c.size:=by
     have h2:=h1 (k-1) oM;rw[getElem?_eq_getElem oM]at h2;have:=(aG h2).1;omega
    simp only;rw[if_pos m];congr 1
    apply Array.ext';apply ext_getElem?;intro i;by_cases hi:i<k
    ·have:=h1 i hi;simp only[Array.toList_extract,extract_eq_take_drop,getElem?_take,getElem?_drop];rw[if_pos oM];simpa using this
    ·rw[getElem?_eq_none sO,getElem?_eq_none sO]
   | _=>simp[cell?,hb]at h0
 ·cases h
end
theorem open_agg{enc:TypeId×Value->H}{f:Nat->Bool}{e:α->Array Value}{ok:α->Prop}{b0:Nat}{r:Reach}{v:Value}{d:DataW H}{p:List MemPlace}{ds:TypeDesc}(u:P.underlying T=some ds)
  (s:(match ds with | .struct _ | .array _ _=>true | _=>false)=true)(o:Opens P w T e ok)(g:Value.okWide P w r b0 T v)(h:DataW.Trod enc P w base f j T v d p):∃a,v=.agg (e a)/\ok a:=by
 have hv:∃cs,v=.agg cs:=by
  simp only[Value.okWide,u]at g;cases ds <;> simp_all
  all_goals exact⟨_,g.choose_spec.1⟩
 obtain⟨cs,rfl⟩:=hv;obtain⟨m,hf⟩:=h;obtain⟨a,ha,k⟩:=o _ _ _ _ _ _ _ hf;refine⟨a,?_,k⟩;congr 1
 apply Array.ext';exact ha
theorem opensId:Opens prog w 23 idC (λ_=>True):=by
 intro H enc base j r t cs x h;obtain⟨xs,m,rfl,_,d,y,s⟩:=DataW.trod_array underlying23 h;have hc:prog.cellsOf 23=32:=kR;have hb:prog.cellsOf 5=1:=kR;rw[hc]at d;have g:∀i,i<32->∃n:Int,cs[i]?=some (.int .u8 n)/\0<=n/\n<=255:=by
  intro i hi;have h1:=s i hi;rw[getElem?_eq_getElem oM]at h1;obtain⟨n,hn,_,hw⟩:=DataW.trod_int underlying5 h1;rw[hb,Nat.mul_one]at hn;have h2:=congrArg (λl=>l[0]?) hn;simp[getElem?_take,getElem?_drop]at h2;have k:0<=n/\n<=255:=by simpa[Lit.wf,IntKind.min,IntKind.max,IntKind.signed,IntKind.bits]using hw
  exact⟨n,h2,k⟩
 obtain⟨f,hf⟩:=Go.Deep.choose_lt g;refine⟨⟨(List.range 32).map λi=>UInt8.ofNat (f i).toNat,sI⟩,?_,trivial⟩;apply ext_getElem?;intro i;by_cases hi:i<32
 ·obtain⟨h1,h2,h3⟩:=hf i hi;rw[h1];simp[idC,byteC,hi];have:(f i).toNat % 256=(f i).toNat:=Nat.mod_eq_of_lt oM;omega
 ·rw[getElem?_eq_none oM,getElem?_eq_none sO]
end
section
open Go.RowKit Go.WideShapes
structure MarkV where
 id:Id32
 h:Int
 body:ByteArray
def markVC(x:MarkV):Array Value:=idC x.id ++ #[.int .i64 x.h] ++ #[.string x.body]
@[simp] theorem markVC_size(x:MarkV):(markVC x).size=34:=by simp[markVC]
@[go_sem] theorem markVC_e0(x:MarkV):(markVC x).extract 0 32=idC x.id:=by
 have h:markVC x=((#[]:Array Value))++idC x.id++(#[.int .i64 x.h] ++ #[.string x.body]):=by first | (simp[markVC,Array.append_assoc];done) | (apply Array.ext';simp[markVC];done)
 rw[h];exact arr_mid _ _ _ _ _ sI sI
@[go_sem] theorem markVC_g32(x:MarkV):(markVC x)[32]?=some (.int .i64 x.h):=by first | (simp[markVC,Array.getElem?_append];done) | (rw[show markVC x=(idC x.id) ++ #[.int .i64 x.h]++(#[.string x.body])from by apply Array.ext';simp[markVC]];exact arr_at _ _ _ _ sI)
@[go_sem] theorem markVC_gg32(x:MarkV)(h:32<(markVC x).size):(markVC x)[32]'h=.int .i64 x.h:=Option.some.inj ((Array.getElem?_eq_getElem h).symm.trans (markVC_g32 x))
@[go_sem] theorem markVC_g33(x:MarkV):(markVC x)[33]?=some (.string x.body):=by first | (simp[markVC,Array.getElem?_append];done) | (rw[show markVC x=(idC x.id ++ #[.int .i64 x.h]) ++ #[.string x.body]++((#[]:Array Value))from by apply Array.ext';simp[markVC]];exact arr_at _ _ _ _ sI)
@[go_sem] theorem markVC_all(x:MarkV):(markVC x).extract 0 34=markVC x:=by have:=Array.extract_size (xs:=markVC x);rwa [markVC_size]at this
def markV0:MarkV:=⟨id0,0,⟨#[]⟩⟩
theorem MarkV_ext{x y:MarkV}(h:x.id=y.id/\x.h=y.h/\x.body=y.body):x=y:=by cases x;cases y;simp_all
instance:DecidableEq MarkV:=λx y=>if h:x.id=y.id/\x.h=y.h/\x.body=y.body then isTrue (MarkV_ext h)else isFalse (λe=>h (by subst e;simp))
theorem infoMarkV:(prog.info? 240).map (·.size)=some 34:=kR
@[go_sem ↓] theorem zeroMarkV_run(w:World):(zeroValue 240).run prog w=.ok (.agg (markVC markV0)) w:=by
 have h:(prog.info? 240).bind (·.zero)=some (.agg (markVC markV0)):=kR;cases hi:prog.info? 240 with
 | none=>rw[hi]at h;cases h
 | some i =>
  rw[hi]at h;have hz:i.zero=some (.agg (markVC markV0)):=h;simp[zeroValue,typeInfo,hi,hz]
@[go_sem ↓] theorem loadMarkV_rw(a:Addr):loadVar 240 a=ldS 240 a:=rfl
@[go_sem ↓] theorem storeMarkV_rw(a:Addr)(v:Value):storeVar 240 a v=stS 240 a v:=rfl
@[go_sem] theorem loadMarkV_run(w:World)(g o:Nat):(ldS 240 ⟨g,o,none⟩).run prog w=match rowAt w g o 34 with | some cs=>.ok (.agg cs) w | none=>(loadVar 240 ⟨g,o,none⟩).run prog w :=
 run_ldS underlying240 rfl infoMarkV w g o
theorem fieldsMarkV:prog.underlying 240=some (.struct (prog.fieldsOf 240)):=kR
theorem placesMarkV(w:World):((prog.fieldsOf 240).mapM fun (f:Field)=>do pure (f.offset,<-sizeOf f.type)).run prog w=.ok #[(0,32),(32,1),(33,1)] w:=kR
@[go_sem ↓] theorem buildMarkV_rw(parts:Array (Nat×Value)):Instr.build 240 parts=bdS 240 parts:=rfl
@[go_sem] theorem buildMarkV(a0:Id32)(a1:Int)(a2:ByteArray)(w:World):(bdS 240 #[(0,.agg (idC a0)),(1,.int .i64 a1),(2,.string a2)]).run prog w=.ok (.agg (markVC ⟨a0,a1,a2⟩)) w:=by
 refine run_build w fieldsMarkV _ (zeroMarkV_run w) _ (placesMarkV w) [(0,.agg (idC a0)),(1,.int .i64 a1),(2,.string a2)] _ ?_;rw[show markVC markV0=(#[]:Array Value)++idC id0++(#[.int .i64 0]++(#[.string ⟨#[]⟩]))from by first | (simp[markVC,markV0,Array.append_assoc];done) | (apply Array.ext';simp[markVC,markV0])];rw[fill_step (off:=0) (size:=32) rfl sI sI (by simp[Value.cells])];rw[show(#[]:Array Value)++(Value.agg (idC a0)).cells++(#[.int .i64 0]++(#[.string ⟨#[]⟩]))=(idC a0) ++ #[.int .i64 0]++(#[.string ⟨#[]⟩])from by first | (simp[Value.cells,Array.append_assoc];done) | (apply Array.ext';simp[Value.cells];done) | (apply Array.ext';simp only[Array.toList_append];simp[Value.cells])];rw[fill_step (off:=32) (size:=1) rfl sI sI (by simp[Value.cells])];rw[show(idC a0)++(Value.int .i64 a1).cells++(#[.string ⟨#[]⟩])=(idC a0++(#[.int .i64 a1])) ++ #[.string ⟨#[]⟩]++(#[]:Array Value)from by first | (simp[Value.cells,Array.append_assoc];done) | (apply Array.ext';simp[Value.cells];done) | (apply Array.ext';simp only[Array.toList_append];simp[Value.cells])];rw[fill_step (off:=33) (size:=1) rfl sI sI (by simp[Value.cells])];first | (simp[Instr.fill,markVC,Array.append_assoc,Value.cells];done) | (simp only[Instr.fill,markVC];congr 1;apply Array.ext';simp[Value.cells];done) | (simp only[Instr.fill,markVC];congr 1;done) | (simp only[Instr.fill,markVC];done)
@[go_sem ↓] theorem asYes_t(v:Value)(w:World):(Instr.typeAssert (.iface 245 v) 175 245 true).run prog w=.ok (.tuple #[v,.bool true]) w:=kR
@[go_sem ↓] theorem asYes_b(v:Value)(w:World):(Instr.typeAssert (.iface 248 v) 175 248 true).run prog w=.ok (.tuple #[v,.bool true]) w:=kR
@[go_sem ↓] theorem asYes_l(v:Value)(w:World):(Instr.typeAssert (.iface 251 v) 175 251 true).run prog w=.ok (.tuple #[v,.bool true]) w:=kR
@[go_sem ↓] theorem asYes_m(v:Value)(w:World):(Instr.typeAssert (.iface 254 v) 175 254 true).run prog w=.ok (.tuple #[v,.bool true]) w:=kR
@[go_sem ↓] theorem asYes_s(v:Value)(w:World):(Instr.typeAssert (.iface 257 v) 175 257 true).run prog w=.ok (.tuple #[v,.bool true]) w:=kR
@[go_sem ↓] theorem asNo_bt(v:Value)(w:World):(Instr.typeAssert (.iface 248 v) 175 245 true).run prog w=.ok (.tuple #[.pointer none,.bool false]) w:=kR
@[go_sem ↓] theorem asNo_lt(v:Value)(w:World):(Instr.typeAssert (.iface 251 v) 175 245 true).run prog w=.ok (.tuple #[.pointer none,.bool false]) w:=kR
@[go_sem ↓] theorem asNo_lb(v:Value)(w:World):(Instr.typeAssert (.iface 251 v) 175 248 true).run prog w=.ok (.tuple #[.pointer none,.bool false]) w:=kR
@[go_sem ↓] theorem asNo_mt(v:Value)(w:World):(Instr.typeAssert (.iface 254 v) 175 245 true).run prog w=.ok (.tuple #[.pointer none,.bool false]) w:=kR
@[go_sem ↓] theorem asNo_mb(v:Value)(w:World):(Instr.typeAssert (.iface 254 v) 175 248 true).run prog w=.ok (.tuple #[.pointer none,.bool false]) w:=kR
@[go_sem ↓] theorem asNo_ml(v:Value)(w:World):(Instr.typeAssert (.iface 254 v) 175 251 true).run prog w=.ok (.tuple #[.pointer none,.bool false]) w:=kR
@[go_sem ↓] theorem asNo_st(v:Value)(w:World):(Instr.typeAssert (.iface 257 v) 175 245 true).run prog w=.ok (.tuple #[.pointer none,.bool false]) w:=kR
@[go_sem ↓] theorem asNo_sb(v:Value)(w:World):(Instr.typeAssert (.iface 257 v) 175 248 true).run prog w=.ok (.tuple #[.pointer none,.bool false]) w:=kR
@[go_sem ↓] theorem asNo_sl(v:Value)(w:World):(Instr.typeAssert (.iface 257 v) 175 251 true).run prog w=.ok (.tuple #[.pointer none,.bool false]) w:=kR
@[go_sem ↓] theorem asNo_sm(v:Value)(w:World):(Instr.typeAssert (.iface 257 v) 175 254 true).run prog w=.ok (.tuple #[.pointer none,.bool false]) w:=kR
abbrev idV(x:Id32):Value:=.agg (idC x)
abbrev okId(_:Id32):Prop:=True
abbrev IdSet(w:World)(b:Nat)(L:List Id32):Prop:=SetAt w b idV okId L
theorem zeroBoolV(w:World):(zeroValue 4).run prog w=.ok (.bool false) w:=kR
section
variable {w:World} {b:Nat} {X:List Id32} {x:Id32}
theorem ihit(h:IdSet w b X)(hx:x∈X):(Instr.lookup 82 (.map (some b)) (.agg (idC x)) false).run prog w=.ok (.bool true) w:=SetAt.hit (kv:=idV) (ok:=okId) h idKey underlying82 trivial hx
theorem imiss(h:IdSet w b X)(hx:x∉X):(Instr.lookup 82 (.map (some b)) (.agg (idC x)) false).run prog w=.ok (.bool false) w:=SetAt.miss (kv:=idV) (ok:=okId) h idKey underlying82 zeroBoolV trivial hx
theorem iput(h:IdSet w b X):∃w',(Instr.mapUpdate 82 (.map (some b)) (.agg (idC x)) (.bool true)).run prog w=.ok () w'/\IdSet w' b (x :: X)/\Keep [b] w w':=SetAt.put h idKey underlying82 trivial
theorem ilook(h:IdSet w b X):(Instr.lookup 82 (.map (some b)) (.agg (idC x)) false).run prog w=.ok (.bool (decide (x∈X))) w:=by
 by_cases hx:x∈X
 ·rw[decide_eq_true hx];exact ihit h hx
 ·rw[decide_eq_false hx];exact imiss h hx
end
structure ViewAt(w:World)(g:Nat)(t:ByteArray)(b:Nat)(I:List Id32)(sv:Value):Prop where
 blk:w.heap[g]?=some (.cells #[.string t,.map (some b),sv] 179 (0,0))
 ids:IdSet w b I
section
variable {w w':World} {g:Nat} {t:ByteArray} {b:Nat} {I:List Id32} {sv:Value}
theorem ViewAt.cell0(h:ViewAt w g t b I sv):w.cell? ⟨g,0,none⟩=some (.string t):=by rw[cell_of_row w g 0 _ _ _ h.blk];rfl
theorem ViewAt.cell1(h:ViewAt w g t b I sv):w.cell? ⟨g,1,none⟩=some (.map (some b)):=by rw[cell_of_row w g 1 _ _ _ h.blk];rfl
theorem ViewAt.cell2(h:ViewAt w g t b I sv):w.cell? ⟨g,2,none⟩=some sv:=by rw[cell_of_row w g 2 _ _ _ h.blk];rfl
theorem ViewAt.lt(h:ViewAt w g t b I sv):g<w.heap.size:=(aG h.blk).1
theorem ViewAt.ne(h:ViewAt w g t b I sv):g≠b:=by
 rintro rfl;obtain⟨M,es,d,hm,_⟩:=h.ids;have:=h.blk.symm.trans hm.heap;cases this
theorem ViewAt.kept{S:List Nat}(h:ViewAt w g t b I sv)(k:Keep S w w')(hg:g∉S)(hb:b∉S):ViewAt w' g t b I sv:=⟨(k.block g h.lt hg).trans h.blk,h.ids.kept k hb⟩
theorem ViewAt.below(h:ViewAt w g t b I sv)(k:Below w.heap.size w w'):ViewAt w' g t b I sv:=h.kept (Keep.of_below k) sI sI
end
theorem vnone_live(w:World)(g b:Nat)(h:w.cell? ⟨g,1,none⟩=some (.map (some b))):Calls prog 201 #[.pointer (some ⟨g,0,none⟩)] w λe w'=>e=.returned (.bool false)/\w=w':=by
 have hn:=λr=>run_eql_map_nil (P:=prog) w 82 23 4 r underlying82;go_enter func201,ntmps201
 (go_wp2_with fail);go_ret;exact⟨rfl,rfl⟩
end
theorem results_cell_tmp{fn:Func}{p q:Tmp}(h:fn.results = #[.cell p ty,.tmp q])(tmps:Array Value)(w:World)(g:Nat)(t:TypeId)(cs:Array Value)(fr:Nat×Nat)(d:TypeDesc)
  (hp:tmps.getD p undef=.pointer (some ⟨g,0,none⟩))(hg:w.heap[g]?=some (.cells cs t fr))
  (hu:P.underlying ty=some d)(hd:(match d with | .struct _ | .array _ _=>true | _=>false)=true)(hi:(P.info? ty).map (·.size)=some cs.size) :
  (results fn tmps).run P w=.ok (.tuple #[.agg cs,tmps.getD q undef]) w:=by
 have f:tmps[p]?.getD undef=.pointer (some ⟨g,0,none⟩):=by simpa using hp
 simp[results,h,f,asAddr,run_loadVar_row w g t ty cs fr d hg hu hd hi]
theorem results_ct{fn:Func}{p q:Tmp}(h:fn.results = #[.cell p ty,.tmp q])(tmps:Array Value)(w:World)(g:Nat)(t:TypeId)(cs:Array Value)(fr:Nat×Nat)(d:TypeDesc)
  (hp:tmps.getD p undef=.pointer (some ⟨g,0,none⟩))(hg:w.heap[g]?=some (.cells cs t fr))
  (hu:P.underlying ty=some d)(hd:(match d with | .struct _ | .array _ _=>true | _=>false)=true)(hi:(P.info? ty).map (·.size)=some cs.size) :
  (results fn tmps).run P w=.ok (.tuple #[.agg cs,tmps.getD q undef]) w:=by
 have f:tmps[p]?.getD undef=.pointer (some ⟨g,0,none⟩):=by simpa using hp
 simp[results,h,f,asAddr,run_loadVar_row w g t ty cs fr d hg hu hd hi]
theorem rd_num4(w:World)(g:Nat)(l:List UInt8)(e:Int)(h:RdAt w g l e) :
  Calls prog 134 #[.pointer (some ⟨g,0,none⟩),.int .i64 4] w λen w'=>en=.returned (.int .i64 (numV 4 l e))/\RdStep w g (rawL 4 l e) (rawE 4 l e) w':=rd_num w g 4 l e h (.inr (.inr rfl))
theorem rd_num1(w:World)(g:Nat)(l:List UInt8)(e:Int)(h:RdAt w g l e) :
  Calls prog 134 #[.pointer (some ⟨g,0,none⟩),.int .i64 1] w λen w'=>en=.returned (.int .i64 (numV 1 l e))/\RdStep w g (rawL 1 l e) (rawE 1 l e) w':=rd_num w g 1 l e h (.inl rfl)
theorem rd_raw32(w:World)(g:Nat)(l:List UInt8)(e:Int)(h:RdAt w g l e) :
  Calls prog 136 #[.pointer (some ⟨g,0,none⟩),.int .i64 32] w λen w'=>en=.returned (.string (mkB (rawV 32 l e)))/\RdStep w g (rawL 32 l e) (rawE 32 l e) w':=rd_raw w g 32 l e h oM
theorem Keep.narrow{T:List Nat}(h:Keep S w w')(hs:∀x∈S,x∈T\/w.heap.size<=x):Keep T w w' :=
 ⟨h.os,h.tape,h.output,h.size,λk hk hx=>h.block k hk (λhm=>by rcases hs k hm with h1 | h1;exact hx h1;omega)⟩
theorem idC_over(d d':Id32):((idC d).toList.take (0+0)++(idC d').toList++(idC d).toList.drop (0+0+(idC d').toList.length)).toArray=idC d':=by
 apply Array.ext';have h1:(idC d').toList.length=32:=sI;have h2:(idC d).toList.length=32:=sI;rw[h1];simp[drop_eq_nil_of_le,h2]
theorem copy_idb(b:List UInt8)(hb:b.length=32\/b = [])(ty:TypeId)(c:Nat)(h:w.heap[g]?=some (.cells (idC id0) 23 (0,0))) :
  ∃w' m,(Builtin.copy_ #[103,9] ty #[.slice (some ⟨g,0,none⟩) 32 c,.string (mkB b)]).run prog w=.ok m w'/\w'.heap[g]?=some (.cells (idC (idOf b)) 23 (0,0))/\Keep [g] w w':=by
 rcases hb with hb | hb
 ·have hs:(mkB b).size=32:=by rw[mkB_size,hb]
  have h1:=Go.Lib.run_copy_row_string (P:=prog) w 103 9 ty 5 g 0 32 c (mkB b) _ _ underlying103 kR h oM (by rw[hs];simp);refine⟨_,_,h1,?_,⟨rfl,rfl,rfl,by simp[setRow],λx _ hx=>setRow_other w g x _ (by simpa using hx)⟩⟩;rw[setRow_heap w g _ _ _ _ h];have e3:=idC_over id0 (idOf b);have e:(idOf b).l=b:=by unfold idOf;rw[dif_pos hb]
  have e2:(idC (idOf b)).toList=Go.Lib.byteCells (mkB b).data.toList:=by unfold idC;rw[e];rfl
  rw[e2]at e3;have e4:(Go.Lib.byteCells (mkB b).data.toList).length=32:=by rw[<-e2];simp
  rw[e4]at e3;rw[hs];simp only[Nat.add_zero]at e3;rw[<-e3]
 ·subst hb;have h1:=Go.Lib.run_copy_empty_string (P:=prog) w 103 9 ty 5 (some ⟨g,0,none⟩) 32 c (mkB []) underlying103 kR rfl;exact⟨_,_,h1,h,Keep.refl _ _⟩
theorem op_id(w:World)(g:Nat)(l:List UInt8)(e:Int)(h:RdAt w g l e) :
  Calls prog 302 #[.pointer (some ⟨g,0,none⟩)] w λen w'=>en=.returned (.agg (idC (idOf (rawV 32 l e))))/\RdStep w g (rawL 32 l e) (rawE 32 l e) w':=by
 have s:Below w.heap.size w ((w.alloc (.cells (idC id0) 23)).alloc (.cells (idC id0) 23)):=(bA).alloc sI _;have F:((w.alloc (.cells (idC id0) 23)).alloc (.cells (idC id0) 23)).heap[w.heap.size]?=some (.cells (idC id0) 23 (0,0)):=by
  rw[Below.heap_alloc _ _ _ sI];exact heap_alloc_new w _
 have r:((w.alloc (.cells (idC id0) 23)).alloc (.cells (idC id0) 23)).heap[w.heap.size+1]?=some (.cells (idC id0) 23 (0,0)):=by
  have:=heap_alloc_new (w.alloc (.cells (idC id0) 23)) (.cells (idC id0) 23);simpa using this
 have Y:=h.lt;have t:=h.below s;have k:((w.alloc (.cells (idC id0) 23)).alloc (.cells (idC id0) 23)).heap.size=w.heap.size+2:=sI;have G:=dH k;clear k h;go_enter func302,ntmps302
 go_upto_region 2 with fail
 obtain⟨ga,O⟩:=eX w.heap.size
 have a1:=dH O;obtain⟨W,hW⟩:=eR ((w.alloc (.cells (idC id0) 23)).alloc (.cells (idC id0) 23))
 rw[<-hW]at s F r t G |-;rw[O]at F r Y |-;clear hW;have E:ga+1<W.heap.size:=(aG r).1;have c1:=rd_raw32 W.drew g l e (t.kept (Keep.drew W) sI);refine kX [g,ga+1] W ?_;intro X hS;refine lQ ?_;intro K hK;refine c1.mono ?_;rintro en w1 ⟨rfl,L,D⟩;replace hS:=kp_next hS D sI;have m:w1.heap[ga+1]?=_:=(D.block (ga+1) (by show _<W.drew.heap.size;exact E) sO).trans r;refine⟨_,rfl,hS,hK _ _ ?_⟩;clear hK K c1;obtain⟨w2,m2,Z,f,B⟩:=copy_idb (rawV 32 l e) (rawV_32 _ _) 3 32 m;refine lH ?_;intro K hK;refine step_keep (kp_next hS B sI) (λR=>?_);refine hK _ _ ?_;clear hK K;refine wpLx_nil ?_;intro hS;have y:Keep [g,ga+1] W w2:=R;have J:=L.kept B sO;have j:=(y.block ga oM sO).trans F;clear Z hS R X D B L t m;obtain⟨d,hd⟩:=eX (idOf (rawV 32 l e))
 rw[hd]at f;have Hd:=dH hd;clear hd;have V:rowAt w2 (ga+1) 0 32=some (idC d):=by unfold rowAt;rw[f];simp[go_sem]
 have T:=run_stS_at (P:=prog) infoId w2 ga (idC id0) (idC d) _ j sI sI (idC_one _);have A:Keep [ga] w2 (w2.setRow ga (idC d)):=⟨rfl,rfl,rfl,by simp[setRow],λx _ hx=>setRow_other w2 ga x _ (by simpa using hx)⟩
 have H:=dH (setRow_heap w2 ga _ (idC d) _ _ j);have I:=J.kept A sO;have N:Keep [g,ga,ga+1] w (w2.setRow ga (idC d)):=Keep.trans (Keep.trans ((Keep.of_below s).mono (S':=[g,ga,ga+1]) sI) (y.mono (S':=[g,ga,ga+1]) sI) iL) (A.mono (S':=[g,ga,ga+1]) sI) iL;have M:Keep [g] w (w2.setRow ga (idC d)):=N.narrow (λx hx=>by have:=a1.out;simp at hx |-;omega);have U:=dH I;have a0:=dH M;clear I J N M A j f s y;(go_wp2_with fail);exact bodyPost_ret (results_cell_row results302 _ _ ga 23 (idC d) (0,0) _ rfl H.out underlying23 rfl (by rw[idC_size];exact infoId)) rfl ⟨by rw[Hd.out],U.out,a0.out⟩
def partN(k:Nat):Nat:=[0,1,4,20,7,22,12,8].getD k 0
def PartsVar(w:World):Prop:=∀k,k<8->w.cell? ⟨1,k,none⟩=some (.int .i64 (partN k))
theorem PartsVar.below(h:PartsVar w)(hb:Below w.heap.size w w'):PartsVar w':=λk hk=>(hb.cell (p:=⟨1,k,none⟩) (block_lt_of_cell? w _ (h k hk))).trans (h k hk)
theorem PartsVar.lt(h:PartsVar w):1<w.heap.size:=block_lt_of_cell? w _ (h 0 oM)
theorem PartsVar.kept(h:PartsVar w)(k:Keep S w w')(h0:1∉S):PartsVar w':=λi hi=>(k.cell (p:=⟨1,i,none⟩) h.lt h0).trans (h i hi)
theorem op_of(k:Nat)(w:World)(hp:PartsVar w)(hk:k<=9223372036854775807):Calls prog 102 #[.int .i64 k] w λe w'=>e=.returned (.int .i64 (partN k))/\w=w':=by
 by_cases h8:k<8
 ·have hc:=hp k h8;obtain⟨v,hv⟩:∃v:Nat,partN k=v:=⟨_,rfl⟩
  rw[hv]at hc;have Hv:=dH hv;clear hv;go_enter func102,ntmps102
  (go_wp2_with fail);go_ret;exact⟨ret_int (by rw[Hv.out]),rfl⟩
 ·have hv:partN k=0:=by unfold partN;simp[getD,getElem?_eq_none (sO:[0,1,4,20,7,22,12,8].length<=k)]
  have Hv:=dH hv;clear hv;go_enter func102,ntmps102
  (go_wp2_with fail);go_ret;exact⟨ret_int (by rw[Hv.out];rfl),rfl⟩
section
theorem flat_set:∀(L:List (Array Value)) (k:Nat),(∀c∈L,c.size=k)->∀(i:Nat) (cs:Array Value),i<L.length ->
  (L.set i cs).flatMap Array.toList=(L.flatMap Array.toList).take (i*k)++cs.toList++(L.flatMap Array.toList).drop (i*k+k)
 | c :: L,k,hs,0,cs,_=>by
  have hc:c.toList.length=k:=by simpa using hs c sI
  simp only[set_cons_zero,flatMap_cons,Nat.zero_mul,take_zero,nil_append,Nat.zero_add];rw[<-hc,drop_left]
 | c :: L,k,hs,i+1,cs,hi=>by
  have hc:c.toList.length=k:=by simpa using hs c sI
  have ih:=flat_set L k (λc h=>hs c (by simp[h])) i cs (by simpa using hi);simp only[set_cons_succ,flatMap_cons];rw[ih];have e1:(i+1)*k=c.toList.length+i*k:=by rw[hc,Nat.add_mul];omega
  rw[e1,take_append,drop_append];have t1:c.toList.take (c.toList.length+i*k)=c.toList:=take_of_length_le oM;have t2:c.toList.drop (c.toList.length+i*k+k) = []:=drop_eq_nil_of_le oM;rw[t1,t2];have n1:c.toList.length+i*k-c.toList.length=i*k:=oM;have n2:c.toList.length+i*k+k-c.toList.length=i*k+k:=oM;rw[n1,n2]
  simp
theorem flat_div(hk:0<k)(hs:∀c∈L,c.size=k){j:Nat}{u:Value}(h:(L.flatMap Array.toList)[j]?=some u) :
  ∃i r,∃(hi:i<L.length),r<k/\j=i*k+r/\(L[i])[r]?=some u:=by
 have d:=flat_len L k hs;have hj:j<L.length*k:=by
  have:=(List.getElem?_eq_some_iff.1 h).1;omega
 have hi:j / k<L.length:=Nat.div_lt_of_lt_mul (by rw[Nat.mul_comm];exact hj);have hr:j % k<k:=Nat.mod_lt _ hk;have he:j=j / k*k+j % k:=by rw[Nat.mul_comm];exact(Nat.div_add_mod j k).symm
 refine⟨j / k,j % k,hi,hr,he,?_⟩;rw[<-flat_get L k hs (j / k) (j % k) hi hr,<-he,h]
section
variable {P:Program} {T E:TypeId} {k bytes:Nat}
theorem append_rows(I:ElemInfo P T E k bytes)(s:Own w B E k A n cap L)
  {c:Nat}(d:SlR w A2 m k R)(t:A2=none->c=0)(M:∀r∈R,∀u∈r.toList,u.oneCell'=true)(D:(n+m)*bytes<=140737488355328)(hn:n+m<=9223372036854775807)(hB:B<=w.heap.size)(ty:TypeId) :
  ∃A' cap' w',(Builtin.append_ #[T,T] ty #[.slice A n cap,.slice A2 m c]).run P w=.ok (.slice A' (n+m) cap') w'/\Own w' B E k A' (n+m) cap' (L++R)/\Keep (blk A) w w'/\(∀x∈blk A',x∈blk A\/w.heap.size<=x):=by
 obtain⟨i,z,hi,hz,V,Y,O⟩:=I.info;have f:∀r∈R,r.size=k:=by
  intro r hr;obtain⟨j,hj,rfl⟩:=mem_iff_getElem.1 hr;obtain⟨g,o,_,hc⟩:=d.at_ (i:=j) (oH d.1);exact rowAt_size hc
 cases A2 with
 | none =>
  have hm:m=0:=by
   rcases Nat.eq_zero_or_pos m with h | h
   ·exact h
   ·obtain⟨g,o,e,_⟩:=d.2 h;cases e
  subst hm;have hR:R = []:=eq_nil_of_length_eq_zero d.1;subst hR;have hc:=t rfl;subst hc;exact⟨A,cap,w,run_append_owned_none (P:=P) w B T ty E i k I.und hi _ _ _ s.row,by simpa using s,Keep.refl _ _,λx hx=>.inl hx⟩
 | some a =>
  obtain⟨v',w',H,y,hg,_,G⟩:=run_append_own_at (P:=P) w B T ty E i z k bytes I.und hi hz V Y O I.pos (.slice A n cap) n _ s.row a m c (R.flatMap Array.toList) (by rw[flat_len R k f,d.1])
   (λj u hu=>by
    obtain⟨x,r,hx,hr,rfl,F⟩:=flat_div I.pos f hu;obtain⟨g,o,e,J⟩:=d.at_ (i:=x) (oH d.1);injection e with e;subst e
    have N:(⟨g,o,none⟩:Addr).add (x*k+r)=⟨g,o+(x*k+r),none⟩:=by unfold Addr.add;split <;> simp_all
    rw[N,<-Nat.add_assoc,rowAt_cell J hr];exact F)
   (λu hu=>by
    obtain⟨r,hr,hu⟩:=mem_flatMap.1 hu;exact M r hr u hu) (by simp only[maxLen];omega) D hB
  have t:∃A' cap',v'=.slice A' (n+m) cap':=by
   rcases y.2 with⟨h0,h00⟩ | ⟨g,c',cur,hv,_⟩
   ·exact⟨none,0,by rw[h0,h00]⟩
   ·exact⟨_,_,hv⟩
  obtain⟨A',cap',rfl⟩:=t;have hb:(Value.slice A n cap).ownBlock=(A.map (·.block)):=by cases A <;> rfl
  have Z:(Value.slice A' (n+m) cap').ownBlock=(A'.map (·.block)):=by cases A' <;> rfl
  refine⟨A',cap',w',H,⟨by rw[flatMap_append];exact y,by simp[s.len,d.1],λc' X=>?_⟩,?_,?_⟩
  ·rcases mem_append.1 X with h | h
   ·exact s.size c' h
   ·exact f c' h
  ·have:=Keep.grown hg
   rwa [hb]at this
  ·intro x hx;rw[hb,Z]at G;rcases G with e | e
   ·left;unfold blk at hx |-;rw[e]at hx;exact hx
   ·right
    unfold blk at hx;rw[e]at hx;have:x=w.heap.size:=by simpa using hx
    omega
theorem own_store(I:ElemInfo P T E k bytes)(d:Own w B E k (some ⟨g,0,none⟩) n cap L){i:Nat}(hi:i<n){cs:Array Value}(f:cs.size=k)(r:∀u∈cs.toList,u.oneCell'=true) :
  ∃w',(stS E ⟨g,i*k,none⟩ (.agg cs)).run P w=.ok () w'/\Own w' B E k (some ⟨g,0,none⟩) n cap (L.set i cs)/\Keep [g] w w':=by
 obtain⟨H,z,t,hz,A,N,J⟩:=I.info;have D:=flat_len L k d.size;have hL:=d.len;obtain⟨⟨h1,h2⟩,_,hs⟩:=d;rcases h2 with⟨h2,_⟩ | ⟨g',c,cur,hv,hb,hg,hnc,hcm,hcsz,htake⟩
 ·cases h2
 ·injection hv with hA _ hc
  injection hA with hA
  injection hA with hA
  subst hA;subst hc;have M:i*k+k<=n*k:=by
   have:(i+1)*k<=n*k:=Nat.mul_le_mul_right k oM;rw[Nat.add_mul]at this;omega
  have s:n*k<=cur.size:=by rw[hcsz];exact Nat.mul_le_mul_right k hnc
  have y:=run_storeCells_at P g (i*k) E cs.toList 0 cur w hg sO r;simp only[Nat.add_zero,Array.length_toList,f]at y;have m:(w.setRow g (cur.toList.take (i*k)++cs.toList++cur.toList.drop (i*k+k)).toArray).heap[g]?=some (.cells (cur.toList.take (i*k)++cs.toList++cur.toList.drop (i*k+k)).toArray E (0,0)):=setRow_heap w g cur _ E _ hg;refine⟨_,?_,⟨⟨?_,.inr ⟨g,cap,_,rfl,hb,m,hnc,hcm,?_,?_⟩⟩,by simp[hL],?_⟩,⟨rfl,rfl,rfl,by simp[setRow],λx _ hx=>setRow_other w g x _ (by simpa using hx)⟩⟩
  ·unfold stS storeVar;simp[Value.cells,sizeOf,typeInfo,t,A,f];simpa using y
  ·rw[flat_len _ k (λc hc=>by
    rcases mem_or_eq_of_mem_set hc with h | h
    ·exact hs c h
    ·rw[h];exact f),length_set,hL]
  ·simp;omega
  ·rw[flat_set L k hs i cs oM,<-htake];have G:cs.toList.length=k:=by simpa using f
   have F:n*k<=cur.toList.length:=by simpa using s
   generalize cur.toList=X at *;generalize cs.toList=Y at *;apply ext_getElem?;intro j;simp only[getElem?_take,getElem?_append,length_append,length_take,getElem?_drop];have m1:min (i*k) X.length=i*k:=oM;have m2:min (i*k) (min (n*k) X.length)=i*k:=oM;simp only[m1,m2,G];by_cases c1:j<i*k
   ·have c2:j<i*k+k:=oM;have c3:j<n*k:=oM;simp[c1,c2,c3]
   ·by_cases c2:j<i*k+k
    ·have c3:j<n*k:=oM;simp[c1,c2,c3]
    ·have e:i*k+k+(j-(i*k+k))=j:=oM;simp[c1,c2,e]
  ·intro c hc;rcases mem_or_eq_of_mem_set hc with h | h
   ·exact hs c h
   ·rw[h];exact f
end
theorem run_bsS0{bytes:Nat}(I:ElemInfo P T E k bytes)(w:World):(bsS T 0 #[]).run P w=.ok (.slice (some ⟨w.heap.size,0,none⟩) 0 0) (w.alloc (.cells #[] E)):=by
 obtain⟨i,z,hi,hz,d,g,f⟩:=I.info;unfold bsS Instr.buildSlice;simp only[Sem.run_bind,run_underlying I.und,Result.andThen_ok,sizeOf,typeInfo,hi,d];simp[hi,hz,zeroValue,typeInfo,d,Instr.fill,newRow];have e:Array.range 0 = #[]:=rfl;rw[e];simp
theorem Own.empty(w:World)(B:Nat)(E:TypeId)(k:Nat)(hB:B<=w.heap.size):Own (w.alloc (.cells #[] E)) B E k (some ⟨w.heap.size,0,none⟩) 0 0 [] :=
 ⟨⟨sI,.inr ⟨w.heap.size,0,#[],rfl,hB,heap_alloc_new w _,lR,zL,sI,sI⟩⟩,rfl,sI⟩
theorem Own.cap_le(h:Own w B E k A n cap L):n<=cap/\(A=none->n=0/\cap=0):=by
 rcases h.row.2 with⟨h1,h2⟩ | ⟨g,c,cur,hv,_,_,hnc,_⟩
 ·injection h1 with e1 e2 e3
  subst e1;subst e2;subst e3;exact⟨lR,λ_=>⟨rfl,rfl⟩⟩
 ·injection hv with e1 e2 e3
  subst e1;subst e3;exact⟨hnc,λe=>by cases e⟩
theorem SlR.take_(h:SlR w A n k L)(hm:m<=n):SlR w A m k (L.take m) :=
 ⟨by rw[length_take,h.1];omega,λh0=>by
  obtain⟨g,o,e,hc⟩:=h.2 oM;refine⟨g,o,e,λi hi=>?_⟩;have d:i<L.length:=by simp at hi;omega
  rw[hc i d];simp⟩
theorem SlR.drop_(h:SlR w (some ⟨g,o,none⟩) n k L)(hm:m<=n):SlR w (some ⟨g,o+m*k,none⟩) (n-m) k (L.drop m) :=
 ⟨by rw[length_drop,h.1],λh0=>by
  obtain⟨g',o',e,hc⟩:=h.2 oM;injection e with e;injection e with e1 e2
  subst e1;subst e2;refine⟨g,o+m*k,rfl,λi hi=>?_⟩;have d:m+i<L.length:=by simp at hi;omega
  have:=hc (m+i) d;rw[Nat.add_mul,<-Nat.add_assoc]at this;rw[this];simp⟩
theorem L_appends{a:Act}{f:List Oper}{dst:Option Tmp}{s x:Operand}{pos:String}{after:Array Edge}{bytes:Nat}(I:ElemInfo P T E k bytes)
  (hs:a.eval s=.slice A n cap)(y:Own w B E k A n cap L)
  {c:Nat}(hx:a.eval x=.slice A2 m c)(j:SlR w A2 m k R)(g:A2=none->c=0)(D:∀r∈R,∀u∈r.toList,u.oneCell'=true)(d:(n+m)*bytes<=140737488355328)(hn:n+m<=9223372036854775807)(hB:B<=w.heap.size)
  (h:∀A' cap' w',Own w' B E k A' (n+m) cap' (L++R)->Keep (blk A) w w'->(∀x∈blk A',x∈blk A\/w.heap.size<=x)->wpList P ops Q f (a.put dst (.slice A' (n+m) cap')) w') :
  wpList P ops Q ({ dst:=dst,op:=.call { callee:=.builtin .append,args:=#[s,x],argTypes:=#[T,T] },type:=ty,pos:=pos,after:=after,guard:=none } :: f) a w:=by
 obtain⟨A',cap',w',t,h1,h2,h3⟩:=append_rows I y j g D d hn hB ty;refine wpList_plain rfl λK hK=>?_;unfold Oper.wp;rw[exec_append a.eval hs hx t];exact hK _ _ (h A' cap' w' h1 h2 h3)
end
structure OpP where
 k:Int
 n:Int
 key:ByteArray
 val:ByteArray
 ref:Id32
 refs:Value
def opPC(x:OpP):Array Value:=#[.int .i64 x.k] ++ #[.int .i64 x.n] ++ #[.string x.key] ++ #[.string x.val]++idC x.ref ++ #[x.refs]
@[simp] theorem opPC_size(x:OpP):(opPC x).size=37:=by simp[opPC]
@[go_sem] theorem opPC_g0(x:OpP):(opPC x)[0]?=some (.int .i64 x.k):=by first | (simp[opPC,Array.getElem?_append];done) | (rw[show opPC x=((#[]:Array Value)) ++ #[.int .i64 x.k]++(#[.int .i64 x.n] ++ #[.string x.key] ++ #[.string x.val]++idC x.ref ++ #[x.refs])from by apply Array.ext';simp[opPC]];exact arr_at _ _ _ _ sI)
@[go_sem] theorem opPC_gg0(x:OpP)(h:0<(opPC x).size):(opPC x)[0]'h=.int .i64 x.k:=Option.some.inj ((Array.getElem?_eq_getElem h).symm.trans (opPC_g0 x))
@[go_sem] theorem opPC_g1(x:OpP):(opPC x)[1]?=some (.int .i64 x.n):=by first | (simp[opPC,Array.getElem?_append];done) | (rw[show opPC x=(#[.int .i64 x.k]) ++ #[.int .i64 x.n]++(#[.string x.key] ++ #[.string x.val]++idC x.ref ++ #[x.refs])from by apply Array.ext';simp[opPC]];exact arr_at _ _ _ _ sI)
@[go_sem] theorem opPC_gg1(x:OpP)(h:1<(opPC x).size):(opPC x)[1]'h=.int .i64 x.n:=Option.some.inj ((Array.getElem?_eq_getElem h).symm.trans (opPC_g1 x))
@[go_sem] theorem opPC_g2(x:OpP):(opPC x)[2]?=some (.string x.key):=by first | (simp[opPC,Array.getElem?_append];done) | (rw[show opPC x=(#[.int .i64 x.k] ++ #[.int .i64 x.n]) ++ #[.string x.key]++(#[.string x.val]++idC x.ref ++ #[x.refs])from by apply Array.ext';simp[opPC]];exact arr_at _ _ _ _ sI)
@[go_sem] theorem opPC_gg2(x:OpP)(h:2<(opPC x).size):(opPC x)[2]'h=.string x.key:=Option.some.inj ((Array.getElem?_eq_getElem h).symm.trans (opPC_g2 x))
@[go_sem] theorem opPC_g3(x:OpP):(opPC x)[3]?=some (.string x.val):=by first | (simp[opPC,Array.getElem?_append];done) | (rw[show opPC x=(#[.int .i64 x.k] ++ #[.int .i64 x.n] ++ #[.string x.key]) ++ #[.string x.val]++(idC x.ref ++ #[x.refs])from by apply Array.ext';simp[opPC]];exact arr_at _ _ _ _ sI)
@[go_sem] theorem opPC_gg3(x:OpP)(h:3<(opPC x).size):(opPC x)[3]'h=.string x.val:=Option.some.inj ((Array.getElem?_eq_getElem h).symm.trans (opPC_g3 x))
@[go_sem] theorem opPC_e4(x:OpP):(opPC x).extract 4 36=idC x.ref:=by
 have h:opPC x=(#[.int .i64 x.k] ++ #[.int .i64 x.n] ++ #[.string x.key] ++ #[.string x.val])++idC x.ref++(#[x.refs]):=by first | (simp[opPC,Array.append_assoc];done) | (apply Array.ext';simp[opPC];done)
 rw[h];exact arr_mid _ _ _ _ _ sI sI
@[go_sem] theorem opPC_g36(x:OpP):(opPC x)[36]?=some (x.refs):=by first | (simp[opPC,Array.getElem?_append];done) | (rw[show opPC x=(#[.int .i64 x.k] ++ #[.int .i64 x.n] ++ #[.string x.key] ++ #[.string x.val]++idC x.ref) ++ #[x.refs]++((#[]:Array Value))from by apply Array.ext';simp[opPC]];exact arr_at _ _ _ _ sI)
@[go_sem] theorem opPC_gg36(x:OpP)(h:36<(opPC x).size):(opPC x)[36]'h=x.refs:=Option.some.inj ((Array.getElem?_eq_getElem h).symm.trans (opPC_g36 x))
@[go_sem] theorem opPC_all(x:OpP):(opPC x).extract 0 37=opPC x:=by have:=Array.extract_size (xs:=opPC x);rwa [opPC_size]at this
theorem opPC_one(x:OpP)(d:x.refs.oneCell'=true):∀u∈(opPC x).toList,u.oneCell'=true:=by
 intro u hu;simp only[opPC,Array.toList_append,mem_append]at hu;rcases hu with((((hu | hu) | hu) | hu) | hu) | hu
 ·simp at hu;subst hu;rfl
 ·simp at hu;subst hu;rfl
 ·simp at hu;subst hu;rfl
 ·simp at hu;subst hu;rfl
 ·exact idC_one _ u hu
 ·simp at hu;subst hu;exact d
def opP0:OpP:=⟨0,0,⟨#[]⟩,⟨#[]⟩,id0,(.slice none 0 0)⟩
theorem infoOpP:(prog.info? 28).map (·.size)=some 37:=kR
@[go_sem ↓] theorem zeroOpP_run(w:World):(zeroValue 28).run prog w=.ok (.agg (opPC opP0)) w:=by
 have h:(prog.info? 28).bind (·.zero)=some (.agg (opPC opP0)):=kR;cases hi:prog.info? 28 with
 | none=>rw[hi]at h;cases h
 | some i =>
  rw[hi]at h;have hz:i.zero=some (.agg (opPC opP0)):=h;simp[zeroValue,typeInfo,hi,hz]
@[go_sem ↓] theorem loadOpP_rw(a:Addr):loadVar 28 a=ldS 28 a:=rfl
@[go_sem ↓] theorem storeOpP_rw(a:Addr)(v:Value):storeVar 28 a v=stS 28 a v:=rfl
@[go_sem] theorem loadOpP_run(w:World)(g o:Nat):(ldS 28 ⟨g,o,none⟩).run prog w=match rowAt w g o 37 with | some cs=>.ok (.agg cs) w | none=>(loadVar 28 ⟨g,o,none⟩).run prog w :=
 run_ldS underlying28 rfl infoOpP w g o
@[go_sem] theorem storeOpP_run(w:World)(g:Nat)(hg:g=w.heap.size)(z:Array Value)(hz:z.size=37)(x:OpP)(d:x.refs.oneCell'=true)(e:TypeId):(stS 28 ⟨g,0,none⟩ (.agg (opPC x))).run prog (w.alloc (.cells z e))=.ok () (w.alloc (.cells (opPC x) e)) :=
 hg ▸ run_stS_new infoOpP w z (opPC x) hz (opPC_size x) (opPC_one x d)
@[go_sem ↓] theorem buildOpP_rw(parts:Array (Nat×Value)):Instr.build 28 parts=bdS 28 parts:=rfl
@[go_sem] theorem buildOpP_e(w:World):(bdS 28 #[]).run prog w=.ok (.agg (opPC opP0)) w:=kR
@[go_sem] theorem buildOpP_k(a0:Int)(w:World):(bdS 28 #[(0,.int .i64 a0)]).run prog w=.ok (.agg (opPC ⟨a0,0,⟨#[]⟩,⟨#[]⟩,id0,.slice none 0 0⟩)) w:=kR
@[go_sem] theorem buildOpP_kn(a0 a1:Int)(w:World):(bdS 28 #[(0,.int .i64 a0),(1,.int .i64 a1)]).run prog w=.ok (.agg (opPC ⟨a0,a1,⟨#[]⟩,⟨#[]⟩,id0,.slice none 0 0⟩)) w:=kR
def opC(o:OpV)(A:Option Addr)(c:Nat):Array Value:=opPC ⟨o.k,o.n,o.key,o.val,o.ref,.slice A o.refs.length c⟩
theorem opPC_set1(k n n':Int)(key val:ByteArray)(d:Id32)(R:Value):(opPC ⟨k,n,key,val,d,R⟩).setIfInBounds 1 (.int .i64 n')=opPC ⟨k,n',key,val,d,R⟩:=by apply Array.ext';simp[opPC]
theorem opPC_set2(k n:Int)(key f val:ByteArray)(d:Id32)(R:Value):(opPC ⟨k,n,key,val,d,R⟩).setIfInBounds 2 (.string f)=opPC ⟨k,n,f,val,d,R⟩:=by apply Array.ext';simp[opPC]
theorem opPC_set3(k n:Int)(key val f:ByteArray)(d:Id32)(R:Value):(opPC ⟨k,n,key,val,d,R⟩).setIfInBounds 3 (.string f)=opPC ⟨k,n,key,f,d,R⟩:=by apply Array.ext';simp[opPC]
theorem opPC_set36(k n:Int)(key val:ByteArray)(d:Id32)(R R':Value):(opPC ⟨k,n,key,val,d,R⟩).setIfInBounds 36 R'=opPC ⟨k,n,key,val,d,R'⟩:=by apply Array.ext';simp[opPC]
theorem opPC_set4(k n:Int)(key val:ByteArray)(d d':Id32)(R:Value):((opPC ⟨k,n,key,val,d,R⟩).toList.take (4+0)++(idC d').toList++(opPC ⟨k,n,key,val,d,R⟩).toList.drop (4+0+(idC d').toList.length)).toArray=opPC ⟨k,n,key,val,d',R⟩:=by
 apply Array.ext';have h1:(idC d').toList.length=32:=sI;have h2:(idC d).toList.length=32:=sI;rw[h1];have e:(opPC ⟨k,n,key,val,d,R⟩).toList = [.int .i64 k,.int .i64 n,.string key,.string val]++((idC d).toList ++ [R]):=by simp[opPC]
 have e':(opPC ⟨k,n,key,val,d',R⟩).toList = [.int .i64 k,.int .i64 n,.string key,.string val]++((idC d').toList ++ [R]):=by simp[opPC]
 rw[e,e'];simp[drop_append,h2]
theorem store_ref{k n:Int}{key val:ByteArray}{d:Id32}{R:Value}(d':Id32)(h:w.heap[g]?=some (.cells (opPC ⟨k,n,key,val,d,R⟩) 28 (0,0))) :
  (stS 23 ⟨g,4,none⟩ (.agg (idC d'))).run prog w=.ok () (w.setRow g (opPC ⟨k,n,key,val,d',R⟩)):=by
 have f:=run_storeCells_at prog g 4 28 (idC d').toList 0 (opPC ⟨k,n,key,val,d,R⟩) w h sI (idC_one d');rw[opPC_set4]at f;unfold stS storeVar;have hi:=infoId;cases hinfo:prog.info? 23 with
 | none=>rw[hinfo]at hi;cases hi
 | some i =>
  rw[hinfo]at hi;have hk:i.size=32:=by simpa using hi
  simp[Value.cells,sizeOf,typeInfo,hinfo,hk];simpa using f
@[go_sem] theorem storeOpA_run(w:World)(g:Nat)(hg:g=w.heap.size)(z:Array Value)(hz:z.size=37)(k n:Int)(key val:ByteArray)(d:Id32)(A:Option Addr)(m c:Nat)(e:TypeId):(stS 28 ⟨g,0,none⟩ (.agg (opPC ⟨k,n,key,val,d,.slice A m c⟩))).run prog (w.alloc (.cells z e))=.ok () (w.alloc (.cells (opPC ⟨k,n,key,val,d,.slice A m c⟩) e)):=storeOpP_run w g hg z hz _ rfl e
theorem op_shift(k:Int)(w:World):Calls prog 111 #[.int .i64 k] w λe w'=>e=.returned (.int .i64 (if k=1 then 2147483648 else 0))/\w=w':=by
 by_cases h:k=1
 ·subst h;go_enter func111,ntmps111
  (go_wp2_with fail);go_ret;exact⟨rfl,rfl⟩
 ·have hb:(k==1)=false:=by simpa using h
  have Hk:=dH h;clear h;go_enter func111,ntmps111
  (go_wp2_with fail);go_ret;exact⟨ret_int (by simp[Hk.out]),rfl⟩
theorem einfoId:ElemInfo prog 26 23 32 32 :=
 .of (z:=.agg (idC id0)) underlying26 kR kR kR (idC_size _) oM
@[go_sem ↓] theorem bsId_rw(n:Nat)(parts:Array (Nat×Value)):Instr.buildSlice 26 n parts=bsS 26 n parts:=rfl
@[go_sem] theorem bsId_run(w:World)(x:Id32):(bsS 26 1 #[(0,.agg (idC x))]).run prog w=.ok (.slice (some ⟨w.heap.size,0,none⟩) 1 1) (w.alloc (.cells (idC x) 23)) :=
 run_bsS1 einfoId oM w (idC x) (idC_size x)
abbrev TagsIn(w:World)(A:Option Addr)(n:Nat)(R:List Id32):Prop:=SlR w A n 32 (R.map idC)
theorem TagsIn.len{R:List Id32}(h:TagsIn w A n R):R.length=n:=by simpa using h.1
theorem TagsIn.get{R:List Id32}(h:TagsIn w A n R){i:Nat}(hi:i<n)(hR:i<R.length):∃g o,A=some ⟨g,o,none⟩/\rowAt w g (o+i*32) 32=some (idC R[i]):=by
 obtain⟨g,o,e,hr⟩:=h.at_ hi;rw[getElem_map]at hr;exact⟨g,o,e,hr⟩
section
structure TkS where
 n:Int
 key:ByteArray
 val:ByteArray
 ref:Id32
 l:List UInt8
 e:Int
def tkR(b:Bool)(s:TkS):TkS:=if b then⟨s.n,s.key,s.val,idOf (rawV 32 s.l s.e),rawL 32 s.l s.e,rawE 32 s.l s.e⟩ else s
def tkK(b:Bool)(s:TkS):TkS:=if b then⟨s.n,txV s.l s.e,s.val,s.ref,txL s.l s.e,txE s.l s.e⟩ else s
def tkV(b:Bool)(s:TkS):TkS:=if b then⟨s.n,s.key,txV s.l s.e,s.ref,txL s.l s.e,txE s.l s.e⟩ else s
def tkN(b:Bool)(q:Int)(s:TkS):TkS:=if b then⟨(numV 4 s.l s.e:Int)-q,s.key,s.val,s.ref,rawL 4 s.l s.e,rawE 4 s.l s.e⟩ else s
def tkI(b:Bool)(k:Nat)(s:TkS):OpR:=if b then⟨⟨k,s.n,s.key,s.val,s.ref,(refsR s.l s.e).ids⟩,(refsR s.l s.e).l,(refsR s.l s.e).e⟩ else⟨⟨k,s.n,s.key,s.val,s.ref,[]⟩,s.l,s.e⟩
def tkAll(bR bK bV bN bI:Bool)(q:Int)(k:Nat)(l:List UInt8)(e:Int):OpR:=tkI bI k (tkN bN q (tkV bV (tkK bK (tkR bR ⟨0,⟨#[]⟩,⟨#[]⟩,id0,l,e⟩))))
theorem take_cases(k:Nat)(l:List UInt8)(e:Int)(h1:1<=k)(h7:k<=7):∃bR bK bV bN bI:Bool,∃q:Int,takeO k l e=tkAll bR bK bV bN bI q k l e/\q=(if(k:Int)=1 then 2147483648 else 0) /\
  ((partN k=1/\bR=false/\bK=false/\bV=false/\bN=true/\bI=false)\/(partN k=4/\bR=false/\bK=false/\bV=true/\bN=false/\bI=false)\/(partN k=20/\bR=false/\bK=false/\bV=true/\bN=false/\bI=true) \/
   (partN k=7/\bR=false/\bK=true/\bV=true/\bN=true/\bI=false)\/(partN k=22/\bR=false/\bK=true/\bV=true/\bN=false/\bI=true)\/(partN k=12/\bR=true/\bK=false/\bV=true/\bN=false/\bI=false)\/(partN k=8/\bR=true/\bK=false/\bV=false/\bN=false/\bI=false)):=by
 have hk:k=1\/k=2\/k=3\/k=4\/k=5\/k=6\/k=7:=oM;rcases hk with rfl | rfl | rfl | rfl | rfl | rfl | rfl
 ·exact⟨false,false,false,true,false,_,rfl,rfl,by decide⟩
 ·exact⟨false,false,true,false,false,_,rfl,rfl,by decide⟩
 ·exact⟨false,false,true,false,true,_,rfl,rfl,by decide⟩
 ·exact⟨false,true,true,true,false,_,by show _=_;unfold takeO tkAll tkI tkN tkV tkK tkR;simp,rfl,by decide⟩
 ·exact⟨false,true,true,false,true,_,rfl,rfl,by decide⟩
 ·exact⟨true,false,true,false,false,_,rfl,rfl,by decide⟩
 ·exact⟨true,false,false,false,false,_,rfl,rfl,by decide⟩
section
variable (n q:Int) (key val:ByteArray) (ref:Id32) (l:List UInt8) (e:Int) (k:Nat) (s:TkS)
theorem tkR_t:tkR true ⟨n,key,val,ref,l,e⟩=⟨n,key,val,idOf (rawV 32 l e),rawL 32 l e,rawE 32 l e⟩:=rfl
theorem tkR_f:tkR false s=s:=rfl
theorem tkK_t:tkK true ⟨n,key,val,ref,l,e⟩=⟨n,txV l e,val,ref,txL l e,txE l e⟩:=rfl
theorem tkK_f:tkK false s=s:=rfl
theorem tkV_t:tkV true ⟨n,key,val,ref,l,e⟩=⟨n,key,txV l e,ref,txL l e,txE l e⟩:=rfl
theorem tkV_f:tkV false s=s:=rfl
theorem tkN_t:tkN true q ⟨n,key,val,ref,l,e⟩=⟨(numV 4 l e:Int)-q,key,val,ref,rawL 4 l e,rawE 4 l e⟩:=rfl
theorem tkN_f:tkN false q s=s:=rfl
theorem tkI_t:tkI true k ⟨n,key,val,ref,l,e⟩=⟨⟨k,n,key,val,ref,(refsR l e).ids⟩,(refsR l e).l,(refsR l e).e⟩:=rfl
theorem tkI_f:tkI false k ⟨n,key,val,ref,l,e⟩=⟨⟨k,n,key,val,ref,[]⟩,l,e⟩:=rfl
end
theorem op_take(k:Nat)(w:World)(g:Nat)(l:List UInt8)(e:Int)(h:RdAt w g l e)(hp:PartsVar w)(h1:1<=k)(h7:k<=7) :
  Calls prog 274 #[.pointer (some ⟨g,0,none⟩),.int .i64 k] w λen w'=>∃A cap,en=.returned (.agg (opC (takeO k l e).o A cap))/\Own w' w.heap.size 23 32 A (takeO k l e).o.refs.length cap ((takeO k l e).o.refs.map idC)/\RdAt w' g (takeO k l e).l (takeO k l e).e/\Keep [g] w w':=by
 obtain⟨bR,bK,bV,bN,bI,q,ht,hq,hc⟩:=take_cases k l e h1 h7;have d8:=op_shift (k:Int);rw[<-hq]at d8;have i4:=dH d8;have Hq:Hid (0<=q/\q<=2147483648):=dH (by rw[hq];split <;> omega);obtain⟨T,hT⟩:=eX (takeO k l e)
 rw[hT]at ht |-;obtain⟨P,hP⟩:=eX (partN k)
 rw[hP]at hc;have i6:=dH hP;have HC:=dH hc;have HT:=dH (show T=tkI bI k (tkN bN q (tkV bV (tkK bK (tkR bR ⟨0,⟨#[]⟩,⟨#[]⟩,id0,l,e⟩))))from ht);clear d8 hq hT ht hP hc;have H:((w.alloc (.cells (opPC opP0) 28)).alloc (.cells (opPC ⟨(k:Int),0,⟨#[]⟩,⟨#[]⟩,id0,.slice none 0 0⟩) 28)).heap[w.heap.size]?=some (.cells (opPC opP0) 28 (0,0)):=by
  rw[Below.heap_alloc _ _ _ sI];exact heap_alloc_new w _
 have E:((w.alloc (.cells (opPC opP0) 28)).alloc (.cells (opPC ⟨(k:Int),0,⟨#[]⟩,⟨#[]⟩,id0,.slice none 0 0⟩) 28)).heap[w.heap.size+1]?=some (.cells (opPC ⟨(k:Int),0,⟨#[]⟩,⟨#[]⟩,id0,.slice none 0 0⟩) 28 (0,0)):=by
  have:=heap_alloc_new (w.alloc (.cells (opPC opP0) 28)) (.cells (opPC ⟨(k:Int),0,⟨#[]⟩,⟨#[]⟩,id0,.slice none 0 0⟩) 28);simpa using this
 have b9:Below w.heap.size w ((w.alloc (.cells (opPC opP0) 28)).alloc (.cells (opPC ⟨(k:Int),0,⟨#[]⟩,⟨#[]⟩,id0,.slice none 0 0⟩) 28)):=(bA).alloc sI _;have d4:=op_of k _ (hp.below b9) oM;rw[i6.out]at d4;have hE:=h.below b9;have h9:=h.lt;go_enter func274,ntmps274
 go_upto_region 2 with fail
 obtain⟨ga,f1⟩:=eX w.heap.size
 have f9:=dH f1;obtain⟨W,hW⟩:=eR ((w.alloc (.cells (opPC opP0) 28)).alloc (.cells (opPC ⟨(k:Int),0,⟨#[]⟩,⟨#[]⟩,id0,.slice none 0 0⟩) 28))
 rw[<-hW]at b9 H E hE d4 |-;rw[f1]at H E h9 |-;clear hW h hp f1;have I:Keep [g,ga+1] w W:=(Keep.of_below b9).mono sI;have Z:g∉[ga+1]:=sO;have a2:ga∉[g,ga+1]:=sO;have Y:ga+1∉[g]:=sO;have F:ga+1<W.heap.size:=(aG E).1;(go_wp2_with fail);refine d4.mono ?_;rintro en w1 ⟨rfl,rfl⟩;clear d4;clear h1 h7;obtain⟨n,hn⟩:∃n:Int,(0:Int)=n:=⟨_,rfl⟩
 obtain⟨key,b5⟩:∃x:ByteArray,(⟨#[]⟩:ByteArray)=x:=⟨_,rfl⟩
 obtain⟨val,b0⟩:∃x:ByteArray,(⟨#[]⟩:ByteArray)=x:=⟨_,rfl⟩
 obtain⟨ref,b2⟩:∃x:Id32,id0=x:=⟨_,rfl⟩
 obtain⟨l1,e4⟩:=eX l
 obtain⟨e1,f2⟩:=eX e
 have g9:Hid (T=tkI bI k (tkN bN q (tkV bV (tkK bK (tkR bR ⟨n,key,val,ref,l1,e1⟩))))):=dH (by rw[<-b0,<-b5,<-hn,<-b2,<-e4,<-f2];exact HT.out);have g3:W.heap[ga+1]?=some (.cells (opPC ⟨(k:Int),n,key,val,ref,.slice none 0 0⟩) 28 (0,0)):=by rw[<-b0,<-b5,<-hn,<-b2];exact E
 rw[e4,f2]at hE;clear hn b5 b2 b0 e4 f2 E HT;have E:=g3;have HT:=g9;clear g3 g9;rcases HC.out with⟨rfl,rfl,rfl,rfl,rfl,rfl⟩ | ⟨rfl,rfl,rfl,rfl,rfl,rfl⟩ | ⟨rfl,rfl,rfl,rfl,rfl,rfl⟩ | ⟨rfl,rfl,rfl,rfl,rfl,rfl⟩ | ⟨rfl,rfl,rfl,rfl,rfl,rfl⟩ | ⟨rfl,rfl,rfl,rfl,rfl,rfl⟩ | ⟨rfl,rfl,rfl,rfl,rfl,rfl⟩
 all_goals
  clear HC
  first
  | (rw[tkR_t]at HT
     (go_wp2_with fail);refine(op_id _ g _ _ hE).mono ?_;rintro en w3 ⟨rfl,L,f⟩;obtain⟨d,hd⟩:=eX (idOf (rawV 32 l1 e1))
     rw[hd];have Hd:=dH hd;clear hd;have M:=(f.block (ga+1) F Y).trans E;have h4:=store_ref d M;have m:=setRow_heap w3 (ga+1) _ (opPC ⟨(k:Int),n,key,val,d,.slice none 0 0⟩) _ _ M;have D:Keep [ga+1] w3 (w3.setRow (ga+1) (opPC ⟨(k:Int),n,key,val,d,.slice none 0 0⟩)):=⟨rfl,rfl,rfl,by simp[setRow],λx _ hx=>setRow_other w3 (ga+1) x _ (by simpa using hx)⟩
     have J:=RdAt.kept L D Z;have r:=((Keep.trans (f.mono (S':=[g,ga+1]) sI) (D.mono (S':=[g,ga+1]) sI) iL).block ga oM a2).trans H;have t:Keep [g,ga+1] w (w3.setRow (ga+1) (opPC ⟨(k:Int),n,key,val,d,.slice none 0 0⟩)):=Keep.trans (Keep.trans I (f.mono (S':=[g,ga+1]) sI) iL) (D.mono (S':=[g,ga+1]) sI) iL;have G:W.heap.size<=(w3.setRow (ga+1) (opPC ⟨(k:Int),n,key,val,d,.slice none 0 0⟩)).heap.size:=Nat.le_trans f.size D.size;clear hE L f E H M D I;go_upto_region 5 with fail
     obtain⟨W',a0⟩:=eR (w3.setRow (ga+1) (opPC ⟨(k:Int),n,key,val,d,.slice none 0 0⟩))
     rw[<-a0]at m J r t G |-;clear a0 h4;have B:ga+1<W'.heap.size:=oM;clear F G;obtain⟨W,rfl⟩:∃W:World,W=W':=⟨_,rfl⟩
     have F:=B;have hE:=J;have H:=r;have E:=m;have I:=t;clear B J r m t;rw[Hd.out]at HT;obtain⟨l1,e1,R,U⟩:∃x y,rawL 32 l1 e1=x/\rawE 32 l1 e1=y:=⟨_,_,rfl,rfl⟩
     rw[R,U]at HT hE;clear R U;clear Hd;obtain⟨ref,rfl⟩:∃x:Id32,x=d:=⟨_,rfl⟩)
  | (rw[tkR_f]at HT)
  first
  | (rw[tkK_t]at HT
     (go_wp2_with fail);refine(rd_num1 _ g _ _ hE).mono ?_;rintro en w2 ⟨rfl,c1,c7⟩;have e2:=numV_lt 1 l1 e1;(go_wp2_with fail);refine(rd_raw _ g _ _ _ c1 oM).mono ?_;rintro en w3 ⟨rfl,L,c6⟩;replace L:RdAt w3 g (txL l1 e1) (txE l1 e1):=L;obtain⟨tx,b4⟩:=eX (mkB (rawV (numV 1 l1 e1) (rawL 1 l1 e1) (rawE 1 l1 e1)))
     have d2:=dH (show txV l1 e1=tx from b4);rw[b4];have f:Keep [g] W w3:=Keep.trans c7 c6 iL;have M:=(f.block (ga+1) F Y).trans E;have O:∀j,w3.frozen? ⟨ga+1,j,none⟩=false:=λj=>(by simp[frozen?,M]);have x0:w3.cell? ⟨ga+1,2,none⟩=some (.string key):=by rw[cell_of_row w3 (ga+1) _ _ _ _ M];simp[go_sem]
     have f0:=O 2;have m:=heap_setCell_same M 2 (.string tx);rw[opPC_set2]at m;have D:=Keep.setCell w3 ⟨ga+1,2,none⟩ (.string tx);have J:=L.kept D Z;have r:=((Keep.trans (f.mono (S':=[g,ga+1]) sI) (D.mono (S':=[g,ga+1]) sI) iL).block ga oM a2).trans H;have t:Keep [g,ga+1] w (w3.setCell ⟨ga+1,2,none⟩ (.string tx)):=Keep.trans (Keep.trans I (f.mono (S':=[g,ga+1]) sI) iL) (D.mono (S':=[g,ga+1]) sI) iL;have G:W.heap.size<=(w3.setCell ⟨ga+1,2,none⟩ (.string tx)).heap.size:=Nat.le_trans f.size D.size;clear hE c1 c7 e2 b4 L c6 f E H M O D I;go_upto_region 7 with fail
     obtain⟨W',a0⟩:=eR (w3.setCell ⟨ga+1,2,none⟩ (.string tx))
     rw[<-a0]at m J r t G |-;clear a0 x0 f0;have B:ga+1<W'.heap.size:=oM;clear F G;obtain⟨W,rfl⟩:∃W:World,W=W':=⟨_,rfl⟩
     have F:=B;have hE:=J;have H:=r;have E:=m;have I:=t;clear B J r m t;rw[d2.out]at HT;obtain⟨l1,e1,R,U⟩:∃x y,txL l1 e1=x/\txE l1 e1=y:=⟨_,_,rfl,rfl⟩
     rw[R,U]at HT hE;clear R U;clear d2;obtain⟨key,rfl⟩:∃x:ByteArray,x=tx:=⟨_,rfl⟩)
  | (rw[tkK_f]at HT)
  first
  | (rw[tkV_t]at HT
     (go_wp2_with fail);refine(rd_num1 _ g _ _ hE).mono ?_;rintro en w2 ⟨rfl,c1,c7⟩;have e2:=numV_lt 1 l1 e1;(go_wp2_with fail);refine(rd_raw _ g _ _ _ c1 oM).mono ?_;rintro en w3 ⟨rfl,L,c6⟩;replace L:RdAt w3 g (txL l1 e1) (txE l1 e1):=L;obtain⟨tx,b4⟩:=eX (mkB (rawV (numV 1 l1 e1) (rawL 1 l1 e1) (rawE 1 l1 e1)))
     have d2:=dH (show txV l1 e1=tx from b4);rw[b4];have f:Keep [g] W w3:=Keep.trans c7 c6 iL;have M:=(f.block (ga+1) F Y).trans E;have O:∀j,w3.frozen? ⟨ga+1,j,none⟩=false:=λj=>(by simp[frozen?,M]);have x0:w3.cell? ⟨ga+1,3,none⟩=some (.string val):=by rw[cell_of_row w3 (ga+1) _ _ _ _ M];simp[go_sem]
     have f0:=O 3;have m:=heap_setCell_same M 3 (.string tx);rw[opPC_set3]at m;have D:=Keep.setCell w3 ⟨ga+1,3,none⟩ (.string tx);have J:=L.kept D Z;have r:=((Keep.trans (f.mono (S':=[g,ga+1]) sI) (D.mono (S':=[g,ga+1]) sI) iL).block ga oM a2).trans H;have t:Keep [g,ga+1] w (w3.setCell ⟨ga+1,3,none⟩ (.string tx)):=Keep.trans (Keep.trans I (f.mono (S':=[g,ga+1]) sI) iL) (D.mono (S':=[g,ga+1]) sI) iL;have G:W.heap.size<=(w3.setCell ⟨ga+1,3,none⟩ (.string tx)).heap.size:=Nat.le_trans f.size D.size;clear hE c1 c7 e2 b4 L c6 f E H M O D I;go_upto_region 9 with fail
     obtain⟨W',a0⟩:=eR (w3.setCell ⟨ga+1,3,none⟩ (.string tx))
     rw[<-a0]at m J r t G |-;clear a0 x0 f0;have B:ga+1<W'.heap.size:=oM;clear F G;obtain⟨W,rfl⟩:∃W:World,W=W':=⟨_,rfl⟩
     have F:=B;have hE:=J;have H:=r;have E:=m;have I:=t;clear B J r m t;rw[d2.out]at HT;obtain⟨l1,e1,R,U⟩:∃x y,txL l1 e1=x/\txE l1 e1=y:=⟨_,_,rfl,rfl⟩
     rw[R,U]at HT hE;clear R U;clear d2;obtain⟨val,rfl⟩:∃x:ByteArray,x=tx:=⟨_,rfl⟩)
  | (rw[tkV_f]at HT)
  first
  | (rw[tkN_t]at HT
     (go_wp2_with fail);refine(rd_num4 _ g _ _ hE).mono ?_;rintro en w3 ⟨rfl,L,f⟩;have c2:=numV_lt 4 l1 e1;obtain⟨nv,e0⟩:=eX (numV 4 l1 e1)
     rw[e0]at c2 |-;have g7:=dH e0;clear e0;have h6:nv<4294967296:=by simpa using c2
     have hw:((nv:Int)-q+9223372036854775808) % 18446744073709551616-9223372036854775808=(nv:Int)-q:=oH Hq.out;have M:=(f.block (ga+1) F Y).trans E;have O:∀j,w3.frozen? ⟨ga+1,j,none⟩=false:=λj=>(by simp[frozen?,M]);have x0:w3.cell? ⟨ga+1,1,none⟩=some (.int .i64 n):=by rw[cell_of_row w3 (ga+1) _ _ _ _ M];simp[go_sem]
     have f0:=O 1;have m:=heap_setCell_same M 1 (.int .i64 ((nv:Int)-q));rw[opPC_set1]at m;have D:=Keep.setCell w3 ⟨ga+1,1,none⟩ (.int .i64 ((nv:Int)-q));have J:=RdAt.kept L D Z;have r:=((Keep.trans (f.mono (S':=[g,ga+1]) sI) (D.mono (S':=[g,ga+1]) sI) iL).block ga oM a2).trans H;have t:Keep [g,ga+1] w (w3.setCell ⟨ga+1,1,none⟩ (.int .i64 ((nv:Int)-q))):=Keep.trans (Keep.trans I (f.mono (S':=[g,ga+1]) sI) iL) (D.mono (S':=[g,ga+1]) sI) iL;have G:W.heap.size<=(w3.setCell ⟨ga+1,1,none⟩ (.int .i64 ((nv:Int)-q))).heap.size:=Nat.le_trans f.size D.size;clear hE L c2 f E H M O D I;(go_wp2_with fail);refine(i4.out _).mono ?_;rintro en w4 ⟨rfl,rfl⟩;go_upto_region 11 with fail
     obtain⟨W',a0⟩:=eR (w3.setCell ⟨ga+1,1,none⟩ (.int .i64 ((nv:Int)-q)))
     rw[<-a0]at m J r t G |-;clear a0 x0 f0 h6 hw;have B:ga+1<W'.heap.size:=oM;clear F G;obtain⟨W,rfl⟩:∃W:World,W=W':=⟨_,rfl⟩
     have F:=B;have hE:=J;have H:=r;have E:=m;have I:=t;clear B J r m t;rw[g7.out]at HT;obtain⟨l1,e1,R,U⟩:∃x y,rawL 4 l1 e1=x/\rawE 4 l1 e1=y:=⟨_,_,rfl,rfl⟩
     rw[R,U]at HT hE;clear R U;clear g7;obtain⟨n,hx⟩:∃x:Int,(nv:Int)-q=x:=⟨_,rfl⟩
     rw[hx]at HT E;clear hx)
  | (rw[tkN_f]at HT)
  first
  | (rw[tkI_f]at HT
     have e9:T=⟨⟨k,n,key,val,ref,[]⟩,l1,e1⟩:=HT.out;have H9:=dH e9;clear e9 HT;go_upto_region 16 with fail
     have d9:rowAt W (ga+1) 0 37=some (opPC ⟨(k:Int),n,key,val,ref,.slice none 0 0⟩):=by unfold rowAt;rw[E];simp[go_sem]
     have d7:=run_stS_at (P:=prog) infoOpP W ga (opPC opP0) (opPC ⟨(k:Int),n,key,val,ref,.slice none 0 0⟩) _ H sI sI (opPC_one _ rfl);have a8:Keep [ga] W (W.setRow ga (opPC ⟨(k:Int),n,key,val,ref,.slice none 0 0⟩)):=⟨rfl,rfl,rfl,by simp[setRow],λx _ hx=>setRow_other W ga x _ (by simpa using hx)⟩
     have b8:=dH (setRow_heap W ga _ (opPC ⟨(k:Int),n,key,val,ref,.slice none 0 0⟩) _ _ H);have a9:=hE.kept a8 sO;have c5:Keep [g,ga,ga+1] w (W.setRow ga (opPC ⟨(k:Int),n,key,val,ref,.slice none 0 0⟩)):=Keep.trans (I.mono (S':=[g,ga,ga+1]) (by intro x hx;simp at hx |-;omega)) (a8.mono (S':=[g,ga,ga+1]) sI) iL;have c4:Keep [g] w (W.setRow ga (opPC ⟨(k:Int),n,key,val,ref,.slice none 0 0⟩)):=c5.narrow (λx hx=>by have:=f9.out;simp at hx |-;omega);have g0:=dH a9;have f7:=dH c4;clear a9 hE c5 c4 a8 H E b9 I;(go_wp2_with fail);refine bodyPost_ret (results_cell_row results274 _ _ ga 28 (opPC ⟨(k:Int),n,key,val,ref,.slice none 0 0⟩) (0,0) _ rfl b8.out underlying28 rfl (by rw[opPC_size];exact infoOpP)) rfl ?_;rw[H9.out];exact⟨none,0,rfl,Own.nil _ _ _ _,g0.out,f7.out⟩)
  | (rw[tkI_t]at HT
     have e9:T=⟨⟨k,n,key,val,ref,(refsR l1 e1).ids⟩,(refsR l1 e1).l,(refsR l1 e1).e⟩:=HT.out;have H9:=dH e9;clear e9 HT;obtain⟨kk,rfl⟩:∃x:Nat,x=k:=⟨_,rfl⟩
     (go_wp2_with fail);refine(rd_num1 _ g _ _ hE).mono ?_;rintro en w3 ⟨rfl,L,f⟩;have c2:=numV_lt 1 l1 e1;have f4:Hid (refsR l1 e1=idLoop (numV 1 l1 e1) ⟨[],rawL 1 l1 e1,rawE 1 l1 e1⟩):=by show _=_;rfl
     obtain⟨N,hN⟩:=eX (numV 1 l1 e1)
     rw[hN]at c2 f4 |-;clear hN;have m:=(f.block (ga+1) F Y).trans E;have r:=(f.block ga oM sO).trans H;have t:Keep [g,ga+1] w w3:=Keep.trans I (f.mono (S':=[g,ga+1]) sI) iL;have J:RdAt w3 g (rawL 1 l1 e1) (rawE 1 l1 e1):=L;have j1:ga+1<w3.heap.size:=oH f.size;have f5:Hid (w.heap.size<=w3.heap.size):=by have h1:=t.size;exact h1
     clear hE L f E H I F;obtain⟨W3,rfl⟩:∃W:World,W=w3:=⟨_,rfl⟩
     (go_wp2_with fail);go_loopw [47] (λi wr=>∃(k:Nat) (s:IdsR) (A:Option Addr) (cap:Nat),k<=N/\i=.int .i64 k/\s.ids.length=k/\Hid (idLoop N ⟨[],rawL 1 l1 e1,rawE 1 l1 e1⟩=idLoop (N-k) s)/\wr.heap[ga+1]?=some (.cells (opPC ⟨(kk:Int),n,key,val,ref,.slice A s.ids.length cap⟩) 28 (0,0))/\wr.heap[ga]?=some (.cells (opPC opP0) 28 (0,0))/\RdAt wr g s.l s.e/\Own wr W3.heap.size 23 32 A s.ids.length cap (s.ids.map idC)/\Keep [g,ga+1] w wr/\W3.heap.size<=wr.heap.size) (λi _=>N-(intOf i).toNat)
     case atStart=>exact⟨0,⟨[],rawL 1 l1 e1,rawE 1 l1 e1⟩,none,0,zL,rfl,rfl,(show _=_ from rfl),m,r,J,Own.nil _ _ _ _,t,lR⟩
     case round =>
      clear m r J t;obtain⟨k,s,A,cap,hk,rfl,d3,d5,E,H,hE,V,I,i9⟩:=hrel;obtain⟨ids,l3,e3⟩:=s;dsimp only at *;by_cases j0:k<N
      ·have b3:=d5.out;rw[(oM:N-k=(N-(k+1))+1)]at b3;have c3:idLoop N ⟨[],rawL 1 l1 e1,rawE 1 l1 e1⟩=idLoop (N-(k+1)) ⟨ids ++ [idOf (rawV 32 l3 e3)],rawL 32 l3 e3,rawE 32 l3 e3⟩:=b3;have g8:=dH c3;clear d5 b3 c3;have d1:∀x∈blk A,W3.heap.size<=x/\x<wr.heap.size:=λx hx=>V.at_base hx;have g1:ga+1∉g :: blk A:=by
        intro hm;rcases mem_cons.1 hm with h1 | h1
        ·omega
        ·have:=(d1 _ h1).1;omega
       have i0:g∉blk A:=λh1=>(oH ((d1 _ h1).1));have e7:ga∉g :: blk A:=by
        intro hm;rcases mem_cons.1 hm with h1 | h1
        ·omega
        ·have:=(d1 _ h1).1;omega
       have x0:wr.cell? ⟨ga+1,36,none⟩=some (.slice A ids.length cap):=by rw[cell_of_row wr (ga+1) _ _ _ _ E];simp[go_sem]
       have g6:=op_id wr.drew g l3 e3 (hE.kept (Keep.drew wr) sI);have h8:ids.length<=255:=oM;have h0:=dH d3;clear d3;go_upto_region 14 with fail
       refine kF (g :: blk A) wr ?_;intro h5 hS;have b1:=ksub_cell x0 g1;refine lQ ?_;intro K hK;refine g6.mono ?_;rintro en w4 ⟨rfl,a9,d6⟩;replace hS:=kp_next hS d6 sI;refine⟨_,rfl,hS,hK _ _ ?_⟩;clear hK K g6;refine lQ ?_;intro K hK;refine step_keep (kp_alloc hS _) (λhS=>?_);refine hK _ _ ?_;clear hK K;obtain⟨d,hd⟩:=eX (idOf (rawV 32 l3 e3))
       rw[hd]at hS |-;have Hd:=dH hd;clear hd;have a3:Keep [g] wr w4:=Keep.trans ((Keep.drew wr).mono (S':=[g]) sI) d6 iL;have f3:=Keep.alloc w4 (.cells (idC d) 23);have a6:=(V.kept a3 (λx hx=>oS ((d1 x hx).1))).kept f3 sI;have a5:rowAt (w4.alloc (.cells (idC d) 23)) w4.heap.size 0 32=some (idC d):=by simp[go_sem]
       have h3:=a3.size;have g4:W3.heap.size<=(w4.alloc (.cells (idC d) 23)).heap.size:=sO;refine Lx_append einfoId rfl a6 rfl a5 (idC_one _) oM oM g4 ?_;intro A2 a1 w5 X g2 c0;have b6:Keep (blk A) w4 w5:=Keep.trans (f3.mono (S':=blk A) sI) g2 iL;have b7:Keep (g :: blk A) wr w5:=Keep.trans (a3.mono (S':=g :: blk A) sI) (b6.mono (S':=g :: blk A) (λx hx=>.inl (mem_cons_of_mem _ hx))) iL;refine step_keep b7 (λi1=>?_);refine lZ ?_;have e6:ga+1<wr.heap.size:=(aG E).1;have a4:=(b7.block (ga+1) e6 g1).trans E;have c8:=(b7.block ga oM e7).trans H;have f0:w5.frozen? ⟨ga+1,36,none⟩=false:=by simp[frozen?,a4]
       have d0:w5.cell? ⟨ga+1,36,none⟩=some (.slice A ids.length cap):=by rw[cell_of_row w5 (ga+1) _ _ _ _ a4];simp[go_sem]
       refine wpLx_end ?_ ?_;(focus(simp only[chainOp];done));intro K hK;go_simp;refine hK _ _ ?_;clear hK K;have e5:=d6;have m:=heap_setCell_same a4 36 (.slice A2 (ids.length+1) a1);rw[opPC_set36]at m;have D:=Keep.setCell w5 ⟨ga+1,36,none⟩ (.slice A2 (ids.length+1) a1);have i3:=(RdAt.kept a9 b6 i0).kept D Z;have r:=(D.block ga (oH b7.size) sI).trans c8;have g5:∀x∈blk A2,x∉[ga+1]:=λx hx=>(oS ((X.at_base hx).1));have a7:=X.kept D g5;have i2:Keep [g,ga+1] w (w5.setCell ⟨ga+1,36,none⟩ (.slice A2 (ids.length+1) a1)):=by
        have h1:Keep [g,ga+1] w w5:=(Keep.trans (I.mono (S':=g :: (ga+1) :: blk A) (by intro x hx;simp at hx |-;omega)) (b7.mono (S':=g :: (ga+1) :: blk A) (λx hx=>.inl (by rcases mem_cons.1 hx with h | h;exact mem_cons.2 (.inl h);exact mem_cons.2 (.inr (mem_cons.2 (.inr h)))))) iL).narrow (λx hx=>by
         rcases mem_cons.1 hx with h | h
         ·exact .inl (by simp[h])
         ·rcases mem_cons.1 h with h | h
          ·exact .inl (by simp[h])
          ·right;have:=(d1 x h).1;have:=f5.out;omega)
        exact Keep.trans h1 (D.mono (S':=[g,ga+1]) sI) iL
       have G:W3.heap.size<=(w5.setCell ⟨ga+1,36,none⟩ (.slice A2 (ids.length+1) a1)).heap.size:=by have:=b7.size;have:=D.size;omega
       have R:(ids ++ [d]).length=ids.length+1:=sI;rw[(sI:ids.map idC ++ [idC d]=(ids ++ [d]).map idC)]at a7;have f6:=dH R;rw[Hd.out]at g8;clear R f0 d0 b1 h5 hS b7 i1 a3 b6 d6 e5 g2 c0 X a6 a5 f3 a4 c8 D a9 g4 V hE E H x0 g5 I;(go_wp2_with fail);go_roundw
       case rel=>exact⟨k+1,⟨ids ++ [d],rawL 32 l3 e3,rawE 32 l3 e3⟩,A2,a1,oM,by go_num,by rw[f6.out,h0.out],g8,(by rw[f6.out];exact m),r,i3,(by rw[f6.out];exact a7),i2,G⟩
       case measure=>exact sZ
      ·have c9:refsR l1 e1=⟨ids,l3,e3⟩:=by rw[f4.out,d5.out,(oM:N-k=0)];rfl
       have i5:=dH c9;have h0:=dH d3;clear d3 c9 d5 f4;have i8:Hid (w.heap.size<=W3.heap.size):=f5.out;obtain⟨W,rfl⟩:∃W:World,W=wr:=⟨_,rfl⟩
       have h2:=dH (V.mono f5.out);have f8:Hid (∀x∈blk A,ga+1<x):=λx hx=>(oH ((V.at_base hx).1));clear V;go_upto_region 16 with fail
       have d9:rowAt W (ga+1) 0 37=some (opPC ⟨(kk:Int),n,key,val,ref,.slice A ids.length cap⟩):=by unfold rowAt;rw[E];simp[go_sem]
       have d7:=run_stS_at (P:=prog) infoOpP W ga (opPC opP0) (opPC ⟨(kk:Int),n,key,val,ref,.slice A ids.length cap⟩) _ H sI sI (opPC_one _ rfl);have a8:Keep [ga] W (W.setRow ga (opPC ⟨(kk:Int),n,key,val,ref,.slice A ids.length cap⟩)):=⟨rfl,rfl,rfl,by simp[setRow],λx _ hx=>setRow_other W ga x _ (by simpa using hx)⟩
       have b8:=dH (setRow_heap W ga _ (opPC ⟨(kk:Int),n,key,val,ref,.slice A ids.length cap⟩) _ _ H);have a9:=hE.kept a8 sO;have c5:Keep [g,ga,ga+1] w (W.setRow ga (opPC ⟨(kk:Int),n,key,val,ref,.slice A ids.length cap⟩)):=Keep.trans (I.mono (S':=[g,ga,ga+1]) (by intro x hx;simp at hx |-;omega)) (a8.mono (S':=[g,ga,ga+1]) sI) iL;have c4:Keep [g] w (W.setRow ga (opPC ⟨(kk:Int),n,key,val,ref,.slice A ids.length cap⟩)):=c5.narrow (λx hx=>by have:=f9.out;simp at hx |-;omega);have g0:=dH a9;have f7:=dH c4;have i7:=dH (h2.out.kept a8 (λx hx=>by have:=(h2.out.at_base hx).1;have:=f9.out;have:=f8.out x hx;simp;omega));clear a9 hE c5 c4 a8 H E b9 I;(go_wp2_with fail);refine bodyPost_ret (results_cell_row results274 _ _ ga 28 (opPC ⟨(kk:Int),n,key,val,ref,.slice A ids.length cap⟩) (0,0) _ rfl b8.out underlying28 rfl (by rw[opPC_size];exact infoOpP)) rfl ?_;have e8:T=⟨⟨kk,n,key,val,ref,ids⟩,l3,e3⟩:=by rw[H9.out,i5.out]
       rw[e8];exact⟨A,cap,rfl,i7.out,g0.out,f7.out⟩)
end
theorem is_ids(w:World)(A:Option Addr)(n cap:Nat)(R:List Id32)(h:TagsIn w A n R)(hn:n<=4294967296) :
  Calls prog 105 #[.slice A n cap] w λe w'=>e=.returned (.bool (risI R))/\Below w.heap.size w w':=by
 have s:=dH h.len;go_enter func105,ntmps105
 (go_wp2_with fail);go_loopw [3] (λi wr=>∃j:Nat,(j<n\/j=0)/\i=.int .i64 ((j:Int)+1)/\Hid (risI R=risI (R.drop j))/\Below w.heap.size w wr) (λi _=>n+1-(intOf i).toNat)
 case atStart=>exact⟨0,.inr rfl,rfl,(show _=_ from rfl),Below.refl _ _⟩
 case round =>
  obtain⟨j,hj,rfl,t,hb⟩:=hrel;by_cases B:j+1<n
  ·have r:j+1<R.length:=by rw[s.out];exact B
   obtain⟨q,o,rfl,f⟩:=TagsIn.get (SlR.below h hb) B r;obtain⟨q',o',D,g⟩:=TagsIn.get (SlR.below h hb) (oM:j<n) (oM:j<R.length);injection D with D
   injection D with O N
   subst O;subst N;have d:risI R=(decide (cmpId (R[j]'oM) (R[j+1]'r)<0)&&risI (R.drop (j+1))):=by
    rw[t.out,drop_eq_getElem_cons (oM:j<R.length),drop_eq_getElem_cons r];rfl
   obtain⟨x,hx⟩:=eX (R[j]'oM)
   obtain⟨y,hy⟩:=eX (R[j+1]'r)
   rw[hx]at g d;rw[hy]at f d;clear t hx hy r;have F:((j:Int)+1<n):=oM;have J:IntKind.i64.wrap (j:Int)=j:=IntWalk.i64_in _ oM;have t1:((j:Int)+1).toNat=j+1:=oM;have t2:(0:Int)<=(j:Int)+1:=oM;have t3:(j:Int)<n:=oM;have t4:j<n:=oM;have c2:=cmp_id x y wr.drew;by_cases hc:cmpId x y<0
   ·rw[decide_eq_true hc,Bool.true_and]at d;have I:=dH d;have G:¬(0<=cmpId x y):=oM;obtain⟨c,k⟩:=eX (cmpId x y);rw[k]at c2 G;clear k;clear d hc;go_upto_region 4 with fail
    refine lX wr ?_;intro E hS;have b1:=sub_row g;have b2:=sub_row f;refine lZ ?_;refine lC (c2) ?_;clear hS;intro w' hS;refine lZ ?_;refine wpLx_nil ?_;intro hS;have m:Below wr.heap.size wr w':=hS;have H:=bel2 hb m;clear b1 b2 E hS m c2 J;(go_wp2_with fail);go_roundw
    case rel=>exact⟨j+1,.inl B,by go_num,I,H⟩
    case measure=>exact sZ
   ·rw[decide_eq_false hc,Bool.false_and]at d;have I:=dH d;have G:0<=cmpId x y:=oM;obtain⟨c,k⟩:=eX (cmpId x y);rw[k]at c2 G;clear k;clear d hc;go_upto_region 4 with fail
    refine lX wr ?_;intro E hS;have b1:=sub_row g;have b2:=sub_row f;refine lZ ?_;refine lC (c2) ?_;clear hS;intro w' hS;refine lZ ?_;refine wpLx_nil ?_;intro hS;have m:Below wr.heap.size wr w':=hS;have H:=bel2 hb m;clear b1 b2 E hS m c2 J;(go_wp2_with fail);go_ret;exact⟨ret_bool (by rw[I.out]),H⟩
  ·have L:risI R=true:=by
    rw[t.out];have M:(R.drop j).length<=1:=by rw[length_drop,s.out];omega
    generalize R.drop j=Z at M
    match Z,M with
    | [],_=>rfl
    | [_],_=>rfl
   have V:=dH L;have F:decide ((j:Int)+1<n)=false:=sO;have T:decide (j+1<n)=false:=sO;clear L t B hj;(go_wp2_with fail);go_ret;exact⟨ret_bool (by rw[V.out]),hb⟩
def plainO(o:OpV):Prop :=
 (o.k=1/\o.key=⟨#[]⟩/\o.val=⟨#[]⟩/\o.ref=id0/\o.refs = [])\/(o.k=2/\o.n=0/\o.key=⟨#[]⟩/\o.ref=id0/\o.refs = [])\/(o.k=3/\o.n=0/\o.key=⟨#[]⟩/\o.ref=id0) \/
 (o.k=4/\o.ref=id0/\o.refs = [])\/(o.k=5/\o.n=0/\o.ref=id0)\/(o.k=6/\o.n=0/\o.key=⟨#[]⟩/\o.refs = [])\/(o.k=7/\o.n=0/\o.key=⟨#[]⟩/\o.val=⟨#[]⟩/\o.refs = [])
theorem op_spare(o:OpV)(A:Option Addr)(c:Nat)(w:World)(hp:PartsVar w)(h:plainO o) :
  Calls prog 103 #[.agg (opC o A c)] w λe w'=>e=.returned (.bool false)/\Below w.heap.size w w':=by
 obtain⟨k,n,key,val,ref,refs⟩:=o;unfold plainO at h;dsimp only at h;rcases h with⟨rfl,rfl,rfl,rfl,rfl⟩ | ⟨rfl,rfl,rfl,rfl,rfl⟩ | ⟨rfl,rfl,rfl,rfl⟩ | ⟨rfl,rfl,rfl⟩ | ⟨rfl,rfl,rfl⟩ | ⟨rfl,rfl,rfl,rfl⟩ | ⟨rfl,rfl,rfl,rfl,rfl⟩
 ·show Calls prog 103 #[.agg (opPC ⟨1,n,⟨#[]⟩,⟨#[]⟩,id0,.slice A 0 c⟩)] w _;have hB:Below w.heap.size w (w.alloc (.cells (opPC ⟨1,n,⟨#[]⟩,⟨#[]⟩,id0,.slice A 0 c⟩) 28)):=bA;have hr:rowAt (w.alloc (.cells (opPC ⟨1,n,⟨#[]⟩,⟨#[]⟩,id0,.slice A 0 c⟩) 28)) w.heap.size 0 37=some (opPC ⟨1,n,⟨#[]⟩,⟨#[]⟩,id0,.slice A 0 c⟩):=by simp[go_sem]
  have d:=op_of 1 _ (hp.below hB) oM;rw[show partN 1=1 from rfl]at d;have x0:=rowAt_cell hr (j:=0) oM;have x1:=rowAt_cell hr (j:=1) oM;have x2:=rowAt_cell hr (j:=2) oM;have x3:=rowAt_cell hr (j:=3) oM;have x4:=rowAt_sub hr (j:=4) (m:=32) oM;have x5:=rowAt_cell hr (j:=36) oM;simp only[opPC_g0,opPC_g1,opPC_g2,opPC_g3,opPC_g36,opPC_e4,Nat.zero_add]at x0 x1 x2 x3 x4 x5;clear hr hp;go_enter func103,ntmps103
  go_upto_region 1 with fail
  generalize w.alloc (.cells (opPC ⟨1,n,⟨#[]⟩,⟨#[]⟩,id0,.slice A 0 c⟩) 28)=W at *;(go_wp2_with fail);refine d.mono ?_;rintro e w1 ⟨rfl,rfl⟩;(go_wp2_with fail);go_ret;exact⟨rfl,hB⟩
 ·show Calls prog 103 #[.agg (opPC ⟨2,0,⟨#[]⟩,val,id0,.slice A 0 c⟩)] w _;have hB:Below w.heap.size w (w.alloc (.cells (opPC ⟨2,0,⟨#[]⟩,val,id0,.slice A 0 c⟩) 28)):=bA;have hr:rowAt (w.alloc (.cells (opPC ⟨2,0,⟨#[]⟩,val,id0,.slice A 0 c⟩) 28)) w.heap.size 0 37=some (opPC ⟨2,0,⟨#[]⟩,val,id0,.slice A 0 c⟩):=by simp[go_sem]
  have d:=op_of 2 _ (hp.below hB) oM;rw[show partN 2=4 from rfl]at d;have x0:=rowAt_cell hr (j:=0) oM;have x1:=rowAt_cell hr (j:=1) oM;have x2:=rowAt_cell hr (j:=2) oM;have x3:=rowAt_cell hr (j:=3) oM;have x4:=rowAt_sub hr (j:=4) (m:=32) oM;have x5:=rowAt_cell hr (j:=36) oM;simp only[opPC_g0,opPC_g1,opPC_g2,opPC_g3,opPC_g36,opPC_e4,Nat.zero_add]at x0 x1 x2 x3 x4 x5;clear hr hp;go_enter func103,ntmps103
  go_upto_region 1 with fail
  generalize w.alloc (.cells (opPC ⟨2,0,⟨#[]⟩,val,id0,.slice A 0 c⟩) 28)=W at *;(go_wp2_with fail);refine d.mono ?_;rintro e w1 ⟨rfl,rfl⟩;(go_wp2_with fail);go_ret;exact⟨rfl,hB⟩
 ·show Calls prog 103 #[.agg (opPC ⟨3,0,⟨#[]⟩,val,id0,.slice A refs.length c⟩)] w _;have hB:Below w.heap.size w (w.alloc (.cells (opPC ⟨3,0,⟨#[]⟩,val,id0,.slice A refs.length c⟩) 28)):=bA;have hr:rowAt (w.alloc (.cells (opPC ⟨3,0,⟨#[]⟩,val,id0,.slice A refs.length c⟩) 28)) w.heap.size 0 37=some (opPC ⟨3,0,⟨#[]⟩,val,id0,.slice A refs.length c⟩):=by simp[go_sem]
  have d:=op_of 3 _ (hp.below hB) oM;rw[show partN 3=20 from rfl]at d;have x0:=rowAt_cell hr (j:=0) oM;have x1:=rowAt_cell hr (j:=1) oM;have x2:=rowAt_cell hr (j:=2) oM;have x3:=rowAt_cell hr (j:=3) oM;have x4:=rowAt_sub hr (j:=4) (m:=32) oM;have x5:=rowAt_cell hr (j:=36) oM;simp only[opPC_g0,opPC_g1,opPC_g2,opPC_g3,opPC_g36,opPC_e4,Nat.zero_add]at x0 x1 x2 x3 x4 x5;clear hr hp;go_enter func103,ntmps103
  go_upto_region 1 with fail
  generalize w.alloc (.cells (opPC ⟨3,0,⟨#[]⟩,val,id0,.slice A refs.length c⟩) 28)=W at *;(go_wp2_with fail);refine d.mono ?_;rintro e w1 ⟨rfl,rfl⟩;(go_wp2_with fail);go_ret;exact⟨rfl,hB⟩
 ·show Calls prog 103 #[.agg (opPC ⟨4,n,key,val,id0,.slice A 0 c⟩)] w _;have hB:Below w.heap.size w (w.alloc (.cells (opPC ⟨4,n,key,val,id0,.slice A 0 c⟩) 28)):=bA;have hr:rowAt (w.alloc (.cells (opPC ⟨4,n,key,val,id0,.slice A 0 c⟩) 28)) w.heap.size 0 37=some (opPC ⟨4,n,key,val,id0,.slice A 0 c⟩):=by simp[go_sem]
  have d:=op_of 4 _ (hp.below hB) oM;rw[show partN 4=7 from rfl]at d;have x0:=rowAt_cell hr (j:=0) oM;have x1:=rowAt_cell hr (j:=1) oM;have x2:=rowAt_cell hr (j:=2) oM;have x3:=rowAt_cell hr (j:=3) oM;have x4:=rowAt_sub hr (j:=4) (m:=32) oM;have x5:=rowAt_cell hr (j:=36) oM;simp only[opPC_g0,opPC_g1,opPC_g2,opPC_g3,opPC_g36,opPC_e4,Nat.zero_add]at x0 x1 x2 x3 x4 x5;clear hr hp;go_enter func103,ntmps103
  go_upto_region 1 with fail
  generalize w.alloc (.cells (opPC ⟨4,n,key,val,id0,.slice A 0 c⟩) 28)=W at *;(go_wp2_with fail);refine d.mono ?_;rintro e w1 ⟨rfl,rfl⟩;(go_wp2_with fail);go_ret;exact⟨rfl,hB⟩
 ·show Calls prog 103 #[.agg (opPC ⟨5,0,key,val,id0,.slice A refs.length c⟩)] w _;have hB:Below w.heap.size w (w.alloc (.cells (opPC ⟨5,0,key,val,id0,.slice A refs.length c⟩) 28)):=bA;have hr:rowAt (w.alloc (.cells (opPC ⟨5,0,key,val,id0,.slice A refs.length c⟩) 28)) w.heap.size 0 37=some (opPC ⟨5,0,key,val,id0,.slice A refs.length c⟩):=by simp[go_sem]
  have d:=op_of 5 _ (hp.below hB) oM;rw[show partN 5=22 from rfl]at d;have x0:=rowAt_cell hr (j:=0) oM;have x1:=rowAt_cell hr (j:=1) oM;have x2:=rowAt_cell hr (j:=2) oM;have x3:=rowAt_cell hr (j:=3) oM;have x4:=rowAt_sub hr (j:=4) (m:=32) oM;have x5:=rowAt_cell hr (j:=36) oM;simp only[opPC_g0,opPC_g1,opPC_g2,opPC_g3,opPC_g36,opPC_e4,Nat.zero_add]at x0 x1 x2 x3 x4 x5;clear hr hp;go_enter func103,ntmps103
  go_upto_region 1 with fail
  generalize w.alloc (.cells (opPC ⟨5,0,key,val,id0,.slice A refs.length c⟩) 28)=W at *;(go_wp2_with fail);refine d.mono ?_;rintro e w1 ⟨rfl,rfl⟩;(go_wp2_with fail);go_ret;exact⟨rfl,hB⟩
 ·show Calls prog 103 #[.agg (opPC ⟨6,0,⟨#[]⟩,val,ref,.slice A 0 c⟩)] w _;have hB:Below w.heap.size w (w.alloc (.cells (opPC ⟨6,0,⟨#[]⟩,val,ref,.slice A 0 c⟩) 28)):=bA;have hr:rowAt (w.alloc (.cells (opPC ⟨6,0,⟨#[]⟩,val,ref,.slice A 0 c⟩) 28)) w.heap.size 0 37=some (opPC ⟨6,0,⟨#[]⟩,val,ref,.slice A 0 c⟩):=by simp[go_sem]
  have d:=op_of 6 _ (hp.below hB) oM;rw[show partN 6=12 from rfl]at d;have x0:=rowAt_cell hr (j:=0) oM;have x1:=rowAt_cell hr (j:=1) oM;have x2:=rowAt_cell hr (j:=2) oM;have x3:=rowAt_cell hr (j:=3) oM;have x4:=rowAt_sub hr (j:=4) (m:=32) oM;have x5:=rowAt_cell hr (j:=36) oM;simp only[opPC_g0,opPC_g1,opPC_g2,opPC_g3,opPC_g36,opPC_e4,Nat.zero_add]at x0 x1 x2 x3 x4 x5;clear hr hp;go_enter func103,ntmps103
  go_upto_region 1 with fail
  generalize w.alloc (.cells (opPC ⟨6,0,⟨#[]⟩,val,ref,.slice A 0 c⟩) 28)=W at *;(go_wp2_with fail);refine d.mono ?_;rintro e w1 ⟨rfl,rfl⟩;(go_wp2_with fail);go_ret;exact⟨rfl,hB⟩
 ·show Calls prog 103 #[.agg (opPC ⟨7,0,⟨#[]⟩,⟨#[]⟩,ref,.slice A 0 c⟩)] w _;have hB:Below w.heap.size w (w.alloc (.cells (opPC ⟨7,0,⟨#[]⟩,⟨#[]⟩,ref,.slice A 0 c⟩) 28)):=bA;have hr:rowAt (w.alloc (.cells (opPC ⟨7,0,⟨#[]⟩,⟨#[]⟩,ref,.slice A 0 c⟩) 28)) w.heap.size 0 37=some (opPC ⟨7,0,⟨#[]⟩,⟨#[]⟩,ref,.slice A 0 c⟩):=by simp[go_sem]
  have d:=op_of 7 _ (hp.below hB) oM;rw[show partN 7=8 from rfl]at d;have x0:=rowAt_cell hr (j:=0) oM;have x1:=rowAt_cell hr (j:=1) oM;have x2:=rowAt_cell hr (j:=2) oM;have x3:=rowAt_cell hr (j:=3) oM;have x4:=rowAt_sub hr (j:=4) (m:=32) oM;have x5:=rowAt_cell hr (j:=36) oM;simp only[opPC_g0,opPC_g1,opPC_g2,opPC_g3,opPC_g36,opPC_e4,Nat.zero_add]at x0 x1 x2 x3 x4 x5;clear hr hp;go_enter func103,ntmps103
  go_upto_region 1 with fail
  generalize w.alloc (.cells (opPC ⟨7,0,⟨#[]⟩,⟨#[]⟩,ref,.slice A 0 c⟩) 28)=W at *;(go_wp2_with fail);refine d.mono ?_;rintro e w1 ⟨rfl,rfl⟩;(go_wp2_with fail);go_ret;exact⟨rfl,hB⟩
def numO(o:OpV):Bool:=!(decide (o.k=4)&&decide (o.n<0))&&(decide (o.n<2147483648)&&decide (-2147483648<=o.n))
theorem op_number(o:OpV)(A:Option Addr)(c:Nat)(w:World) :
  Calls prog 104 #[.agg (opC o A c)] w λe w'=>e=.returned (.bool (numO o))/\Below w.heap.size w w':=by
 have hB:Below w.heap.size w (w.alloc (.cells (opC o A c) 28)):=bA;have hr:rowAt (w.alloc (.cells (opC o A c) 28)) w.heap.size 0 37=some (opC o A c):=by unfold opC;simp[go_sem]
 have x0:=rowAt_cell hr (j:=0) oM;have x1:=rowAt_cell hr (j:=1) oM;unfold opC at x0 x1 hB hr |-;simp only[opPC_g0,opPC_g1,Nat.zero_add]at x0 x1;clear hr;have f:numO o=(!(decide (o.k=4)&&decide (o.n<0))&&(decide (o.n<2147483648)&&decide (-2147483648<=o.n))):=rfl;obtain⟨k,n,key,val,ref,refs⟩:=o;dsimp only at *;have d:=dH f;clear f;by_cases h4:k=4
 ·subst h4;by_cases hn:n<0
  ·go_enter func104,ntmps104
   go_upto_region 1 with fail
   generalize w.alloc (.cells (opPC ⟨((4:Nat):Int),n,key,val,ref,.slice A refs.length c⟩) 28)=W at *;(go_wp2_with fail);go_ret;exact⟨ret_bool (by rw[d.out];simp[hn]),hB⟩
  ·go_enter func104,ntmps104
   go_upto_region 1 with fail
   generalize w.alloc (.cells (opPC ⟨((4:Nat):Int),n,key,val,ref,.slice A refs.length c⟩) 28)=W at *;go_wp2_with fail
   all_goals
    go_ret;exact⟨ret_bool (by rw[d.out,Bool.eq_iff_iff];simp;omega),hB⟩
 ·have hk:((k:Int)==4)=false:=sO;go_enter func104,ntmps104
  go_upto_region 1 with fail
  generalize w.alloc (.cells (opPC ⟨(k:Int),n,key,val,ref,.slice A refs.length c⟩) 28)=W at *;go_wp2_with fail
  all_goals
   go_ret;exact⟨ret_bool (by rw[d.out,Bool.eq_iff_iff];simp;omega),hB⟩
end Go.Proofs.YtplpiicfkbpkaaaGreatDoor
