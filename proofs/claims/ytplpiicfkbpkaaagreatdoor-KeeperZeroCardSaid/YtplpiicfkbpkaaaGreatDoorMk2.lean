/- Part 2 of the texts that lead to this claim: the walks of the functions and the plain law, in order. -/
import Derived.Test.YtplpiicfkbpkaaaGreatDoorMk1
import Derived.IntWalk
import Derived.Lib.Bytealg
import Derived.Sort.LotA
import Derived.DeepKeys5
import Derived.StringKeys
import Derived.Maps.OwnOps
import Derived.Maps.Range
namespace Go.Proofs.YtplpiicfkbpkaaaGreatDoor
open Go.RowKit
open List hiding and get max min or set
open Go.Proofs.Tryz
open World
set_option maxRecDepth 100000
set_option maxHeartbeats 8000000
variable {w w':World}{g j:Nat}{c e:Int}{S:List Nat}{s:ByteArray}{β:Type}{E' T:TypeId}
structure Rd where
 s:ByteArray
 p:Int
 bad:Int
 made:Bool
def rdC(x:Rd):Array Value:=#[.string x.s] ++ #[.int .i64 x.p] ++ #[.int .i64 x.bad] ++ #[.bool x.made]
@[simp] theorem rdC_size(x:Rd):(rdC x).size=4:=by simp[rdC]
@[go_sem] theorem rdC_g0(x:Rd):(rdC x)[0]?=some (.string x.s):=by first | (simp[rdC,Array.getElem?_append];done) | (rw[show rdC x=((#[]:Array Value)) ++ #[.string x.s]++(#[.int .i64 x.p] ++ #[.int .i64 x.bad] ++ #[.bool x.made])from by apply Array.ext';simp[rdC]];exact arr_at _ _ _ _ sI)
@[go_sem] theorem rdC_gg0(x:Rd)(h:0<(rdC x).size):(rdC x)[0]'h=.string x.s:=Option.some.inj ((Array.getElem?_eq_getElem h).symm.trans (rdC_g0 x))
@[go_sem] theorem rdC_g1(x:Rd):(rdC x)[1]?=some (.int .i64 x.p):=by first | (simp[rdC,Array.getElem?_append];done) | (rw[show rdC x=(#[.string x.s]) ++ #[.int .i64 x.p]++(#[.int .i64 x.bad] ++ #[.bool x.made])from by apply Array.ext';simp[rdC]];exact arr_at _ _ _ _ sI)
@[go_sem] theorem rdC_gg1(x:Rd)(h:1<(rdC x).size):(rdC x)[1]'h=.int .i64 x.p:=Option.some.inj ((Array.getElem?_eq_getElem h).symm.trans (rdC_g1 x))
@[go_sem] theorem rdC_g2(x:Rd):(rdC x)[2]?=some (.int .i64 x.bad):=by first | (simp[rdC,Array.getElem?_append];done) | (rw[show rdC x=(#[.string x.s] ++ #[.int .i64 x.p]) ++ #[.int .i64 x.bad]++(#[.bool x.made])from by apply Array.ext';simp[rdC]];exact arr_at _ _ _ _ sI)
@[go_sem] theorem rdC_gg2(x:Rd)(h:2<(rdC x).size):(rdC x)[2]'h=.int .i64 x.bad:=Option.some.inj ((Array.getElem?_eq_getElem h).symm.trans (rdC_g2 x))
@[go_sem] theorem rdC_g3(x:Rd):(rdC x)[3]?=some (.bool x.made):=by first | (simp[rdC,Array.getElem?_append];done) | (rw[show rdC x=(#[.string x.s] ++ #[.int .i64 x.p] ++ #[.int .i64 x.bad]) ++ #[.bool x.made]++((#[]:Array Value))from by apply Array.ext';simp[rdC]];exact arr_at _ _ _ _ sI)
@[go_sem] theorem rdC_gg3(x:Rd)(h:3<(rdC x).size):(rdC x)[3]'h=.bool x.made:=Option.some.inj ((Array.getElem?_eq_getElem h).symm.trans (rdC_g3 x))
def rd0:Rd:=⟨⟨#[]⟩,0,0,false⟩
theorem Rd_ext{x y:Rd}(h:x.s=y.s/\x.p=y.p/\x.bad=y.bad/\x.made=y.made):x=y:=by cases x;cases y;simp_all
instance:DecidableEq Rd:=λx y=>if h:x.s=y.s/\x.p=y.p/\x.bad=y.bad/\x.made=y.made then isTrue (Rd_ext h)else isFalse (λe=>h (by subst e;simp))
@[go_sem ↓] theorem zeroRd_run(w:World):(zeroValue 244).run prog w=.ok (.agg (rdC rd0)) w:=by
 have h:(prog.info? 244).bind (·.zero)=some (.agg (rdC rd0)):=kR;cases hi:prog.info? 244 with
 | none=>rw[hi]at h;cases h
 | some i =>
  rw[hi]at h;have hz:i.zero=some (.agg (rdC rd0)):=h;simp[zeroValue,typeInfo,hi,hz]
@[go_sem ↓] theorem loadRd_rw(a:Addr):loadVar 244 a=ldS 244 a:=rfl
@[go_sem ↓] theorem storeRd_rw(a:Addr)(v:Value):storeVar 244 a v=stS 244 a v:=rfl
theorem fieldsRd:prog.underlying 244=some (.struct (prog.fieldsOf 244)):=kR
theorem placesRd(w:World):((prog.fieldsOf 244).mapM fun (f:Field)=>do pure (f.offset,<-sizeOf f.type)).run prog w=.ok #[(0,1),(1,1),(2,1),(3,1)] w:=kR
@[go_sem ↓] theorem buildRd_rw(parts:Array (Nat×Value)):Instr.build 244 parts=bdS 244 parts:=rfl
@[go_sem] theorem buildRd_0_3(a0:ByteArray)(a3:Bool)(w:World):(bdS 244 #[(0,.string a0),(3,.bool a3)]).run prog w=.ok (.agg (rdC ⟨a0,0,0,a3⟩)) w:=by
 refine run_build w fieldsRd _ (zeroRd_run w) _ (placesRd w) [(0,.string a0),(3,.bool a3)] _ ?_;rw[show rdC rd0=(#[]:Array Value) ++ #[.string ⟨#[]⟩]++(#[.int .i64 0]++(#[.int .i64 0]++(#[.bool false])))from by first | (simp[rdC,rd0,Array.append_assoc];done) | (apply Array.ext';simp[rdC,rd0])];rw[fill_step (off:=0) (size:=1) rfl sI sI (by simp[Value.cells])];rw[show(#[]:Array Value)++(Value.string a0).cells++(#[.int .i64 0]++(#[.int .i64 0]++(#[.bool false])))=(#[.string a0]++(#[.int .i64 0]++(#[.int .i64 0]))) ++ #[.bool false]++(#[]:Array Value)from by first | (simp[Value.cells,Array.append_assoc];done) | (apply Array.ext';simp[Value.cells];done) | (apply Array.ext';simp only[Array.toList_append];simp[Value.cells])];rw[fill_step (off:=3) (size:=1) rfl sI sI (by simp[Value.cells])];first | (simp[Instr.fill,rdC,Array.append_assoc,Value.cells];done) | (simp only[Instr.fill,rdC];congr 1;apply Array.ext';simp[Value.cells];done) | (simp only[Instr.fill,rdC];congr 1;done) | (simp only[Instr.fill,rdC];done)
def mkB(l:List UInt8):ByteArray:=⟨l.toArray⟩
def rawV(n:Nat)(l:List UInt8)(e:Int):List UInt8:=if e=0/\n<=l.length then l.take n else[]
def rawL(n:Nat)(l:List UInt8)(e:Int):List UInt8:=if e=0/\n<=l.length then l.drop n else l
def rawE(n:Nat)(l:List UInt8)(e:Int):Int:=if e=0 then(if n<=l.length then 0 else 2)else e
def beN(l:List UInt8):Nat:=l.foldl (λn c=>256*n+c.toNat) 0
def endE(l:List UInt8)(e:Int):Int:=if e=0 then(if l = []then 0 else 4)else e
theorem beN_snoc(l:List UInt8)(c:UInt8):beN (l ++ [c])=256*beN l+c.toNat:=by simp[beN]
theorem foldl_lt:∀(l:List UInt8) (a:Nat),l.foldl (λn c=>256*n+c.toNat) a<(a+1)*256 ^ l.length
 | [],a=>by simp
 | c :: l,a=>by
  have h:=foldl_lt l (256*a+c.toNat);have hc:=c.toNat_lt;simp only[foldl_cons,length_cons];refine Nat.lt_of_lt_of_le h ?_;rw[Nat.pow_succ,Nat.mul_comm (256 ^ l.length) 256,<-Nat.mul_assoc];refine Nat.mul_le_mul_right _ ?_;omega
theorem beN_lt(l:List UInt8):beN l<256 ^ l.length:=by have:=foldl_lt l 0;simpa[beN]using this
theorem rawV_length(n:Nat)(l:List UInt8)(e:Int):(rawV n l e).length<=n:=by unfold rawV;split <;> simp;omega
def RdAt(w:World)(g:Nat)(l:List UInt8)(e:Int):Prop :=
 ∃(s:ByteArray) (a:Nat),a<=s.size/\s.size<=9223372036854775807/\w.heap[g]?=some (.cells (rdC ⟨s,a,e,true⟩) 244 (0,0))/\l=s.data.toList.drop a
theorem RdAt.lt{l:List UInt8}(h:RdAt w g l e):g<w.heap.size:=by
 obtain⟨s,a,_,_,hg,_⟩:=h;exact(aG hg).1
theorem RdAt.kept{l:List UInt8}(h:RdAt w g l e)(k:Keep S w w')(hg:g∉S):RdAt w' g l e:=by
 have hl:=h.lt;obtain⟨s,a,h1,h2,h3,h4⟩:=h;exact⟨s,a,h1,h2,(k.block g hl hg).trans h3,h4⟩
theorem RdAt.below{l:List UInt8}(h:RdAt w g l e)(k:Below w.heap.size w w'):RdAt w' g l e:=h.kept (Keep.of_below k) sI
theorem rd_open(s:ByteArray)(w:World)(hs:s.size<=9223372036854775807):Calls prog 133 #[.string s] w λe w'=>e=.returned (.pointer (some ⟨w.heap.size,0,none⟩))/\RdAt w' w.heap.size s.data.toList 0/\Below w.heap.size w w':=by
 go_enter func133,ntmps133
 (go_wp2_with fail);go_ret;exact⟨rfl,⟨s,0,zL,hs,heap_alloc_new w _,sI⟩,bA⟩
theorem rd_cells{a:Nat}(h:w.heap[g]?=some (.cells (rdC ⟨s,a,e,true⟩) 244 (0,0))) :
  w.cell? ⟨g,0,none⟩=some (.string s)/\w.cell? ⟨g,1,none⟩=some (.int .i64 a)/\w.cell? ⟨g,2,none⟩=some (.int .i64 e)/\w.cell? ⟨g,3,none⟩=some (.bool true)/\(∀j,w.frozen? ⟨g,j,none⟩=false):=by
 refine⟨?_,?_,?_,?_,λj=>by simp[frozen?,h]⟩ <;> rw[cell_of_row w g _ _ _ _ h] <;> simp[go_sem]
theorem rd_none(w:World)(g:Nat)(h:w.cell? ⟨g,3,none⟩=some (.bool true)):Calls prog 205 #[.pointer (some ⟨g,0,none⟩)] w λe w'=>e=.returned (.bool false)/\w=w':=by
 go_enter func205,ntmps205
 (go_wp2_with fail);go_ret;exact⟨rfl,rfl⟩
theorem rd_stuck(w:World)(g:Nat)(e:Int)(h:w.cell? ⟨g,3,none⟩=some (.bool true))(h2:w.cell? ⟨g,2,none⟩=some (.int .i64 e)):Calls prog 204 #[.pointer (some ⟨g,0,none⟩)] w λen w'=>en=.returned (.bool (!(e==0)))/\w=w':=by
 go_enter func204,ntmps204
 (go_wp2_with fail);refine(rd_none _ _ h).mono ?_;rintro en w' ⟨rfl,rfl⟩;(go_wp2_with fail);go_ret;refine⟨ret_bool ?_,rfl⟩;first | rfl | simp
theorem rd_err(w:World)(g:Nat)(l:List UInt8)(e:Int)(h:RdAt w g l e):Calls prog 135 #[.pointer (some ⟨g,0,none⟩)] w λen w'=>en=.returned (.int .i64 e)/\w=w':=by
 obtain⟨s,a,_,_,hg,_⟩:=h;obtain⟨_,_,c2,c3,_⟩:=rd_cells hg;go_enter func135,ntmps135
 (go_wp2_with fail);refine(rd_none _ _ c3).mono ?_;rintro en w' ⟨rfl,rfl⟩;(go_wp2_with fail);go_ret;exact⟨rfl,rfl⟩
def RdStep(w:World)(g:Nat)(l:List UInt8)(e:Int)(w':World):Prop:=RdAt w' g l e/\Keep [g] w w'
theorem rd_raw(w:World)(g n:Nat)(l:List UInt8)(e:Int)(h:RdAt w g l e)(hn:n<=9223372036854775807) :
  Calls prog 136 #[.pointer (some ⟨g,0,none⟩),.int .i64 n] w λen w'=>en=.returned (.string (mkB (rawV n l e)))/\RdStep w g (rawL n l e) (rawE n l e) w':=by
 have h0:=h;obtain⟨s,a,ha,hs,hg,hl⟩:=h;obtain⟨c0,c1,c2,c3,hf⟩:=rd_cells hg;have f1:=hf 1;have f2:=hf 2;have m:l.length=s.size-a:=by rw[hl,length_drop];rfl
 clear hf;cases he:(e==0)with
 | false =>
  have j:e≠0:=by simpa using he
  have e1:rawV n l e = []:=by unfold rawV;rw[if_neg (λhh=>j hh.1)]
  have e2:rawL n l e=l:=by unfold rawL;rw[if_neg (λhh=>j hh.1)]
  have e3:rawE n l e=e:=by unfold rawE;rw[if_neg j]
  have E1:=dH e1;have E2:=dH e2;have E3:=dH e3;have H0:=dH h0;clear e1 e2 e3 hl m h0 j;go_enter func136,ntmps136
  (go_wp2_with fail);refine(rd_stuck _ _ e c3 c2).mono ?_;rintro en w' ⟨rfl,rfl⟩;(go_wp2_with fail);go_ret;exact⟨ret_str (by rw[E1.out];rfl),by rw[E2.out,E3.out];exact⟨H0.out,Keep.refl _ _⟩⟩
 | true =>
  obtain rfl:e=0:=by simpa using he
  clear he;by_cases d:n<=l.length
  ·have e1:rawV n l 0=l.take n:=by unfold rawV;rw[if_pos ⟨rfl,d⟩]
   have e2:rawL n l 0=l.drop n:=by unfold rawL;rw[if_pos ⟨rfl,d⟩]
   have e3:rawE n l 0=0:=by unfold rawE;rw[if_pos rfl,if_pos d]
   have E1:=dH e1;have E2:=dH e2;have E3:=dH e3;have r:¬(s.size:Int)-a<n:=oM;have D:a+n<=s.size:=oM;have Hl:=dH hl;have Hg:=dH hg;clear e1 e2 e3 hl m h0 d hg;have k:decide ((s.size:Int)-a<n)=false:=by simpa using r
   have w1:IntKind.i64.wrap ((s.size:Int)-a)=(s.size:Int)-a:=IntWalk.i64_in _ oM;have y:decide ((n:Int)<0)=false:=sI;clear r;go_enter func136,ntmps136
   (go_wp2_with fail);refine(rd_stuck _ _ 0 c3 c2).mono ?_;rintro en w' ⟨rfl,rfl⟩;go_upto_region 6 with fail
   refine lX w ?_;intro f hS;have b1:=sub_cell c0;have b2:=sub_cell c1;refine lZ ?_;refine wpLx_nil ?_;intro hS;clear f hS b1 b2 w1;go_upto_region 10 with fail
   have d0:(w.setCell ⟨g,1,none⟩ (.int .i64 ((a:Int)+n))).drew.cell? ⟨g,0,none⟩=some (.string s):=by go_simp
   have d1:(w.setCell ⟨g,1,none⟩ (.int .i64 ((a:Int)+n))).drew.cell? ⟨g,1,none⟩=some (.int .i64 ((a:Int)+n)):=by go_simp
   have B:(w.setCell ⟨g,1,none⟩ (.int .i64 ((a:Int)+n))).drew.heap[g]?=some (.cells (rdC ⟨s,(a+n:Nat),0,true⟩) 244 (0,0)):=by
    show(w.setCell ⟨g,1,none⟩ (.int .i64 ((a:Int)+n))).heap[g]?=_;rw[heap_setCell_same Hg.out];simp[rdC]
   have A:Keep [g] w (w.setCell ⟨g,1,none⟩ (.int .i64 ((a:Int)+n))).drew:=Keep.trans (Keep.setCell w ⟨g,1,none⟩ _) (Keep.drew _) sI;have w2:IntKind.i64.wrap ((a:Int)+n-n)=a:=by rw[(oM:(a:Int)+n-n=a)];exact IntWalk.i64_in _ oM
   have w3:IntKind.i64.wrap (a:Int)=a:=IntWalk.i64_in _ oM;have t:s.extract a (a+n)=mkB (l.take n):=by
    rw[Hl.out];apply ByteArray.ext;apply Array.toList_inj.mp;rw[ByteArray.data_extract,Array.toList_extract];simp[mkB,extract_eq_take_drop]
   have E:=dH t;clear t c0 c1 c2 c3 f1 f2;have k1:(0:Int)<=(a:Int)+n:=oM;have k2:(a:Int)+n<=s.size:=oM;have k3:(a:Int)<=(a:Int)+n:=oM;have k4:((a:Int)+n).toNat=a+n:=oM;generalize (w.setCell ⟨g,1,none⟩ (.int .i64 ((a:Int)+n))).drew=W at *;refine lX W ?_;intro f hS;have b1:=sub_cell d0;have b2:=sub_cell d1;refine lZ ?_;refine wpLx_nil ?_;intro hS;clear k1 k2 k3 k4 w2 w3;(go_wp2_with fail);go_ret;refine⟨ret_str (by rw[E1.out];exact E.out),?_⟩;rw[E2.out,E3.out];exact⟨⟨s,a+n,D,hs,B,by rw[Hl.out,drop_drop]⟩,Keep.trans A (Keep.drew _) sI⟩
  ·have e1:rawV n l 0 = []:=by unfold rawV;rw[if_neg (λhh=>d hh.2)]
   have e2:rawL n l 0=l:=by unfold rawL;rw[if_neg (λhh=>d hh.2)]
   have e3:rawE n l 0=2:=by unfold rawE;rw[if_pos rfl,if_neg d]
   have E1:=dH e1;have E2:=dH e2;have E3:=dH e3;have k:decide ((s.size:Int)-a<n)=true:=sO;have Hl:=dH hl;have Hg:=dH hg;clear e1 e2 e3 hl m h0 d hg;have w1:IntKind.i64.wrap ((s.size:Int)-a)=(s.size:Int)-a:=IntWalk.i64_in _ oM;have y:decide ((n:Int)<0)=false:=sI;go_enter func136,ntmps136
   (go_wp2_with fail);refine(rd_stuck _ _ 0 c3 c2).mono ?_;rintro en w' ⟨rfl,rfl⟩;go_upto_region 6 with fail
   refine lX w ?_;intro f hS;have b1:=sub_cell c0;have b2:=sub_cell c1;refine lZ ?_;refine wpLx_nil ?_;intro hS;clear f hS b1 b2 w1;(go_wp2_with fail);go_ret;refine⟨ret_str (by rw[E1.out];rfl),?_⟩;rw[E2.out,E3.out];refine⟨⟨s,a,ha,hs,?_,Hl.out⟩,Keep.trans (Keep.setCell w ⟨g,2,none⟩ _) (Keep.drew _) sI⟩;show(w.setCell ⟨g,2,none⟩ _).heap[g]?=_;rw[heap_setCell_same Hg.out];simp[rdC]
theorem rd_end(w:World)(g:Nat)(l:List UInt8)(e:Int)(h:RdAt w g l e):Calls prog 154 #[.pointer (some ⟨g,0,none⟩)] w λen w'=>en=.returned (.int .i64 (endE l e))/\Below w.heap.size w w':=by
 have h0:=h;obtain⟨s,a,ha,hs,hg,hl⟩:=h;obtain⟨c0,c1,c2,c3,_⟩:=rd_cells hg;have d:l.length=s.size-a:=by rw[hl,length_drop];rfl
 cases he:(e==0)with
 | false =>
  have j:e≠0:=by simpa using he
  have e1:endE l e=e:=by unfold endE;rw[if_neg j]
  have E1:=dH e1;have r:(e != 0)=true:=by simpa using j
  clear e1 hl d j;go_enter func154,ntmps154
  (go_wp2_with fail);refine(rd_err _ _ _ _ h0).mono ?_;rintro en w' ⟨rfl,rfl⟩;go_upto_region 2 with fail
  refine lX w ?_;intro k hS;refine lZ ?_;refine wpLx_nil ?_;intro hS;(go_wp2_with fail);go_ret;exact⟨ret_int (by rw[E1.out]),(Below.refl _ _).drew⟩
 | true =>
  obtain rfl:e=0:=by simpa using he
  clear he;by_cases hz:a=s.size
  ·have f:l = []:=eq_nil_of_length_eq_zero oM;have e1:endE l 0=0:=by unfold endE;rw[if_pos rfl,if_pos f]
   have E1:=dH e1;have m:((a:Int)==(s.size:Int))=true:=by rw[beq_iff_eq,hz]
   clear e1 hl d f hz;go_enter func154,ntmps154
   (go_wp2_with fail);refine(rd_err _ _ _ _ h0).mono ?_;rintro en w' ⟨rfl,rfl⟩;go_upto_region 2 with fail
   refine lX w ?_;intro k hS;have b1:=sub_cell c0;have b2:=sub_cell c1;refine lZ ?_;refine wpLx_nil ?_;intro hS;(go_wp2_with fail);go_ret;exact⟨ret_int (by rw[E1.out]),(Below.refl _ _).drew⟩
  ·have f:l≠[]:=by intro hh;rw[hh]at d;simp at d;omega
   have e1:endE l 0=4:=by unfold endE;rw[if_pos rfl,if_neg f]
   have E1:=dH e1;have m:((a:Int)==(s.size:Int))=false:=by rw[beq_eq_false_iff_ne];omega
   clear e1 hl d f hz;go_enter func154,ntmps154
   (go_wp2_with fail);refine(rd_err _ _ _ _ h0).mono ?_;rintro en w' ⟨rfl,rfl⟩;go_upto_region 2 with fail
   refine lX w ?_;intro k hS;have b1:=sub_cell c0;have b2:=sub_cell c1;refine lZ ?_;refine wpLx_nil ?_;intro hS;(go_wp2_with fail);go_ret;exact⟨ret_int (by rw[E1.out]),(Below.refl _ _).drew⟩
theorem bytesWorld_below(w:World)(e:TypeId)(s:ByteArray):Below w.heap.size w (Lib.bytesWorld w e s) :=
 ⟨rfl,rfl,rfl,by rw[Lib.bytesWorld_size];omega,λk hk=>Lib.bytesWorld_at_old w e s k hk⟩
theorem mkB_size(l:List UInt8):(mkB l).size=l.length:=by show l.toArray.size=_;simp
theorem bits_or8(b x:Nat)(hb:b<16777216)(hx:x<256):bits BinOp.or IntKind.i64 ((b:Int)*256) (x:Int)=((256*b+x:Nat):Int):=by
 have h1:(BitVec.ofInt 64 ((b:Int)*256)).toNat=256*b:=by
  rw[BitVec.toNat_ofInt];have:((b:Int)*256) % ((2 ^ 64:Nat):Int)=((256*b:Nat):Int):=oM;rw[this];exact Int.toNat_natCast _
 have h2:(BitVec.ofInt 64 (x:Int)).toNat=x:=by
  rw[BitVec.toNat_ofInt];have:(x:Int) % ((2 ^ 64:Nat):Int)=(x:Int):=oM;rw[this];simp
 have h3:(BitVec.ofInt 64 ((b:Int)*256) ||| BitVec.ofInt 64 (x:Int)).toNat=256*b+x:=by
  rw[BitVec.toNat_or,h1,h2];have:=Nat.two_pow_add_eq_or_of_lt (i:=8) (b:=x) oM b;rw[show(2:Nat) ^ 8=256 from rfl]at this;exact this.symm
 show IntKind.i64.wrap (((BitVec.ofInt 64 ((b:Int)*256) ||| BitVec.ofInt 64 (x:Int)).toNat:Nat):Int)=_;rw[h3];exact IntWalk.i64_in _ oM
def numV(M:Nat)(l:List UInt8)(e:Int):Nat:=beN (rawV M l e)
theorem rd_num(w:World)(g M:Nat)(l:List UInt8)(e:Int)(h:RdAt w g l e)(hM:M=1\/M=2\/M=4) :
  Calls prog 134 #[.pointer (some ⟨g,0,none⟩),.int .i64 M] w λen w'=>en=.returned (.int .i64 (numV M l e))/\RdStep w g (rawL M l e) (rawE M l e) w':=by
 have h0:=h;obtain⟨s,a,ha,hs,hg,hl⟩:=h;obtain⟨_,_,c2,c3,_⟩:=rd_cells hg;have Hh:=dH h0;clear hl hg ha hs h0;cases he:(e==0)with
 | false =>
  have m:e≠0:=by simpa using he
  have e1:numV M l e=0:=by unfold numV rawV;rw[if_neg (λhh=>m hh.1)];rfl
  have e2:rawL M l e=l:=by unfold rawL;rw[if_neg (λhh=>m hh.1)]
  have e3:rawE M l e=e:=by unfold rawE;rw[if_neg m]
  have E1:=dH e1;have E2:=dH e2;have E3:=dH e3;clear e1 e2 e3 m;go_enter func134,ntmps134
  (go_wp2_with fail);refine(rd_stuck _ _ e c3 c2).mono ?_;rintro en w' ⟨rfl,rfl⟩;(go_wp2_with fail);go_ret;exact⟨ret_int (by rw[E1.out];rfl),by rw[E2.out,E3.out];exact⟨Hh.out,Keep.refl _ _⟩⟩
 | true =>
  obtain rfl:e=0:=by simpa using he
  clear he;have X:M<=4:=oM;have V:((8*(M:Int))==0)=false:=by rw[beq_eq_false_iff_ne];omega
  have H:(M:Int)=1\/(M:Int)=2\/(M:Int)=4:=oM;have R:=dH H;obtain⟨v,hv⟩:=eX (rawV M l 0)
  have T:v.length<=4:=by have:=rawV_length M l 0;rw[hv]at this;omega
  have I:Hid (numV M l 0=beN v):=by show _=_;unfold numV;rw[hv]
  have Hv:=dH hv;clear hM H hv;go_enter func134,ntmps134
  (go_wp2_with fail);refine(rd_stuck _ _ 0 c3 c2).mono ?_;rintro en w' ⟨rfl,rfl⟩;(go_wp2_with fail);refine(obits M _ R.out).mono ?_;rintro e w' ⟨rfl,rfl⟩;clear c2 c3;(go_wp2_with fail);refine(rd_raw _ g M l 0 Hh.out oM).mono ?_;rintro e w1 ⟨rfl,t⟩;rw[Hv.out];have F:=Lib.run_convert_string_bytes (P:=prog) w1 9 103 5 (mkB v) underlying9 underlying103 underlying5;have r:=bytesWorld_below w1 5 (mkB v);have d:Hid (∀j (hj:j<v.length),(Lib.bytesWorld w1 5 (mkB v)).cell? ⟨w1.heap.size,j,none⟩=some (.int .u8 (v[j]).toNat)):=λj hj=>by
   have:=Lib.bytesWorld_cell w1 5 (mkB v) j (by rw[mkB_size];exact hj);rw[this];simp[mkB,getD,hj]
  rw[mkB_size]at F;obtain⟨W,hW⟩:=eX (Lib.bytesWorld w1 5 (mkB v))
  rw[hW]at F r d;have f:RdStep w g (rawL M l 0) (rawE M l 0) W:=⟨t.1.below r,Keep.trans t.2 (Keep.of_below r) sI⟩
  have N:=dH f;clear hW r t f;go_wp2_with fail
  go_loop [5,21] (λn i=>∃k:Nat,k<=v.length/\i=.int .i64 k/\n=.int .i64 (beN (v.take k))) (λ_ i=>v.length-(intOf i).toNat)
  case atStart=>exact⟨0,zL,rfl,rfl⟩
  case round =>
   obtain⟨k,hk,rfl,rfl⟩:=hrel;by_cases D:k<v.length
   ·have hc:=d.out k D;have B:v.take (k+1)=v.take k ++ [v[k]]:=by rw[take_add_one,getElem?_eq_getElem D];rfl
    have y:=beN_snoc (v.take k) v[k];rw[<-B]at y;have G:=beN_lt (v.take k);have E:(v.take k).length<=3:=sO;have A:beN (v.take k)<16777216:=Nat.lt_of_lt_of_le G (by have:=Nat.pow_le_pow_right (oM:0<256) E;simpa using this);have L:=(v[k]).toNat_lt;have O:=dH y;clear B y G E;obtain⟨x,hx⟩:=eX ((v[k]).toNat)
    obtain⟨b,hb⟩:=eX (beN (v.take k))
    rw[hx]at hc L;rw[hb]at A |-;go_wp2_with fail
    go_round
    case rel=>exact⟨k+1,oM,by go_num,by rw[bits_or8 b x oM oM,O.out,hb,hx]⟩
    case measure=>exact sZ
   ·have J:k=v.length:=oM;have e2:v.take k=v:=take_of_length_le oM;rw[e2];clear e2 J;(go_wp2_with fail);go_ret;exact⟨ret_int (by rw[I.out]),N.out⟩
structure Rr where
 s:ByteArray
 e:Int
theorem Rr_ext{x y:Rr}(h:x.s=y.s/\x.e=y.e):x=y:=by cases x;cases y;simp_all
instance:DecidableEq Rr:=λx y=>if h:x.s=y.s/\x.e=y.e then isTrue (Rr_ext h)else isFalse (λe=>h (by subst e;simp))
def idOf(v:List UInt8):Id32:=if h:v.length=32 then⟨v,h⟩ else id0
theorem rawV_32(l:List UInt8)(e:Int):(rawV 32 l e).length=32\/rawV 32 l e = []:=by
 unfold rawV;split
 ·left;rename_i h;rw[length_take];omega
 ·exact .inr rfl
theorem run_stS_at{P:Program}{t:TypeId}{k:Nat}(hi:(P.info? t).map (·.size)=some k)(w:World)(g:Nat)(z cs:Array Value)(e:TypeId)(h:w.heap[g]?=some (.cells z e (0,0)))(hz:z.size=k)(hc:cs.size=k)(h1:∀u∈cs.toList,u.oneCell'=true) :
  (stS t ⟨g,0,none⟩ (.agg cs)).run P w=.ok () (w.setRow g cs):=by
 unfold stS storeVar;cases hinfo:P.info? t with
 | none=>rw[hinfo]at hi;cases hi
 | some i =>
  rw[hinfo]at hi;have hk:i.size=k:=by simpa using hi
  have d:=run_storeCells_at P g 0 e cs.toList 0 z w h sO h1;have hE:(z.toList.take (0+0)++cs.toList++z.toList.drop (0+0+cs.toList.length)).toArray=cs:=by
   rw[drop_of_length_le sO]
   simp
  rw[hE]at d;simp[Value.cells,sizeOf,typeInfo,hinfo,hk,hc];exact d
def txV(l:List UInt8)(e:Int):ByteArray:=mkB (rawV (numV 1 l e) (rawL 1 l e) (rawE 1 l e))
def txL(l:List UInt8)(e:Int):List UInt8:=rawL (numV 1 l e) (rawL 1 l e) (rawE 1 l e)
def txE(l:List UInt8)(e:Int):Int:=rawE (numV 1 l e) (rawL 1 l e) (rawE 1 l e)
theorem numV_lt(M:Nat)(l:List UInt8)(e:Int):numV M l e<256 ^ M:=by
 unfold numV;exact Nat.lt_of_lt_of_le (beN_lt _) (Nat.pow_le_pow_right oM (rawV_length M l e))
theorem txV_size(l:List UInt8)(e:Int):(txV l e).size<=255:=by
 unfold txV;rw[mkB_size];have:=rawV_length (numV 1 l e) (rawL 1 l e) (rawE 1 l e);have:=numV_lt 1 l e;omega
theorem beN_cons(c:UInt8):∀(l:List UInt8),beN (c :: l)=c.toNat*256 ^ l.length+beN l:=by
 intro l;have f:∀(l:List UInt8) (a:Nat),l.foldl (λn c=>256*n+c.toNat) a=a*256 ^ l.length+beN l:=by
  intro l;induction l with
  | nil=>intro a;simp[beN]
  | cons d l ih =>
   intro a;have e:beN (d :: l)=l.foldl (λn c=>256*n+c.toNat) (256*0+d.toNat):=rfl;rw[e,foldl_cons,ih,ih];simp only[length_cons,Nat.pow_succ];rw[Nat.mul_zero,Nat.zero_add,Nat.add_mul];have:256*a*256 ^ l.length=a*(256 ^ l.length*256):=by
    rw[Nat.mul_comm 256 a,Nat.mul_assoc,Nat.mul_comm 256]
   omega
 have e:beN (c :: l)=l.foldl (λn c=>256*n+c.toNat) (256*0+c.toNat):=rfl;rw[e,f];simp
theorem beL_mod:∀(m n k:Nat),beL m (n+k*256 ^ m)=beL m n
 | 0,_,_=>rfl
 | m+1,n,k=>by
  have h1:n+k*256 ^ (m+1)=n+(k*256)*256 ^ m:=by rw[Nat.pow_succ,Nat.mul_comm (256 ^ m),<-Nat.mul_assoc]
  unfold beL;rw[h1,Nat.add_mul_div_right _ _ (Nat.pow_pos oM)];congr 1
  ·apply UInt8.toNat_inj.1
   simp
  ·exact beL_mod m n (k*256)
theorem beL_beN:∀(v:List UInt8),beL v.length (beN v)=v
 | []=>rfl
 | c :: v=>by
  rw[beN_cons];show UInt8.ofNat ((c.toNat*256 ^ v.length+beN v) / 256 ^ v.length) :: beL v.length (c.toNat*256 ^ v.length+beN v)=_;rw[Nat.add_comm,beL_mod,beL_beN v,Nat.add_mul_div_right _ _ (Nat.pow_pos oM),Nat.div_eq_of_lt (beN_lt v)];congr 1
  apply UInt8.toNat_inj.1
  simp
theorem beN_beL:∀(m n:Nat),n<256 ^ m->beN (beL m n)=n
 | 0,n,h=>by
  have:n=0:=by simpa using h
  subst this;rfl
 | m+1,n,h=>by
  have hp:0<256 ^ m:=Nat.pow_pos oM;have hd:n / 256 ^ m<256:=by
   rw[Nat.div_lt_iff_lt_mul hp,Nat.mul_comm,<-Nat.pow_succ];exact h
  have hm:beL m n=beL m (n % 256 ^ m):=by
   have:=beL_mod m (n % 256 ^ m) (n / 256 ^ m);rw[Nat.mul_comm,Nat.mod_add_div]at this;exact this
  show beN (UInt8.ofNat (n / 256 ^ m) :: beL m n)=n;rw[beN_cons,beL_length,hm,beN_beL m _ (Nat.mod_lt _ hp)];have:(UInt8.ofNat (n / 256 ^ m)).toNat=n / 256 ^ m:=sO;rw[this,Nat.mul_comm,Nat.add_comm,Nat.mod_add_div]
theorem raw_split{n:Nat}{l:List UInt8}(h:rawE n l e=0):e=0/\rawV n l e++rawL n l e=l/\(rawV n l e).length=n:=by
 unfold rawE at h;split at h
 ·rename_i he
  split at h
  ·rename_i hn
   unfold rawV rawL;rw[if_pos ⟨he,hn⟩,if_pos ⟨he,hn⟩];exact⟨he,take_append_drop _ _,sO⟩
  ·cases h
 ·exact absurd h (by assumption)
theorem num_split{M:Nat}{l:List UInt8}(h:rawE M l e=0):e=0/\beL M (numV M l e)++rawL M l e=l:=by
 obtain⟨he,h1,h2⟩:=raw_split h;refine⟨he,?_⟩;have h3:=beL_beN (rawV M l e);rw[h2]at h3;unfold numV;rw[h3,h1]
theorem mkB_list(l:List UInt8):(mkB l).data.toList=l:=rfl
theorem tx_split{l:List UInt8}(h:txE l e=0):e=0/\beL 1 (txV l e).size++((txV l e).data.toList++txL l e)=l:=by
 obtain⟨h1,h2,h3⟩:=raw_split (show rawE _ _ _=0 from h);obtain⟨h4,h5⟩:=num_split h1;refine⟨h4,?_⟩;unfold txV txL;rw[mkB_size,mkB_list,h3,h2,h5]
theorem raw_put(v t:List UInt8):rawV v.length (v++t) 0=v/\rawL v.length (v++t) 0=t/\rawE v.length (v++t) 0=0:=by
 have hc:(0:Int)=0/\v.length<=(v++t).length:=⟨rfl,sI⟩
 refine⟨?_,?_,?_⟩
 ·unfold rawV;rw[if_pos hc];simp
 ·unfold rawL;rw[if_pos hc];simp
 ·unfold rawE;rw[if_pos rfl,if_pos hc.2]
theorem num_put{M n:Nat}(hn:n<256 ^ M)(t:List UInt8):numV M (beL M n++t) 0=n/\rawL M (beL M n++t) 0=t/\rawE M (beL M n++t) 0=0:=by
 have h:=raw_put (beL M n) t;rw[beL_length]at h;refine⟨?_,h.2.1,h.2.2⟩;unfold numV;rw[h.1,beN_beL M n hn]
theorem tx_put(hs:s.size<256)(t:List UInt8):txV (beL 1 s.size++(s.data.toList++t)) 0=s/\txL (beL 1 s.size++(s.data.toList++t)) 0=t/\txE (beL 1 s.size++(s.data.toList++t)) 0=0:=by
 obtain⟨h1,h2,h3⟩:=num_put (M:=1) (n:=s.size) oM (s.data.toList++t);have h:=raw_put s.data.toList t;have hl:s.data.toList.length=s.size:=Array.length_toList;rw[hl]at h;unfold txV txL txE;rw[h1,h2,h3];exact⟨by rw[h.1];rfl,h.2.1,h.2.2⟩
abbrev cmpB:=Lib.compareBytes
theorem cmpB_self:∀a:List UInt8,cmpB a a=0
 | []=>rfl
 | c :: a=>by
  show(if c<c then(-1:Int)else if c<c then 1 else cmpB a a)=0;rw[if_neg sI,if_neg sI];exact cmpB_self a
theorem cmpB_eq:∀a b:List UInt8,cmpB a b=0->a=b
 | [],[],_=>rfl
 | [],_ :: _,h=>by cases h
 | _ :: _,[],h=>by cases h
 | c :: a,d :: b,h=>by
  have h':(if c<d then(-1:Int)else if d<c then 1 else cmpB a b)=0:=h;by_cases h1:c<d
  ·rw[if_pos h1]at h';cases h'
  ·rw[if_neg h1]at h';by_cases h2:d<c
   ·rw[if_pos h2]at h';cases h'
   ·rw[if_neg h2]at h';have e:c=d:=by
     simp only[UInt8.lt_iff_toNat_lt]at h1 h2;exact UInt8.toNat_inj.1 oM
    rw[e,cmpB_eq a b h']
theorem cmpB_zero(a b:List UInt8):cmpB a b=0↔a=b:=⟨cmpB_eq a b,λh=>by rw[h];exact cmpB_self b⟩
theorem cmpB_anti:∀a b:List UInt8,cmpB b a = - cmpB a b
 | [],[]=>rfl
 | [],_ :: _=>rfl
 | _ :: _,[]=>rfl
 | c :: a,d :: b=>by
  show(if d<c then(-1:Int)else if c<d then 1 else cmpB b a) = -(if c<d then(-1:Int)else if d<c then 1 else cmpB a b);by_cases h1:c<d
  ·have h2:¬d<c:=by rw[UInt8.lt_iff_toNat_lt]at *;omega
   rw[if_neg h2,if_pos h1,if_pos h1];rfl
  ·by_cases h2:d<c
   ·rw[if_pos h2,if_neg h1,if_pos h2]
   ·rw[if_neg h2,if_neg h1,if_neg h1,if_neg h2];exact cmpB_anti a b
theorem cmpB_range:∀a b:List UInt8,cmpB a b = -1\/cmpB a b=0\/cmpB a b=1
 | [],[]=>.inr (.inl rfl)
 | [],_ :: _=>.inl rfl
 | _ :: _,[]=>.inr (.inr rfl)
 | c :: a,d :: b=>by
  show(if c<d then(-1:Int)else if d<c then 1 else cmpB a b) = -1\/(if c<d then(-1:Int)else if d<c then 1 else cmpB a b)=0\/(if c<d then(-1:Int)else if d<c then 1 else cmpB a b)=1;by_cases h1:c<d
  ·rw[if_pos h1];exact .inl rfl
  ·by_cases h2:d<c
   ·rw[if_neg h1,if_pos h2];exact .inr (.inr rfl)
   ·rw[if_neg h1,if_neg h2];exact cmpB_range a b
theorem cmpB_trans:∀a b c:List UInt8,cmpB a b<0->cmpB b c<0->cmpB a c<0
 | [],[],_,h,_=>by cases h
 | [],_ :: _,[],_,h=>by cases h
 | [],_ :: _,_ :: _,_,_=>by show(-1:Int)<0;omega
 | _ :: _,[],_,h,_=>by cases h
 | _ :: _,_ :: _,[],_,h=>by cases h
 | x :: a,y :: b,z :: c,h1,h2=>by
  have f:(if x<y then(-1:Int)else if y<x then 1 else cmpB a b)<0:=h1;have d:(if y<z then(-1:Int)else if z<y then 1 else cmpB b c)<0:=h2;show(if x<z then(-1:Int)else if z<x then 1 else cmpB a c)<0;simp only[UInt8.lt_iff_toNat_lt]at *;by_cases p1:x.toNat<y.toNat
  ·by_cases q1:y.toNat<z.toNat
   ·rw[if_pos oM];omega
   ·rw[if_neg q1]at d;by_cases q2:z.toNat<y.toNat
    ·rw[if_pos q2]at d;omega
    ·rw[if_pos oM];omega
  ·rw[if_neg p1]at f;by_cases p2:y.toNat<x.toNat
   ·rw[if_pos p2]at f;omega
   ·rw[if_neg p2]at f;by_cases q1:y.toNat<z.toNat
    ·rw[if_pos oM];omega
    ·rw[if_neg q1]at d;by_cases q2:z.toNat<y.toNat
     ·rw[if_pos q2]at d;omega
     ·rw[if_neg q2]at d;rw[if_neg oM,if_neg oM];exact cmpB_trans a b c f d
theorem bytesLess_cmp:∀a b:List UInt8,Op.bytesLess a b=decide (cmpB a b<0)
 | [],[]=>rfl
 | [],_ :: _=>rfl
 | _ :: _,[]=>rfl
 | c :: a,d :: b=>by
  show(decide (c<d)||(c==d&&Op.bytesLess a b))=decide ((if c<d then(-1:Int)else if d<c then 1 else cmpB a b)<0);by_cases h1:c<d
  ·simp[h1]
  ·by_cases h2:d<c
   ·have e:(c==d)=false:=by
     rw[beq_eq_false_iff_ne];rintro rfl;exact h1 h2
    simp[h1,h2,e]
   ·have e:c=d:=by
     simp only[UInt8.lt_iff_toNat_lt]at h1 h2;exact UInt8.toNat_inj.1 oM
    subst e;simp[bytesLess_cmp a b]
def cmpS(a b:ByteArray):Int:=cmpB a.toList b.toList
def cmpId(a b:Id32):Int:=cmpB a.l b.l
def cmpI(a b:Int):Int:=if a<b then -1 else if b<a then 1 else 0
def bltS(a b:ByteArray):Bool:=Op.bytesLess a.toList b.toList
theorem cmpS_zero(a b:ByteArray):cmpS a b=0↔a=b:=by unfold cmpS;rw[cmpB_zero,toList_inj]
theorem cmpS_self(a:ByteArray):cmpS a a=0:=cmpB_self _
theorem cmpS_anti(a b:ByteArray):cmpS b a = - cmpS a b:=cmpB_anti _ _
theorem cmpS_trans(a b c:ByteArray):cmpS a b<0->cmpS b c<0->cmpS a c<0:=cmpB_trans _ _ _
theorem cmpS_range(a b:ByteArray):cmpS a b = -1\/cmpS a b=0\/cmpS a b=1:=cmpB_range _ _
theorem cmpId_zero(a b:Id32):cmpId a b=0↔a=b:=by
 unfold cmpId;rw[cmpB_zero];exact⟨Id32.ext',λh=>by rw[h]⟩
theorem cmpId_self(a:Id32):cmpId a a=0:=cmpB_self _
theorem cmpId_anti(a b:Id32):cmpId b a = - cmpId a b:=cmpB_anti _ _
theorem cmpId_trans(a b c:Id32):cmpId a b<0->cmpId b c<0->cmpId a c<0:=cmpB_trans _ _ _
theorem cmpId_range(a b:Id32):cmpId a b = -1\/cmpId a b=0\/cmpId a b=1:=cmpB_range _ _
theorem cmpI_range(a b:Int):cmpI a b = -1\/cmpI a b=0\/cmpI a b=1:=by
 unfold cmpI
 repeat' split
 all_goals simp
def orL:List Int->Int
 | []=>0
 | a :: l=>if a=0 then orL l else a
section
open Go.RowKit Go.Sort
structure TotC{α:Type}(c:α->α->Int):Prop where
 zero:∀a b,c a b=0↔a=b
 anti:∀a b,c b a = - c a b
 trans:∀a b d,c a b<0->c b d<0->c a d<0
theorem totS:TotC cmpS:=⟨cmpS_zero,cmpS_anti,cmpS_trans⟩
theorem totId:TotC cmpId:=⟨cmpId_zero,cmpId_anti,cmpId_trans⟩
section
variable {α:Type} {c:α->α->Int}
theorem TotC.irr(T:TotC c)(a:α):¬c a a<0:=by rw[(T.zero a a).2 rfl];omega
theorem TotC.self(T:TotC c)(a:α):c a a=0:=(T.zero a a).2 rfl
theorem TotC.asym(T:TotC c){a b:α}(h:c a b<0):¬c b a<0:=oH (T.anti a b)
theorem TotC.ne(T:TotC c){a b:α}(h:c a b<0):a≠b:=λe=>by subst e;exact T.irr a h
theorem TotC.flip(T:TotC c){a b:α}(h1:¬c a b<0)(h2:a≠b):c b a<0:=by
 have h3:c a b≠0:=λe=>h2 ((T.zero a b).1 e);have:=T.anti a b;omega
theorem TotC.le_trans(T:TotC c){a b d:α}(h1:¬c b a<0)(h2:c b d<0):c a d<0:=by
 by_cases e:a=b
 ·subst e;exact h2
 ·exact T.trans a b d (T.flip h1 (λe'=>e e'.symm)) h2
def orC(a b:Int):Int:=if a=0 then b else a
theorem TotC.pair{d:β->β->Int}(T:TotC c)(U:TotC d):TotC (λx y:α×β=>orC (c x.1 y.1) (d x.2 y.2)) where
 zero a b:=by
  unfold orC;constructor
  ·intro h;split at h
   ·rename_i h1;exact Prod.ext ((T.zero _ _).1 h1) ((U.zero _ _).1 h)
   ·contradiction
  ·intro h;subst h;rw[if_pos (T.self _)];exact U.self _
 anti a b:=by
  unfold orC;have h1:=T.anti a.1 b.1;have h2:=U.anti a.2 b.2;split <;> split <;> omega
 trans a b e:=by
  unfold orC;intro h1 h2;by_cases e1:c a.1 b.1=0
  ·rw[if_pos e1]at h1;have q:=(T.zero _ _).1 e1;rw[q];by_cases e2:c b.1 e.1=0
   ·rw[if_pos e2]at h2 |-;exact U.trans _ _ _ h1 h2
   ·rw[if_neg e2]at h2 |-;exact h2
  ·rw[if_neg e1]at h1;by_cases e2:c b.1 e.1=0
   ·have q:=(T.zero _ _).1 e2;rw[<-q,if_neg e1];exact h1
   ·rw[if_neg e2]at h2;have:=T.trans _ _ _ h1 h2;rw[if_neg oM];exact this
theorem TotC.of{d:β->β->Int}(T:TotC c)(f:β->α)(hf:∀x y,f x=f y->x=y)(hd:∀x y,d x y=c (f x) (f y)):TotC d where
 zero a b:=by rw[hd,T.zero];exact⟨hf a b,λh=>by rw[h]⟩
 anti a b:=by rw[hd,hd];exact T.anti _ _
 trans a b e:=by rw[hd,hd,hd];exact T.trans _ _ _
def Ris(c:α->α->Int)(l:List α):Prop:=l.Pairwise (λx y=>c x y<0)
theorem Ris.nil:Ris c []:=Pairwise.nil
theorem ris_cons{x:α}{l:List α}:Ris c (x :: l)↔(∀y∈l,c x y<0)/\Ris c l:=pairwise_cons
theorem Ris.filter{l:List α}(h:Ris c l)(p:α->Bool):Ris c (l.filter p):=Pairwise.sublist filter_sublist h
theorem Ris.sub{l m:List α}(h:Ris c l)(hs:m.Sublist l):Ris c m:=Pairwise.sublist hs h
theorem Ris.nodup(T:TotC c){l:List α}(h:Ris c l):l.Nodup:=Pairwise.imp (S:=λa b=>a≠b) (fun {a b} h=>T.ne h) h
def insC(c:α->α->Int):List α->α->List α
 | [],x=>[x]
 | y :: l,x=>if c y x<0 then y :: insC c l x else if c y x=0 then y :: l else x :: y :: l
def sortC(c:α->α->Int)(l:List α):List α:=l.foldl (insC c) []
theorem mem_insC(T:TotC c):∀ {l:List α} {x z:α},z∈insC c l x↔z=x\/z∈l
 | [],x,z=>by simp[insC]
 | y :: l,x,z=>by
  unfold insC;split
  ·rw[mem_cons,mem_insC T,mem_cons];constructor
   ·rintro(h | h | h)
    ·exact .inr (.inl h)
    ·exact .inl h
    ·exact .inr (.inr h)
   ·rintro(h | h | h)
    ·exact .inr (.inl h)
    ·exact .inl h
    ·exact .inr (.inr h)
  ·split
   ·rename_i h0
    have e:y=x:=(T.zero y x).1 h0;subst e;simp only[mem_cons];constructor
    ·rintro(h | h)
     ·exact .inl h
     ·exact .inr (.inr h)
    ·rintro(h | h | h)
     ·exact .inl h
     ·exact .inl h
     ·exact .inr h
   ·simp only[mem_cons]
theorem ris_insC(T:TotC c):∀ {l:List α} {x:α},Ris c l->Ris c (insC c l x)
 | [],x,_=>by simp[insC,Ris]
 | y :: l,x,h=>by
  obtain⟨h1,h2⟩:=ris_cons.1 h;unfold insC;split
  ·rename_i hlt
   refine ris_cons.2 ⟨λz hz=>?_,ris_insC T h2⟩;rcases (mem_insC T).1 hz with e | hz
   ·rw[e];exact hlt
   ·exact h1 z hz
  ·rename_i hlt
   split
   ·exact h
   ·rename_i h0
    have d:c x y<0:=oH (T.anti y x);refine ris_cons.2 ⟨λz hz=>?_,h⟩;rcases mem_cons.1 hz with e | hz
    ·rw[e];exact d
    ·exact T.trans _ _ _ d (h1 z hz)
theorem foldl_insC(T:TotC c):∀(l a:List α),Ris c a->Ris c (l.foldl (insC c) a)/\∀z,z∈l.foldl (insC c) a↔z∈a\/z∈l
 | [],a,h=>⟨h,λz=>sI⟩
 | x :: l,a,h=>by
  obtain⟨h1,h2⟩:=foldl_insC T l (insC c a x) (ris_insC T h);refine⟨h1,λz=>?_⟩;rw[foldl_cons,h2,mem_insC T,mem_cons];constructor
  ·rintro((h | h) | h)
   ·exact .inr (.inl h)
   ·exact .inl h
   ·exact .inr (.inr h)
  ·rintro(h | h | h)
   ·exact .inl (.inr h)
   ·exact .inl (.inl h)
   ·exact .inr h
theorem ris_sortC(T:TotC c)(l:List α):Ris c (sortC c l):=(foldl_insC T l [] Ris.nil).1
theorem mem_sortC(T:TotC c){l:List α}{z:α}:z∈sortC c l↔z∈l:=by
 have:=(foldl_insC T l [] Ris.nil).2 z;simpa[sortC]using this
theorem sortC_snoc(l:List α)(x:α):sortC c (l ++ [x])=insC c (sortC c l) x:=by simp[sortC]
theorem insC_length(l:List α)(x:α):(insC c l x).length<=l.length+1:=by
 induction l with
 | nil=>simp[insC]
 | cons y l ih =>
  unfold insC
  repeat' split
  all_goals simp;try omega
theorem sortC_length(l:List α):(sortC c l).length<=l.length:=by
 have h:∀(l a:List α),(l.foldl (insC c) a).length<=a.length+l.length:=by
  intro l;induction l with
  | nil=>intro a;simp
  | cons x l ih =>
   intro a;have h1:=ih (insC c a x);have h2:=insC_length (c:=c) a x;simp only[foldl_cons,length_cons];omega
 simpa[sortC]using h l []
theorem ris_ext(T:TotC c):∀ {l m:List α},Ris c l->Ris c m->(∀z,z∈l↔z∈m)->l=m
 | [],[],_,_,_=>rfl
 | [],y :: m,_,_,h=>absurd ((h y).2 sI) sI
 | x :: l,[],_,_,h=>absurd ((h x).1 sI) sI
 | x :: l,y :: m,hl,hm,h=>by
  obtain⟨h1,h2⟩:=ris_cons.1 hl;obtain⟨k1,k2⟩:=ris_cons.1 hm;have e:x=y:=by
   rcases mem_cons.1 ((h x).1 sI)with e | hx
   ·exact e
   ·rcases mem_cons.1 ((h y).2 sI)with e | hy
    ·exact e.symm
    ·exact absurd (k1 x hx) (T.asym (h1 y hy))
  subst e;congr 1
  refine ris_ext T h2 k2 λz=>?_;have hz:=h z;simp only[mem_cons]at hz;constructor
  ·intro f;rcases hz.1 (.inr f)with e | e
   ·subst e;exact absurd (h1 z f) (T.irr z)
   ·exact e
  ·intro d;rcases hz.2 (.inr d)with e | e
   ·subst e;exact absurd (k1 z d) (T.irr z)
   ·exact e
theorem insC_old(T:TotC c){l:List α}{x:α}(h:Ris c l)(hx:x∈l):insC c l x=l :=
 ris_ext T (ris_insC T h) h λz=>by rw[mem_insC T];exact⟨λh=>h.elim (λe=>by rw[e];exact hx) id,.inr⟩
theorem sortC_ris(T:TotC c){l:List α}(h:Ris c l):sortC c l=l:=ris_ext T (ris_sortC T l) h λ_=>mem_sortC T
theorem sortC_congr(T:TotC c){l m:List α}(h:∀z,z∈l↔z∈m):sortC c l=sortC c m:=ris_ext T (ris_sortC T l) (ris_sortC T m) λz=>by rw[mem_sortC T,mem_sortC T,h]
theorem insC_at:∀(l:List α) (x:α) (k:Nat),k<=l.length->(∀j (hj:j<l.length),j<k->c l[j] x<0)->(∀hk:k<l.length,0<c l[k] x)->insC c l x=l.take k++x :: l.drop k
 | [],x,k,hk,_,_=>by
  have:k=0:=by simpa using hk
  subst this;rfl
 | y :: l,x,0,_,_,h2=>by
  have h:=h2 sI;simp only[getElem_cons_zero]at h;unfold insC;rw[if_neg oM,if_neg oM];rfl
 | y :: l,x,k+1,hk,h1,h2=>by
  have h:=h1 0 sI oM;simp only[getElem_cons_zero]at h;unfold insC;rw[if_pos h,insC_at l x k (by simpa using hk) (λj hj f=>by have:=h1 (j+1) (by simpa using hj) oM;simpa using this) (λd=>by have:=h2 (by simpa using d);simpa using this)];rfl
theorem ris_get{l:List α}(h:Ris c l){i:Nat}(d:i<j)(hj:j<l.length):c (l[i]'oM) l[j]<0:=pairwise_iff_getElem.1 h i j oM hj d
theorem mergeSort_ris(T:TotC c){l m:List α}(h:Ris c l)(hp:m.Perm l):m.mergeSort (λx y=>!decide (c y x<0))=l:=by
 have f:∀a b:α,((!decide (c b a<0)) || !decide (c a b<0))=true:=λa b=>by
  by_cases h1:c b a<0
  ·have:=T.asym h1;simp[this]
  ·simp[h1]
 have g:∀a b d:α,(!decide (c b a<0))=true->(!decide (c d b<0))=true->(!decide (c d a<0))=true:=λa b d h1 h2=>by
  simp only[Bool.not_eq_true',decide_eq_false_iff_not]at h1 h2 |-;intro h3;exact h2 (T.le_trans (a:=d) (b:=a) (d:=b) (T.asym h3) (by
   by_cases e:a=b
   ·subst e;exact absurd h3 h2
   ·exact T.flip h1 (λe'=>e e'.symm)))
 refine Perm.eq_of_pairwise (le:=λx y=>(!decide (c y x<0))=true) ?_ (pairwise_mergeSort g f m) ?_ ((mergeSort_perm _ _).trans hp)
 ·intro a b _ _ h1 h2;simp only[Bool.not_eq_true',decide_eq_false_iff_not]at h1 h2;exact Classical.byContradiction λe=>h1 (T.flip h2 e)
 ·exact Pairwise.imp (λh=>by simpa using T.asym h) h
theorem swo_of(T:TotC c):SWO (λx y=>decide (c x y<0)) where
 irrefl x:=by simpa using T.irr x
 trans x y z h1 h2:=by simp only[decide_eq_true_eq]at *;exact T.trans _ _ _ h1 h2
 ntrans x y z h1 h2:=by
  simp only[decide_eq_false_iff_not]at *;intro h3;exact h2 (T.le_trans (a:=y) (b:=x) (d:=z) h1 h3)
end
end
structure OpV where
 k:Nat
 n:Int
 key:ByteArray
 val:ByteArray
 ref:Id32
 refs:List Id32
def opZero:OpV:=⟨0,0,⟨#[]⟩,⟨#[]⟩,id0,[]⟩
structure IdsR where
 ids:List Id32
 l:List UInt8
 e:Int
def idStep(s:IdsR):IdsR:=⟨s.ids ++ [idOf (rawV 32 s.l s.e)],rawL 32 s.l s.e,rawE 32 s.l s.e⟩
def idLoop:Nat->IdsR->IdsR
 | 0,s=>s
 | k+1,s=>idLoop k (idStep s)
theorem idLoop_len:∀(k:Nat) (s:IdsR),(idLoop k s).ids.length=s.ids.length+k
 | 0,s=>rfl
 | k+1,s=>by unfold idLoop;rw[idLoop_len k];simp[idStep];omega
def refsR(l:List UInt8)(e:Int):IdsR:=idLoop (numV 1 l e) ⟨[],rawL 1 l e,rawE 1 l e⟩
theorem refsR_len(l:List UInt8)(e:Int):(refsR l e).ids.length<=255:=by
 unfold refsR;rw[idLoop_len];have:=numV_lt 1 l e;simp only[length_nil];omega
structure OpR where
 o:OpV
 l:List UInt8
 e:Int
def takeO:Nat->List UInt8->Int->OpR
 | 1,l,e=>⟨⟨1,(numV 4 l e:Int)-2147483648,⟨#[]⟩,⟨#[]⟩,id0,[]⟩,rawL 4 l e,rawE 4 l e⟩
 | 2,l,e=>⟨⟨2,0,⟨#[]⟩,txV l e,id0,[]⟩,txL l e,txE l e⟩
 | 3,l,e=>⟨⟨3,0,⟨#[]⟩,txV l e,id0,(refsR (txL l e) (txE l e)).ids⟩,(refsR (txL l e) (txE l e)).l,(refsR (txL l e) (txE l e)).e⟩
 | 4,l,e=>⟨⟨4,(numV 4 (txL (txL l e) (txE l e)) (txE (txL l e) (txE l e)):Int),txV l e,txV (txL l e) (txE l e),id0,[]⟩,rawL 4 (txL (txL l e) (txE l e)) (txE (txL l e) (txE l e)),rawE 4 (txL (txL l e) (txE l e)) (txE (txL l e) (txE l e))⟩
 | 5,l,e=>⟨⟨5,0,txV l e,txV (txL l e) (txE l e),id0,(refsR (txL (txL l e) (txE l e)) (txE (txL l e) (txE l e))).ids⟩,(refsR (txL (txL l e) (txE l e)) (txE (txL l e) (txE l e))).l,(refsR (txL (txL l e) (txE l e)) (txE (txL l e) (txE l e))).e⟩
 | 6,l,e=>⟨⟨6,0,⟨#[]⟩,txV (rawL 32 l e) (rawE 32 l e),idOf (rawV 32 l e),[]⟩,txL (rawL 32 l e) (rawE 32 l e),txE (rawL 32 l e) (rawE 32 l e)⟩
 | 7,l,e=>⟨⟨7,0,⟨#[]⟩,⟨#[]⟩,idOf (rawV 32 l e),[]⟩,rawL 32 l e,rawE 32 l e⟩
 | _,l,e=>⟨opZero,l,e⟩
def risI:List Id32->Bool
 | []=>true
 | [_]=>true
 | x :: y :: l=>decide (cmpId x y<0)&&risI (y :: l)
def chkO(o:OpV):Int :=
 if 16<o.key.size\/16<o.val.size then 3
 else if 2147483648<=o.n then 5
 else if 8<o.refs.length then 6
 else if risI o.refs=false then 4 else 0
def opE(l:List UInt8):Int :=
 if rawE 1 l 0≠0 then rawE 1 l 0
 else if numV 1 l 0=0\/7<numV 1 l 0 then 10
 else if endE (takeO (numV 1 l 0) (rawL 1 l 0) 0).l (takeO (numV 1 l 0) (rawL 1 l 0) 0).e≠0 then endE (takeO (numV 1 l 0) (rawL 1 l 0) 0).l (takeO (numV 1 l 0) (rawL 1 l 0) 0).e
 else chkO (takeO (numV 1 l 0) (rawL 1 l 0) 0).o
def opO(l:List UInt8):OpV:=(takeO (numV 1 l 0) (rawL 1 l 0) 0).o
def belongs(k:Nat):Int:=if k=1 then 1 else if k=2\/k=3 then 2 else if k=4 then 3 else if k=5 then 4 else if k=6\/k=7 then 5 else 0
theorem risI_ok:∀(R:List Id32),risI R=true↔Ris cmpId R
 | []=>by simp[risI,Ris]
 | [x]=>by simp[risI,Ris]
 | x :: y :: R=>by
  have ih:=risI_ok (y :: R);unfold risI;rw[Bool.and_eq_true,ih,decide_eq_true_eq,ris_cons (x:=x)];constructor
  ·rintro⟨h1,h2⟩;refine⟨λz hz=>?_,h2⟩;rcases mem_cons.1 hz with e | hz
   ·rw[e];exact h1
   ·exact totId.trans _ _ _ h1 ((ris_cons.1 h2).1 z hz)
  ·rintro⟨h1,h2⟩;exact⟨h1 y sI,h2⟩
def smallC(c:Int):Bool:=(decide (97<=c)&&decide (c<=122))||(decide (48<=c)&&decide (c<=57))||decide (c=45)
theorem smallC_of{b:Bool}(h:b=smallC c):Ending.returned (.bool b)=.returned (.bool (smallC c)):=by rw[h]
theorem small_any(c:Int)(w:World) :
  Calls prog 112 #[.int .i32 c] w λe w'=>e=.returned (.bool (smallC c))/\w=w':=by
 go_enter func112,ntmps112
 go_wp2
 all_goals
  go_ret;exact⟨smallC_of (by simp[smallC]at *;omega),rfl⟩
def letterC(k:Int):Int:=if k=1 then 99 else if k=2 then 115 else if k=3 then 108 else if k=4 then 109 else if k=5 then 114 else 0
theorem letter_any(k:Int)(w:World) :
  Calls prog 60 #[.int .i64 k] w λe w'=>e=.returned (.int .u8 (letterC k))/\w=w':=by
 go_enter func60,ntmps60
 go_wp2
 all_goals
  go_ret;exact⟨ret_int (by simp[letterC]at *;omega),rfl⟩
def tailB(s:ByteArray)(i:Nat):Bool:=(List.range (s.size-i)).all λj=>smallC (bt s (i+j))
theorem tailB_iff(s:ByteArray)(i:Nat):tailB s i=true↔∀j,i<=j->j<s.size->smallC (bt s j)=true:=by
 simp only[tailB,all_eq_true,mem_range];constructor
 ·intro h j h1 h2;have:=h (j-i) oM
  rwa [(oM:i+(j-i)=j)]at this
 ·intro h j hj;exact h _ oM oM
theorem tailB_end(s:ByteArray)(i:Nat)(h:s.size<=i):tailB s i=true:=(tailB_iff s i).2 λj h1 h2=>by omega
theorem tailB_no(s:ByteArray)(i:Nat)(h:i<s.size)(h1:smallC (bt s i)=false):tailB s i=false:=by
 cases e:tailB s i with
 | false=>rfl
 | true=>rw[(tailB_iff s i).1 e i lR h]at h1;cases h1
theorem tailB_yes(s:ByteArray)(i:Nat)(h1:smallC (bt s i)=true):tailB s (i+1)=tailB s i:=by
 rw[Bool.eq_iff_iff,tailB_iff,tailB_iff];constructor
 ·intro h j a b;by_cases e:j=i
  ·subst e;exact h1
  ·exact h j oM b
 ·intro h j a b;exact h j oM b
def formedB(s:ByteArray):Bool:=decide (2<=s.size)&&decide (s.size<=12)&&(bt s (s.size-1) != 45)&&tailB s 1
theorem smallC_high(h:128<=c):smallC c=false:=by unfold smallC;simp;omega
theorem get_extract1(s:ByteArray)(i:Nat)(h:i<(s.extract 1 s.size).size):(((s.extract 1 s.size)[i]'h).toNat:Int)=bt s (i+1):=by
 have hs:i+1<s.size:=by simp at h;omega
 rw[<-bt_get hs];congr 2
 rw[ByteArray.getElem_extract];congr 1;omega
theorem decode_small(s:ByteArray)(i:Nat)(h:i<(s.extract 1 s.size).size)(hh:smallC (bt s (i+1))=true) :
  Utf8.decode (s.extract 1 s.size) i=((bt s (i+1)).toNat,1):=by
 have e:=get_extract1 s i h;have d:(((s.extract 1 s.size)[i]'h).toNat)<128:=by
  rcases Nat.lt_or_ge ((s.extract 1 s.size)[i]'h).toNat 128 with g | g
  ·exact g
  ·rw[smallC_high oM]at hh;cases hh
 rw[decode_ascii _ i h d,<-e];simp
theorem decode_notsmall(s:ByteArray)(i:Nat)(h:i<(s.extract 1 s.size).size)(hh:smallC (bt s (i+1))=false) :
  smallC ((Utf8.decode (s.extract 1 s.size) i).1:Int)=false:=by
 have e:=get_extract1 s i h;rcases Nat.lt_or_ge ((s.extract 1 s.size)[i]'h).toNat 128 with g | g
 ·rw[decode_ascii _ i h g];rw[<-e]at hh;exact hh
 ·have:=(decode_high _ i h g).1;exact smallC_high oM
theorem formedB_short(s:ByteArray)(h:¬(2<=s.size/\s.size<=12)):formedB s=false:=by
 unfold formedB;by_cases h1:2<=s.size <;> by_cases h2:s.size<=12 <;> simp[h1,h2];omega
theorem formedB_last(s:ByteArray)(h:bt s (s.size-1)=45):formedB s=false:=by
 unfold formedB;simp[h]
theorem formedB_tail(s:ByteArray)(h1:2<=s.size)(h2:s.size<=12)(h:bt s (s.size-1)≠45):formedB s=tailB s 1:=by
 unfold formedB;simp[h1,h2,h]
theorem formed_long(s:ByteArray)(w:World)(h:2<=s.size)(h1:s.size<=12)(h2:bt s (s.size-1)≠45) :
  Calls prog 59 #[.string s] w λe w'=>e=.returned (.bool (formedB s))/\Below w.heap.size w w':=by
 have h3:(((s[s.size-1]'oM).toNat:Int)==45)=false:=by
  rw[beq_eq_false_iff_ne];intro g;rw[bt_get oM]at g;exact h2 g
 have d:=formedB_tail s h h1 h2;have H2:=dH d;clear h2 d;have hI:∀(p:Nat),Below w.heap.size w (w.iter (s.extract 1 s.size) p):=λp=>bA;have HI:=dH hI;clear hI;go_enter func59,ntmps59
 (go_wp2_with fail);go_loopw [] (λwr=>∃i:Nat,i+1<=s.size/\wr=w.iter (s.extract 1 s.size) i/\Hid (tailB s (i+1)=tailB s 1)) (λwr=>s.size-wr.iterPos w.heap.size)
 case atStart=>exact⟨0,oM,rfl,rfl⟩
 case round =>
  obtain⟨i,hi,rfl,hc⟩:=hrel;have j:(s.extract 1 s.size).size=s.size-1:=sI;by_cases hp:i<(s.extract 1 s.size).size
  ·have f:∀ty,(Instr.next (.pointer (some ⟨w.heap.size,0,none⟩)) true ty).run prog (w.iter (s.extract 1 s.size) i)=_:=λty=>run_next_any w (s.extract 1 s.size) i ty hp;cases hb:smallC (bt s (i+1))with
   | true =>
    rw[decode_small s i hp hb]at f;have e1:(((bt s (i+1)).toNat:Nat):Int)=bt s (i+1):=oH (bt_nonneg s (i+1));simp only[e1]at f;have Hb:=dH hb;go_wp2_with (go_at_call 112;refine(small_any _ _).mono ?_;rintro e w' ⟨rfl,rfl⟩)
    go_roundw
    case rel=>exact⟨i+1,oM,rfl,(tailB_yes s _ Hb.out).trans hc.out⟩
    case measure=>simp;omega
   | false =>
    have hd:=decode_notsmall s i hp hb;go_wp2_with (go_at_call 112;refine(small_any _ _).mono ?_;rintro e w' ⟨rfl,rfl⟩)
    go_ret;exact⟨ret_bool (by rw[H2.out,<-hc.out,tailB_no s _ oM hb]),HI.out _⟩
  ·have f:∀ty,(Instr.next (.pointer (some ⟨w.heap.size,0,none⟩)) true ty).run prog (w.iter (s.extract 1 s.size) i)=_:=λty=>run_next_end w (s.extract 1 s.size) i ty hp;(go_wp2_with fail);go_ret;exact⟨ret_bool (by rw[H2.out,<-hc.out,tailB_end s _ oM]),HI.out _⟩
theorem formed_short(s:ByteArray)(w:World)(hs:s.size<=9223372036854775807)(h:¬(2<=s.size/\s.size<=12)) :
  Calls prog 59 #[.string s] w λe w'=>e=.returned (.bool (formedB s))/\Below w.heap.size w w':=by
 have H2:=dH (formedB_short s h);by_cases h1:2<=s.size
 ·have h4:12<s.size:=oM;clear h;go_enter func59,ntmps59
  go_wp2_with fail
  all_goals
   go_ret;exact⟨ret_bool H2.out.symm,Below.refl _ _⟩
 ·clear h;go_enter func59,ntmps59
  go_wp2_with fail
  all_goals
   go_ret;exact⟨ret_bool H2.out.symm,Below.refl _ _⟩
theorem formed_last(s:ByteArray)(w:World)(h:2<=s.size)(h1:s.size<=12)(h2:bt s (s.size-1)=45) :
  Calls prog 59 #[.string s] w λe w'=>e=.returned (.bool (formedB s))/\Below w.heap.size w w':=by
 have h3:(((s[s.size-1]'oM).toNat:Int)==45)=true:=by
  rw[beq_iff_eq];rw[bt_get oM];exact h2
 have H2:=dH (formedB_last s h2);clear h2;go_enter func59,ntmps59
 (go_wp2_with fail);go_ret;exact⟨ret_bool H2.out.symm,Below.refl _ _⟩
theorem formed_any(s:ByteArray)(w:World)(hs:s.size<=9223372036854775807) :
  Calls prog 59 #[.string s] w λe w'=>e=.returned (.bool (formedB s))/\Below w.heap.size w w':=by
 by_cases h:2<=s.size/\s.size<=12
 ·by_cases h2:bt s (s.size-1)=45
  ·exact formed_last s w h.1 h.2 h2
  ·exact formed_long s w h.1 h.2 h2
 ·exact formed_short s w hs h
def kindC(c:Int):Int:=if c=99 then 1 else if c=115 then 2 else if c=108 then 3 else if c=109 then 4 else if c=114 then 5 else 0
def kindB(s:ByteArray):Int:=if formedB s=true then kindC (bt s 0)else 0
theorem formedB_size(h:formedB s=true):2<=s.size/\s.size<=12:=by
 unfold formedB at h;simp at h;omega
theorem kindC_hit{k:Int}(h1:1<=k)(h2:k<6)(h:letterC k=c):kindC c=k:=by
 subst h;have:k=1\/k=2\/k=3\/k=4\/k=5:=oM;rcases this with rfl | rfl | rfl | rfl | rfl <;> decide
theorem kindC_miss(h:∀j:Int,1<=j->j<6->letterC j≠c):kindC c=0:=by
 have a:=h 1 oM oM;have b:=h 2 oM oM;have d:=h 3 oM oM;have e:=h 4 oM oM;have f:=h 5 oM oM;simp[letterC]at a b d e f;unfold kindC;rw[if_neg oM,if_neg oM,if_neg oM,if_neg oM,if_neg oM]
theorem kind_no(s:ByteArray)(w:World)(hs:s.size<=9223372036854775807)(h:formedB s=false) :
  Calls prog 25 #[.string s] w λe w'=>e=.returned (.int .i64 (kindB s))/\Below w.heap.size w w':=by
 have H:Hid (kindB s=0):=by show kindB s=0;unfold kindB;rw[h];rfl
 go_enter func25,ntmps25
 (go_wp2_with fail);refine(formed_any _ _ hs).mono ?_;rintro e w1 ⟨rfl,hb⟩;(go_wp2_with fail);go_ret;exact⟨ret_int H.out.symm,hb⟩
theorem kind_yes(s:ByteArray)(w:World)(hs:s.size<=9223372036854775807)(h:formedB s=true) :
  Calls prog 25 #[.string s] w λe w'=>e=.returned (.int .i64 (kindB s))/\Below w.heap.size w w':=by
 have H:Hid (kindB s=kindC (bt s 0)):=by show kindB s=kindC (bt s 0);unfold kindB;rw[h];rfl
 have m:=formedB_size h;have h0:(0:Int)<s.size:=oM;have hg:((s[0]'oM).toNat:Int)=bt s 0:=bt_get oM;go_enter func25,ntmps25
 (go_wp2_with fail);refine(formed_any _ _ hs).mono ?_;rintro e w1 ⟨rfl,hb⟩;(go_wp2_with fail);go_loopw [3] (λkv wr=>∃k:Int,1<=k/\k<=6/\kv=.int .i64 k/\Below w.heap.size w wr/\Hid (∀j:Int,1<=j->j<k->letterC j≠bt s 0)) (λkv _=>(6-intOf kv).toNat)
 case atStart=>exact⟨1,oM,oM,rfl,hb,λj h1 h2=>oM⟩
 case round =>
  obtain⟨k,g,r,rfl,d,hj⟩:=hrel;by_cases hk:k<6
  ·by_cases hl:letterC k=bt s 0
   ·have f:(letterC k==bt s 0)=true:=by rw[beq_iff_eq];exact hl
    have Hl:=dH hl;clear hl;go_wp2_with fail
    go_quiet ((go_at_call 60;exact quiet_eq (letter_any _ _)))
    (go_wp2_with fail);go_ret;exact⟨ret_int (by rw[H.out,kindC_hit g hk Hl.out]),below_drewN d _⟩
   ·have f:(letterC k==bt s 0)=false:=by rw[beq_eq_false_iff_ne];exact hl
    have Hl:=dH hl;clear hl;go_wp2_with fail
    go_quiet ((go_at_call 60;exact quiet_eq (letter_any _ _)))
    (go_wp2_with fail);go_roundw
    case rel =>
     refine⟨k+1,oM,oM,rfl,below_drewN d _,λj h1 h2=>?_⟩;by_cases e:j=k
     ·subst e;exact Hl.out
     ·exact hj.out j h1 oM
    case measure=>exact sZ
  ·(go_wp2_with fail);go_ret;exact⟨ret_int (by rw[H.out,kindC_miss (λj h1 h2=>hj.out j h1 oM)]),d⟩
theorem kind_any(s:ByteArray)(w:World)(hs:s.size<=9223372036854775807) :
  Calls prog 25 #[.string s] w λe w'=>e=.returned (.int .i64 (kindB s))/\Below w.heap.size w w':=by
 cases h:formedB s with
 | true=>exact kind_yes s w hs h
 | false=>exact kind_no s w hs h
def checkB(s:ByteArray):Int:=if kindB s=0 then 9 else 0
theorem check_any(s:ByteArray)(w:World)(hs:s.size<=9223372036854775807) :
  Calls prog 22 #[.string s] w λe w'=>e=.returned (.int .i64 (checkB s))/\Below w.heap.size w w':=by
 by_cases h:kindB s=0
 ·have h':(kindB s==0)=true:=by rw[beq_iff_eq];exact h
  have H:Hid (checkB s=9):=by show checkB s=9;unfold checkB;rw[if_pos h]
  clear h;go_enter func22,ntmps22
  (go_wp2_with fail);refine(kind_any _ _ hs).mono ?_;rintro e w1 ⟨rfl,hb⟩;(go_wp2_with fail);go_ret;exact⟨ret_int H.out.symm,hb⟩
 ·have h':(kindB s==0)=false:=by rw[beq_eq_false_iff_ne];exact h
  have H:Hid (checkB s=0):=by show checkB s=0;unfold checkB;rw[if_neg h]
  clear h;go_enter func22,ntmps22
  (go_wp2_with fail);refine(kind_any _ _ hs).mono ?_;rintro e w1 ⟨rfl,hb⟩;(go_wp2_with fail);go_ret;exact⟨ret_int H.out.symm,hb⟩
structure Hd where
 ps:Value
 ht:Int
 tp:ByteArray
 au:Int
 sq:Int
 sz:Int
 cm:Id32
def hdC(x:Hd):Array Value:=#[x.ps] ++ #[.int .i64 x.ht] ++ #[.string x.tp] ++ #[.int .i64 x.au] ++ #[.int .i64 x.sq] ++ #[.int .i64 x.sz]++idC x.cm
@[simp] theorem hdC_size(x:Hd):(hdC x).size=38:=by simp[hdC]
@[go_sem] theorem hdC_g0(x:Hd):(hdC x)[0]?=some (x.ps):=by first | (simp[hdC,Array.getElem?_append];done) | (rw[show hdC x=((#[]:Array Value)) ++ #[x.ps]++(#[.int .i64 x.ht] ++ #[.string x.tp] ++ #[.int .i64 x.au] ++ #[.int .i64 x.sq] ++ #[.int .i64 x.sz]++idC x.cm)from by apply Array.ext';simp[hdC]];exact arr_at _ _ _ _ sI)
@[go_sem] theorem hdC_gg0(x:Hd)(h:0<(hdC x).size):(hdC x)[0]'h=x.ps:=Option.some.inj ((Array.getElem?_eq_getElem h).symm.trans (hdC_g0 x))
@[go_sem] theorem hdC_g1(x:Hd):(hdC x)[1]?=some (.int .i64 x.ht):=by first | (simp[hdC,Array.getElem?_append];done) | (rw[show hdC x=(#[x.ps]) ++ #[.int .i64 x.ht]++(#[.string x.tp] ++ #[.int .i64 x.au] ++ #[.int .i64 x.sq] ++ #[.int .i64 x.sz]++idC x.cm)from by apply Array.ext';simp[hdC]];exact arr_at _ _ _ _ sI)
@[go_sem] theorem hdC_gg1(x:Hd)(h:1<(hdC x).size):(hdC x)[1]'h=.int .i64 x.ht:=Option.some.inj ((Array.getElem?_eq_getElem h).symm.trans (hdC_g1 x))
@[go_sem] theorem hdC_g2(x:Hd):(hdC x)[2]?=some (.string x.tp):=by first | (simp[hdC,Array.getElem?_append];done) | (rw[show hdC x=(#[x.ps] ++ #[.int .i64 x.ht]) ++ #[.string x.tp]++(#[.int .i64 x.au] ++ #[.int .i64 x.sq] ++ #[.int .i64 x.sz]++idC x.cm)from by apply Array.ext';simp[hdC]];exact arr_at _ _ _ _ sI)
@[go_sem] theorem hdC_gg2(x:Hd)(h:2<(hdC x).size):(hdC x)[2]'h=.string x.tp:=Option.some.inj ((Array.getElem?_eq_getElem h).symm.trans (hdC_g2 x))
@[go_sem] theorem hdC_g3(x:Hd):(hdC x)[3]?=some (.int .i64 x.au):=by first | (simp[hdC,Array.getElem?_append];done) | (rw[show hdC x=(#[x.ps] ++ #[.int .i64 x.ht] ++ #[.string x.tp]) ++ #[.int .i64 x.au]++(#[.int .i64 x.sq] ++ #[.int .i64 x.sz]++idC x.cm)from by apply Array.ext';simp[hdC]];exact arr_at _ _ _ _ sI)
@[go_sem] theorem hdC_gg3(x:Hd)(h:3<(hdC x).size):(hdC x)[3]'h=.int .i64 x.au:=Option.some.inj ((Array.getElem?_eq_getElem h).symm.trans (hdC_g3 x))
@[go_sem] theorem hdC_g4(x:Hd):(hdC x)[4]?=some (.int .i64 x.sq):=by first | (simp[hdC,Array.getElem?_append];done) | (rw[show hdC x=(#[x.ps] ++ #[.int .i64 x.ht] ++ #[.string x.tp] ++ #[.int .i64 x.au]) ++ #[.int .i64 x.sq]++(#[.int .i64 x.sz]++idC x.cm)from by apply Array.ext';simp[hdC]];exact arr_at _ _ _ _ sI)
@[go_sem] theorem hdC_gg4(x:Hd)(h:4<(hdC x).size):(hdC x)[4]'h=.int .i64 x.sq:=Option.some.inj ((Array.getElem?_eq_getElem h).symm.trans (hdC_g4 x))
@[go_sem] theorem hdC_g5(x:Hd):(hdC x)[5]?=some (.int .i64 x.sz):=by first | (simp[hdC,Array.getElem?_append];done) | (rw[show hdC x=(#[x.ps] ++ #[.int .i64 x.ht] ++ #[.string x.tp] ++ #[.int .i64 x.au] ++ #[.int .i64 x.sq]) ++ #[.int .i64 x.sz]++(idC x.cm)from by apply Array.ext';simp[hdC]];exact arr_at _ _ _ _ sI)
@[go_sem] theorem hdC_gg5(x:Hd)(h:5<(hdC x).size):(hdC x)[5]'h=.int .i64 x.sz:=Option.some.inj ((Array.getElem?_eq_getElem h).symm.trans (hdC_g5 x))
@[go_sem] theorem hdC_e6(x:Hd):(hdC x).extract 6 38=idC x.cm:=by
 have h:hdC x=(#[x.ps] ++ #[.int .i64 x.ht] ++ #[.string x.tp] ++ #[.int .i64 x.au] ++ #[.int .i64 x.sq] ++ #[.int .i64 x.sz])++idC x.cm++((#[]:Array Value)):=by first | (simp[hdC,Array.append_assoc];done) | (apply Array.ext';simp[hdC];done)
 rw[h];exact arr_mid _ _ _ _ _ sI sI
@[go_sem] theorem hdC_all(x:Hd):(hdC x).extract 0 38=hdC x:=by have:=Array.extract_size (xs:=hdC x);rwa [hdC_size]at this
theorem hdC_one(x:Hd)(d:x.ps.oneCell'=true):∀u∈(hdC x).toList,u.oneCell'=true:=by
 intro u hu;simp only[hdC,Array.toList_append,mem_append]at hu;rcases hu with(((((hu | hu) | hu) | hu) | hu) | hu) | hu
 ·simp at hu;subst hu;exact d
 ·simp at hu;subst hu;rfl
 ·simp at hu;subst hu;rfl
 ·simp at hu;subst hu;rfl
 ·simp at hu;subst hu;rfl
 ·simp at hu;subst hu;rfl
 ·exact idC_one _ u hu
def hd0:Hd:=⟨(.slice none 0 0),0,⟨#[]⟩,0,0,0,id0⟩
theorem infoHd:(prog.info? 49).map (·.size)=some 38:=kR
@[go_sem ↓] theorem zeroHd_run(w:World):(zeroValue 49).run prog w=.ok (.agg (hdC hd0)) w:=by
 have h:(prog.info? 49).bind (·.zero)=some (.agg (hdC hd0)):=kR;cases hi:prog.info? 49 with
 | none=>rw[hi]at h;cases h
 | some i =>
  rw[hi]at h;have hz:i.zero=some (.agg (hdC hd0)):=h;simp[zeroValue,typeInfo,hi,hz]
@[go_sem ↓] theorem loadHd_rw(a:Addr):loadVar 49 a=ldS 49 a:=rfl
@[go_sem ↓] theorem storeHd_rw(a:Addr)(v:Value):storeVar 49 a v=stS 49 a v:=rfl
@[go_sem] theorem loadHd_run(w:World)(g o:Nat):(ldS 49 ⟨g,o,none⟩).run prog w=match rowAt w g o 38 with | some cs=>.ok (.agg cs) w | none=>(loadVar 49 ⟨g,o,none⟩).run prog w :=
 run_ldS underlying49 rfl infoHd w g o
@[go_sem] theorem storeHd_run(w:World)(g:Nat)(hg:g=w.heap.size)(z:Array Value)(hz:z.size=38)(x:Hd)(d:x.ps.oneCell'=true)(e:TypeId):(stS 49 ⟨g,0,none⟩ (.agg (hdC x))).run prog (w.alloc (.cells z e))=.ok () (w.alloc (.cells (hdC x) e)) :=
 hg ▸ run_stS_new infoHd w z (hdC x) hz (hdC_size x) (hdC_one x d)
theorem fieldsHd:prog.underlying 49=some (.struct (prog.fieldsOf 49)):=kR
theorem placesHd(w:World):((prog.fieldsOf 49).mapM fun (f:Field)=>do pure (f.offset,<-sizeOf f.type)).run prog w=.ok #[(0,1),(1,1),(2,1),(3,1),(4,1),(5,1),(6,32)] w:=kR
@[go_sem ↓] theorem buildHd_rw(parts:Array (Nat×Value)):Instr.build 49 parts=bdS 49 parts:=rfl
@[go_sem ↓] theorem fieldHd_1(x:Hd)(w:World):(Instr.field 49 (.agg (hdC x)) 1).run prog w=.ok (.int .i64 x.ht) w:=by
 unfold Instr.field;simp only[Sem.run_bind,run_underlying underlying49,Result.andThen_ok,part,asAgg,isAgg];simp[go_sem]
@[go_sem] theorem buildHd(a0:Value)(a1:Int)(a2:ByteArray)(a3:Int)(a4:Int)(a5:Int)(a6:Id32)(k0:(a0).cells = #[a0])(w:World):(bdS 49 #[(0,a0),(1,.int .i64 a1),(2,.string a2),(3,.int .i64 a3),(4,.int .i64 a4),(5,.int .i64 a5),(6,.agg (idC a6))]).run prog w=.ok (.agg (hdC ⟨a0,a1,a2,a3,a4,a5,a6⟩)) w:=by
 refine run_build w fieldsHd _ (zeroHd_run w) _ (placesHd w) [(0,a0),(1,.int .i64 a1),(2,.string a2),(3,.int .i64 a3),(4,.int .i64 a4),(5,.int .i64 a5),(6,.agg (idC a6))] _ ?_;rw[show hdC hd0=(#[]:Array Value) ++ #[(.slice none 0 0)]++(#[.int .i64 0]++(#[.string ⟨#[]⟩]++(#[.int .i64 0]++(#[.int .i64 0]++(#[.int .i64 0]++(idC id0))))))from by first | (simp[hdC,hd0,Array.append_assoc];done) | (apply Array.ext';simp[hdC,hd0])];rw[fill_step (off:=0) (size:=1) rfl sI sI (by simp[k0])];rw[show(#[]:Array Value)++(a0).cells++(#[.int .i64 0]++(#[.string ⟨#[]⟩]++(#[.int .i64 0]++(#[.int .i64 0]++(#[.int .i64 0]++(idC id0))))))=(#[a0]) ++ #[.int .i64 0]++(#[.string ⟨#[]⟩]++(#[.int .i64 0]++(#[.int .i64 0]++(#[.int .i64 0]++(idC id0)))))from by first | (simp[k0,Array.append_assoc];done) | (apply Array.ext';simp[k0];done) | (apply Array.ext';simp only[Array.toList_append,k0];simp[Value.cells])];rw[fill_step (off:=1) (size:=1) rfl sI sI (by simp[Value.cells])];rw[show(#[a0])++(Value.int .i64 a1).cells++(#[.string ⟨#[]⟩]++(#[.int .i64 0]++(#[.int .i64 0]++(#[.int .i64 0]++(idC id0)))))=(#[a0]++(#[.int .i64 a1])) ++ #[.string ⟨#[]⟩]++(#[.int .i64 0]++(#[.int .i64 0]++(#[.int .i64 0]++(idC id0))))from by first | (simp[k0,Array.append_assoc];done) | (apply Array.ext';simp[k0];done) | (apply Array.ext';simp only[Array.toList_append,k0];simp[Value.cells])];rw[fill_step (off:=2) (size:=1) rfl sI sI (by simp[Value.cells])];rw[show(#[a0]++(#[.int .i64 a1]))++(Value.string a2).cells++(#[.int .i64 0]++(#[.int .i64 0]++(#[.int .i64 0]++(idC id0))))=(#[a0]++(#[.int .i64 a1]++(#[.string a2]))) ++ #[.int .i64 0]++(#[.int .i64 0]++(#[.int .i64 0]++(idC id0)))from by first | (simp[k0,Array.append_assoc];done) | (apply Array.ext';simp[k0];done) | (apply Array.ext';simp only[Array.toList_append,k0];simp[Value.cells])];rw[fill_step (off:=3) (size:=1) rfl sI sI (by simp[Value.cells])];rw[show(#[a0]++(#[.int .i64 a1]++(#[.string a2])))++(Value.int .i64 a3).cells++(#[.int .i64 0]++(#[.int .i64 0]++(idC id0)))=(#[a0]++(#[.int .i64 a1]++(#[.string a2]++(#[.int .i64 a3])))) ++ #[.int .i64 0]++(#[.int .i64 0]++(idC id0))from by first | (simp[k0,Array.append_assoc];done) | (apply Array.ext';simp[k0];done) | (apply Array.ext';simp only[Array.toList_append,k0];simp[Value.cells])];rw[fill_step (off:=4) (size:=1) rfl sI sI (by simp[Value.cells])];rw[show(#[a0]++(#[.int .i64 a1]++(#[.string a2]++(#[.int .i64 a3]))))++(Value.int .i64 a4).cells++(#[.int .i64 0]++(idC id0))=(#[a0]++(#[.int .i64 a1]++(#[.string a2]++(#[.int .i64 a3]++(#[.int .i64 a4]))))) ++ #[.int .i64 0]++(idC id0)from by first | (simp[k0,Array.append_assoc];done) | (apply Array.ext';simp[k0];done) | (apply Array.ext';simp only[Array.toList_append,k0];simp[Value.cells])];rw[fill_step (off:=5) (size:=1) rfl sI sI (by simp[Value.cells])];rw[show(#[a0]++(#[.int .i64 a1]++(#[.string a2]++(#[.int .i64 a3]++(#[.int .i64 a4])))))++(Value.int .i64 a5).cells++(idC id0)=(#[a0]++(#[.int .i64 a1]++(#[.string a2]++(#[.int .i64 a3]++(#[.int .i64 a4]++(#[.int .i64 a5]))))))++idC id0++(#[]:Array Value)from by first | (simp[k0,Array.append_assoc];done) | (apply Array.ext';simp[k0];done) | (apply Array.ext';simp only[Array.toList_append,k0];simp[Value.cells])];rw[fill_step (off:=6) (size:=32) rfl sI sI (by simp[Value.cells])];first | (simp[Instr.fill,hdC,Array.append_assoc,Value.cells];done) | (simp only[Instr.fill,hdC,k0];congr 1;apply Array.ext';simp[Value.cells,k0];done) | (simp only[Instr.fill,hdC,k0];congr 1;done) | (simp only[Instr.fill,hdC,k0];done)
structure HdV where
 ps:List Id32
 ht:Int
 tp:ByteArray
 au:Int
 sq:Int
 sz:Int
 cm:Id32
def hdO(h:HdV)(A:Option Addr)(c:Nat):Hd:=⟨.slice A h.ps.length c,h.ht,h.tp,h.au,h.sq,h.sz,h.cm⟩
def hdE(h:HdV):Int :=
 if 4<h.ps.length then 6 else if risI h.ps=false then 4 else if h.ht<1\/1073741824<h.ht then 12
 else if(h.ps.length==0) != (h.ht==1)then 12 else if checkB h.tp≠0 then 9
 else if h.au<0\/255<h.au then 5 else if h.sq<1\/1073741824<h.sq then 5 else if h.sz<1\/512<h.sz then 5 else 0
structure HdOk(h:HdV):Prop where
 ps:h.ps.length<=4
 ris:risI h.ps=true
 ht:1<=h.ht/\h.ht<=1073741824
 one:(h.ps.length==0)=(h.ht==1)
 tp:checkB h.tp=0
 au:0<=h.au/\h.au<=255
 sq:1<=h.sq/\h.sq<=1073741824
 sz:1<=h.sz/\h.sz<=512
theorem hdE_ok{h:HdV}(e:hdE h=0):HdOk h:=by
 unfold hdE at e;split at e;· omega
 split at e;· omega
 split at e;· omega
 split at e;· omega
 split at e;· omega
 split at e;· omega
 split at e;· omega
 split at e;· omega
 rename_i h1 h2 h3 h4 h5 h6 h7 h8
 exact⟨oM,by simpa using h2,oM,by simpa using h4,oM,oM,oM,oM⟩
def hdB(h:HdV):List UInt8 :=
 beL 1 h.ps.length++h.ps.flatMap (·.l)++beL 4 h.ht.toNat++beL 1 h.tp.size++h.tp.data.toList++beL 1 h.au.toNat++beL 4 h.sq.toNat++beL 2 h.sz.toNat++h.cm.l
def hdI(h:HdV):Id32:=if hdE h=0 then shaI (hdB h)else id0
section
structure RdsG(α:Type) where
 rows:List α
 l:List UInt8
 e:Int
structure RowP(α:Type) where
 one:List UInt8->Int->α
 oL:List UInt8->Int->List UInt8
 oE:List UInt8->Int->Int
 put:α->List UInt8
 ok:α->Prop
section
variable {α:Type} (p:RowP α)
structure RowLaw:Prop where
 split:∀l e,p.oE l e=0->e=0/\p.put (p.one l e)++p.oL l e=l
 back:∀x t,p.ok x->p.one (p.put x++t) 0=x/\p.oL (p.put x++t) 0=t/\p.oE (p.put x++t) 0=0
 some_:∀x,1<=(p.put x).length
def stepG(s:RdsG α):RdsG α:=⟨s.rows ++ [p.one s.l s.e],p.oL s.l s.e,p.oE s.l s.e⟩
def loopG:Nat->RdsG α->RdsG α
 | 0,s=>s
 | k+1,s=>if s.e=0 then loopG k (stepG p s)else s
def readG(l:List UInt8)(e:Int):RdsG α:=loopG p (numV 4 l e) ⟨[],rawL 4 l e,rawE 4 l e⟩
def putG(X:List α):List UInt8:=beL 4 X.length++X.flatMap p.put
variable {p}
theorem loopG_stop(k:Nat)(s:RdsG α)(h:s.e≠0):loopG p k s=s:=by
 cases k with
 | zero=>rfl
 | succ k=>unfold loopG;rw[if_neg h]
theorem loopG_step(k:Nat)(s:RdsG α)(h:s.e=0):loopG p (k+1) s=loopG p k (stepG p s):=by rw[loopG,if_pos h]
theorem loopG_split(L:RowLaw p):∀(k:Nat) (s:RdsG α),(loopG p k s).e=0->∃X:List α,X.length=k/\(loopG p k s).rows=s.rows++X/\X.flatMap p.put++(loopG p k s).l=s.l/\s.e=0
 | 0,s,h=>⟨[],rfl,by simp[loopG],by simp[loopG],h⟩
 | k+1,s,h=>by
  by_cases he:s.e=0
  ·rw[loopG_step k s he]at h |-;obtain⟨X,h1,h2,h3,h0⟩:=loopG_split L k (stepG p s) h;obtain⟨_,h5⟩:=L.split s.l s.e h0;refine⟨p.one s.l s.e :: X,by simp[h1],by rw[h2];simp[stepG],?_,he⟩;rw[flatMap_cons,append_assoc,h3];exact h5
  ·rw[loopG_stop _ _ he]at h;exact absurd h he
theorem readG_split(L:RowLaw p){l:List UInt8}(h:(readG p l e).e=0):e=0/\putG p (readG p l e).rows++(readG p l e).l=l:=by
 obtain⟨X,h1,h2,h3,h4⟩:=loopG_split L _ _ h;obtain⟨h6,h5⟩:=num_split (show rawE 4 l e=0 from h4);refine⟨h6,?_⟩;unfold readG;rw[h2];unfold putG;simp only[nil_append,append_assoc];rw[h1,h3,h5]
theorem loopG_put(L:RowLaw p):∀(X R:List α) (t:List UInt8),(∀x∈X,p.ok x)->loopG p X.length ⟨R,X.flatMap p.put++t,0⟩=⟨R++X,t,0⟩
 | [],R,t,_=>by simp[loopG]
 | x :: X,R,t,h=>by
  rw[length_cons,loopG_step _ _ rfl];obtain⟨h1,h2,h3⟩:=L.back x (X.flatMap p.put++t) (h x sI);have e:stepG p ⟨R,(x :: X).flatMap p.put++t,0⟩=⟨R ++ [x],X.flatMap p.put++t,0⟩:=by
   unfold stepG;simp only[flatMap_cons,append_assoc];rw[h1,h2,h3]
  rw[e,loopG_put L X (R ++ [x]) t (λp hp=>h p (by simp[hp]))]
  simp
theorem putG_len(L:RowLaw p):∀X:List α,X.length<=(putG p X).length:=by
 intro X;have h:∀Y:List α,Y.length<=(Y.flatMap p.put).length:=by
  intro Y;induction Y with
  | nil=>exact lR
  | cons y Y ih=>have:=L.some_ y;simp only[flatMap_cons,length_append,length_cons];omega
 have:=h X;unfold putG;rw[length_append];omega
theorem readG_bound(L:RowLaw p){l:List UInt8}(h:(readG p l e).e=0):(readG p l e).rows.length+(readG p l e).l.length<=l.length:=by
 obtain⟨_,h2⟩:=readG_split L h;have h3:=putG_len L (readG p l e).rows;have h4:=congrArg List.length h2;rw[length_append]at h4;omega
end
def idP:RowP Id32:=⟨λl e=>idOf (rawV 32 l e),λl e=>rawL 32 l e,λl e=>rawE 32 l e,Id32.l,λ_=>True⟩
theorem id_back{d:Id32}(t:List UInt8):idOf (rawV 32 (d.l++t) 0)=d/\rawL 32 (d.l++t) 0=t/\rawE 32 (d.l++t) 0=0:=by
 have hd:=raw_put d.l t;rw[d.h]at hd;obtain⟨d1,d2,d3⟩:=hd;rw[d1,d2,d3];exact⟨by unfold idOf;rw[dif_pos d.h],rfl,rfl⟩
theorem id_split{l:List UInt8}(h:rawE 32 l e=0):e=0/\(idOf (rawV 32 l e)).l++rawL 32 l e=l:=by
 obtain⟨h1,h2,h3⟩:=raw_split h;have e1:(idOf (rawV 32 l e)).l=rawV 32 l e:=by unfold idOf;rw[dif_pos h3]
 exact⟨h1,by rw[e1,h2]⟩
theorem idLaw:RowLaw idP:=⟨λl e h=>id_split h,λx t _=>id_back t,λx=>by show 1<=x.l.length;rw[x.h];omega⟩
end
def hofT(ps:List Id32)(l:List UInt8)(e:Int):HdV×List UInt8×Int :=
 let l1:=rawL 4 l e;let e1:=rawE 4 l e
 let l2:=txL l1 e1;let e2:=txE l1 e1
 let l3:=rawL 1 l2 e2;let e3:=rawE 1 l2 e2
 let l4:=rawL 4 l3 e3;let e4:=rawE 4 l3 e3
 let l5:=rawL 2 l4 e4;let e5:=rawE 2 l4 e4
 (⟨ps,numV 4 l e,txV l1 e1,numV 1 l2 e2,numV 4 l3 e3,numV 2 l4 e4,idOf (rawV 32 l5 e5)⟩,rawL 32 l5 e5,rawE 32 l5 e5)
def hofP(l:List UInt8):RdsG Id32:=loopG idP (numV 1 l 0) ⟨[],rawL 1 l 0,rawE 1 l 0⟩
def hofV(l:List UInt8):HdV×List UInt8×Int:=hofT (hofP l).rows (hofP l).l (hofP l).e
def hofE(l:List UInt8):Int :=
 if 256<l.length then 3 else if endE (hofV l).2.1 (hofV l).2.2≠0 then endE (hofV l).2.1 (hofV l).2.2 else hdE (hofV l).1
def hofH(l:List UInt8):HdV:=(hofV l).1
theorem hofE_ok{l:List UInt8}(h:hofE l=0):hdE (hofH l)=0:=by
 unfold hofE at h;split at h
 ·cases h
 split at h
 ·contradiction
 ·exact h


section
theorem nodup_inj{α:Type}:∀ {l:List α},l.Nodup->∀ {i j:Nat} {a:α},l[i]?=some a->l[j]?=some a->i=j
 | [],_,_,_,_,h,_=>by simp at h
 | x :: l,hn,i,j,a,hi,hj=>by
  rw[nodup_cons]at hn
  match i,j,hi,hj with
  | 0,0,_,_=>rfl
  | 0,j+1,hi,hj=>simp at hi hj;subst hi;exact absurd (mem_of_getElem? hj) hn.1
  | i+1,0,hi,hj=>simp at hi hj;subst hj;exact absurd (mem_of_getElem? hi) hn.1
  | i+1,j+1,hi,hj =>
   have:=nodup_inj hn.2 (i:=i) (j:=j) (a:=a) (by simpa using hi) (by simpa using hj);omega
section
variable {P:Program} {K:TypeId} {κ ν:Type}
structure KeyEnc(P:Program)(K:TypeId){κ:Type}(kv:κ->Value)(ok:κ->Prop):Prop where
 law:WideMaps.KeyLaw P K
 key:∀k,ok k->∃l,keyOf P K (kv k)=some l
 inj:∀a b,kv a=kv b->a=b
structure MapAt(w:World)(b:Nat)(kv:κ->Value)(vv:ν->Value)(ok:κ->Prop)(M:List (κ×ν))(es:Array MapEntry)(clk:Nat):Prop where
 heap:w.heap[b]?=some (.map es clk)
 keys:es.toList.map (·.key)=M.map (λp=>kv p.1)
 vals:es.toList.map (·.val)=M.map (λp=>vv p.2)
 nodup:(M.map (·.1)).Nodup
 okk:∀p∈M,ok p.1
 born:(es.toList.map (·.born)).Nodup
 clock:∀e∈es.toList,e.born<clk
def putL[DecidableEq κ](M:List (κ×ν))(k:κ)(v:ν):List (κ×ν):=if k∈M.map (·.1)then M.map (λp=>if p.1=k then(k,v)else p)else M ++ [(k,v)]
variable {kv:κ->Value} {vv:ν->Value} {ok:κ->Prop} {w:World} {b:Nat} {M:List (κ×ν)} {es:Array MapEntry} {clk:Nat}
theorem MapAt.at_(h:MapAt w b kv vv ok M es clk){p:κ×ν}(hp:M[j]?=some p):∃e,es.toList[j]?=some e/\e.key=kv p.1/\e.val=vv p.2:=by
 have hk:=congrArg (λl=>l[j]?) h.keys;have hv:=congrArg (λl=>l[j]?) h.vals;simp only[getElem?_map,hp,Option.map_some]at hk hv;cases he:es.toList[j]? with
 | none=>rw[he]at hk;cases hk
 | some e =>
  rw[he]at hk hv;exact⟨e,rfl,by simpa using hk,by simpa using hv⟩
theorem MapAt.at_key(h:MapAt w b kv vv ok M es clk){e:MapEntry}(he:es.toList[j]?=some e):∃p,M[j]?=some p/\e.key=kv p.1/\e.val=vv p.2:=by
 have hk:=congrArg (λl=>l[j]?) h.keys;have hv:=congrArg (λl=>l[j]?) h.vals;simp only[getElem?_map,he,Option.map_some]at hk hv;cases hp:M[j]? with
 | none=>rw[hp]at hk;cases hk
 | some p =>
  rw[hp]at hk hv;exact⟨p,rfl,by simpa using hk,by simpa using hv⟩
theorem MapAt.kept(h:MapAt w b kv vv ok M es clk)(hk:Keep S w w')(hb:b∉S):MapAt w' b kv vv ok M es clk :=
 ⟨(hk.block b (by
   rcases Nat.lt_or_ge b w.heap.size with hl | hl
   ·exact hl
   ·have:=h.heap;rw[Array.getElem?_eq_none hl]at this;cases this) hb).trans h.heap,h.keys,h.vals,h.nodup,h.okk,h.born,h.clock⟩
theorem MapAt.lt(h:MapAt w b kv vv ok M es clk):b<w.heap.size:=by
 rcases Nat.lt_or_ge b w.heap.size with hl | hl
 ·exact hl
 ·have:=h.heap;rw[Array.getElem?_eq_none hl]at this;cases this
theorem MapAt.find(h:MapAt w b kv vv ok M es clk)(E:KeyEnc P K kv ok){k:κ}(hk:ok k) :
  ((Instr.findKey K (kv k) es.toList).run P w=.ok none w/\k∉M.map (·.1)) \/
  ∃j p,(Instr.findKey K (kv k) es.toList).run P w=.ok (some (j,vv p.2)) w/\M[j]?=some p/\p.1=k:=by
 obtain⟨l,hl⟩:=E.key k hk;have f:∀e∈es.toList,∃l,keyOf P K e.key=some l:=by
  intro e he;obtain⟨j,hj,rfl⟩:=mem_iff_getElem.1 he;obtain⟨p,hp,d,_⟩:=h.at_key (getElem?_eq_getElem hj);rw[d];exact E.key _ (h.okk p (mem_of_getElem? hp))
 rcases E.law.find w hl es.toList f with⟨hrun,hno⟩ | ⟨j,e,hrun,hj,d⟩
 ·refine .inl ⟨hrun,λhm=>?_⟩;obtain⟨p,hp,rfl⟩:=mem_map.1 hm;obtain⟨j,hj,m⟩:=mem_iff_getElem.1 hp;obtain⟨e,he,s,_⟩:=h.at_ (j:=j) (p:=p) (by rw[getElem?_eq_getElem hj,m]);exact hno e (mem_of_getElem? he) s
 ·obtain⟨p,hp,r,g⟩:=h.at_key hj;exact .inr ⟨j,p,by rw[hrun,g],hp,E.inj _ _ (r.symm.trans d)⟩
theorem run_getObj_map(h:w.heap[b]?=some (.map es clk)):(getObj b).run P w=.ok (.map es clk) w:=by
 simp[getObj,Sem.run,h]
theorem MapAt.hit(h:MapAt w b kv vv ok M es clk)(E:KeyEnc P K kv ok)(ht:P.underlying T=some (.map K E')){k:κ}{v:ν}(hk:ok k)(hm:(k,v)∈M)(d:Bool) :
  (Instr.lookup T (.map (some b)) (kv k) d).run P w=.ok (if d then .tuple #[vv v,.bool true]else vv v) w:=by
 obtain⟨l,hl⟩:=E.key k hk;rcases h.find E hk with⟨_,hno⟩ | ⟨j,p,hrun,hp,hpk⟩
 ·exact absurd (mem_map.2 ⟨_,hm,rfl⟩) hno
 ·have m:p=(k,v):=by
   obtain⟨i,hi,f⟩:=mem_iff_getElem.1 hm;obtain⟨hj,g⟩:=List.getElem?_eq_some_iff.1 hp;have r:=h.nodup;have e1:(M.map (·.1))[i]?=some k:=by rw[getElem?_map,getElem?_eq_getElem hi,f];rfl
   have e2:(M.map (·.1))[j]?=some k:=by rw[getElem?_map,hp];simp[hpk]
   have:i=j:=nodup_inj r e1 e2;subst this;rw[<-g,f]
  subst m;simp only[Instr.lookup,Sem.run_bind,run_underlying ht,Result.andThen_ok,run_getObj_map h.heap,E.law.check w es.isEmpty hl,hrun,Sem.run_pure]
theorem MapAt.miss(h:MapAt w b kv vv ok M es clk)(E:KeyEnc P K kv ok)(ht:P.underlying T=some (.map K E')){z:Value}(hz:(zeroValue E').run P w=.ok z w){k:κ}(hk:ok k)(hm:k∉M.map (·.1))(d:Bool) :
  (Instr.lookup T (.map (some b)) (kv k) d).run P w=.ok (if d then .tuple #[z,.bool false]else z) w:=by
 obtain⟨l,hl⟩:=E.key k hk;rcases h.find E hk with⟨hrun,_⟩ | ⟨j,p,hrun,hp,hpk⟩
 ·simp only[Instr.lookup,Sem.run_bind,run_underlying ht,Result.andThen_ok,run_getObj_map h.heap,E.law.check w es.isEmpty hl,hrun,Sem.run_pure,hz]
 ·exact absurd (mem_map.2 ⟨p,mem_of_getElem? hp,hpk⟩) hm
theorem keep_setObj(w:World)(b:Nat)(o:Obj):Keep [b] w { w with heap:=w.heap.setIfInBounds b o } :=
 ⟨rfl,rfl,rfl,sI,λk _ hn=>by
  show(w.heap.setIfInBounds b o)[k]?=_;rw[Array.getElem?_setIfInBounds_ne (by simpa using λe=>hn (by simp[e]))]⟩
theorem run_setObj'{w:World}{b:Nat}{es:Array MapEntry}{d:Nat}(h:w.heap[b]?=some (.map es d))(o:Obj):(setObj b o).run P w=.ok () { w with heap:=w.heap.setIfInBounds b o }:=by
 simp[setObj,Sem.run,h]
theorem heap_setObj{w:World}{b:Nat}(o:Obj)(hb:b<w.heap.size):({ w with heap:=w.heap.setIfInBounds b o }:World).heap[b]?=some o:=by
 show(w.heap.setIfInBounds b o)[b]?=_;rw[Array.getElem?_setIfInBounds_self_of_lt hb]
theorem MapAt.update[DecidableEq κ](h:MapAt w b kv vv ok M es clk)(E:KeyEnc P K kv ok)(ht:P.underlying T=some (.map K E')){k:κ}{v:ν}(hk:ok k) :
  ∃w' es' clk',(Instr.mapUpdate T (.map (some b)) (kv k) (vv v)).run P w=.ok () w'/\MapAt w' b kv vv ok (putL M k v) es' clk'/\Keep [b] w w':=by
 obtain⟨l,hl⟩:=E.key k hk;rcases h.find E hk with⟨hrun,hno⟩ | ⟨j,p,hrun,hp,hpk⟩
 ·refine⟨_,es.push { key:=kv k,val:=vv v,born:=clk },clk+1,?_,⟨heap_setObj _ h.lt,?_,?_,?_,?_,?_,?_⟩,keep_setObj w b _⟩
  ·simp only[Instr.mapUpdate,Sem.run_bind,run_underlying ht,Result.andThen_ok,run_getObj_map h.heap,E.law.check w false hl,hrun,run_setObj' h.heap]
  ·unfold putL;rw[if_neg hno];simp[h.keys]
  ·unfold putL;rw[if_neg hno];simp[h.vals]
  ·unfold putL;rw[if_neg hno,map_append,nodup_append];refine⟨h.nodup,sI,?_⟩;intro a ha c hc e;simp at hc;subst hc;subst e;exact hno ha
  ·unfold putL;rw[if_neg hno];intro q hq;rcases mem_append.1 hq with hq | hq
   ·exact h.okk q hq
   ·simp at hq;subst hq;exact hk
  ·simp only[Array.toList_push,map_append,map_cons,map_nil,nodup_append];refine⟨h.born,sI,?_⟩;intro a ha c hc e;simp at hc;subst hc;subst e;obtain⟨e',d,G⟩:=mem_map.1 ha;have:=h.clock e' d;omega
  ·intro e he;simp only[Array.toList_push,mem_append,mem_singleton]at he;rcases he with he | he
   ·have:=h.clock e he;omega
   ·subst he;show clk<clk+1;omega
 ·have t:k∈M.map (·.1):=mem_map.2 ⟨p,mem_of_getElem? hp,hpk⟩;obtain⟨e0,g,D,F⟩:=h.at_ hp;have s:((es[j]?).map (·.key)).getD (kv k)=kv k:=by
   have:es[j]?=some e0:=by simpa using g
   rw[this];simp[D,hpk]
  have r:putL M k v=M.modify j (λ_=>(k,v)):=by
   unfold putL;rw[if_pos t];apply ext_getElem?;intro n;rw[getElem?_map,getElem?_modify];by_cases hn:j=n
   ·subst hn;simp[hp,hpk]
   ·cases hq:M[n]? with
    | none=>simp[hn]
    | some q =>
     have A:q.1≠k:=by
      intro e;have e1:(M.map (·.1))[j]?=some k:=by rw[getElem?_map,hp];simp[hpk]
      have e2:(M.map (·.1))[n]?=some k:=by rw[getElem?_map,hq];simp[e]
      exact hn (nodup_inj h.nodup e1 e2)
     simp[hn,A]
  refine⟨_,es.modify j λe=>{ e with key:=kv k,val:=vv v },clk,?_,⟨heap_setObj _ h.lt,?_,?_,?_,?_,?_,?_⟩,keep_setObj w b _⟩
  ·simp only[Instr.mapUpdate,Sem.run_bind,run_underlying ht,Result.andThen_ok,run_getObj_map h.heap,E.law.check w false hl,hrun,s,E.law.stays w hl,run_setObj' h.heap]
  all_goals (try rw[r])
  ·rw[Array.toList_modify];apply ext_getElem?;intro n;have m:=congrArg (λl=>l[n]?) h.keys;simp only[getElem?_map]at m;simp only[getElem?_map,getElem?_modify];by_cases hn:j=n
   ·subst hn;simp[hp,g]
   ·simpa[hn]using m
  ·rw[Array.toList_modify];apply ext_getElem?;intro n;have m:=congrArg (λl=>l[n]?) h.vals;simp only[getElem?_map]at m;simp only[getElem?_map,getElem?_modify];by_cases hn:j=n
   ·subst hn;simp[hp,g]
   ·simpa[hn]using m
  ·have:(M.modify j λ_=>(k,v)).map (·.1)=M.map (·.1):=by
    apply ext_getElem?;intro n;simp only[getElem?_map,getElem?_modify];by_cases hn:j=n
    ·subst hn;simp[hp,hpk]
    ·simp[hn]
   rw[this];exact h.nodup
  ·intro q hq;obtain⟨n,hn,y⟩:=mem_iff_getElem.1 hq;have f:(M.modify j λ_=>(k,v))[n]?=some q:=by rw[getElem?_eq_getElem hn,y]
   rw[getElem?_modify]at f;by_cases e:j=n
   ·subst e;rw[hp]at f;simp at f;subst f;exact hk
   ·simp[e]at f;exact h.okk q (mem_of_getElem? f)
  ·have:((es.modify j λe=>{ e with key:=kv k,val:=vv v }).toList.map (·.born))=es.toList.map (·.born):=by
    rw[Array.toList_modify];apply ext_getElem?;intro n;simp only[getElem?_map,getElem?_modify];by_cases hn:j=n
    ·subst hn;simp[g]
    ·simp[hn]
   rw[this];exact h.born
  ·intro e he;rw[Array.toList_modify]at he;obtain⟨n,hn,B⟩:=mem_iff_getElem.1 he;have d:(es.toList.modify j λe=>{ e with key:=kv k,val:=vv v })[n]?=some e:=by rw[getElem?_eq_getElem hn,B]
   rw[getElem?_modify]at d;by_cases hj:j=n
   ·subst hj;rw[g]at d;simp at d;subst d;exact h.clock e0 (mem_of_getElem? g)
   ·simp[hj]at d;exact h.clock e (mem_of_getElem? (by simpa using d))
theorem MapAt.new(w:World)(b:Nat)(hb:b=w.heap.size):MapAt (w.alloc (.map #[] 0)) b kv vv ok [] #[] 0:=by
 subst hb;exact⟨heap_alloc_new w _,rfl,rfl,sI,sI,sI,sI⟩
end
end
section
open Go.ChangeMaps (setBlock)
section
variable {P:Program} {K:TypeId} {κ ν:Type} {kv:κ->Value} {vv:ν->Value} {ok:κ->Prop} {w:World} {b r:Nat} {M S:List (κ×ν)} {es:Array MapEntry} {clk:Nat}
theorem MapAt.nodupP(h:MapAt w b kv vv ok M es clk):M.Nodup:=by
 have:=h.nodup;exact Pairwise.of_map (·.1) (λa b h e=>h (by rw[e])) this
def RangeAt(w:World)(b r:Nat)(kv:κ->Value)(vv:ν->Value)(ok:κ->Prop)(M S:List (κ×ν)):Prop :=
 ∃es clk since seen c0,MapAt w b kv vv ok M es clk/\w.heap[r]?=some (.mapIter (some b) since seen c0)/\(∀x∈es.toList,x.born<since)/\since<=c0/\since<=clk /\
  S.Nodup/\(∀p∈S,p∈M)/\(∀(j:Nat) (e:MapEntry) (p:κ×ν),es.toList[j]?=some e->M[j]?=some p->(p∈S↔seen.contains e.born=true))
theorem RangeAt.ne(h:RangeAt w b r kv vv ok M S):r≠b:=by
 obtain⟨es,f,d,seen,c0,hm,hr,_⟩:=h;rintro rfl;have:=hm.heap;rw[hr]at this;cases this
theorem RangeAt.lt(h:RangeAt w b r kv vv ok M S):r<w.heap.size/\b<w.heap.size:=by
 obtain⟨es,f,d,seen,c0,hm,hr,_⟩:=h;exact⟨(aG hr).1,hm.lt⟩
theorem RangeAt.kept{T:List Nat}{w':World}(h:RangeAt w b r kv vv ok M S)(hk:Keep T w w')(hb:b∉T)(hr:r∉T):RangeAt w' b r kv vv ok M S:=by
 have hl:=h.lt;obtain⟨es,g,d,seen,c0,hm,hi,f⟩:=h;exact⟨es,g,d,seen,c0,hm.kept hk hb,(hk.block r hl.1 hr).trans hi,f⟩
theorem rangeLeft_kept{T:List Nat}{w:World}{b r:Nat}(hk:Keep T w w')(hb:b∉T)(hr:r∉T)(f:b<w.heap.size)(d:r<w.heap.size):w'.rangeLeft b r=w.rangeLeft b r:=by
 unfold rangeLeft;rw[hk.block b f hb,hk.block r d hr]
theorem RangeAt.sub(h:RangeAt w b r kv vv ok M S):∀p∈S,p∈M:=by
 obtain⟨es,f,d,seen,c0,hm,hr,_,_,_,_,hs,_⟩:=h;exact hs
theorem RangeAt.nodup(h:RangeAt w b r kv vv ok M S):S.Nodup:=by
 obtain⟨es,f,d,seen,c0,hm,hr,_,_,_,hs,_,_⟩:=h;exact hs
theorem nodup_len{α:Type}:∀ {S M:List α},S.Nodup->(∀x∈S,x∈M)->S.length<=M.length
 | [],_,_,_=>zL
 | x :: S,M,hn,hs=>by
  rw[nodup_cons]at hn;obtain⟨A,B,rfl⟩:=append_of_mem (hs x sI);have:=nodup_len (M:=A++B) hn.2 (λy hy=>by
   have h1:=hs y (by simp[hy]);rcases mem_append.1 h1 with h | h
   ·exact mem_append.2 (.inl h)
   ·rcases mem_cons.1 h with h | h
    ·subst h;exact absurd hy hn.1
    ·exact mem_append.2 (.inr h))
  simp at this |-;omega
theorem RangeAt.length(h:RangeAt w b r kv vv ok M S):S.length<=M.length:=nodup_len h.nodup h.sub
theorem MapAt.range{T E':TypeId}(h:MapAt w b kv vv ok M es clk)(ht:P.underlying T=some (.map K E')) :
  ∃w',(Instr.range T (.map (some b))).run P w=.ok (.pointer (some ⟨w.heap.size,0,none⟩)) w'/\RangeAt w' b w.heap.size kv vv ok M []/\Below w.heap.size w w'/\w'.heap.size=w.heap.size+1:=by
 refine⟨_,run_range_map w T K E' b es clk ht h.heap,⟨es,clk,clk,#[],clk,h.kept (Keep.alloc _ _) sI,heap_alloc_new w _,h.clock,lR,lR,nodup_nil,sI,?_⟩,bA,sI⟩;intro j e p _ _
 simp
theorem RangeAt.next(h:RangeAt w b r kv vv ok M S)(ty:TypeId) :
  (S.Perm M/\(Instr.next (.pointer (some ⟨r,0,none⟩)) false ty).run P w=.ok (.tuple #[.bool false]) w) \/
  ∃p w',p∈M/\p∉S/\(Instr.next (.pointer (some ⟨r,0,none⟩)) false ty).run P w=.ok (.tuple #[.bool true,kv p.1,vv p.2]) w'/\RangeAt w' b r kv vv ok M (S ++ [p])/\Keep [r] w w'/\w'.heap.size=w.heap.size /\
   w'.rangeLeft b r<w.rangeLeft b r/\(Instr.entry (.pointer (some ⟨r,0,none⟩))).run P w'=.ok (.tuple #[kv p.1,vv p.2]) w':=by
 have E:=h.ne;obtain⟨es,g,d,seen,c0,hm,hr,B,N,F,H,A,s⟩:=h;rcases run_next_at (P:=P) w ty r b d c0 seen es g hr hm.heap B N with⟨h0,hrun⟩ | ⟨e,he,w1,hal,hrun⟩
 ·refine .inl ⟨?_,hrun⟩;refine(perm_ext_iff_of_nodup H hm.nodupP).2 λp=>⟨A p,λhp=>?_⟩;obtain⟨j,hj,rfl⟩:=mem_iff_getElem.1 hp;obtain⟨e,he,_,_⟩:=hm.at_ (getElem?_eq_getElem hj);exact(s j e _ he (getElem?_eq_getElem hj)).2 (all_seen es seen h0 e (mem_of_getElem? he))
 ·obtain⟨J,I⟩:=mem_left he;obtain⟨j,hj,rfl⟩:=mem_iff_getElem.1 J;have D:es.toList[j]?=some es.toList[j]:=getElem?_eq_getElem hj;obtain⟨p,hp,hk,hv⟩:=hm.at_key D;have O:w1.heap[r]?=some (.mapIter (some b) d seen c0):=by rcases hal with rfl | rfl <;> exact hr
  have L:w1.heap[b]?=some (.map es g):=by rcases hal with rfl | rfl <;> exact hm.heap
  have f:=MapKept.heap_set (o':=.mapIter (some b) d (seen.push es.toList[j].born) g) O;have m:Keep [r] w (setBlock w1 r (.mapIter (some b) d (seen.push es.toList[j].born) g)):=by
   rcases hal with rfl | rfl
   ·exact⟨rfl,rfl,rfl,by simp[setBlock],λk _ hn=>f.2 k (by simpa using hn)⟩
   ·exact⟨rfl,rfl,rfl,by simp[setBlock],λk _ hn=>f.2 k (by simpa using hn)⟩
  have R:MapAt (setBlock w1 r (.mapIter (some b) d (seen.push es.toList[j].born) g)) b kv vv ok M es g:=hm.kept m (by simpa using λe=>E e.symm);have G:p∉S:=λhm=>(by rw[(s j _ p D hp).1 hm]at I;cases I);refine .inr ⟨p,_,mem_of_getElem? hp,G,by rw[hrun,hk,hv],⟨es,g,d,seen.push es.toList[j].born,g,R,f.1,B,F,F,?_,?_,?_⟩,m,?_,?_,?_⟩
  ·rw[nodup_append];refine⟨H,sI,λa ha c hc e=>?_⟩;simp at hc;subst hc;subst e;exact G ha
  ·intro q hq;rcases mem_append.1 hq with hq | hq
   ·exact A q hq
   ·simp at hq;subst hq;exact mem_of_getElem? hp
  ·intro j' e' p' y t;rw[contains_push,mem_append,Bool.or_eq_true,s j' e' p' y t];refine or_congr Iff.rfl ?_;simp only[mem_singleton,beq_iff_eq];constructor
   ·intro e1;subst e1;have:j'=j:=nodup_inj hm.nodupP t hp;subst this;rw[D]at y;injection y with y
    rw[y]
   ·intro e1;have e2:(es.toList.map (·.born))[j']?=some e'.born:=by rw[getElem?_map,y];rfl
    have e3:(es.toList.map (·.born))[j]?=some e'.born:=by rw[getElem?_map,D,e1];rfl
    have:j'=j:=nodup_inj hm.born e2 e3;subst this;rw[hp]at t;injection t with t
    exact t.symm
  ·rcases hal with rfl | rfl <;> simp[setBlock]
  ·unfold rangeLeft;have q1:(setBlock w1 r (.mapIter (some b) d (seen.push es.toList[j].born) g)).heap[b]?=some (.map es g):=(f.2 b (λe=>E e.symm)).trans L;have q2:(setBlock w1 r (.mapIter (some b) d (seen.push es.toList[j].born) g)).heap[r]?=some (.mapIter (some b) d (seen.push es.toList[j].born) g):=f.1;rw[q1,q2,hm.heap,hr];exact left_shrinks es seen _ he
  ·have:=run_entry_at (P:=P) (setBlock w1 r (.mapIter (some b) d (seen.push es.toList[j].born) g)) r b d seen es g es.toList[j] f.1 (f.2 b (λe=>E e.symm) |>.trans L) J hm.born;rw[hk,hv]at this;exact this
def delL[DecidableEq κ](M:List (κ×ν))(k:κ):List (κ×ν):=M.filter (λp=>decide (p.1≠k))
theorem filter_erase[DecidableEq κ]:∀ {M:List (κ×ν)},(M.map (·.1)).Nodup->∀ {j:Nat} {p:κ×ν},M[j]?=some p->M.eraseIdx j=delL M p.1
 | [],_,j,p,h=>by simp at h
 | x :: l,hn,j,p,h=>by
  rw[map_cons,nodup_cons]at hn;unfold delL;cases j with
  | zero =>
   simp at h;subst h;rw[eraseIdx_cons_zero,filter_cons,if_neg sI];refine(filter_eq_self.2 λy hy=>?_).symm;simp only[decide_eq_true_eq];intro e;exact hn.1 (mem_map.2 ⟨y,hy,e⟩)
  | succ j =>
   simp at h;rw[eraseIdx_cons_succ,filter_cons,if_pos,filter_erase hn.2 h]
   ·rfl
   ·simp only[decide_eq_true_eq];intro e;exact hn.1 (mem_map.2 ⟨p,mem_of_getElem? h,e.symm⟩)
theorem delL_none[DecidableEq κ]{M:List (κ×ν)}{k:κ}(h:k∉M.map (·.1)):delL M k=M :=
 filter_eq_self.2 λp hp=>by
  simp only[decide_eq_true_eq];intro e;exact h (mem_map.2 ⟨p,hp,e⟩)
theorem mem_delL[DecidableEq κ]{M:List (κ×ν)}{k:κ}{p:κ×ν}:p∈delL M k↔p∈M/\p.1≠k:=by simp[delL]
theorem map_eraseIdx'{α:Type}(f:α->β)(l:List α)(j:Nat):(l.eraseIdx j).map f=(l.map f).eraseIdx j:=by
 induction l generalizing j with
 | nil=>rfl
 | cons x l ih=>cases j <;> simp[ih]
theorem MapAt.delete[DecidableEq κ]{ty:TypeId}(h:MapAt w b kv vv ok M es clk)(E:KeyEnc P K kv ok)(ht:P.underlying T=some (.map K E')){k:κ}(hk:ok k) :
  ∃w' es',(Builtin.delete_ #[T,K] ty #[.map (some b),kv k]).run P w=.ok (.tuple #[]) w'/\MapAt w' b kv vv ok (delL M k) es' clk/\Keep [b] w w':=by
 obtain⟨l,hl⟩:=E.key k hk;rcases h.find E hk with⟨hrun,hno⟩ | ⟨j,p,hrun,hp,hpk⟩
 ·refine⟨_,es,?_,⟨heap_setObj _ h.lt,?_,?_,?_,?_,h.born,h.clock⟩,keep_setObj w b _⟩
  ·simp only[Builtin.delete_,getElem?_toArray,getElem?_cons_zero,getElem?_cons_succ,Sem.run_bind,run_underlying ht,Result.andThen_ok,run_getObj_map h.heap,E.law.check w es.isEmpty hl,hrun,run_setObj' h.heap,Sem.run_pure]
  all_goals rw[delL_none hno]
  ·exact h.keys
  ·exact h.vals
  ·exact h.nodup
  ·exact h.okk
 ·obtain⟨e0,g,r,m⟩:=h.at_ hp;have f:j<es.size:=by
   have:=(List.getElem?_eq_some_iff.1 g).1;simpa using this
  have d:(es.eraseIdxIfInBounds j).toList=es.toList.eraseIdx j:=by
   unfold Array.eraseIdxIfInBounds;rw[dif_pos f];simp
  have hd:delL M k=M.eraseIdx j:=by rw[filter_erase h.nodup hp,hpk]
  refine⟨_,es.eraseIdxIfInBounds j,?_,⟨heap_setObj _ h.lt,?_,?_,?_,?_,?_,?_⟩,keep_setObj w b _⟩
  ·simp only[Builtin.delete_,getElem?_toArray,getElem?_cons_zero,getElem?_cons_succ,Sem.run_bind,run_underlying ht,Result.andThen_ok,run_getObj_map h.heap,E.law.check w es.isEmpty hl,hrun,run_setObj' h.heap,Sem.run_pure]
  ·rw[d,hd,map_eraseIdx',map_eraseIdx',h.keys]
  ·rw[d,hd,map_eraseIdx',map_eraseIdx',h.vals]
  ·rw[hd,map_eraseIdx'];exact h.nodup.sublist (eraseIdx_sublist _ _)
  ·rw[hd];exact λq hq=>h.okk q ((eraseIdx_sublist _ _).subset hq)
  ·rw[d,map_eraseIdx'];exact h.born.sublist (eraseIdx_sublist _ _)
  ·rw[d];exact λq hq=>h.clock q ((eraseIdx_sublist _ _).subset hq)
end
end
section
section
variable {P:Program} {K T E':TypeId} {κ:Type} {kv:κ->Value} {ok:κ->Prop} {w w':World} {b:Nat} {L L':List κ} {x:κ}
def SetAt(w:World)(b:Nat)(kv:κ->Value)(ok:κ->Prop)(L:List κ):Prop :=
 ∃M es clk,MapAt w b kv Value.bool ok M es clk/\(∀x,x∈M.map (·.1)↔x∈L)/\∀p∈M,p.2=true
theorem SetAt.congr(h:SetAt w b kv ok L)(hl:∀x,x∈L↔x∈L'):SetAt w b kv ok L':=by
 obtain⟨M,es,d,hm,hk,ht⟩:=h;exact⟨M,es,d,hm,λx=>(hk x).trans (hl x),ht⟩
theorem SetAt.lt(h:SetAt w b kv ok L):b<w.heap.size:=by
 obtain⟨M,es,d,hm,_⟩:=h;exact hm.lt
theorem SetAt.kept{S:List Nat}(h:SetAt w b kv ok L)(k:Keep S w w')(hb:b∉S):SetAt w' b kv ok L:=by
 obtain⟨M,es,d,hm,hk⟩:=h;exact⟨M,es,d,hm.kept k hb,hk⟩
theorem SetAt.below(h:SetAt w b kv ok L)(k:Below w.heap.size w w'):SetAt w' b kv ok L:=h.kept (Keep.of_below k) sI
theorem SetAt.new(w:World)(b:Nat)(hb:b=w.heap.size):SetAt (w.alloc (.map #[] 0)) b kv ok []:=⟨[],#[],0,MapAt.new w b hb,sI,sI⟩
theorem SetAt.hit(h:SetAt w b kv ok L)(E:KeyEnc P K kv ok)(ht:P.underlying T=some (.map K E'))(hk:ok x)(hx:x∈L) :
  (Instr.lookup T (.map (some b)) (kv x) false).run P w=.ok (.bool true) w:=by
 obtain⟨M,es,g,hm,f,d⟩:=h;obtain⟨p,hp,rfl⟩:=mem_map.1 ((f x).2 hx);have h1:(p.1,true)∈M:=by
  have:=d p hp
  rwa [show(p.1,true)=p from by cases p;simp_all]
 exact hm.hit E ht hk h1 false
theorem SetAt.miss(h:SetAt w b kv ok L)(E:KeyEnc P K kv ok)(ht:P.underlying T=some (.map K E'))(hz:∀w,(zeroValue E').run P w=.ok (.bool false) w)(hk:ok x)(hx:x∉L) :
  (Instr.lookup T (.map (some b)) (kv x) false).run P w=.ok (.bool false) w:=by
 obtain⟨M,es,g,hm,d,f⟩:=h;exact hm.miss E ht (hz w) hk (λh=>hx ((d x).1 h)) false
theorem SetAt.put[DecidableEq κ](h:SetAt w b kv ok L)(E:KeyEnc P K kv ok)(ht:P.underlying T=some (.map K E'))(hk:ok x) :
  ∃w',(Instr.mapUpdate T (.map (some b)) (kv x) (.bool true)).run P w=.ok () w'/\SetAt w' b kv ok (x :: L)/\Keep [b] w w':=by
 obtain⟨M,es,s,hm,g,k⟩:=h;obtain⟨w',r,j,f,m,d⟩:=hm.update (v:=true) E ht hk;refine⟨w',f,⟨_,r,j,m,?_,?_⟩,d⟩
 ·intro y;unfold putL;split
  ·rename_i hin
   have e:(M.map λp=>if p.1=x then(x,true)else p).map (·.1)=M.map (·.1):=by
    rw[map_map];refine map_congr_left λp _=>?_;simp only[Function.comp_apply];split
    ·rename_i h;exact h.symm
    ·rfl
   rw[e,g,mem_cons];exact⟨.inr,λh=>h.elim (λh=>by subst h;exact(g _).1 hin) id⟩
  ·rw[map_append,mem_append,g,mem_cons];simp only[map_cons,map_nil,mem_singleton];exact Or.comm
 ·intro p hp;unfold putL at hp;split at hp
  ·obtain⟨q,hq,rfl⟩:=mem_map.1 hp;split
   ·rfl
   ·exact k q hq
  ·rcases mem_append.1 hp with hp | hp
   ·exact k p hp
   ·simp at hp;subst hp;rfl
theorem SetAt.del[DecidableEq κ](h:SetAt w b kv ok L)(E:KeyEnc P K kv ok)(ht:P.underlying T=some (.map K E'))(hk:ok x)(ty:TypeId) :
  ∃w',(Builtin.delete_ #[T,K] ty #[.map (some b),kv x]).run P w=.ok (.tuple #[]) w'/\SetAt w' b kv ok (L.filter λy=>decide (y≠x))/\Keep [b] w w':=by
 obtain⟨M,es,r,hm,k,g⟩:=h;obtain⟨w',m,f,j,d⟩:=hm.delete (ty:=ty) E ht hk;refine⟨w',f,⟨_,m,r,j,?_,?_⟩,d⟩
 ·intro y;simp only[mem_map,mem_delL,mem_filter,decide_eq_true_eq,<-k];constructor
  ·rintro⟨p,⟨h1,h2⟩,rfl⟩;exact⟨⟨p,h1,rfl⟩,h2⟩
  ·rintro⟨⟨p,h1,rfl⟩,h2⟩;exact⟨p,⟨h1,h2⟩,rfl⟩
 ·intro p hp;exact g p (mem_delL.1 hp).1
def SetRange(w:World)(b r:Nat)(kv:κ->Value)(ok:κ->Prop)(L S:List κ):Prop :=
 ∃M Z,RangeAt w b r kv Value.bool ok M Z/\(∀x,x∈M.map (·.1)↔x∈L)/\(∀p∈M,p.2=true)/\Z.map (·.1)=S/\(M.map (·.1)).Nodup
theorem SetRange.lt{r:Nat}{S:List κ}(h:SetRange w b r kv ok L S):r<w.heap.size/\b<w.heap.size:=by
 obtain⟨M,Z,h,_⟩:=h;exact h.lt
theorem SetRange.kept{r:Nat}{S:List κ}{A:List Nat}(h:SetRange w b r kv ok L S)(k:Keep A w w')(hb:b∉A)(hr:r∉A):SetRange w' b r kv ok L S:=by
 obtain⟨M,Z,h,d⟩:=h;exact⟨M,Z,h.kept k hb hr,d⟩
theorem SetAt.range(h:SetAt w b kv ok L)(ht:P.underlying T=some (.map K E')) :
  ∃w',(Instr.range T (.map (some b))).run P w=.ok (.pointer (some ⟨w.heap.size,0,none⟩)) w'/\SetRange w' b w.heap.size kv ok L []/\Below w.heap.size w w'/\w'.heap.size=w.heap.size+1:=by
 obtain⟨M,es,j,hm,g,f⟩:=h;obtain⟨w',d,hr,hb,hs⟩:=hm.range ht;exact⟨w',d,⟨M,[],hr,g,f,rfl,hm.nodup⟩,hb,hs⟩
theorem SetRange.next{r:Nat}{S:List κ}(h:SetRange w b r kv ok L S)(ty:TypeId) :
  ((∀x,x∈S↔x∈L)/\S.Nodup/\(Instr.next (.pointer (some ⟨r,0,none⟩)) false ty).run P w=.ok (.tuple #[.bool false]) w) \/
  ∃x w',x∈L/\x∉S/\(Instr.next (.pointer (some ⟨r,0,none⟩)) false ty).run P w=.ok (.tuple #[.bool true,kv x,.bool true]) w'/\SetRange w' b r kv ok L (S ++ [x])/\Keep [r] w w'/\w'.heap.size=w.heap.size /\
   w'.rangeLeft b r<w.rangeLeft b r/\(Instr.entry (.pointer (some ⟨r,0,none⟩))).run P w'=.ok (.tuple #[kv x,.bool true]) w':=by
 obtain⟨M,Z,hR,g,k,rfl,f⟩:=h;rcases hR.next (P:=P) ty with⟨hp,hrun⟩ | ⟨p,w',hpM,hpZ,hrun,hR',hk,hs,hl,hen⟩
 ·refine .inl ⟨λx=>?_,(hp.map (·.1)).nodup_iff.2 f,hrun⟩;rw[(hp.map (·.1)).mem_iff,g]
 ·have hv:=k p hpM;rw[hv]at hrun hen;refine .inr ⟨p.1,w',(g _).1 (mem_map.2 ⟨p,hpM,rfl⟩),?_,hrun,⟨M,Z ++ [p],hR',g,k,sI,f⟩,hk,hs,hl,hen⟩;intro hm;obtain⟨q,hq,he⟩:=mem_map.1 hm;have s:=hR.sub q hq;obtain⟨i,hi,m⟩:=mem_iff_getElem.1 hpM;obtain⟨j,hj,d⟩:=mem_iff_getElem.1 s;have e1:(M.map (·.1))[i]?=some p.1:=by rw[getElem?_map,getElem?_eq_getElem hi,m];rfl
  have e2:(M.map (·.1))[j]?=some p.1:=by rw[getElem?_map,getElem?_eq_getElem hj,d];simp[he]
  have:i=j:=nodup_inj f e1 e2;subst this;rw[m]at d;subst d;exact hpZ hq
end
end
end Go.Proofs.YtplpiicfkbpkaaaGreatDoor
