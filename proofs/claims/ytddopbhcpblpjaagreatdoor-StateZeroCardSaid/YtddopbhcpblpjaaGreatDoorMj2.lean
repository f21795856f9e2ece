/- Part 2 of the texts that lead to this claim: the walks of the functions and the plain law, in order. -/
import Derived.Test.YtddopbhcpblpjaaGreatDoorMj1
import Derived.IntWalk
import Derived.Lib.Bytealg
import Derived.Sort.LotA
import Derived.DeepKeys5
import Derived.StringKeys
import Derived.Maps.OwnOps
import Derived.Maps.Range
namespace Go.Proofs.YtddopbhcpblpjaaGreatDoor
open Go.RowKit
open List hiding and get max min or set
open Go.Proofs.Tryz
open World
set_option maxRecDepth 100000
set_option maxHeartbeats 8000000
variable {w w':World}{g j:Nat}{c e:Int}{S:List Nat}{s:ByteArray}{β:Type}{E' T ty:TypeId}{ats:Array TypeId}
structure Rd where
 s:ByteArray
 p:Int
 bad:Int
 made:Bool
def rdC(x:Rd):Array Value:=#[.string x.s] ++ #[.int .i64 x.p] ++ #[.int .i64 x.bad] ++ #[.bool x.made]
@[simp] theorem rdC_size(x:Rd):(rdC x).size=4:=by simp[rdC]
@[go_sem] theorem rdC_g0(x:Rd):(rdC x)[0]?=some (.string x.s):=by first | (simp[rdC,Array.getElem?_append];done) | (rw[show rdC x=((#[]:Array Value)) ++ #[.string x.s]++(#[.int .i64 x.p] ++ #[.int .i64 x.bad] ++ #[.bool x.made])from by apply Array.ext';simp[rdC]];exact xJ _ _ _ _ sI)
@[go_sem] theorem rdC_gg0(x:Rd)(h:0<(rdC x).size):(rdC x)[0]'h=.string x.s:=Option.some.inj ((Array.getElem?_eq_getElem h).symm.trans (rdC_g0 x))
@[go_sem] theorem rdC_g1(x:Rd):(rdC x)[1]?=some (.int .i64 x.p):=by first | (simp[rdC,Array.getElem?_append];done) | (rw[show rdC x=(#[.string x.s]) ++ #[.int .i64 x.p]++(#[.int .i64 x.bad] ++ #[.bool x.made])from by apply Array.ext';simp[rdC]];exact xJ _ _ _ _ sI)
@[go_sem] theorem rdC_gg1(x:Rd)(h:1<(rdC x).size):(rdC x)[1]'h=.int .i64 x.p:=Option.some.inj ((Array.getElem?_eq_getElem h).symm.trans (rdC_g1 x))
@[go_sem] theorem rdC_g2(x:Rd):(rdC x)[2]?=some (.int .i64 x.bad):=by first | (simp[rdC,Array.getElem?_append];done) | (rw[show rdC x=(#[.string x.s] ++ #[.int .i64 x.p]) ++ #[.int .i64 x.bad]++(#[.bool x.made])from by apply Array.ext';simp[rdC]];exact xJ _ _ _ _ sI)
@[go_sem] theorem rdC_gg2(x:Rd)(h:2<(rdC x).size):(rdC x)[2]'h=.int .i64 x.bad:=Option.some.inj ((Array.getElem?_eq_getElem h).symm.trans (rdC_g2 x))
@[go_sem] theorem rdC_g3(x:Rd):(rdC x)[3]?=some (.bool x.made):=by first | (simp[rdC,Array.getElem?_append];done) | (rw[show rdC x=(#[.string x.s] ++ #[.int .i64 x.p] ++ #[.int .i64 x.bad]) ++ #[.bool x.made]++((#[]:Array Value))from by apply Array.ext';simp[rdC]];exact xJ _ _ _ _ sI)
@[go_sem] theorem rdC_gg3(x:Rd)(h:3<(rdC x).size):(rdC x)[3]'h=.bool x.made:=Option.some.inj ((Array.getElem?_eq_getElem h).symm.trans (rdC_g3 x))
def rd0:Rd:=⟨⟨#[]⟩,0,0,false⟩
theorem Rd_ext{x y:Rd}(h:x.s=y.s/\x.p=y.p/\x.bad=y.bad/\x.made=y.made):x=y:=by cases x;cases y;simp_all
instance:DecidableEq Rd:=λx y=>if h:x.s=y.s/\x.p=y.p/\x.bad=y.bad/\x.made=y.made then isTrue (Rd_ext h)else isFalse (λe=>h (by subst e;simp))
@[go_sem ↓] theorem kw(w:World):(zeroValue 225).run prog w=.ok (.agg (rdC rd0)) w:=by
 have h:(prog.info? 225).bind (·.zero)=some (.agg (rdC rd0)):=kR;cases hi:prog.info? 225 with
 | none=>rw[hi]at h;cases h
 | some i =>
  rw[hi]at h;have hz:i.zero=some (.agg (rdC rd0)):=h;simp[zeroValue,typeInfo,hi,hz]
@[go_sem ↓] theorem loadRd_rw(a:Addr):loadVar 225 a=ldS 225 a:=rfl
@[go_sem ↓] theorem storeRd_rw(a:Addr)(v:Value):storeVar 225 a v=stS 225 a v:=rfl
theorem fieldsRd:prog.underlying 225=some (.struct (prog.fieldsOf 225)):=kR
theorem placesRd(w:World):((prog.fieldsOf 225).mapM fun (f:Field)=>do pure (f.offset,<-sizeOf f.type)).run prog w=.ok #[(0,1),(1,1),(2,1),(3,1)] w:=kR
@[go_sem ↓] theorem buildRd_rw(parts:Array (Nat×Value)):Instr.build 225 parts=bdS 225 parts:=rfl
@[go_sem] theorem buildRd_0_3(a0:ByteArray)(a3:Bool)(w:World):(bdS 225 #[(0,.string a0),(3,.bool a3)]).run prog w=.ok (.agg (rdC ⟨a0,0,0,a3⟩)) w:=by
 refine qO w fieldsRd _ (kw w) _ (placesRd w) [(0,.string a0),(3,.bool a3)] _ ?_;rw[show rdC rd0=(#[]:Array Value) ++ #[.string ⟨#[]⟩]++(#[.int .i64 0]++(#[.int .i64 0]++(#[.bool false])))from by first | (simp[rdC,rd0,Array.append_assoc];done) | (apply Array.ext';simp[rdC,rd0])];rw[yW (off:=0) (size:=1) rfl sI sI (by simp[Value.cells])];rw[show(#[]:Array Value)++(Value.string a0).cells++(#[.int .i64 0]++(#[.int .i64 0]++(#[.bool false])))=(#[.string a0]++(#[.int .i64 0]++(#[.int .i64 0]))) ++ #[.bool false]++(#[]:Array Value)from by first | (simp[Value.cells,Array.append_assoc];done) | (apply Array.ext';simp[Value.cells];done) | (apply Array.ext';simp only[Array.toList_append];simp[Value.cells])];rw[yW (off:=3) (size:=1) rfl sI sI (by simp[Value.cells])];first | (simp[Instr.fill,rdC,Array.append_assoc,Value.cells];done) | (simp only[Instr.fill,rdC];congr 1;apply Array.ext';simp[Value.cells];done) | (simp only[Instr.fill,rdC];congr 1;done) | (simp only[Instr.fill,rdC];done)
def mkB(l:List UInt8):ByteArray:=⟨l.toArray⟩
def yX(n:Nat)(l:List UInt8)(e:Int):List UInt8:=if e=0/\n<=l.length then l.take n else[]
def zM(n:Nat)(l:List UInt8)(e:Int):List UInt8:=if e=0/\n<=l.length then l.drop n else l
def zN(n:Nat)(l:List UInt8)(e:Int):Int:=if e=0 then(if n<=l.length then 0 else 2)else e
def beN(l:List UInt8):Nat:=l.foldl (λn c=>256*n+c.toNat) 0
def jE(l:List UInt8)(e:Int):Int:=if e=0 then(if l = []then 0 else 4)else e
theorem beN_snoc(l:List UInt8)(c:UInt8):beN (l ++ [c])=256*beN l+c.toNat:=by simp[beN]
theorem jp:∀(l:List UInt8) (a:Nat),l.foldl (λn c=>256*n+c.toNat) a<(a+1)*256 ^ l.length
 | [],a=>by simp
 | c :: l,a=>by
  have h:=jp l (256*a+c.toNat);have hc:=c.toNat_lt;simp only[foldl_cons,length_cons];refine Nat.lt_of_lt_of_le h ?_;rw[Nat.pow_succ,Nat.mul_comm (256 ^ l.length) 256,<-Nat.mul_assoc];refine Nat.mul_le_mul_right _ ?_;omega
theorem beN_lt(l:List UInt8):beN l<256 ^ l.length:=by have:=jp l 0;simpa[beN]using this
theorem nS(n:Nat)(l:List UInt8)(e:Int):(yX n l e).length<=n:=by unfold yX;split <;> simp;omega
def q7(w:World)(g:Nat)(l:List UInt8)(e:Int):Prop :=
 ∃(s:ByteArray) (a:Nat),a<=s.size/\s.size<=9223372036854775807/\w.heap[g]?=some (.cells (rdC ⟨s,a,e,true⟩) 225 (0,0))/\l=s.data.toList.drop a
theorem q7.lt{l:List UInt8}(h:q7 w g l e):g<w.heap.size:=by
 obtain⟨s,a,_,_,hg,_⟩:=h;exact(aG hg).1
theorem q7.kept{l:List UInt8}(h:q7 w g l e)(k:z8 S w w')(hg:g∉S):q7 w' g l e:=by
 have hl:=h.lt;obtain⟨s,a,h1,h2,h3,h4⟩:=h;exact⟨s,a,h1,h2,(k.block g hl hg).trans h3,h4⟩
theorem q7.below{l:List UInt8}(h:q7 w g l e)(k:Below w.heap.size w w'):q7 w' g l e:=h.kept (z8.of_below k) sI
theorem dP(s:ByteArray)(w:World)(hs:s.size<=9223372036854775807):Calls prog 93 #[.string s] w λe w'=>e=.returned (.pointer (some ⟨w.heap.size,0,none⟩))/\q7 w' w.heap.size s.data.toList 0/\Below w.heap.size w w':=by
 go_enter func93,ntmps93
 (go_wp2_with fail);go_ret;exact⟨rfl,⟨s,0,zL,hs,heap_alloc_new w _,sI⟩,bA⟩
theorem nR{a:Nat}(h:w.heap[g]?=some (.cells (rdC ⟨s,a,e,true⟩) 225 (0,0))) :
  w.cell? ⟨g,0,none⟩=some (.string s)/\w.cell? ⟨g,1,none⟩=some (.int .i64 a)/\w.cell? ⟨g,2,none⟩=some (.int .i64 e)/\w.cell? ⟨g,3,none⟩=some (.bool true)/\(∀j,w.frozen? ⟨g,j,none⟩=false):=by
 refine⟨?_,?_,?_,?_,λj=>by simp[frozen?,h]⟩ <;> rw[cell_of_row w g _ _ _ _ h] <;> simp[go_sem]
theorem rd_none(w:World)(g:Nat)(h:w.cell? ⟨g,3,none⟩=some (.bool true)):Calls prog 158 #[.pointer (some ⟨g,0,none⟩)] w λe w'=>e=.returned (.bool false)/\w=w':=by
 go_enter func158,ntmps158
 (go_wp2_with fail);go_ret;exact⟨rfl,rfl⟩
theorem lD(w:World)(g:Nat)(e:Int)(h:w.cell? ⟨g,3,none⟩=some (.bool true))(h2:w.cell? ⟨g,2,none⟩=some (.int .i64 e)):Calls prog 157 #[.pointer (some ⟨g,0,none⟩)] w λen w'=>en=.returned (.bool (!(e==0)))/\w=w':=by
 go_enter func157,ntmps157
 (go_wp2_with fail);refine(rd_none _ _ h).mono ?_;rintro en w' ⟨rfl,rfl⟩;(go_wp2_with fail);go_ret;refine⟨yI ?_,rfl⟩;first | rfl | simp
theorem xI(w:World)(g:Nat)(l:List UInt8)(e:Int)(h:q7 w g l e):Calls prog 95 #[.pointer (some ⟨g,0,none⟩)] w λen w'=>en=.returned (.int .i64 e)/\w=w':=by
 obtain⟨s,a,_,_,hg,_⟩:=h;obtain⟨_,_,c2,c3,_⟩:=nR hg;go_enter func95,ntmps95
 (go_wp2_with fail);refine(rd_none _ _ c3).mono ?_;rintro en w' ⟨rfl,rfl⟩;(go_wp2_with fail);go_ret;exact⟨rfl,rfl⟩
def tS(w:World)(g:Nat)(l:List UInt8)(e:Int)(w':World):Prop:=q7 w' g l e/\z8 [g] w w'
theorem dC(w:World)(g n:Nat)(l:List UInt8)(e:Int)(h:q7 w g l e)(hn:n<=9223372036854775807) :
  Calls prog 96 #[.pointer (some ⟨g,0,none⟩),.int .i64 n] w λen w'=>en=.returned (.string (mkB (yX n l e)))/\tS w g (zM n l e) (zN n l e) w':=by
 have h0:=h;obtain⟨s,a,ha,hs,hg,hl⟩:=h;obtain⟨c0,c1,c2,c3,hf⟩:=nR hg;have f1:=hf 1;have f2:=hf 2;have m:l.length=s.size-a:=by rw[hl,length_drop];rfl
 clear hf;cases he:(e==0)with
 | false =>
  have j:e≠0:=by simpa using he
  have e1:yX n l e = []:=by unfold yX;rw[if_neg (λhh=>j hh.1)]
  have e2:zM n l e=l:=by unfold zM;rw[if_neg (λhh=>j hh.1)]
  have e3:zN n l e=e:=by unfold zN;rw[if_neg j]
  have E1:=dH e1;have E2:=dH e2;have E3:=dH e3;have H0:=dH h0;clear e1 e2 e3 hl m h0 j;go_enter func96,ntmps96
  (go_wp2_with fail);refine(lD _ _ e c3 c2).mono ?_;rintro en w' ⟨rfl,rfl⟩;(go_wp2_with fail);go_ret;exact⟨BG (by rw[E1.out];rfl),by rw[E2.out,E3.out];exact⟨H0.out,z8.refl _ _⟩⟩
 | true =>
  obtain rfl:e=0:=by simpa using he
  clear he;by_cases d:n<=l.length
  ·have e1:yX n l 0=l.take n:=by unfold yX;rw[if_pos ⟨rfl,d⟩]
   have e2:zM n l 0=l.drop n:=by unfold zM;rw[if_pos ⟨rfl,d⟩]
   have e3:zN n l 0=0:=by unfold zN;rw[if_pos rfl,if_pos d]
   have E1:=dH e1;have E2:=dH e2;have E3:=dH e3;have r:¬(s.size:Int)-a<n:=oM;have D:a+n<=s.size:=oM;have Hl:=dH hl;have Hg:=dH hg;clear e1 e2 e3 hl m h0 d hg;have k:decide ((s.size:Int)-a<n)=false:=by simpa using r
   have w1:IntKind.i64.wrap ((s.size:Int)-a)=(s.size:Int)-a:=IntWalk.i64_in _ oM;have y:decide ((n:Int)<0)=false:=sI;clear r;go_enter func96,ntmps96
   (go_wp2_with fail);refine(lD _ _ 0 c3 c2).mono ?_;rintro en w' ⟨rfl,rfl⟩;go_upto_region 6 with fail
   refine lX w ?_;intro f hS;have b1:=zJ c0;have b2:=zJ c1;refine lZ ?_;refine zC ?_;intro hS;clear f hS b1 b2 w1;go_upto_region 10 with fail
   have d0:(w.setCell ⟨g,1,none⟩ (.int .i64 ((a:Int)+n))).drew.cell? ⟨g,0,none⟩=some (.string s):=by go_simp
   have d1:(w.setCell ⟨g,1,none⟩ (.int .i64 ((a:Int)+n))).drew.cell? ⟨g,1,none⟩=some (.int .i64 ((a:Int)+n)):=by go_simp
   have B:(w.setCell ⟨g,1,none⟩ (.int .i64 ((a:Int)+n))).drew.heap[g]?=some (.cells (rdC ⟨s,(a+n:Nat),0,true⟩) 225 (0,0)):=by
    show(w.setCell ⟨g,1,none⟩ (.int .i64 ((a:Int)+n))).heap[g]?=_;rw[zE Hg.out];simp[rdC]
   have A:z8 [g] w (w.setCell ⟨g,1,none⟩ (.int .i64 ((a:Int)+n))).drew:=z8.trans (z8.setCell w ⟨g,1,none⟩ _) (z8.drew _) sI;have w2:IntKind.i64.wrap ((a:Int)+n-n)=a:=by rw[(oM:(a:Int)+n-n=a)];exact IntWalk.i64_in _ oM
   have w3:IntKind.i64.wrap (a:Int)=a:=IntWalk.i64_in _ oM;have t:s.extract a (a+n)=mkB (l.take n):=by
    rw[Hl.out];apply ByteArray.ext;apply Array.toList_inj.mp;rw[ByteArray.data_extract,Array.toList_extract];simp[mkB,extract_eq_take_drop]
   have E:=dH t;clear t c0 c1 c2 c3 f1 f2;have k1:(0:Int)<=(a:Int)+n:=oM;have k2:(a:Int)+n<=s.size:=oM;have k3:(a:Int)<=(a:Int)+n:=oM;have k4:((a:Int)+n).toNat=a+n:=oM;generalize (w.setCell ⟨g,1,none⟩ (.int .i64 ((a:Int)+n))).drew=W at *;refine lX W ?_;intro f hS;have b1:=zJ d0;have b2:=zJ d1;refine lZ ?_;refine zC ?_;intro hS;clear k1 k2 k3 k4 w2 w3;(go_wp2_with fail);go_ret;refine⟨BG (by rw[E1.out];exact E.out),?_⟩;rw[E2.out,E3.out];exact⟨⟨s,a+n,D,hs,B,by rw[Hl.out,drop_drop]⟩,z8.trans A (z8.drew _) sI⟩
  ·have e1:yX n l 0 = []:=by unfold yX;rw[if_neg (λhh=>d hh.2)]
   have e2:zM n l 0=l:=by unfold zM;rw[if_neg (λhh=>d hh.2)]
   have e3:zN n l 0=2:=by unfold zN;rw[if_pos rfl,if_neg d]
   have E1:=dH e1;have E2:=dH e2;have E3:=dH e3;have k:decide ((s.size:Int)-a<n)=true:=sO;have Hl:=dH hl;have Hg:=dH hg;clear e1 e2 e3 hl m h0 d hg;have w1:IntKind.i64.wrap ((s.size:Int)-a)=(s.size:Int)-a:=IntWalk.i64_in _ oM;have y:decide ((n:Int)<0)=false:=sI;go_enter func96,ntmps96
   (go_wp2_with fail);refine(lD _ _ 0 c3 c2).mono ?_;rintro en w' ⟨rfl,rfl⟩;go_upto_region 6 with fail
   refine lX w ?_;intro f hS;have b1:=zJ c0;have b2:=zJ c1;refine lZ ?_;refine zC ?_;intro hS;clear f hS b1 b2 w1;(go_wp2_with fail);go_ret;refine⟨BG (by rw[E1.out];rfl),?_⟩;rw[E2.out,E3.out];refine⟨⟨s,a,ha,hs,?_,Hl.out⟩,z8.trans (z8.setCell w ⟨g,2,none⟩ _) (z8.drew _) sI⟩;show(w.setCell ⟨g,2,none⟩ _).heap[g]?=_;rw[zE Hg.out];simp[rdC]
theorem dD(w:World)(g:Nat)(l:List UInt8)(e:Int)(h:q7 w g l e):Calls prog 144 #[.pointer (some ⟨g,0,none⟩)] w λen w'=>en=.returned (.int .i64 (jE l e))/\Below w.heap.size w w':=by
 have h0:=h;obtain⟨s,a,ha,hs,hg,hl⟩:=h;obtain⟨c0,c1,c2,c3,_⟩:=nR hg;have d:l.length=s.size-a:=by rw[hl,length_drop];rfl
 cases he:(e==0)with
 | false =>
  have j:e≠0:=by simpa using he
  have e1:jE l e=e:=by unfold jE;rw[if_neg j]
  have E1:=dH e1;have r:(e != 0)=true:=by simpa using j
  clear e1 hl d j;go_enter func144,ntmps144
  (go_wp2_with fail);refine(xI _ _ _ _ h0).mono ?_;rintro en w' ⟨rfl,rfl⟩;go_upto_region 2 with fail
  refine lX w ?_;intro k hS;refine lZ ?_;refine zC ?_;intro hS;(go_wp2_with fail);go_ret;exact⟨y9 (by rw[E1.out]),(Below.refl _ _).drew⟩
 | true =>
  obtain rfl:e=0:=by simpa using he
  clear he;by_cases hz:a=s.size
  ·have f:l = []:=eq_nil_of_length_eq_zero oM;have e1:jE l 0=0:=by unfold jE;rw[if_pos rfl,if_pos f]
   have E1:=dH e1;have m:((a:Int)==(s.size:Int))=true:=by rw[beq_iff_eq,hz]
   clear e1 hl d f hz;go_enter func144,ntmps144
   (go_wp2_with fail);refine(xI _ _ _ _ h0).mono ?_;rintro en w' ⟨rfl,rfl⟩;go_upto_region 2 with fail
   refine lX w ?_;intro k hS;have b1:=zJ c0;have b2:=zJ c1;refine lZ ?_;refine zC ?_;intro hS;(go_wp2_with fail);go_ret;exact⟨y9 (by rw[E1.out]),(Below.refl _ _).drew⟩
  ·have f:l≠[]:=by intro hh;rw[hh]at d;simp at d;omega
   have e1:jE l 0=4:=by unfold jE;rw[if_pos rfl,if_neg f]
   have E1:=dH e1;have m:((a:Int)==(s.size:Int))=false:=by rw[beq_eq_false_iff_ne];omega
   clear e1 hl d f hz;go_enter func144,ntmps144
   (go_wp2_with fail);refine(xI _ _ _ _ h0).mono ?_;rintro en w' ⟨rfl,rfl⟩;go_upto_region 2 with fail
   refine lX w ?_;intro k hS;have b1:=zJ c0;have b2:=zJ c1;refine lZ ?_;refine zC ?_;intro hS;(go_wp2_with fail);go_ret;exact⟨y9 (by rw[E1.out]),(Below.refl _ _).drew⟩
theorem aL(w:World)(e:TypeId)(s:ByteArray):Below w.heap.size w (Lib.bytesWorld w e s) :=
 ⟨rfl,rfl,rfl,by rw[Lib.bytesWorld_size];omega,λk hk=>Lib.bytesWorld_at_old w e s k hk⟩
theorem gV(l:List UInt8):(mkB l).size=l.length:=by show l.toArray.size=_;simp
theorem bits_or8(b x:Nat)(hb:b<16777216)(hx:x<256):bits BinOp.or IntKind.i64 ((b:Int)*256) (x:Int)=((256*b+x:Nat):Int):=by
 have h1:(BitVec.ofInt 64 ((b:Int)*256)).toNat=256*b:=by
  rw[BitVec.toNat_ofInt];have:((b:Int)*256) % ((2 ^ 64:Nat):Int)=((256*b:Nat):Int):=oM;rw[this];exact Int.toNat_natCast _
 have h2:(BitVec.ofInt 64 (x:Int)).toNat=x:=by
  rw[BitVec.toNat_ofInt];have:(x:Int) % ((2 ^ 64:Nat):Int)=(x:Int):=oM;rw[this];simp
 have h3:(BitVec.ofInt 64 ((b:Int)*256) ||| BitVec.ofInt 64 (x:Int)).toNat=256*b+x:=by
  rw[BitVec.toNat_or,h1,h2];have:=Nat.two_pow_add_eq_or_of_lt (i:=8) (b:=x) oM b;rw[show(2:Nat) ^ 8=256 from rfl]at this;exact this.symm
 show IntKind.i64.wrap (((BitVec.ofInt 64 ((b:Int)*256) ||| BitVec.ofInt 64 (x:Int)).toNat:Nat):Int)=_;rw[h3];exact IntWalk.i64_in _ oM
def yZ(M:Nat)(l:List UInt8)(e:Int):Nat:=beN (yX M l e)
theorem sC(w:World)(g M:Nat)(l:List UInt8)(e:Int)(h:q7 w g l e)(hM:M=1\/M=2\/M=4) :
  Calls prog 94 #[.pointer (some ⟨g,0,none⟩),.int .i64 M] w λen w'=>en=.returned (.int .i64 (yZ M l e))/\tS w g (zM M l e) (zN M l e) w':=by
 have h0:=h;obtain⟨s,a,ha,hs,hg,hl⟩:=h;obtain⟨_,_,c2,c3,_⟩:=nR hg;have Hh:=dH h0;clear hl hg ha hs h0;cases he:(e==0)with
 | false =>
  have m:e≠0:=by simpa using he
  have e1:yZ M l e=0:=by unfold yZ yX;rw[if_neg (λhh=>m hh.1)];rfl
  have e2:zM M l e=l:=by unfold zM;rw[if_neg (λhh=>m hh.1)]
  have e3:zN M l e=e:=by unfold zN;rw[if_neg m]
  have E1:=dH e1;have E2:=dH e2;have E3:=dH e3;clear e1 e2 e3 m;go_enter func94,ntmps94
  (go_wp2_with fail);refine(lD _ _ e c3 c2).mono ?_;rintro en w' ⟨rfl,rfl⟩;(go_wp2_with fail);go_ret;exact⟨y9 (by rw[E1.out];rfl),by rw[E2.out,E3.out];exact⟨Hh.out,z8.refl _ _⟩⟩
 | true =>
  obtain rfl:e=0:=by simpa using he
  clear he;have X:M<=4:=oM;have V:((8*(M:Int))==0)=false:=by rw[beq_eq_false_iff_ne];omega
  have H:(M:Int)=1\/(M:Int)=2\/(M:Int)=4:=oM;have R:=dH H;obtain⟨v,hv⟩:=eX (yX M l 0)
  have T:v.length<=4:=by have:=nS M l 0;rw[hv]at this;omega
  have I:Hid (yZ M l 0=beN v):=by show _=_;unfold yZ;rw[hv]
  have Hv:=dH hv;clear hM H hv;go_enter func94,ntmps94
  (go_wp2_with fail);refine(lD _ _ 0 c3 c2).mono ?_;rintro en w' ⟨rfl,rfl⟩;(go_wp2_with fail);refine(obits M _ R.out).mono ?_;rintro e w' ⟨rfl,rfl⟩;clear c2 c3;(go_wp2_with fail);refine(dC _ g M l 0 Hh.out oM).mono ?_;rintro e w1 ⟨rfl,t⟩;rw[Hv.out];have F:=Lib.run_convert_string_bytes (P:=prog) w1 9 127 5 (mkB v) underlying9 underlying127 underlying5;have r:=aL w1 5 (mkB v);have d:Hid (∀j (hj:j<v.length),(Lib.bytesWorld w1 5 (mkB v)).cell? ⟨w1.heap.size,j,none⟩=some (.int .u8 (v[j]).toNat)):=λj hj=>by
   have:=Lib.bytesWorld_cell w1 5 (mkB v) j (by rw[gV];exact hj);rw[this];simp[mkB,getD,hj]
  rw[gV]at F;obtain⟨W,hW⟩:=eX (Lib.bytesWorld w1 5 (mkB v))
  rw[hW]at F r d;have f:tS w g (zM M l 0) (zN M l 0) W:=⟨t.1.below r,z8.trans t.2 (z8.of_below r) sI⟩
  have N:=dH f;clear hW r t f;go_wp2_with fail
  go_loop [5,21] (λn i=>∃k:Nat,k<=v.length/\i=.int .i64 k/\n=.int .i64 (beN (v.take k))) (λ_ i=>v.length-(intOf i).toNat)
  case atStart=>exact⟨0,zL,rfl,rfl⟩
  case round =>
   obtain⟨k,hk,rfl,rfl⟩:=hrel;by_cases D:k<v.length
   ·have hc:=d.out k D;have B:v.take (k+1)=v.take k ++ [v[k]]:=by rw[take_add_one,getElem?_eq_getElem D];rfl
    have y:=beN_snoc (v.take k) v[k];rw[<-B]at y;have G:=beN_lt (v.take k);have E:(v.take k).length<=3:=sO;have A:beN (v.take k)<16777216:=Nat.lt_of_lt_of_le G (by have:=Nat.pow_le_pow_right (oM:0<256) E;simpa using this);have L:=(v[k]).toNat_lt;have O:=dH y;clear B y G E;obtain⟨x,hx⟩:=eX ((v[k]).toNat)
    obtain⟨b,hb⟩:=eX (beN (v.take k))
    rw[hx]at hc L;rw[hb]at A |-;go_wp2_with fail
    go_round
    case rel=>exact⟨k+1,oM,by go_num,by rw[bits_or8 b x oM oM,O.out,hb,hx]⟩
    case measure=>exact sZ
   ·have J:k=v.length:=oM;have e2:v.take k=v:=take_of_length_le oM;rw[e2];clear e2 J;(go_wp2_with fail);go_ret;exact⟨y9 (by rw[I.out]),N.out⟩
structure Rr where
 s:ByteArray
 e:Int
theorem Rr_ext{x y:Rr}(h:x.s=y.s/\x.e=y.e):x=y:=by cases x;cases y;simp_all
instance:DecidableEq Rr:=λx y=>if h:x.s=y.s/\x.e=y.e then isTrue (Rr_ext h)else isFalse (λe=>h (by subst e;simp))
def xQ(v:List UInt8):zA:=if h:v.length=32 then⟨v,h⟩ else id0
def idA(v:List UInt8)(k:Nat):Array Value:=((v.take k).map yG++replicate (32-k) (Value.int .u8 0)).toArray
theorem jj(v:List UInt8):idA v 0=idC id0:=by unfold idA;simp[idC];rfl
theorem idA_size(v:List UInt8)(k:Nat)(hk:k<=v.length)(d:k<=32):(idA v k).size=32:=by unfold idA;simp;omega
theorem idA_set(v:List UInt8)(k:Nat)(hk:k<v.length)(d:k<32):(idA v k).setIfInBounds k (.int .u8 (v[k]).toNat)=idA v (k+1):=by
 unfold idA;apply Array.ext';rw[Array.toList_setIfInBounds];have e:v.take (k+1)=v.take k ++ [v[k]]:=by rw[take_add_one,getElem?_eq_getElem hk];rfl
 have e2:32-k=(32-(k+1))+1:=oM;have e3:((v.take k).map yG).length=k:=sO;rw[e,e2,replicate_succ,set_append_right _ _ (by rw[e3];exact lR),e3,Nat.sub_self,map_append];simp[yG]
theorem idA_full(v:List UInt8)(h:v.length=32\/v = []):idA v v.length=idC (xQ v):=by
 rcases h with h | h
 ·unfold idA xQ;rw[dif_pos h,take_length,h];simp[idC]
 ·subst h;rw[show([]:List UInt8).length=0 from rfl,jj];rfl
theorem m9(l:List UInt8)(e:Int):(yX 32 l e).length=32\/yX 32 l e = []:=by
 unfold yX;split
 ·left;rename_i h;rw[length_take];omega
 ·exact .inr rfl
theorem zX{P:Program}{t:TypeId}{k:Nat}(hi:(P.info? t).map (·.size)=some k)(w:World)(g:Nat)(z cs:Array Value)(e:TypeId)(h:w.heap[g]?=some (.cells z e (0,0)))(hz:z.size=k)(hc:cs.size=k)(h1:∀u∈cs.toList,u.oneCell'=true) :
  (stS t ⟨g,0,none⟩ (.agg cs)).run P w=.ok () (w.setRow g cs):=by
 unfold stS storeVar;cases hinfo:P.info? t with
 | none=>rw[hinfo]at hi;cases hi
 | some i =>
  rw[hinfo]at hi;have hk:i.size=k:=by simpa using hi
  have d:=run_storeCells_at P g 0 e cs.toList 0 z w h sO h1;have hE:(z.toList.take (0+0)++cs.toList++z.toList.drop (0+0+cs.toList.length)).toArray=cs:=by
   rw[drop_of_length_le sO]
   simp
  rw[hE]at d;simp[Value.cells,sizeOf,typeInfo,hinfo,hk,hc];exact d
def txV(l:List UInt8)(e:Int):ByteArray:=mkB (yX (yZ 1 l e) (zM 1 l e) (zN 1 l e))
def txL(l:List UInt8)(e:Int):List UInt8:=zM (yZ 1 l e) (zM 1 l e) (zN 1 l e)
def txE(l:List UInt8)(e:Int):Int:=zN (yZ 1 l e) (zM 1 l e) (zN 1 l e)
theorem xL(M:Nat)(l:List UInt8)(e:Int):yZ M l e<256 ^ M:=by
 unfold yZ;exact Nat.lt_of_lt_of_le (beN_lt _) (Nat.pow_le_pow_right oM (nS M l e))
theorem wF(l:List UInt8)(e:Int):(txV l e).size<=255:=by
 unfold txV;rw[gV];have:=nS (yZ 1 l e) (zM 1 l e) (zN 1 l e);have:=xL 1 l e;omega
theorem vz(c:UInt8):∀(l:List UInt8),beN (c :: l)=c.toNat*256 ^ l.length+beN l:=by
 intro l;have f:∀(l:List UInt8) (a:Nat),l.foldl (λn c=>256*n+c.toNat) a=a*256 ^ l.length+beN l:=by
  intro l;induction l with
  | nil=>intro a;simp[beN]
  | cons d l ih =>
   intro a;have e:beN (d :: l)=l.foldl (λn c=>256*n+c.toNat) (256*0+d.toNat):=rfl;rw[e,foldl_cons,ih,ih];simp only[length_cons,Nat.pow_succ];rw[Nat.mul_zero,Nat.zero_add,Nat.add_mul];have:256*a*256 ^ l.length=a*(256 ^ l.length*256):=by
    rw[Nat.mul_comm 256 a,Nat.mul_assoc,Nat.mul_comm 256]
   omega
 have e:beN (c :: l)=l.foldl (λn c=>256*n+c.toNat) (256*0+c.toNat):=rfl;rw[e,f];simp
theorem zm:∀(m n k:Nat),beL m (n+k*256 ^ m)=beL m n
 | 0,_,_=>rfl
 | m+1,n,k=>by
  have h1:n+k*256 ^ (m+1)=n+(k*256)*256 ^ m:=by rw[Nat.pow_succ,Nat.mul_comm (256 ^ m),<-Nat.mul_assoc]
  unfold beL;rw[h1,Nat.add_mul_div_right _ _ (Nat.pow_pos oM)];congr 1
  ·apply UInt8.toNat_inj.1
   simp
  ·exact zm m n (k*256)
theorem beL_beN:∀(v:List UInt8),beL v.length (beN v)=v
 | []=>rfl
 | c :: v=>by
  rw[vz];show UInt8.ofNat ((c.toNat*256 ^ v.length+beN v) / 256 ^ v.length) :: beL v.length (c.toNat*256 ^ v.length+beN v)=_;rw[Nat.add_comm,zm,beL_beN v,Nat.add_mul_div_right _ _ (Nat.pow_pos oM),Nat.div_eq_of_lt (beN_lt v)];congr 1
  apply UInt8.toNat_inj.1
  simp
theorem beN_beL:∀(m n:Nat),n<256 ^ m->beN (beL m n)=n
 | 0,n,h=>by
  have:n=0:=by simpa using h
  subst this;rfl
 | m+1,n,h=>by
  have hp:0<256 ^ m:=Nat.pow_pos oM;have hd:n / 256 ^ m<256:=by
   rw[Nat.div_lt_iff_lt_mul hp,Nat.mul_comm,<-Nat.pow_succ];exact h
  have hm:beL m n=beL m (n % 256 ^ m):=by
   have:=zm m (n % 256 ^ m) (n / 256 ^ m);rw[Nat.mul_comm,Nat.mod_add_div]at this;exact this
  show beN (UInt8.ofNat (n / 256 ^ m) :: beL m n)=n;rw[vz,xA,hm,beN_beL m _ (Nat.mod_lt _ hp)];have:(UInt8.ofNat (n / 256 ^ m)).toNat=n / 256 ^ m:=sO;rw[this,Nat.mul_comm,Nat.add_comm,Nat.mod_add_div]
theorem lE{n:Nat}{l:List UInt8}(h:zN n l e=0):e=0/\yX n l e++zM n l e=l/\(yX n l e).length=n:=by
 unfold zN at h;split at h
 ·rename_i he
  split at h
  ·rename_i hn
   unfold yX zM;rw[if_pos ⟨he,hn⟩,if_pos ⟨he,hn⟩];exact⟨he,take_append_drop _ _,sO⟩
  ·cases h
 ·exact absurd h (by assumption)
theorem dV{M:Nat}{l:List UInt8}(h:zN M l e=0):e=0/\beL M (yZ M l e)++zM M l e=l:=by
 obtain⟨he,h1,h2⟩:=lE h;refine⟨he,?_⟩;have h3:=beL_beN (yX M l e);rw[h2]at h3;unfold yZ;rw[h3,h1]
theorem mkB_list(l:List UInt8):(mkB l).data.toList=l:=rfl
theorem tW{l:List UInt8}(h:txE l e=0):e=0/\beL 1 (txV l e).size++((txV l e).data.toList++txL l e)=l:=by
 obtain⟨h1,h2,h3⟩:=lE (show zN _ _ _=0 from h);obtain⟨h4,h5⟩:=dV h1;refine⟨h4,?_⟩;unfold txV txL;rw[gV,mkB_list,h3,h2,h5]
theorem BI(v t:List UInt8):yX v.length (v++t) 0=v/\zM v.length (v++t) 0=t/\zN v.length (v++t) 0=0:=by
 have hc:(0:Int)=0/\v.length<=(v++t).length:=⟨rfl,sI⟩
 refine⟨?_,?_,?_⟩
 ·unfold yX;rw[if_pos hc];simp
 ·unfold zM;rw[if_pos hc];simp
 ·unfold zN;rw[if_pos rfl,if_pos hc.2]
theorem mD{M n:Nat}(hn:n<256 ^ M)(t:List UInt8):yZ M (beL M n++t) 0=n/\zM M (beL M n++t) 0=t/\zN M (beL M n++t) 0=0:=by
 have h:=BI (beL M n) t;rw[xA]at h;refine⟨?_,h.2.1,h.2.2⟩;unfold yZ;rw[h.1,beN_beL M n hn]
theorem KX(hs:s.size<256)(t:List UInt8):txV (beL 1 s.size++(s.data.toList++t)) 0=s/\txL (beL 1 s.size++(s.data.toList++t)) 0=t/\txE (beL 1 s.size++(s.data.toList++t)) 0=0:=by
 obtain⟨h1,h2,h3⟩:=mD (M:=1) (n:=s.size) oM (s.data.toList++t);have h:=BI s.data.toList t;have hl:s.data.toList.length=s.size:=Array.length_toList;rw[hl]at h;unfold txV txL txE;rw[h1,h2,h3];exact⟨by rw[h.1];rfl,h.2.1,h.2.2⟩
abbrev kE:=Lib.compareBytes
theorem r7:∀a:List UInt8,kE a a=0
 | []=>rfl
 | c :: a=>by
  show(if c<c then(-1:Int)else if c<c then 1 else kE a a)=0;rw[if_neg sI,if_neg sI];exact r7 a
theorem cmpB_eq:∀a b:List UInt8,kE a b=0->a=b
 | [],[],_=>rfl
 | [],_ :: _,h=>by cases h
 | _ :: _,[],h=>by cases h
 | c :: a,d :: b,h=>by
  have h':(if c<d then(-1:Int)else if d<c then 1 else kE a b)=0:=h;by_cases h1:c<d
  ·rw[if_pos h1]at h';cases h'
  ·rw[if_neg h1]at h';by_cases h2:d<c
   ·rw[if_pos h2]at h';cases h'
   ·rw[if_neg h2]at h';have e:c=d:=by
     simp only[UInt8.lt_iff_toNat_lt]at h1 h2;exact UInt8.toNat_inj.1 oM
    rw[e,cmpB_eq a b h']
theorem aK(a b:List UInt8):kE a b=0↔a=b:=⟨cmpB_eq a b,λh=>by rw[h];exact r7 b⟩
theorem r8:∀a b:List UInt8,kE b a = - kE a b
 | [],[]=>rfl
 | [],_ :: _=>rfl
 | _ :: _,[]=>rfl
 | c :: a,d :: b=>by
  show(if d<c then(-1:Int)else if c<d then 1 else kE b a) = -(if c<d then(-1:Int)else if d<c then 1 else kE a b);by_cases h1:c<d
  ·have h2:¬d<c:=by rw[UInt8.lt_iff_toNat_lt]at *;omega
   rw[if_neg h2,if_pos h1,if_pos h1];rfl
  ·by_cases h2:d<c
   ·rw[if_pos h2,if_neg h1,if_pos h2]
   ·rw[if_neg h2,if_neg h1,if_neg h1,if_neg h2];exact r8 a b
theorem sV:∀a b:List UInt8,kE a b = -1\/kE a b=0\/kE a b=1
 | [],[]=>.inr (.inl rfl)
 | [],_ :: _=>.inl rfl
 | _ :: _,[]=>.inr (.inr rfl)
 | c :: a,d :: b=>by
  show(if c<d then(-1:Int)else if d<c then 1 else kE a b) = -1\/(if c<d then(-1:Int)else if d<c then 1 else kE a b)=0\/(if c<d then(-1:Int)else if d<c then 1 else kE a b)=1;by_cases h1:c<d
  ·rw[if_pos h1];exact .inl rfl
  ·by_cases h2:d<c
   ·rw[if_neg h1,if_pos h2];exact .inr (.inr rfl)
   ·rw[if_neg h1,if_neg h2];exact sV a b
theorem mT:∀a b c:List UInt8,kE a b<0->kE b c<0->kE a c<0
 | [],[],_,h,_=>by cases h
 | [],_ :: _,[],_,h=>by cases h
 | [],_ :: _,_ :: _,_,_=>by show(-1:Int)<0;omega
 | _ :: _,[],_,h,_=>by cases h
 | _ :: _,_ :: _,[],_,h=>by cases h
 | x :: a,y :: b,z :: c,h1,h2=>by
  have f:(if x<y then(-1:Int)else if y<x then 1 else kE a b)<0:=h1;have d:(if y<z then(-1:Int)else if z<y then 1 else kE b c)<0:=h2;show(if x<z then(-1:Int)else if z<x then 1 else kE a c)<0;simp only[UInt8.lt_iff_toNat_lt]at *;by_cases p1:x.toNat<y.toNat
  ·by_cases q1:y.toNat<z.toNat
   ·rw[if_pos oM];omega
   ·rw[if_neg q1]at d;by_cases q2:z.toNat<y.toNat
    ·rw[if_pos q2]at d;omega
    ·rw[if_pos oM];omega
  ·rw[if_neg p1]at f;by_cases p2:y.toNat<x.toNat
   ·rw[if_pos p2]at f;omega
   ·rw[if_neg p2]at f;by_cases q1:y.toNat<z.toNat
    ·rw[if_pos oM];omega
    ·rw[if_neg q1]at d;by_cases q2:z.toNat<y.toNat
     ·rw[if_pos q2]at d;omega
     ·rw[if_neg q2]at d;rw[if_neg oM,if_neg oM];exact mT a b c f d
theorem bU:∀a b:List UInt8,Op.bytesLess a b=decide (kE a b<0)
 | [],[]=>rfl
 | [],_ :: _=>rfl
 | _ :: _,[]=>rfl
 | c :: a,d :: b=>by
  show(decide (c<d)||(c==d&&Op.bytesLess a b))=decide ((if c<d then(-1:Int)else if d<c then 1 else kE a b)<0);by_cases h1:c<d
  ·simp[h1]
  ·by_cases h2:d<c
   ·have e:(c==d)=false:=by
     rw[beq_eq_false_iff_ne];rintro rfl;exact h1 h2
    simp[h1,h2,e]
   ·have e:c=d:=by
     simp only[UInt8.lt_iff_toNat_lt]at h1 h2;exact UInt8.toNat_inj.1 oM
    subst e;simp[bU a b]
def qS(a b:ByteArray):Int:=kE a.toList b.toList
def yC(a b:zA):Int:=kE a.l b.l
def fS(a b:Int):Int:=if a<b then -1 else if b<a then 1 else 0
def bltS(a b:ByteArray):Bool:=Op.bytesLess a.toList b.toList
theorem vu(a b:ByteArray):bltS a b=decide (qS a b<0):=bU _ _
theorem aI(a b:ByteArray):qS a b=0↔a=b:=by unfold qS;rw[aK,toList_inj]
theorem cmpS_self(a:ByteArray):qS a a=0:=r7 _
theorem aJ(a b:ByteArray):qS b a = - qS a b:=r8 _ _
theorem mR(a b c:ByteArray):qS a b<0->qS b c<0->qS a c<0:=mT _ _ _
theorem cmpS_range(a b:ByteArray):qS a b = -1\/qS a b=0\/qS a b=1:=sV _ _
theorem gD(a b:zA):yC a b=0↔a=b:=by
 unfold yC;rw[aK];exact⟨zA.ext',λh=>by rw[h]⟩
theorem sU(a:zA):yC a a=0:=r7 _
theorem cmpId_anti(a b:zA):yC b a = - yC a b:=r8 _ _
theorem ZN(a b c:zA):yC a b<0->yC b c<0->yC a c<0:=mT _ _ _
theorem vl(a b:zA):yC a b = -1\/yC a b=0\/yC a b=1:=sV _ _
theorem cmpI_range(a b:Int):fS a b = -1\/fS a b=0\/fS a b=1:=by
 unfold fS
 repeat' split
 all_goals simp
def orL:List Int->Int
 | []=>0
 | a :: l=>if a=0 then orL l else a
section
open Go.RowKit Go.Sort
structure qJ{α:Type}(c:α->α->Int):Prop where
 zero:∀a b,c a b=0↔a=b
 anti:∀a b,c b a = - c a b
 trans:∀a b d,c a b<0->c b d<0->c a d<0
theorem JC:qJ qS:=⟨aI,aJ,mR⟩
theorem vM:qJ yC:=⟨gD,cmpId_anti,ZN⟩
section
variable {α:Type} {c:α->α->Int}
theorem qJ.irr(T:qJ c)(a:α):¬c a a<0:=by rw[(T.zero a a).2 rfl];omega
theorem qJ.self(T:qJ c)(a:α):c a a=0:=(T.zero a a).2 rfl
theorem qJ.asym(T:qJ c){a b:α}(h:c a b<0):¬c b a<0:=oH (T.anti a b)
theorem qJ.ne(T:qJ c){a b:α}(h:c a b<0):a≠b:=λe=>by subst e;exact T.irr a h
theorem qJ.flip(T:qJ c){a b:α}(h1:¬c a b<0)(h2:a≠b):c b a<0:=by
 have h3:c a b≠0:=λe=>h2 ((T.zero a b).1 e);have:=T.anti a b;omega
theorem qJ.le_trans(T:qJ c){a b d:α}(h1:¬c b a<0)(h2:c b d<0):c a d<0:=by
 by_cases e:a=b
 ·subst e;exact h2
 ·exact T.trans a b d (T.flip h1 (λe'=>e e'.symm)) h2
def orC(a b:Int):Int:=if a=0 then b else a
theorem qJ.pair{d:β->β->Int}(T:qJ c)(U:qJ d):qJ (λx y:α×β=>orC (c x.1 y.1) (d x.2 y.2)) where
 zero a b:=by
  unfold orC;constructor
  ·intro h;split at h
   ·rename_i h1;exact Prod.ext ((T.zero _ _).1 h1) ((U.zero _ _).1 h)
   ·contradiction
  ·intro h;subst h;rw[if_pos (T.self _)];exact U.self _
 anti a b:=by
  unfold orC;have h1:=T.anti a.1 b.1;have h2:=U.anti a.2 b.2;split <;> split <;> omega
 trans a b e:=by
  unfold orC;intro h1 h2;by_cases e1:c a.1 b.1=0
  ·rw[if_pos e1]at h1;have q:=(T.zero _ _).1 e1;rw[q];by_cases e2:c b.1 e.1=0
   ·rw[if_pos e2]at h2 |-;exact U.trans _ _ _ h1 h2
   ·rw[if_neg e2]at h2 |-;exact h2
  ·rw[if_neg e1]at h1;by_cases e2:c b.1 e.1=0
   ·have q:=(T.zero _ _).1 e2;rw[<-q,if_neg e1];exact h1
   ·rw[if_neg e2]at h2;have:=T.trans _ _ _ h1 h2;rw[if_neg oM];exact this
theorem qJ.of{d:β->β->Int}(T:qJ c)(f:β->α)(hf:∀x y,f x=f y->x=y)(hd:∀x y,d x y=c (f x) (f y)):qJ d where
 zero a b:=by rw[hd,T.zero];exact⟨hf a b,λh=>by rw[h]⟩
 anti a b:=by rw[hd,hd];exact T.anti _ _
 trans a b e:=by rw[hd,hd,hd];exact T.trans _ _ _
def Ris(c:α->α->Int)(l:List α):Prop:=l.Pairwise (λx y=>c x y<0)
theorem Ris.nil:Ris c []:=Pairwise.nil
theorem fI{x:α}{l:List α}:Ris c (x :: l)↔(∀y∈l,c x y<0)/\Ris c l:=pairwise_cons
theorem Ris.filter{l:List α}(h:Ris c l)(p:α->Bool):Ris c (l.filter p):=Pairwise.sublist filter_sublist h
theorem Ris.sub{l m:List α}(h:Ris c l)(hs:m.Sublist l):Ris c m:=Pairwise.sublist hs h
theorem Ris.nodup(T:qJ c){l:List α}(h:Ris c l):l.Nodup:=Pairwise.imp (S:=λa b=>a≠b) (fun {a b} h=>T.ne h) h
def jI(c:α->α->Int):List α->α->List α
 | [],x=>[x]
 | y :: l,x=>if c y x<0 then y :: jI c l x else if c y x=0 then y :: l else x :: y :: l
def kL(c:α->α->Int)(l:List α):List α:=l.foldl (jI c) []
theorem jB(T:qJ c):∀ {l:List α} {x z:α},z∈jI c l x↔z=x\/z∈l
 | [],x,z=>by simp[jI]
 | y :: l,x,z=>by
  unfold jI;split
  ·rw[mem_cons,jB T,mem_cons];constructor
   ·rintro(h | h | h)
    ·exact .inr (.inl h)
    ·exact .inl h
    ·exact .inr (.inr h)
   ·rintro(h | h | h)
    ·exact .inr (.inl h)
    ·exact .inl h
    ·exact .inr (.inr h)
  ·split
   ·rename_i h0
    have e:y=x:=(T.zero y x).1 h0;subst e;simp only[mem_cons];constructor
    ·rintro(h | h)
     ·exact .inl h
     ·exact .inr (.inr h)
    ·rintro(h | h | h)
     ·exact .inl h
     ·exact .inl h
     ·exact .inr h
   ·simp only[mem_cons]
theorem gT(T:qJ c):∀ {l:List α} {x:α},Ris c l->Ris c (jI c l x)
 | [],x,_=>by simp[jI,Ris]
 | y :: l,x,h=>by
  obtain⟨h1,h2⟩:=fI.1 h;unfold jI;split
  ·rename_i hlt
   refine fI.2 ⟨λz hz=>?_,gT T h2⟩;rcases (jB T).1 hz with e | hz
   ·rw[e];exact hlt
   ·exact h1 z hz
  ·rename_i hlt
   split
   ·exact h
   ·rename_i h0
    have d:c x y<0:=oH (T.anti y x);refine fI.2 ⟨λz hz=>?_,h⟩;rcases mem_cons.1 hz with e | hz
    ·rw[e];exact d
    ·exact T.trans _ _ _ d (h1 z hz)
theorem mM(T:qJ c):∀(l a:List α),Ris c a->Ris c (l.foldl (jI c) a)/\∀z,z∈l.foldl (jI c) a↔z∈a\/z∈l
 | [],a,h=>⟨h,λz=>sI⟩
 | x :: l,a,h=>by
  obtain⟨h1,h2⟩:=mM T l (jI c a x) (gT T h);refine⟨h1,λz=>?_⟩;rw[foldl_cons,h2,jB T,mem_cons];constructor
  ·rintro((h | h) | h)
   ·exact .inr (.inl h)
   ·exact .inl h
   ·exact .inr (.inr h)
  ·rintro(h | h | h)
   ·exact .inl (.inr h)
   ·exact .inl (.inl h)
   ·exact .inr h
theorem kQ(T:qJ c)(l:List α):Ris c (kL c l):=(mM T l [] Ris.nil).1
theorem kT(T:qJ c){l:List α}{z:α}:z∈kL c l↔z∈l:=by
 have:=(mM T l [] Ris.nil).2 z;simpa[kL]using this
theorem tE(l:List α)(x:α):(jI c l x).length<=l.length+1:=by
 induction l with
 | nil=>simp[jI]
 | cons y l ih =>
  unfold jI
  repeat' split
  all_goals simp;try omega
theorem cX(l:List α):(kL c l).length<=l.length:=by
 have h:∀(l a:List α),(l.foldl (jI c) a).length<=a.length+l.length:=by
  intro l;induction l with
  | nil=>intro a;simp
  | cons x l ih =>
   intro a;have h1:=ih (jI c a x);have h2:=tE (c:=c) a x;simp only[foldl_cons,length_cons];omega
 simpa[kL]using h l []
theorem gH(T:qJ c):∀ {l m:List α},Ris c l->Ris c m->(∀z,z∈l↔z∈m)->l=m
 | [],[],_,_,_=>rfl
 | [],y :: m,_,_,h=>absurd ((h y).2 sI) sI
 | x :: l,[],_,_,h=>absurd ((h x).1 sI) sI
 | x :: l,y :: m,hl,hm,h=>by
  obtain⟨h1,h2⟩:=fI.1 hl;obtain⟨k1,k2⟩:=fI.1 hm;have e:x=y:=by
   rcases mem_cons.1 ((h x).1 sI)with e | hx
   ·exact e
   ·rcases mem_cons.1 ((h y).2 sI)with e | hy
    ·exact e.symm
    ·exact absurd (k1 x hx) (T.asym (h1 y hy))
  subst e;congr 1
  refine gH T h2 k2 λz=>?_;have hz:=h z;simp only[mem_cons]at hz;constructor
  ·intro f;rcases hz.1 (.inr f)with e | e
   ·subst e;exact absurd (h1 z f) (T.irr z)
   ·exact e
  ·intro d;rcases hz.2 (.inr d)with e | e
   ·subst e;exact absurd (k1 z d) (T.irr z)
   ·exact e
theorem V6(T:qJ c){l:List α}(h:Ris c l):kL c l=l:=gH T (kQ T l) h λ_=>kT T
theorem nN(T:qJ c){l m:List α}(h:∀z,z∈l↔z∈m):kL c l=kL c m:=gH T (kQ T l) (kQ T m) λz=>by rw[kT T,kT T,h]
theorem YD:∀(l:List α) (x:α) (k:Nat),k<=l.length->(∀j (hj:j<l.length),j<k->c l[j] x<0)->(∀hk:k<l.length,0<c l[k] x)->jI c l x=l.take k++x :: l.drop k
 | [],x,k,hk,_,_=>by
  have:k=0:=by simpa using hk
  subst this;rfl
 | y :: l,x,0,_,_,h2=>by
  have h:=h2 sI;simp only[getElem_cons_zero]at h;unfold jI;rw[if_neg oM,if_neg oM];rfl
 | y :: l,x,k+1,hk,h1,h2=>by
  have h:=h1 0 sI oM;simp only[getElem_cons_zero]at h;unfold jI;rw[if_pos h,YD l x k (by simpa using hk) (λj hj f=>by have:=h1 (j+1) (by simpa using hj) oM;simpa using this) (λd=>by have:=h2 (by simpa using d);simpa using this)];rfl
theorem YB{l:List α}(h:Ris c l){i:Nat}(d:i<j)(hj:j<l.length):c (l[i]'oM) l[j]<0:=pairwise_iff_getElem.1 h i j oM hj d
theorem rU(T:qJ c){l m:List α}(h:Ris c l)(hp:m.Perm l):m.mergeSort (λx y=>!decide (c y x<0))=l:=by
 have f:∀a b:α,((!decide (c b a<0)) || !decide (c a b<0))=true:=λa b=>by
  by_cases h1:c b a<0
  ·have:=T.asym h1;simp[this]
  ·simp[h1]
 have g:∀a b d:α,(!decide (c b a<0))=true->(!decide (c d b<0))=true->(!decide (c d a<0))=true:=λa b d h1 h2=>by
  simp only[Bool.not_eq_true',decide_eq_false_iff_not]at h1 h2 |-;intro h3;exact h2 (T.le_trans (a:=d) (b:=a) (d:=b) (T.asym h3) (by
   by_cases e:a=b
   ·subst e;exact absurd h3 h2
   ·exact T.flip h1 (λe'=>e e'.symm)))
 refine Perm.eq_of_pairwise (le:=λx y=>(!decide (c y x<0))=true) ?_ (pairwise_mergeSort g f m) ?_ ((mergeSort_perm _ _).trans hp)
 ·intro a b _ _ h1 h2;simp only[Bool.not_eq_true',decide_eq_false_iff_not]at h1 h2;exact Classical.byContradiction λe=>h1 (T.flip h2 e)
 ·exact Pairwise.imp (λh=>by simpa using T.asym h) h
theorem swo_of(T:qJ c):SWO (λx y=>decide (c x y<0)) where
 irrefl x:=by simpa using T.irr x
 trans x y z h1 h2:=by simp only[decide_eq_true_eq]at *;exact T.trans _ _ _ h1 h2
 ntrans x y z h1 h2:=by
  simp only[decide_eq_false_iff_not]at *;intro h3;exact h2 (T.le_trans (a:=y) (b:=x) (d:=z) h1 h3)
end
end
structure OpV where
 k:Nat
 n:Int
 key:ByteArray
 val:ByteArray
 ref:zA
 refs:List zA
def opZero:OpV:=⟨0,0,⟨#[]⟩,⟨#[]⟩,id0,[]⟩
structure IdsR where
 ids:List zA
 l:List UInt8
 e:Int
def idStep(s:IdsR):IdsR:=⟨s.ids ++ [xQ (yX 32 s.l s.e)],zM 32 s.l s.e,zN 32 s.l s.e⟩
def mH:Nat->IdsR->IdsR
 | 0,s=>s
 | k+1,s=>mH k (idStep s)
theorem QF:∀(k:Nat) (s:IdsR),(mH k s).ids.length=s.ids.length+k
 | 0,s=>rfl
 | k+1,s=>by unfold mH;rw[QF k];simp[idStep];omega
def fJ(l:List UInt8)(e:Int):IdsR:=mH (yZ 1 l e) ⟨[],zM 1 l e,zN 1 l e⟩
theorem VG(l:List UInt8)(e:Int):(fJ l e).ids.length<=255:=by
 unfold fJ;rw[QF];have:=xL 1 l e;simp only[length_nil];omega
structure OpR where
 o:OpV
 l:List UInt8
 e:Int
def qH:Nat->List UInt8->Int->OpR
 | 1,l,e=>⟨⟨1,(yZ 4 l e:Int)-2147483648,⟨#[]⟩,⟨#[]⟩,id0,[]⟩,zM 4 l e,zN 4 l e⟩
 | 2,l,e=>⟨⟨2,0,⟨#[]⟩,txV l e,id0,[]⟩,txL l e,txE l e⟩
 | 3,l,e=>⟨⟨3,0,⟨#[]⟩,txV l e,id0,(fJ (txL l e) (txE l e)).ids⟩,(fJ (txL l e) (txE l e)).l,(fJ (txL l e) (txE l e)).e⟩
 | 4,l,e=>⟨⟨4,(yZ 4 (txL (txL l e) (txE l e)) (txE (txL l e) (txE l e)):Int),txV l e,txV (txL l e) (txE l e),id0,[]⟩,zM 4 (txL (txL l e) (txE l e)) (txE (txL l e) (txE l e)),zN 4 (txL (txL l e) (txE l e)) (txE (txL l e) (txE l e))⟩
 | 5,l,e=>⟨⟨5,0,txV l e,txV (txL l e) (txE l e),id0,(fJ (txL (txL l e) (txE l e)) (txE (txL l e) (txE l e))).ids⟩,(fJ (txL (txL l e) (txE l e)) (txE (txL l e) (txE l e))).l,(fJ (txL (txL l e) (txE l e)) (txE (txL l e) (txE l e))).e⟩
 | 6,l,e=>⟨⟨6,0,⟨#[]⟩,txV (zM 32 l e) (zN 32 l e),xQ (yX 32 l e),[]⟩,txL (zM 32 l e) (zN 32 l e),txE (zM 32 l e) (zN 32 l e)⟩
 | 7,l,e=>⟨⟨7,0,⟨#[]⟩,⟨#[]⟩,xQ (yX 32 l e),[]⟩,zM 32 l e,zN 32 l e⟩
 | _,l,e=>⟨opZero,l,e⟩
def kD:List zA->Bool
 | []=>true
 | [_]=>true
 | x :: y :: l=>decide (yC x y<0)&&kD (y :: l)
def chkO(o:OpV):Int :=
 if 16<o.key.size\/16<o.val.size then 3
 else if 2147483648<=o.n then 5
 else if 8<o.refs.length then 6
 else if kD o.refs=false then 4 else 0
def opE(l:List UInt8):Int :=
 if zN 1 l 0≠0 then zN 1 l 0
 else if yZ 1 l 0=0\/7<yZ 1 l 0 then 10
 else if jE (qH (yZ 1 l 0) (zM 1 l 0) 0).l (qH (yZ 1 l 0) (zM 1 l 0) 0).e≠0 then jE (qH (yZ 1 l 0) (zM 1 l 0) 0).l (qH (yZ 1 l 0) (zM 1 l 0) 0).e
 else chkO (qH (yZ 1 l 0) (zM 1 l 0) 0).o
def opO(l:List UInt8):OpV:=(qH (yZ 1 l 0) (zM 1 l 0) 0).o
def mU(k:Nat):Int:=if k=1 then 1 else if k=2\/k=3 then 2 else if k=4 then 3 else if k=5 then 4 else if k=6\/k=7 then 5 else 0
theorem YC:∀(R:List zA),kD R=true↔Ris yC R
 | []=>by simp[kD,Ris]
 | [x]=>by simp[kD,Ris]
 | x :: y :: R=>by
  have ih:=YC (y :: R);unfold kD;rw[Bool.and_eq_true,ih,decide_eq_true_eq,fI (x:=x)];constructor
  ·rintro⟨h1,h2⟩;refine⟨λz hz=>?_,h2⟩;rcases mem_cons.1 hz with e | hz
   ·rw[e];exact h1
   ·exact vM.trans _ _ _ h1 ((fI.1 h2).1 z hz)
  ·rintro⟨h1,h2⟩;exact⟨h1 y sI,h2⟩
def kM(c:Int):Bool:=(decide (97<=c)&&decide (c<=122))||(decide (48<=c)&&decide (c<=57))||decide (c=45)
theorem smallC_of{b:Bool}(h:b=kM c):Ending.returned (.bool b)=.returned (.bool (kM c)):=by rw[h]
theorem V7(c:Int)(w:World) :
  Calls prog 184 #[.int .i32 c] w λe w'=>e=.returned (.bool (kM c))/\w=w':=by
 go_enter func184,ntmps184
 go_wp2
 all_goals
  go_ret;exact⟨smallC_of (by simp[kM]at *;omega),rfl⟩
def bX(k:Int):Int:=if k=1 then 99 else if k=2 then 115 else if k=3 then 108 else if k=4 then 109 else if k=5 then 114 else 0
theorem Q3(k:Int)(w:World) :
  Calls prog 123 #[.int .i64 k] w λe w'=>e=.returned (.int .u8 (bX k))/\w=w':=by
 go_enter func123,ntmps123
 go_wp2
 all_goals
  go_ret;exact⟨y9 (by simp[bX]at *;omega),rfl⟩
def tY(s:ByteArray)(i:Nat):Bool:=(List.range (s.size-i)).all λj=>kM (bt s (i+j))
theorem pV(s:ByteArray)(i:Nat):tY s i=true↔∀j,i<=j->j<s.size->kM (bt s j)=true:=by
 simp only[tY,all_eq_true,mem_range];constructor
 ·intro h j h1 h2;have:=h (j-i) oM
  rwa [(oM:i+(j-i)=j)]at this
 ·intro h j hj;exact h _ oM oM
theorem V0(s:ByteArray)(i:Nat)(h:s.size<=i):tY s i=true:=(pV s i).2 λj h1 h2=>by omega
theorem yg(s:ByteArray)(i:Nat)(h:i<s.size)(h1:kM (bt s i)=false):tY s i=false:=by
 cases e:tY s i with
 | false=>rfl
 | true=>rw[(pV s i).1 e i lR h]at h1;cases h1
theorem JZ(s:ByteArray)(i:Nat)(h1:kM (bt s i)=true):tY s (i+1)=tY s i:=by
 rw[Bool.eq_iff_iff,pV,pV];constructor
 ·intro h j a b;by_cases e:j=i
  ·subst e;exact h1
  ·exact h j oM b
 ·intro h j a b;exact h j oM b
def jT(s:ByteArray):Bool:=decide (2<=s.size)&&decide (s.size<=12)&&(bt s (s.size-1) != 45)&&tY s 1
theorem aX(h:128<=c):kM c=false:=by unfold kM;simp;omega
theorem i6(s:ByteArray)(i:Nat)(h:i<(s.extract 1 s.size).size):(((s.extract 1 s.size)[i]'h).toNat:Int)=bt s (i+1):=by
 have hs:i+1<s.size:=by simp at h;omega
 rw[<-pM hs];congr 2
 rw[ByteArray.getElem_extract];congr 1;omega
theorem zj(s:ByteArray)(i:Nat)(h:i<(s.extract 1 s.size).size)(hh:kM (bt s (i+1))=true) :
  Utf8.decode (s.extract 1 s.size) i=((bt s (i+1)).toNat,1):=by
 have e:=i6 s i h;have d:(((s.extract 1 s.size)[i]'h).toNat)<128:=by
  rcases Nat.lt_or_ge ((s.extract 1 s.size)[i]'h).toNat 128 with g | g
  ·exact g
  ·rw[aX oM]at hh;cases hh
 rw[decode_ascii _ i h d,<-e];simp
theorem Y3(s:ByteArray)(i:Nat)(h:i<(s.extract 1 s.size).size)(hh:kM (bt s (i+1))=false) :
  kM ((Utf8.decode (s.extract 1 s.size) i).1:Int)=false:=by
 have e:=i6 s i h;rcases Nat.lt_or_ge ((s.extract 1 s.size)[i]'h).toNat 128 with g | g
 ·rw[decode_ascii _ i h g];rw[<-e]at hh;exact hh
 ·have:=(decode_high _ i h g).1;exact aX oM
theorem rX(s:ByteArray)(h:¬(2<=s.size/\s.size<=12)):jT s=false:=by
 unfold jT;by_cases h1:2<=s.size <;> by_cases h2:s.size<=12 <;> simp[h1,h2];omega
theorem i8(s:ByteArray)(h:bt s (s.size-1)=45):jT s=false:=by
 unfold jT;simp[h]
theorem i7(s:ByteArray)(h1:2<=s.size)(h2:s.size<=12)(h:bt s (s.size-1)≠45):jT s=tY s 1:=by
 unfold jT;simp[h1,h2,h]
theorem jm(s:ByteArray)(w:World)(h:2<=s.size)(h1:s.size<=12)(h2:bt s (s.size-1)≠45) :
  Calls prog 122 #[.string s] w λe w'=>e=.returned (.bool (jT s))/\Below w.heap.size w w':=by
 have h3:(((s[s.size-1]'oM).toNat:Int)==45)=false:=by
  rw[beq_eq_false_iff_ne];intro g;rw[pM oM]at g;exact h2 g
 have d:=i7 s h h1 h2;have H2:=dH d;clear h2 d;have hI:∀(p:Nat),Below w.heap.size w (w.iter (s.extract 1 s.size) p):=λp=>bA;have HI:=dH hI;clear hI;go_enter func122,ntmps122
 (go_wp2_with fail);go_loopw [] (λwr=>∃i:Nat,i+1<=s.size/\wr=w.iter (s.extract 1 s.size) i/\Hid (tY s (i+1)=tY s 1)) (λwr=>s.size-wr.iterPos w.heap.size)
 case atStart=>exact⟨0,oM,rfl,rfl⟩
 case round =>
  obtain⟨i,hi,rfl,hc⟩:=hrel;have j:(s.extract 1 s.size).size=s.size-1:=sI;by_cases hp:i<(s.extract 1 s.size).size
  ·have f:∀ty,(Instr.next (.pointer (some ⟨w.heap.size,0,none⟩)) true ty).run prog (w.iter (s.extract 1 s.size) i)=_:=λty=>run_next_any w (s.extract 1 s.size) i ty hp;cases hb:kM (bt s (i+1))with
   | true =>
    rw[zj s i hp hb]at f;have e1:(((bt s (i+1)).toNat:Nat):Int)=bt s (i+1):=oH (bt_nonneg s (i+1));simp only[e1]at f;have Hb:=dH hb;go_wp2_with (go_at_call 184;refine(V7 _ _).mono ?_;rintro e w' ⟨rfl,rfl⟩)
    go_roundw
    case rel=>exact⟨i+1,oM,rfl,(JZ s _ Hb.out).trans hc.out⟩
    case measure=>simp;omega
   | false =>
    have hd:=Y3 s i hp hb;go_wp2_with (go_at_call 184;refine(V7 _ _).mono ?_;rintro e w' ⟨rfl,rfl⟩)
    go_ret;exact⟨yI (by rw[H2.out,<-hc.out,yg s _ oM hb]),HI.out _⟩
  ·have f:∀ty,(Instr.next (.pointer (some ⟨w.heap.size,0,none⟩)) true ty).run prog (w.iter (s.extract 1 s.size) i)=_:=λty=>run_next_end w (s.extract 1 s.size) i ty hp;(go_wp2_with fail);go_ret;exact⟨yI (by rw[H2.out,<-hc.out,V0 s _ oM]),HI.out _⟩
theorem BW(s:ByteArray)(w:World)(hs:s.size<=9223372036854775807)(h:¬(2<=s.size/\s.size<=12)) :
  Calls prog 122 #[.string s] w λe w'=>e=.returned (.bool (jT s))/\Below w.heap.size w w':=by
 have H2:=dH (rX s h);by_cases h1:2<=s.size
 ·have h4:12<s.size:=oM;clear h;go_enter func122,ntmps122
  go_wp2_with fail
  all_goals
   go_ret;exact⟨yI H2.out.symm,Below.refl _ _⟩
 ·clear h;go_enter func122,ntmps122
  go_wp2_with fail
  all_goals
   go_ret;exact⟨yI H2.out.symm,Below.refl _ _⟩
theorem jn(s:ByteArray)(w:World)(h:2<=s.size)(h1:s.size<=12)(h2:bt s (s.size-1)=45) :
  Calls prog 122 #[.string s] w λe w'=>e=.returned (.bool (jT s))/\Below w.heap.size w w':=by
 have h3:(((s[s.size-1]'oM).toNat:Int)==45)=true:=by
  rw[beq_iff_eq];rw[pM oM];exact h2
 have H2:=dH (i8 s h2);clear h2;go_enter func122,ntmps122
 (go_wp2_with fail);go_ret;exact⟨yI H2.out.symm,Below.refl _ _⟩
theorem QJ(s:ByteArray)(w:World)(hs:s.size<=9223372036854775807) :
  Calls prog 122 #[.string s] w λe w'=>e=.returned (.bool (jT s))/\Below w.heap.size w w':=by
 by_cases h:2<=s.size/\s.size<=12
 ·by_cases h2:bt s (s.size-1)=45
  ·exact jn s w h.1 h.2 h2
  ·exact jm s w h.1 h.2 h2
 ·exact BW s w hs h
def ZE(c:Int):Int:=if c=99 then 1 else if c=115 then 2 else if c=108 then 3 else if c=109 then 4 else if c=114 then 5 else 0
def yF(s:ByteArray):Int:=if jT s=true then ZE (bt s 0)else 0
theorem mK(h:jT s=true):2<=s.size/\s.size<=12:=by
 unfold jT at h;simp at h;omega
theorem VX{k:Int}(h1:1<=k)(h2:k<6)(h:bX k=c):ZE c=k:=by
 subst h;have:k=1\/k=2\/k=3\/k=4\/k=5:=oM;rcases this with rfl | rfl | rfl | rfl | rfl <;> decide
theorem Q6(h:∀j:Int,1<=j->j<6->bX j≠c):ZE c=0:=by
 have a:=h 1 oM oM;have b:=h 2 oM oM;have d:=h 3 oM oM;have e:=h 4 oM oM;have f:=h 5 oM oM;simp[bX]at a b d e f;unfold ZE;rw[if_neg oM,if_neg oM,if_neg oM,if_neg oM,if_neg oM]
theorem kind_no(s:ByteArray)(w:World)(hs:s.size<=9223372036854775807)(h:jT s=false) :
  Calls prog 63 #[.string s] w λe w'=>e=.returned (.int .i64 (yF s))/\Below w.heap.size w w':=by
 have H:Hid (yF s=0):=by show yF s=0;unfold yF;rw[h];rfl
 go_enter func63,ntmps63
 (go_wp2_with fail);refine(QJ _ _ hs).mono ?_;rintro e w1 ⟨rfl,hb⟩;(go_wp2_with fail);go_ret;exact⟨y9 H.out.symm,hb⟩
theorem kind_yes(s:ByteArray)(w:World)(hs:s.size<=9223372036854775807)(h:jT s=true) :
  Calls prog 63 #[.string s] w λe w'=>e=.returned (.int .i64 (yF s))/\Below w.heap.size w w':=by
 have H:Hid (yF s=ZE (bt s 0)):=by show yF s=ZE (bt s 0);unfold yF;rw[h];rfl
 have m:=mK h;have h0:(0:Int)<s.size:=oM;have hg:((s[0]'oM).toNat:Int)=bt s 0:=pM oM;go_enter func63,ntmps63
 (go_wp2_with fail);refine(QJ _ _ hs).mono ?_;rintro e w1 ⟨rfl,hb⟩;(go_wp2_with fail);go_loopw [3] (λkv wr=>∃k:Int,1<=k/\k<=6/\kv=.int .i64 k/\Below w.heap.size w wr/\Hid (∀j:Int,1<=j->j<k->bX j≠bt s 0)) (λkv _=>(6-intOf kv).toNat)
 case atStart=>exact⟨1,oM,oM,rfl,hb,λj h1 h2=>oM⟩
 case round =>
  obtain⟨k,g,r,rfl,d,hj⟩:=hrel;by_cases hk:k<6
  ·by_cases hl:bX k=bt s 0
   ·have f:(bX k==bt s 0)=true:=by rw[beq_iff_eq];exact hl
    have Hl:=dH hl;clear hl;go_wp2_with fail
    go_quiet ((go_at_call 123;exact lF (Q3 _ _)))
    (go_wp2_with fail);go_ret;exact⟨y9 (by rw[H.out,VX g hk Hl.out]),d5 d _⟩
   ·have f:(bX k==bt s 0)=false:=by rw[beq_eq_false_iff_ne];exact hl
    have Hl:=dH hl;clear hl;go_wp2_with fail
    go_quiet ((go_at_call 123;exact lF (Q3 _ _)))
    (go_wp2_with fail);go_roundw
    case rel =>
     refine⟨k+1,oM,oM,rfl,d5 d _,λj h1 h2=>?_⟩;by_cases e:j=k
     ·subst e;exact Hl.out
     ·exact hj.out j h1 oM
    case measure=>exact sZ
  ·(go_wp2_with fail);go_ret;exact⟨y9 (by rw[H.out,Q6 (λj h1 h2=>hj.out j h1 oM)]),d⟩
theorem bQ(s:ByteArray)(w:World)(hs:s.size<=9223372036854775807) :
  Calls prog 63 #[.string s] w λe w'=>e=.returned (.int .i64 (yF s))/\Below w.heap.size w w':=by
 cases h:jT s with
 | true=>exact kind_yes s w hs h
 | false=>exact kind_no s w hs h
def j5(s:ByteArray):Int:=if yF s=0 then 9 else 0
theorem rA(s:ByteArray)(w:World)(hs:s.size<=9223372036854775807) :
  Calls prog 81 #[.string s] w λe w'=>e=.returned (.int .i64 (j5 s))/\Below w.heap.size w w':=by
 by_cases h:yF s=0
 ·have h':(yF s==0)=true:=by rw[beq_iff_eq];exact h
  have H:Hid (j5 s=9):=by show j5 s=9;unfold j5;rw[if_pos h]
  clear h;go_enter func81,ntmps81
  (go_wp2_with fail);refine(bQ _ _ hs).mono ?_;rintro e w1 ⟨rfl,hb⟩;(go_wp2_with fail);go_ret;exact⟨y9 H.out.symm,hb⟩
 ·have h':(yF s==0)=false:=by rw[beq_eq_false_iff_ne];exact h
  have H:Hid (j5 s=0):=by show j5 s=0;unfold j5;rw[if_neg h]
  clear h;go_enter func81,ntmps81
  (go_wp2_with fail);refine(bQ _ _ hs).mono ?_;rintro e w1 ⟨rfl,hb⟩;(go_wp2_with fail);go_ret;exact⟨y9 H.out.symm,hb⟩
structure Hd where
 ps:Value
 ht:Int
 tp:ByteArray
 au:Int
 sq:Int
 sz:Int
 cm:zA
def hdC(x:Hd):Array Value:=#[x.ps] ++ #[.int .i64 x.ht] ++ #[.string x.tp] ++ #[.int .i64 x.au] ++ #[.int .i64 x.sq] ++ #[.int .i64 x.sz]++idC x.cm
@[simp] theorem vH(x:Hd):(hdC x).size=38:=by simp[hdC]
@[go_sem] theorem wQ(x:Hd):(hdC x)[0]?=some (x.ps):=by first | (simp[hdC,Array.getElem?_append];done) | (rw[show hdC x=((#[]:Array Value)) ++ #[x.ps]++(#[.int .i64 x.ht] ++ #[.string x.tp] ++ #[.int .i64 x.au] ++ #[.int .i64 x.sq] ++ #[.int .i64 x.sz]++idC x.cm)from by apply Array.ext';simp[hdC]];exact xJ _ _ _ _ sI)
@[go_sem] theorem hdC_gg0(x:Hd)(h:0<(hdC x).size):(hdC x)[0]'h=x.ps:=Option.some.inj ((Array.getElem?_eq_getElem h).symm.trans (wQ x))
@[go_sem] theorem mJ(x:Hd):(hdC x)[1]?=some (.int .i64 x.ht):=by first | (simp[hdC,Array.getElem?_append];done) | (rw[show hdC x=(#[x.ps]) ++ #[.int .i64 x.ht]++(#[.string x.tp] ++ #[.int .i64 x.au] ++ #[.int .i64 x.sq] ++ #[.int .i64 x.sz]++idC x.cm)from by apply Array.ext';simp[hdC]];exact xJ _ _ _ _ sI)
@[go_sem] theorem hdC_gg1(x:Hd)(h:1<(hdC x).size):(hdC x)[1]'h=.int .i64 x.ht:=Option.some.inj ((Array.getElem?_eq_getElem h).symm.trans (mJ x))
@[go_sem] theorem mI(x:Hd):(hdC x)[2]?=some (.string x.tp):=by first | (simp[hdC,Array.getElem?_append];done) | (rw[show hdC x=(#[x.ps] ++ #[.int .i64 x.ht]) ++ #[.string x.tp]++(#[.int .i64 x.au] ++ #[.int .i64 x.sq] ++ #[.int .i64 x.sz]++idC x.cm)from by apply Array.ext';simp[hdC]];exact xJ _ _ _ _ sI)
@[go_sem] theorem hdC_gg2(x:Hd)(h:2<(hdC x).size):(hdC x)[2]'h=.string x.tp:=Option.some.inj ((Array.getElem?_eq_getElem h).symm.trans (mI x))
@[go_sem] theorem pC(x:Hd):(hdC x)[3]?=some (.int .i64 x.au):=by first | (simp[hdC,Array.getElem?_append];done) | (rw[show hdC x=(#[x.ps] ++ #[.int .i64 x.ht] ++ #[.string x.tp]) ++ #[.int .i64 x.au]++(#[.int .i64 x.sq] ++ #[.int .i64 x.sz]++idC x.cm)from by apply Array.ext';simp[hdC]];exact xJ _ _ _ _ sI)
@[go_sem] theorem hdC_gg3(x:Hd)(h:3<(hdC x).size):(hdC x)[3]'h=.int .i64 x.au:=Option.some.inj ((Array.getElem?_eq_getElem h).symm.trans (pC x))
@[go_sem] theorem pB(x:Hd):(hdC x)[4]?=some (.int .i64 x.sq):=by first | (simp[hdC,Array.getElem?_append];done) | (rw[show hdC x=(#[x.ps] ++ #[.int .i64 x.ht] ++ #[.string x.tp] ++ #[.int .i64 x.au]) ++ #[.int .i64 x.sq]++(#[.int .i64 x.sz]++idC x.cm)from by apply Array.ext';simp[hdC]];exact xJ _ _ _ _ sI)
@[go_sem] theorem hdC_gg4(x:Hd)(h:4<(hdC x).size):(hdC x)[4]'h=.int .i64 x.sq:=Option.some.inj ((Array.getElem?_eq_getElem h).symm.trans (pB x))
@[go_sem] theorem pA(x:Hd):(hdC x)[5]?=some (.int .i64 x.sz):=by first | (simp[hdC,Array.getElem?_append];done) | (rw[show hdC x=(#[x.ps] ++ #[.int .i64 x.ht] ++ #[.string x.tp] ++ #[.int .i64 x.au] ++ #[.int .i64 x.sq]) ++ #[.int .i64 x.sz]++(idC x.cm)from by apply Array.ext';simp[hdC]];exact xJ _ _ _ _ sI)
@[go_sem] theorem hdC_gg5(x:Hd)(h:5<(hdC x).size):(hdC x)[5]'h=.int .i64 x.sz:=Option.some.inj ((Array.getElem?_eq_getElem h).symm.trans (pA x))
@[go_sem] theorem QH(x:Hd):(hdC x).extract 6 38=idC x.cm:=by
 have h:hdC x=(#[x.ps] ++ #[.int .i64 x.ht] ++ #[.string x.tp] ++ #[.int .i64 x.au] ++ #[.int .i64 x.sq] ++ #[.int .i64 x.sz])++idC x.cm++((#[]:Array Value)):=by first | (simp[hdC,Array.append_assoc];done) | (apply Array.ext';simp[hdC];done)
 rw[h];exact bZ _ _ _ _ _ sI sI
@[go_sem] theorem hdC_all(x:Hd):(hdC x).extract 0 38=hdC x:=by have:=Array.extract_size (xs:=hdC x);rwa [vH]at this
theorem bY(x:Hd)(d:x.ps.oneCell'=true):∀u∈(hdC x).toList,u.oneCell'=true:=by
 intro u hu;simp only[hdC,Array.toList_append,mem_append]at hu;rcases hu with(((((hu | hu) | hu) | hu) | hu) | hu) | hu
 ·simp at hu;subst hu;exact d
 ·simp at hu;subst hu;rfl
 ·simp at hu;subst hu;rfl
 ·simp at hu;subst hu;rfl
 ·simp at hu;subst hu;rfl
 ·simp at hu;subst hu;rfl
 ·exact yN _ u hu
def hd0:Hd:=⟨(.slice none 0 0),0,⟨#[]⟩,0,0,0,id0⟩
theorem v4:(prog.info? 44).map (·.size)=some 38:=kR
@[go_sem ↓] theorem ky(w:World):(zeroValue 44).run prog w=.ok (.agg (hdC hd0)) w:=by
 have h:(prog.info? 44).bind (·.zero)=some (.agg (hdC hd0)):=kR;cases hi:prog.info? 44 with
 | none=>rw[hi]at h;cases h
 | some i =>
  rw[hi]at h;have hz:i.zero=some (.agg (hdC hd0)):=h;simp[zeroValue,typeInfo,hi,hz]
@[go_sem ↓] theorem loadHd_rw(a:Addr):loadVar 44 a=ldS 44 a:=rfl
@[go_sem ↓] theorem storeHd_rw(a:Addr)(v:Value):storeVar 44 a v=stS 44 a v:=rfl
@[go_sem] theorem loadHd_run(w:World)(g o:Nat):(ldS 44 ⟨g,o,none⟩).run prog w=match z9 w g o 38 with | some cs=>.ok (.agg cs) w | none=>(loadVar 44 ⟨g,o,none⟩).run prog w :=
 jD underlying44 rfl v4 w g o
@[go_sem] theorem wW(w:World)(g:Nat)(hg:g=w.heap.size)(z:Array Value)(hz:z.size=38)(x:Hd)(d:x.ps.oneCell'=true)(e:TypeId):(stS 44 ⟨g,0,none⟩ (.agg (hdC x))).run prog (w.alloc (.cells z e))=.ok () (w.alloc (.cells (hdC x) e)) :=
 hg ▸ xW v4 w z (hdC x) hz (vH x) (bY x d)
@[go_sem ↓] theorem buildHd_rw(parts:Array (Nat×Value)):Instr.build 44 parts=bdS 44 parts:=rfl
@[go_sem ↓] theorem KG(x:Hd)(w:World):(Instr.field 44 (.agg (hdC x)) 1).run prog w=.ok (.int .i64 x.ht) w:=by
 unfold Instr.field;simp only[Sem.run_bind,run_underlying underlying44,Result.andThen_ok,part,asAgg,isAgg];simp[go_sem]
structure HdV where
 ps:List zA
 ht:Int
 tp:ByteArray
 au:Int
 sq:Int
 sz:Int
 cm:zA
def hdO(h:HdV)(A:Option Addr)(c:Nat):Hd:=⟨.slice A h.ps.length c,h.ht,h.tp,h.au,h.sq,h.sz,h.cm⟩
def hdE(h:HdV):Int :=
 if 4<h.ps.length then 6 else if kD h.ps=false then 4 else if h.ht<1\/1073741824<h.ht then 12
 else if(h.ps.length==0) != (h.ht==1)then 12 else if j5 h.tp≠0 then 9
 else if h.au<0\/255<h.au then 5 else if h.sq<1\/1073741824<h.sq then 5 else if h.sz<1\/512<h.sz then 5 else 0
structure HdOk(h:HdV):Prop where
 ps:h.ps.length<=4
 ris:kD h.ps=true
 ht:1<=h.ht/\h.ht<=1073741824
 one:(h.ps.length==0)=(h.ht==1)
 tp:j5 h.tp=0
 au:0<=h.au/\h.au<=255
 sq:1<=h.sq/\h.sq<=1073741824
 sz:1<=h.sz/\h.sz<=512
theorem a9{h:HdV}(e:hdE h=0):HdOk h:=by
 unfold hdE at e;split at e;· omega
 split at e;· omega
 split at e;· omega
 split at e;· omega
 split at e;· omega
 split at e;· omega
 split at e;· omega
 split at e;· omega
 rename_i h1 h2 h3 h4 h5 h6 h7 h8
 exact⟨oM,by simpa using h2,oM,by simpa using h4,oM,oM,oM,oM⟩
def hdB(h:HdV):List UInt8 :=
 beL 1 h.ps.length++h.ps.flatMap (·.l)++beL 4 h.ht.toNat++beL 1 h.tp.size++h.tp.data.toList++beL 1 h.au.toNat++beL 4 h.sq.toNat++beL 2 h.sz.toNat++h.cm.l
def hdI(h:HdV):zA:=if hdE h=0 then qI (hdB h)else id0
section
structure mX(α:Type) where
 rows:List α
 l:List UInt8
 e:Int
structure RowP(α:Type) where
 one:List UInt8->Int->α
 oL:List UInt8->Int->List UInt8
 oE:List UInt8->Int->Int
 put:α->List UInt8
 ok:α->Prop
section
variable {α:Type} (p:RowP α)
structure pP:Prop where
 split:∀l e,p.oE l e=0->e=0/\p.put (p.one l e)++p.oL l e=l
 back:∀x t,p.ok x->p.one (p.put x++t) 0=x/\p.oL (p.put x++t) 0=t/\p.oE (p.put x++t) 0=0
 some_:∀x,1<=(p.put x).length
def gP(s:mX α):mX α:=⟨s.rows ++ [p.one s.l s.e],p.oL s.l s.e,p.oE s.l s.e⟩
def qF:Nat->mX α->mX α
 | 0,s=>s
 | k+1,s=>if s.e=0 then qF k (gP p s)else s
def j2(l:List UInt8)(e:Int):mX α:=qF p (yZ 4 l e) ⟨[],zM 4 l e,zN 4 l e⟩
def xt(X:List α):List UInt8:=beL 4 X.length++X.flatMap p.put
variable {p}
theorem jY(k:Nat)(s:mX α)(h:s.e≠0):qF p k s=s:=by
 cases k with
 | zero=>rfl
 | succ k=>unfold qF;rw[if_neg h]
theorem jZ(k:Nat)(s:mX α)(h:s.e=0):qF p (k+1) s=qF p k (gP p s):=by rw[qF,if_pos h]
theorem VT:∀(k:Nat) (s:mX α),(qF p k s).rows.length<=s.rows.length+k
 | 0,s=>lR
 | k+1,s=>by
  unfold qF;split
  ·have:=VT k (gP p s);unfold gP at this |-;simp only[length_append,length_cons,length_nil]at this;omega
  ·omega
theorem VH(l:List UInt8)(e:Int):(j2 p l e).rows.length<4294967296:=by
 have h1:=VT (p:=p) (yZ 4 l e) ⟨[],zM 4 l e,zN 4 l e⟩;have h2:=xL 4 l e;unfold j2;simp only[length_nil]at h1;omega
theorem ZB(L:pP p):∀(k:Nat) (s:mX α),(qF p k s).e=0->∃X:List α,X.length=k/\(qF p k s).rows=s.rows++X/\X.flatMap p.put++(qF p k s).l=s.l/\s.e=0
 | 0,s,h=>⟨[],rfl,by simp[qF],by simp[qF],h⟩
 | k+1,s,h=>by
  by_cases he:s.e=0
  ·rw[jZ k s he]at h |-;obtain⟨X,h1,h2,h3,h0⟩:=ZB L k (gP p s) h;obtain⟨_,h5⟩:=L.split s.l s.e h0;refine⟨p.one s.l s.e :: X,by simp[h1],by rw[h2];simp[gP],?_,he⟩;rw[flatMap_cons,append_assoc,h3];exact h5
  ·rw[jY _ _ he]at h;exact absurd h he
theorem vN(L:pP p){l:List UInt8}(h:(j2 p l e).e=0):e=0/\xt p (j2 p l e).rows++(j2 p l e).l=l:=by
 obtain⟨X,h1,h2,h3,h4⟩:=ZB L _ _ h;obtain⟨h6,h5⟩:=dV (show zN 4 l e=0 from h4);refine⟨h6,?_⟩;unfold j2;rw[h2];unfold xt;simp only[nil_append,append_assoc];rw[h1,h3,h5]
theorem VS(L:pP p):∀(X R:List α) (t:List UInt8),(∀x∈X,p.ok x)->qF p X.length ⟨R,X.flatMap p.put++t,0⟩=⟨R++X,t,0⟩
 | [],R,t,_=>by simp[qF]
 | x :: X,R,t,h=>by
  rw[length_cons,jZ _ _ rfl];obtain⟨h1,h2,h3⟩:=L.back x (X.flatMap p.put++t) (h x sI);have e:gP p ⟨R,(x :: X).flatMap p.put++t,0⟩=⟨R ++ [x],X.flatMap p.put++t,0⟩:=by
   unfold gP;simp only[flatMap_cons,append_assoc];rw[h1,h2,h3]
  rw[e,VS L X (R ++ [x]) t (λp hp=>h p (by simp[hp]))]
  simp
theorem putG_len(L:pP p):∀X:List α,X.length<=(xt p X).length:=by
 intro X;have h:∀Y:List α,Y.length<=(Y.flatMap p.put).length:=by
  intro Y;induction Y with
  | nil=>exact lR
  | cons y Y ih=>have:=L.some_ y;simp only[flatMap_cons,length_append,length_cons];omega
 have:=h X;unfold xt;rw[length_append];omega
theorem jQ(L:pP p){l:List UInt8}(h:(j2 p l e).e=0):(j2 p l e).rows.length+(j2 p l e).l.length<=l.length:=by
 obtain⟨_,h2⟩:=vN L h;have h3:=putG_len L (j2 p l e).rows;have h4:=congrArg List.length h2;rw[length_append]at h4;omega
end
def idP:RowP zA:=⟨λl e=>xQ (yX 32 l e),λl e=>zM 32 l e,λl e=>zN 32 l e,zA.l,λ_=>True⟩
theorem eW{d:zA}(t:List UInt8):xQ (yX 32 (d.l++t) 0)=d/\zM 32 (d.l++t) 0=t/\zN 32 (d.l++t) 0=0:=by
 have hd:=BI d.l t;rw[d.h]at hd;obtain⟨d1,d2,d3⟩:=hd;rw[d1,d2,d3];exact⟨by unfold xQ;rw[dif_pos d.h],rfl,rfl⟩
theorem eU{l:List UInt8}(h:zN 32 l e=0):e=0/\(xQ (yX 32 l e)).l++zM 32 l e=l:=by
 obtain⟨h1,h2,h3⟩:=lE h;have e1:(xQ (yX 32 l e)).l=yX 32 l e:=by unfold xQ;rw[dif_pos h3]
 exact⟨h1,by rw[e1,h2]⟩
theorem nC:pP idP:=⟨λl e h=>eU h,λx t _=>eW t,λx=>by show 1<=x.l.length;rw[x.h];omega⟩
end
def hofT(ps:List zA)(l:List UInt8)(e:Int):HdV×List UInt8×Int :=
 let l1:=zM 4 l e;let e1:=zN 4 l e
 let l2:=txL l1 e1;let e2:=txE l1 e1
 let l3:=zM 1 l2 e2;let e3:=zN 1 l2 e2
 let l4:=zM 4 l3 e3;let e4:=zN 4 l3 e3
 let l5:=zM 2 l4 e4;let e5:=zN 2 l4 e4
 (⟨ps,yZ 4 l e,txV l1 e1,yZ 1 l2 e2,yZ 4 l3 e3,yZ 2 l4 e4,xQ (yX 32 l5 e5)⟩,zM 32 l5 e5,zN 32 l5 e5)
def hofP(l:List UInt8):mX zA:=qF idP (yZ 1 l 0) ⟨[],zM 1 l 0,zN 1 l 0⟩
def rF(l:List UInt8):HdV×List UInt8×Int:=hofT (hofP l).rows (hofP l).l (hofP l).e
def nE(l:List UInt8):Int :=
 if 256<l.length then 3 else if jE (rF l).2.1 (rF l).2.2≠0 then jE (rF l).2.1 (rF l).2.2 else hdE (rF l).1
def BT(l:List UInt8):HdV:=(rF l).1
theorem hofE_ok{l:List UInt8}(h:nE l=0):hdE (BT l)=0:=by
 unfold nE at h;split at h
 ·cases h
 split at h
 ·contradiction
 ·exact h

structure JV where
 k:Int
 n:Int
 l:Value
def zI(x:JV):Array Value:=#[.int .i64 x.k] ++ #[.int .i64 x.n] ++ #[x.l]
@[simp] theorem jX(x:JV):(zI x).size=3:=by simp[zI]
@[go_sem] theorem valVC_g1(x:JV):(zI x)[1]?=some (.int .i64 x.n):=by first | (simp[zI,Array.getElem?_append];done) | (rw[show zI x=(#[.int .i64 x.k]) ++ #[.int .i64 x.n]++(#[x.l])from by apply Array.ext';simp[zI]];exact xJ _ _ _ _ sI)
@[go_sem] theorem valVC_gg1(x:JV)(h:1<(zI x).size):(zI x)[1]'h=.int .i64 x.n:=Option.some.inj ((Array.getElem?_eq_getElem h).symm.trans (valVC_g1 x))
@[go_sem] theorem valVC_g2(x:JV):(zI x)[2]?=some (x.l):=by first | (simp[zI,Array.getElem?_append];done) | (rw[show zI x=(#[.int .i64 x.k] ++ #[.int .i64 x.n]) ++ #[x.l]++((#[]:Array Value))from by apply Array.ext';simp[zI]];exact xJ _ _ _ _ sI)
@[go_sem] theorem valVC_gg2(x:JV)(h:2<(zI x).size):(zI x)[2]'h=x.l:=Option.some.inj ((Array.getElem?_eq_getElem h).symm.trans (valVC_g2 x))
@[go_sem] theorem valVC_all(x:JV):(zI x).extract 0 3=zI x:=by have:=Array.extract_size (xs:=zI x);rwa [jX]at this
theorem k8(x:JV)(hl:x.l.oneCell'=true):∀u∈(zI x).toList,u.oneCell'=true:=by
 intro u hu;simp only[zI,Array.toList_append,mem_append]at hu;rcases hu with(hu | hu) | hu
 ·simp at hu;subst hu;rfl
 ·simp at hu;subst hu;rfl
 ·simp at hu;subst hu;exact hl
def x8:JV:=⟨0,0,(.slice none 0 0)⟩
theorem qL:(prog.info? 39).map (·.size)=some 3:=kR
@[go_sem ↓] theorem zeroValV_run(w:World):(zeroValue 39).run prog w=.ok (.agg (zI x8)) w:=by
 have h:(prog.info? 39).bind (·.zero)=some (.agg (zI x8)):=kR;cases hi:prog.info? 39 with
 | none=>rw[hi]at h;cases h
 | some i =>
  rw[hi]at h;have hz:i.zero=some (.agg (zI x8)):=h;simp[zeroValue,typeInfo,hi,hz]
@[go_sem ↓] theorem loadValV_rw(a:Addr):loadVar 39 a=ldS 39 a:=rfl
@[go_sem ↓] theorem storeValV_rw(a:Addr)(v:Value):storeVar 39 a v=stS 39 a v:=rfl
@[go_sem] theorem loadValV_run(w:World)(g o:Nat):(ldS 39 ⟨g,o,none⟩).run prog w=match z9 w g o 3 with | some cs=>.ok (.agg cs) w | none=>(loadVar 39 ⟨g,o,none⟩).run prog w :=
 jD underlying39 rfl qL w g o
@[go_sem] theorem tM(w:World)(g:Nat)(hg:g=w.heap.size)(z:Array Value)(hz:z.size=3)(x:JV)(hl:x.l.oneCell'=true)(e:TypeId):(stS 39 ⟨g,0,none⟩ (.agg (zI x))).run prog (w.alloc (.cells z e))=.ok () (w.alloc (.cells (zI x) e)) :=
 hg ▸ xW qL w z (zI x) hz (jX x) (k8 x hl)
@[go_sem ↓] theorem buildValV_rw(parts:Array (Nat×Value)):Instr.build 39 parts=bdS 39 parts:=rfl
@[go_sem] theorem buildValV_e(w:World):(bdS 39 #[]).run prog w=.ok (.agg (zI x8)) w:=kR
@[go_sem] theorem buildValV_k(k:Int)(w:World):(bdS 39 #[(0,.int .i64 k)]).run prog w=.ok (.agg (zI ⟨k,0,.slice none 0 0⟩)) w:=kR
section
theorem dW{α:Type}:∀ {l:List α},l.Nodup->∀ {i j:Nat} {a:α},l[i]?=some a->l[j]?=some a->i=j
 | [],_,_,_,_,h,_=>by simp at h
 | x :: l,hn,i,j,a,hi,hj=>by
  rw[nodup_cons]at hn
  match i,j,hi,hj with
  | 0,0,_,_=>rfl
  | 0,j+1,hi,hj=>simp at hi hj;subst hi;exact absurd (mem_of_getElem? hj) hn.1
  | i+1,0,hi,hj=>simp at hi hj;subst hj;exact absurd (mem_of_getElem? hi) hn.1
  | i+1,j+1,hi,hj =>
   have:=dW hn.2 (i:=i) (j:=j) (a:=a) (by simpa using hi) (by simpa using hj);omega
section
variable {P:Program} {K:TypeId} {κ ν:Type}
structure bD(P:Program)(K:TypeId){κ:Type}(kv:κ->Value)(ok:κ->Prop):Prop where
 law:WideMaps.KeyLaw P K
 key:∀k,ok k->∃l,keyOf P K (kv k)=some l
 inj:∀a b,kv a=kv b->a=b
structure yK(w:World)(b:Nat)(kv:κ->Value)(vv:ν->Value)(ok:κ->Prop)(M:List (κ×ν))(es:Array MapEntry)(clk:Nat):Prop where
 heap:w.heap[b]?=some (.map es clk)
 keys:es.toList.map (·.key)=M.map (λp=>kv p.1)
 vals:es.toList.map (·.val)=M.map (λp=>vv p.2)
 nodup:(M.map (·.1)).Nodup
 okk:∀p∈M,ok p.1
 born:(es.toList.map (·.born)).Nodup
 clock:∀e∈es.toList,e.born<clk
def bJ[DecidableEq κ](M:List (κ×ν))(k:κ)(v:ν):List (κ×ν):=if k∈M.map (·.1)then M.map (λp=>if p.1=k then(k,v)else p)else M ++ [(k,v)]
variable {kv:κ->Value} {vv:ν->Value} {ok:κ->Prop} {w:World} {b:Nat} {M:List (κ×ν)} {es:Array MapEntry} {clk:Nat}
theorem yK.length(h:yK w b kv vv ok M es clk):es.size=M.length:=by
 have:=congrArg List.length h.keys;simpa using this
theorem yK.at_(h:yK w b kv vv ok M es clk){p:κ×ν}(hp:M[j]?=some p):∃e,es.toList[j]?=some e/\e.key=kv p.1/\e.val=vv p.2:=by
 have hk:=congrArg (λl=>l[j]?) h.keys;have hv:=congrArg (λl=>l[j]?) h.vals;simp only[getElem?_map,hp,Option.map_some]at hk hv;cases he:es.toList[j]? with
 | none=>rw[he]at hk;cases hk
 | some e =>
  rw[he]at hk hv;exact⟨e,rfl,by simpa using hk,by simpa using hv⟩
theorem yK.at_key(h:yK w b kv vv ok M es clk){e:MapEntry}(he:es.toList[j]?=some e):∃p,M[j]?=some p/\e.key=kv p.1/\e.val=vv p.2:=by
 have hk:=congrArg (λl=>l[j]?) h.keys;have hv:=congrArg (λl=>l[j]?) h.vals;simp only[getElem?_map,he,Option.map_some]at hk hv;cases hp:M[j]? with
 | none=>rw[hp]at hk;cases hk
 | some p =>
  rw[hp]at hk hv;exact⟨p,rfl,by simpa using hk,by simpa using hv⟩
theorem yK.kept(h:yK w b kv vv ok M es clk)(hk:z8 S w w')(hb:b∉S):yK w' b kv vv ok M es clk :=
 ⟨(hk.block b (by
   rcases Nat.lt_or_ge b w.heap.size with hl | hl
   ·exact hl
   ·have:=h.heap;rw[Array.getElem?_eq_none hl]at this;cases this) hb).trans h.heap,h.keys,h.vals,h.nodup,h.okk,h.born,h.clock⟩
theorem yK.lt(h:yK w b kv vv ok M es clk):b<w.heap.size:=by
 rcases Nat.lt_or_ge b w.heap.size with hl | hl
 ·exact hl
 ·have:=h.heap;rw[Array.getElem?_eq_none hl]at this;cases this
theorem yK.find(h:yK w b kv vv ok M es clk)(E:bD P K kv ok){k:κ}(hk:ok k) :
  ((Instr.findKey K (kv k) es.toList).run P w=.ok none w/\k∉M.map (·.1)) \/
  ∃j p,(Instr.findKey K (kv k) es.toList).run P w=.ok (some (j,vv p.2)) w/\M[j]?=some p/\p.1=k:=by
 obtain⟨l,hl⟩:=E.key k hk;have f:∀e∈es.toList,∃l,keyOf P K e.key=some l:=by
  intro e he;obtain⟨j,hj,rfl⟩:=mem_iff_getElem.1 he;obtain⟨p,hp,d,_⟩:=h.at_key (getElem?_eq_getElem hj);rw[d];exact E.key _ (h.okk p (mem_of_getElem? hp))
 rcases E.law.find w hl es.toList f with⟨hrun,hno⟩ | ⟨j,e,hrun,hj,d⟩
 ·refine .inl ⟨hrun,λhm=>?_⟩;obtain⟨p,hp,rfl⟩:=mem_map.1 hm;obtain⟨j,hj,m⟩:=mem_iff_getElem.1 hp;obtain⟨e,he,s,_⟩:=h.at_ (j:=j) (p:=p) (by rw[getElem?_eq_getElem hj,m]);exact hno e (mem_of_getElem? he) s
 ·obtain⟨p,hp,r,g⟩:=h.at_key hj;exact .inr ⟨j,p,by rw[hrun,g],hp,E.inj _ _ (r.symm.trans d)⟩
theorem qZ(h:w.heap[b]?=some (.map es clk)):(getObj b).run P w=.ok (.map es clk) w:=by
 simp[getObj,Sem.run,h]
theorem yK.hit(h:yK w b kv vv ok M es clk)(E:bD P K kv ok)(ht:P.underlying T=some (.map K E')){k:κ}{v:ν}(hk:ok k)(hm:(k,v)∈M)(d:Bool) :
  (Instr.lookup T (.map (some b)) (kv k) d).run P w=.ok (if d then .tuple #[vv v,.bool true]else vv v) w:=by
 obtain⟨l,hl⟩:=E.key k hk;rcases h.find E hk with⟨_,hno⟩ | ⟨j,p,hrun,hp,hpk⟩
 ·exact absurd (mem_map.2 ⟨_,hm,rfl⟩) hno
 ·have m:p=(k,v):=by
   obtain⟨i,hi,f⟩:=mem_iff_getElem.1 hm;obtain⟨hj,g⟩:=List.getElem?_eq_some_iff.1 hp;have r:=h.nodup;have e1:(M.map (·.1))[i]?=some k:=by rw[getElem?_map,getElem?_eq_getElem hi,f];rfl
   have e2:(M.map (·.1))[j]?=some k:=by rw[getElem?_map,hp];simp[hpk]
   have:i=j:=dW r e1 e2;subst this;rw[<-g,f]
  subst m;simp only[Instr.lookup,Sem.run_bind,run_underlying ht,Result.andThen_ok,qZ h.heap,E.law.check w es.isEmpty hl,hrun,Sem.run_pure]
theorem yK.miss(h:yK w b kv vv ok M es clk)(E:bD P K kv ok)(ht:P.underlying T=some (.map K E')){z:Value}(hz:(zeroValue E').run P w=.ok z w){k:κ}(hk:ok k)(hm:k∉M.map (·.1))(d:Bool) :
  (Instr.lookup T (.map (some b)) (kv k) d).run P w=.ok (if d then .tuple #[z,.bool false]else z) w:=by
 obtain⟨l,hl⟩:=E.key k hk;rcases h.find E hk with⟨hrun,_⟩ | ⟨j,p,hrun,hp,hpk⟩
 ·simp only[Instr.lookup,Sem.run_bind,run_underlying ht,Result.andThen_ok,qZ h.heap,E.law.check w es.isEmpty hl,hrun,Sem.run_pure,hz]
 ·exact absurd (mem_map.2 ⟨p,mem_of_getElem? hp,hpk⟩) hm
theorem gX(w:World)(b:Nat)(o:Obj):z8 [b] w { w with heap:=w.heap.setIfInBounds b o } :=
 ⟨rfl,rfl,rfl,sI,λk _ hn=>by
  show(w.heap.setIfInBounds b o)[k]?=_;rw[Array.getElem?_setIfInBounds_ne (by simpa using λe=>hn (by simp[e]))]⟩
theorem gQ{w:World}{b:Nat}{es:Array MapEntry}{d:Nat}(h:w.heap[b]?=some (.map es d))(o:Obj):(setObj b o).run P w=.ok () { w with heap:=w.heap.setIfInBounds b o }:=by
 simp[setObj,Sem.run,h]
theorem gY{w:World}{b:Nat}(o:Obj)(hb:b<w.heap.size):({ w with heap:=w.heap.setIfInBounds b o }:World).heap[b]?=some o:=by
 show(w.heap.setIfInBounds b o)[b]?=_;rw[Array.getElem?_setIfInBounds_self_of_lt hb]
theorem yK.update[DecidableEq κ](h:yK w b kv vv ok M es clk)(E:bD P K kv ok)(ht:P.underlying T=some (.map K E')){k:κ}{v:ν}(hk:ok k) :
  ∃w' es' clk',(Instr.mapUpdate T (.map (some b)) (kv k) (vv v)).run P w=.ok () w'/\yK w' b kv vv ok (bJ M k v) es' clk'/\z8 [b] w w':=by
 obtain⟨l,hl⟩:=E.key k hk;rcases h.find E hk with⟨hrun,hno⟩ | ⟨j,p,hrun,hp,hpk⟩
 ·refine⟨_,es.push { key:=kv k,val:=vv v,born:=clk },clk+1,?_,⟨gY _ h.lt,?_,?_,?_,?_,?_,?_⟩,gX w b _⟩
  ·simp only[Instr.mapUpdate,Sem.run_bind,run_underlying ht,Result.andThen_ok,qZ h.heap,E.law.check w false hl,hrun,gQ h.heap]
  ·unfold bJ;rw[if_neg hno];simp[h.keys]
  ·unfold bJ;rw[if_neg hno];simp[h.vals]
  ·unfold bJ;rw[if_neg hno,map_append,nodup_append];refine⟨h.nodup,sI,?_⟩;intro a ha c hc e;simp at hc;subst hc;subst e;exact hno ha
  ·unfold bJ;rw[if_neg hno];intro q hq;rcases mem_append.1 hq with hq | hq
   ·exact h.okk q hq
   ·simp at hq;subst hq;exact hk
  ·simp only[Array.toList_push,map_append,map_cons,map_nil,nodup_append];refine⟨h.born,sI,?_⟩;intro a ha c hc e;simp at hc;subst hc;subst e;obtain⟨e',d,G⟩:=mem_map.1 ha;have:=h.clock e' d;omega
  ·intro e he;simp only[Array.toList_push,mem_append,mem_singleton]at he;rcases he with he | he
   ·have:=h.clock e he;omega
   ·subst he;show clk<clk+1;omega
 ·have t:k∈M.map (·.1):=mem_map.2 ⟨p,mem_of_getElem? hp,hpk⟩;obtain⟨e0,g,D,F⟩:=h.at_ hp;have s:((es[j]?).map (·.key)).getD (kv k)=kv k:=by
   have:es[j]?=some e0:=by simpa using g
   rw[this];simp[D,hpk]
  have r:bJ M k v=M.modify j (λ_=>(k,v)):=by
   unfold bJ;rw[if_pos t];apply ext_getElem?;intro n;rw[getElem?_map,getElem?_modify];by_cases hn:j=n
   ·subst hn;simp[hp,hpk]
   ·cases hq:M[n]? with
    | none=>simp[hn]
    | some q =>
     have A:q.1≠k:=by
      intro e;have e1:(M.map (·.1))[j]?=some k:=by rw[getElem?_map,hp];simp[hpk]
      have e2:(M.map (·.1))[n]?=some k:=by rw[getElem?_map,hq];simp[e]
      exact hn (dW h.nodup e1 e2)
     simp[hn,A]
  refine⟨_,es.modify j λe=>{ e with key:=kv k,val:=vv v },clk,?_,⟨gY _ h.lt,?_,?_,?_,?_,?_,?_⟩,gX w b _⟩
  ·simp only[Instr.mapUpdate,Sem.run_bind,run_underlying ht,Result.andThen_ok,qZ h.heap,E.law.check w false hl,hrun,s,E.law.stays w hl,gQ h.heap]
  all_goals (try rw[r])
  ·rw[Array.toList_modify];apply ext_getElem?;intro n;have m:=congrArg (λl=>l[n]?) h.keys;simp only[getElem?_map]at m;simp only[getElem?_map,getElem?_modify];by_cases hn:j=n
   ·subst hn;simp[hp,g]
   ·simpa[hn]using m
  ·rw[Array.toList_modify];apply ext_getElem?;intro n;have m:=congrArg (λl=>l[n]?) h.vals;simp only[getElem?_map]at m;simp only[getElem?_map,getElem?_modify];by_cases hn:j=n
   ·subst hn;simp[hp,g]
   ·simpa[hn]using m
  ·have:(M.modify j λ_=>(k,v)).map (·.1)=M.map (·.1):=by
    apply ext_getElem?;intro n;simp only[getElem?_map,getElem?_modify];by_cases hn:j=n
    ·subst hn;simp[hp,hpk]
    ·simp[hn]
   rw[this];exact h.nodup
  ·intro q hq;obtain⟨n,hn,y⟩:=mem_iff_getElem.1 hq;have f:(M.modify j λ_=>(k,v))[n]?=some q:=by rw[getElem?_eq_getElem hn,y]
   rw[getElem?_modify]at f;by_cases e:j=n
   ·subst e;rw[hp]at f;simp at f;subst f;exact hk
   ·simp[e]at f;exact h.okk q (mem_of_getElem? f)
  ·have:((es.modify j λe=>{ e with key:=kv k,val:=vv v }).toList.map (·.born))=es.toList.map (·.born):=by
    rw[Array.toList_modify];apply ext_getElem?;intro n;simp only[getElem?_map,getElem?_modify];by_cases hn:j=n
    ·subst hn;simp[g]
    ·simp[hn]
   rw[this];exact h.born
  ·intro e he;rw[Array.toList_modify]at he;obtain⟨n,hn,B⟩:=mem_iff_getElem.1 he;have d:(es.toList.modify j λe=>{ e with key:=kv k,val:=vv v })[n]?=some e:=by rw[getElem?_eq_getElem hn,B]
   rw[getElem?_modify]at d;by_cases hj:j=n
   ·subst hj;rw[g]at d;simp at d;subst d;exact h.clock e0 (mem_of_getElem? g)
   ·simp[hj]at d;exact h.clock e (mem_of_getElem? (by simpa using d))
theorem yK.new(w:World)(b:Nat)(hb:b=w.heap.size):yK (w.alloc (.map #[] 0)) b kv vv ok [] #[] 0:=by
 subst hb;exact⟨heap_alloc_new w _,rfl,rfl,sI,sI,sI,sI⟩
theorem yK.len(h:yK w b kv vv ok M es clk)(ht:P.underlying T=some (.map K E'))(d:ats[0]?=some T):(Builtin.len_ ats ty #[.map (some b)]).run P w=.ok (.int .i64 M.length) w:=by
 simp[Builtin.len_,d,run_underlying ht,qZ h.heap,goInt,h.length]
end
end
section
open Go.ChangeMaps (setBlock)
section
variable {P:Program} {K:TypeId} {κ ν:Type} {kv:κ->Value} {vv:ν->Value} {ok:κ->Prop} {w:World} {b r:Nat} {M S:List (κ×ν)} {es:Array MapEntry} {clk:Nat}
theorem yK.nodupP(h:yK w b kv vv ok M es clk):M.Nodup:=by
 have:=h.nodup;exact Pairwise.of_map (·.1) (λa b h e=>h (by rw[e])) this
def jL(w:World)(b r:Nat)(kv:κ->Value)(vv:ν->Value)(ok:κ->Prop)(M S:List (κ×ν)):Prop :=
 ∃es clk since dO c0,yK w b kv vv ok M es clk/\w.heap[r]?=some (.mapIter (some b) since dO c0)/\(∀x∈es.toList,x.born<since)/\since<=c0/\since<=clk /\
  S.Nodup/\(∀p∈S,p∈M)/\(∀(j:Nat) (e:MapEntry) (p:κ×ν),es.toList[j]?=some e->M[j]?=some p->(p∈S↔dO.contains e.born=true))
theorem jL.ne(h:jL w b r kv vv ok M S):r≠b:=by
 obtain⟨es,f,d,dO,c0,hm,hr,_⟩:=h;rintro rfl;have:=hm.heap;rw[hr]at this;cases this
theorem jL.lt(h:jL w b r kv vv ok M S):r<w.heap.size/\b<w.heap.size:=by
 obtain⟨es,f,d,dO,c0,hm,hr,_⟩:=h;exact⟨(aG hr).1,hm.lt⟩
theorem jL.kept{T:List Nat}{w':World}(h:jL w b r kv vv ok M S)(hk:z8 T w w')(hb:b∉T)(hr:r∉T):jL w' b r kv vv ok M S:=by
 have hl:=h.lt;obtain⟨es,g,d,dO,c0,hm,hi,f⟩:=h;exact⟨es,g,d,dO,c0,hm.kept hk hb,(hk.block r hl.1 hr).trans hi,f⟩
theorem q8{T:List Nat}{w:World}{b r:Nat}(hk:z8 T w w')(hb:b∉T)(hr:r∉T)(f:b<w.heap.size)(d:r<w.heap.size):w'.rangeLeft b r=w.rangeLeft b r:=by
 unfold rangeLeft;rw[hk.block b f hb,hk.block r d hr]
theorem jL.sub(h:jL w b r kv vv ok M S):∀p∈S,p∈M:=by
 obtain⟨es,f,d,dO,c0,hm,hr,_,_,_,_,hs,_⟩:=h;exact hs
theorem jL.nodup(h:jL w b r kv vv ok M S):S.Nodup:=by
 obtain⟨es,f,d,dO,c0,hm,hr,_,_,_,hs,_,_⟩:=h;exact hs
theorem gA{α:Type}:∀ {S M:List α},S.Nodup->(∀x∈S,x∈M)->S.length<=M.length
 | [],_,_,_=>zL
 | x :: S,M,hn,hs=>by
  rw[nodup_cons]at hn;obtain⟨A,B,rfl⟩:=append_of_mem (hs x sI);have:=gA (M:=A++B) hn.2 (λy hy=>by
   have h1:=hs y (by simp[hy]);rcases mem_append.1 h1 with h | h
   ·exact mem_append.2 (.inl h)
   ·rcases mem_cons.1 h with h | h
    ·subst h;exact absurd hy hn.1
    ·exact mem_append.2 (.inr h))
  simp at this |-;omega
theorem jL.length(h:jL w b r kv vv ok M S):S.length<=M.length:=gA h.nodup h.sub
theorem yK.range{T E':TypeId}(h:yK w b kv vv ok M es clk)(ht:P.underlying T=some (.map K E')) :
  ∃w',(Instr.range T (.map (some b))).run P w=.ok (.pointer (some ⟨w.heap.size,0,none⟩)) w'/\jL w' b w.heap.size kv vv ok M []/\Below w.heap.size w w'/\w'.heap.size=w.heap.size+1:=by
 refine⟨_,run_range_map w T K E' b es clk ht h.heap,⟨es,clk,clk,#[],clk,h.kept (z8.alloc _ _) sI,heap_alloc_new w _,h.clock,lR,lR,nodup_nil,sI,?_⟩,bA,sI⟩;intro j e p _ _
 simp
theorem jL.next(h:jL w b r kv vv ok M S)(ty:TypeId) :
  (S.Perm M/\(Instr.next (.pointer (some ⟨r,0,none⟩)) false ty).run P w=.ok (.tuple #[.bool false]) w) \/
  ∃p w',p∈M/\p∉S/\(Instr.next (.pointer (some ⟨r,0,none⟩)) false ty).run P w=.ok (.tuple #[.bool true,kv p.1,vv p.2]) w'/\jL w' b r kv vv ok M (S ++ [p])/\z8 [r] w w'/\w'.heap.size=w.heap.size /\
   w'.rangeLeft b r<w.rangeLeft b r/\(Instr.entry (.pointer (some ⟨r,0,none⟩))).run P w'=.ok (.tuple #[kv p.1,vv p.2]) w':=by
 have E:=h.ne;obtain⟨es,g,d,dO,c0,hm,hr,B,N,F,H,A,s⟩:=h;rcases run_next_at (P:=P) w ty r b d c0 dO es g hr hm.heap B N with⟨h0,hrun⟩ | ⟨e,he,w1,hal,hrun⟩
 ·refine .inl ⟨?_,hrun⟩;refine(perm_ext_iff_of_nodup H hm.nodupP).2 λp=>⟨A p,λhp=>?_⟩;obtain⟨j,hj,rfl⟩:=mem_iff_getElem.1 hp;obtain⟨e,he,_,_⟩:=hm.at_ (getElem?_eq_getElem hj);exact(s j e _ he (getElem?_eq_getElem hj)).2 (all_seen es dO h0 e (mem_of_getElem? he))
 ·obtain⟨J,I⟩:=mem_left he;obtain⟨j,hj,rfl⟩:=mem_iff_getElem.1 J;have D:es.toList[j]?=some es.toList[j]:=getElem?_eq_getElem hj;obtain⟨p,hp,hk,hv⟩:=hm.at_key D;have O:w1.heap[r]?=some (.mapIter (some b) d dO c0):=by rcases hal with rfl | rfl <;> exact hr
  have L:w1.heap[b]?=some (.map es g):=by rcases hal with rfl | rfl <;> exact hm.heap
  have f:=MapKept.heap_set (o':=.mapIter (some b) d (dO.push es.toList[j].born) g) O;have m:z8 [r] w (setBlock w1 r (.mapIter (some b) d (dO.push es.toList[j].born) g)):=by
   rcases hal with rfl | rfl
   ·exact⟨rfl,rfl,rfl,by simp[setBlock],λk _ hn=>f.2 k (by simpa using hn)⟩
   ·exact⟨rfl,rfl,rfl,by simp[setBlock],λk _ hn=>f.2 k (by simpa using hn)⟩
  have R:yK (setBlock w1 r (.mapIter (some b) d (dO.push es.toList[j].born) g)) b kv vv ok M es g:=hm.kept m (by simpa using λe=>E e.symm);have G:p∉S:=λhm=>(by rw[(s j _ p D hp).1 hm]at I;cases I);refine .inr ⟨p,_,mem_of_getElem? hp,G,by rw[hrun,hk,hv],⟨es,g,d,dO.push es.toList[j].born,g,R,f.1,B,F,F,?_,?_,?_⟩,m,?_,?_,?_⟩
  ·rw[nodup_append];refine⟨H,sI,λa ha c hc e=>?_⟩;simp at hc;subst hc;subst e;exact G ha
  ·intro q hq;rcases mem_append.1 hq with hq | hq
   ·exact A q hq
   ·simp at hq;subst hq;exact mem_of_getElem? hp
  ·intro j' e' p' y t;rw[contains_push,mem_append,Bool.or_eq_true,s j' e' p' y t];refine or_congr Iff.rfl ?_;simp only[mem_singleton,beq_iff_eq];constructor
   ·intro e1;subst e1;have:j'=j:=dW hm.nodupP t hp;subst this;rw[D]at y;injection y with y
    rw[y]
   ·intro e1;have e2:(es.toList.map (·.born))[j']?=some e'.born:=by rw[getElem?_map,y];rfl
    have e3:(es.toList.map (·.born))[j]?=some e'.born:=by rw[getElem?_map,D,e1];rfl
    have:j'=j:=dW hm.born e2 e3;subst this;rw[hp]at t;injection t with t
    exact t.symm
  ·rcases hal with rfl | rfl <;> simp[setBlock]
  ·unfold rangeLeft;have q1:(setBlock w1 r (.mapIter (some b) d (dO.push es.toList[j].born) g)).heap[b]?=some (.map es g):=(f.2 b (λe=>E e.symm)).trans L;have q2:(setBlock w1 r (.mapIter (some b) d (dO.push es.toList[j].born) g)).heap[r]?=some (.mapIter (some b) d (dO.push es.toList[j].born) g):=f.1;rw[q1,q2,hm.heap,hr];exact left_shrinks es dO _ he
  ·have:=run_entry_at (P:=P) (setBlock w1 r (.mapIter (some b) d (dO.push es.toList[j].born) g)) r b d dO es g es.toList[j] f.1 (f.2 b (λe=>E e.symm) |>.trans L) J hm.born;rw[hk,hv]at this;exact this
def pH[DecidableEq κ](M:List (κ×ν))(k:κ):List (κ×ν):=M.filter (λp=>decide (p.1≠k))
theorem iA[DecidableEq κ]:∀ {M:List (κ×ν)},(M.map (·.1)).Nodup->∀ {j:Nat} {p:κ×ν},M[j]?=some p->M.eraseIdx j=pH M p.1
 | [],_,j,p,h=>by simp at h
 | x :: l,hn,j,p,h=>by
  rw[map_cons,nodup_cons]at hn;unfold pH;cases j with
  | zero =>
   simp at h;subst h;rw[eraseIdx_cons_zero,filter_cons,if_neg sI];refine(filter_eq_self.2 λy hy=>?_).symm;simp only[decide_eq_true_eq];intro e;exact hn.1 (mem_map.2 ⟨y,hy,e⟩)
  | succ j =>
   simp at h;rw[eraseIdx_cons_succ,filter_cons,if_pos,iA hn.2 h]
   ·rfl
   ·simp only[decide_eq_true_eq];intro e;exact hn.1 (mem_map.2 ⟨p,mem_of_getElem? h,e.symm⟩)
theorem aD[DecidableEq κ]{M:List (κ×ν)}{k:κ}(h:k∉M.map (·.1)):pH M k=M :=
 filter_eq_self.2 λp hp=>by
  simp only[decide_eq_true_eq];intro e;exact h (mem_map.2 ⟨p,hp,e⟩)
theorem qq[DecidableEq κ]{M:List (κ×ν)}{k:κ}{p:κ×ν}:p∈pH M k↔p∈M/\p.1≠k:=by simp[pH]
theorem kB{α:Type}(f:α->β)(l:List α)(j:Nat):(l.eraseIdx j).map f=(l.map f).eraseIdx j:=by
 induction l generalizing j with
 | nil=>rfl
 | cons x l ih=>cases j <;> simp[ih]
theorem yK.delete[DecidableEq κ](h:yK w b kv vv ok M es clk)(E:bD P K kv ok)(ht:P.underlying T=some (.map K E')){k:κ}(hk:ok k) :
  ∃w' es',(Builtin.delete_ #[T,K] ty #[.map (some b),kv k]).run P w=.ok (.tuple #[]) w'/\yK w' b kv vv ok (pH M k) es' clk/\z8 [b] w w':=by
 obtain⟨l,hl⟩:=E.key k hk;rcases h.find E hk with⟨hrun,hno⟩ | ⟨j,p,hrun,hp,hpk⟩
 ·refine⟨_,es,?_,⟨gY _ h.lt,?_,?_,?_,?_,h.born,h.clock⟩,gX w b _⟩
  ·simp only[Builtin.delete_,getElem?_toArray,getElem?_cons_zero,getElem?_cons_succ,Sem.run_bind,run_underlying ht,Result.andThen_ok,qZ h.heap,E.law.check w es.isEmpty hl,hrun,gQ h.heap,Sem.run_pure]
  all_goals rw[aD hno]
  ·exact h.keys
  ·exact h.vals
  ·exact h.nodup
  ·exact h.okk
 ·obtain⟨e0,g,r,m⟩:=h.at_ hp;have f:j<es.size:=by
   have:=(List.getElem?_eq_some_iff.1 g).1;simpa using this
  have d:(es.eraseIdxIfInBounds j).toList=es.toList.eraseIdx j:=by
   unfold Array.eraseIdxIfInBounds;rw[dif_pos f];simp
  have hd:pH M k=M.eraseIdx j:=by rw[iA h.nodup hp,hpk]
  refine⟨_,es.eraseIdxIfInBounds j,?_,⟨gY _ h.lt,?_,?_,?_,?_,?_,?_⟩,gX w b _⟩
  ·simp only[Builtin.delete_,getElem?_toArray,getElem?_cons_zero,getElem?_cons_succ,Sem.run_bind,run_underlying ht,Result.andThen_ok,qZ h.heap,E.law.check w es.isEmpty hl,hrun,gQ h.heap,Sem.run_pure]
  ·rw[d,hd,kB,kB,h.keys]
  ·rw[d,hd,kB,kB,h.vals]
  ·rw[hd,kB];exact h.nodup.sublist (eraseIdx_sublist _ _)
  ·rw[hd];exact λq hq=>h.okk q ((eraseIdx_sublist _ _).subset hq)
  ·rw[d,kB];exact h.born.sublist (eraseIdx_sublist _ _)
  ·rw[d];exact λq hq=>h.clock q ((eraseIdx_sublist _ _).subset hq)
end
end
section
section
variable {P:Program} {K T E':TypeId} {κ:Type} {kv:κ->Value} {ok:κ->Prop} {w w':World} {b:Nat} {L L':List κ} {x:κ}
def yJ(w:World)(b:Nat)(kv:κ->Value)(ok:κ->Prop)(L:List κ):Prop :=
 ∃M es clk,yK w b kv Value.bool ok M es clk/\(∀x,x∈M.map (·.1)↔x∈L)/\∀p∈M,p.2=true
theorem yJ.congr(h:yJ w b kv ok L)(hl:∀x,x∈L↔x∈L'):yJ w b kv ok L':=by
 obtain⟨M,es,d,hm,hk,ht⟩:=h;exact⟨M,es,d,hm,λx=>(hk x).trans (hl x),ht⟩
theorem yJ.lt(h:yJ w b kv ok L):b<w.heap.size:=by
 obtain⟨M,es,d,hm,_⟩:=h;exact hm.lt
theorem yJ.kept{S:List Nat}(h:yJ w b kv ok L)(k:z8 S w w')(hb:b∉S):yJ w' b kv ok L:=by
 obtain⟨M,es,d,hm,hk⟩:=h;exact⟨M,es,d,hm.kept k hb,hk⟩
theorem yJ.below(h:yJ w b kv ok L)(k:Below w.heap.size w w'):yJ w' b kv ok L:=h.kept (z8.of_below k) sI
theorem yJ.new(w:World)(b:Nat)(hb:b=w.heap.size):yJ (w.alloc (.map #[] 0)) b kv ok []:=⟨[],#[],0,yK.new w b hb,sI,sI⟩
theorem yJ.hit(h:yJ w b kv ok L)(E:bD P K kv ok)(ht:P.underlying T=some (.map K E'))(hk:ok x)(hx:x∈L) :
  (Instr.lookup T (.map (some b)) (kv x) false).run P w=.ok (.bool true) w:=by
 obtain⟨M,es,g,hm,f,d⟩:=h;obtain⟨p,hp,rfl⟩:=mem_map.1 ((f x).2 hx);have h1:(p.1,true)∈M:=by
  have:=d p hp
  rwa [show(p.1,true)=p from by cases p;simp_all]
 exact hm.hit E ht hk h1 false
theorem yJ.miss(h:yJ w b kv ok L)(E:bD P K kv ok)(ht:P.underlying T=some (.map K E'))(hz:∀w,(zeroValue E').run P w=.ok (.bool false) w)(hk:ok x)(hx:x∉L) :
  (Instr.lookup T (.map (some b)) (kv x) false).run P w=.ok (.bool false) w:=by
 obtain⟨M,es,g,hm,d,f⟩:=h;exact hm.miss E ht (hz w) hk (λh=>hx ((d x).1 h)) false
theorem yJ.put[DecidableEq κ](h:yJ w b kv ok L)(E:bD P K kv ok)(ht:P.underlying T=some (.map K E'))(hk:ok x) :
  ∃w',(Instr.mapUpdate T (.map (some b)) (kv x) (.bool true)).run P w=.ok () w'/\yJ w' b kv ok (x :: L)/\z8 [b] w w':=by
 obtain⟨M,es,s,hm,g,k⟩:=h;obtain⟨w',r,j,f,m,d⟩:=hm.update (v:=true) E ht hk;refine⟨w',f,⟨_,r,j,m,?_,?_⟩,d⟩
 ·intro y;unfold bJ;split
  ·rename_i hin
   have e:(M.map λp=>if p.1=x then(x,true)else p).map (·.1)=M.map (·.1):=by
    rw[map_map];refine map_congr_left λp _=>?_;simp only[Function.comp_apply];split
    ·rename_i h;exact h.symm
    ·rfl
   rw[e,g,mem_cons];exact⟨.inr,λh=>h.elim (λh=>by subst h;exact(g _).1 hin) id⟩
  ·rw[map_append,mem_append,g,mem_cons];simp only[map_cons,map_nil,mem_singleton];exact Or.comm
 ·intro p hp;unfold bJ at hp;split at hp
  ·obtain⟨q,hq,rfl⟩:=mem_map.1 hp;split
   ·rfl
   ·exact k q hq
  ·rcases mem_append.1 hp with hp | hp
   ·exact k p hp
   ·simp at hp;subst hp;rfl
theorem yJ.del[DecidableEq κ](h:yJ w b kv ok L)(E:bD P K kv ok)(ht:P.underlying T=some (.map K E'))(hk:ok x)(ty:TypeId) :
  ∃w',(Builtin.delete_ #[T,K] ty #[.map (some b),kv x]).run P w=.ok (.tuple #[]) w'/\yJ w' b kv ok (L.filter λy=>decide (y≠x))/\z8 [b] w w':=by
 obtain⟨M,es,r,hm,k,g⟩:=h;obtain⟨w',m,f,j,d⟩:=hm.delete (ty:=ty) E ht hk;refine⟨w',f,⟨_,m,r,j,?_,?_⟩,d⟩
 ·intro y;simp only[mem_map,qq,mem_filter,decide_eq_true_eq,<-k];constructor
  ·rintro⟨p,⟨h1,h2⟩,rfl⟩;exact⟨⟨p,h1,rfl⟩,h2⟩
  ·rintro⟨⟨p,h1,rfl⟩,h2⟩;exact⟨p,⟨h1,h2⟩,rfl⟩
 ·intro p hp;exact g p (qq.1 hp).1
def jV(w:World)(b r:Nat)(kv:κ->Value)(ok:κ->Prop)(L S:List κ):Prop :=
 ∃M Z,jL w b r kv Value.bool ok M Z/\(∀x,x∈M.map (·.1)↔x∈L)/\(∀p∈M,p.2=true)/\Z.map (·.1)=S/\(M.map (·.1)).Nodup
theorem jV.lt{r:Nat}{S:List κ}(h:jV w b r kv ok L S):r<w.heap.size/\b<w.heap.size:=by
 obtain⟨M,Z,h,_⟩:=h;exact h.lt
theorem jV.kept{r:Nat}{S:List κ}{A:List Nat}(h:jV w b r kv ok L S)(k:z8 A w w')(hb:b∉A)(hr:r∉A):jV w' b r kv ok L S:=by
 obtain⟨M,Z,h,d⟩:=h;exact⟨M,Z,h.kept k hb hr,d⟩
theorem yJ.range(h:yJ w b kv ok L)(ht:P.underlying T=some (.map K E')) :
  ∃w',(Instr.range T (.map (some b))).run P w=.ok (.pointer (some ⟨w.heap.size,0,none⟩)) w'/\jV w' b w.heap.size kv ok L []/\Below w.heap.size w w'/\w'.heap.size=w.heap.size+1:=by
 obtain⟨M,es,j,hm,g,f⟩:=h;obtain⟨w',d,hr,hb,hs⟩:=hm.range ht;exact⟨w',d,⟨M,[],hr,g,f,rfl,hm.nodup⟩,hb,hs⟩
theorem jV.next{r:Nat}{S:List κ}(h:jV w b r kv ok L S)(ty:TypeId) :
  ((∀x,x∈S↔x∈L)/\S.Nodup/\(Instr.next (.pointer (some ⟨r,0,none⟩)) false ty).run P w=.ok (.tuple #[.bool false]) w) \/
  ∃x w',x∈L/\x∉S/\(Instr.next (.pointer (some ⟨r,0,none⟩)) false ty).run P w=.ok (.tuple #[.bool true,kv x,.bool true]) w'/\jV w' b r kv ok L (S ++ [x])/\z8 [r] w w'/\w'.heap.size=w.heap.size /\
   w'.rangeLeft b r<w.rangeLeft b r/\(Instr.entry (.pointer (some ⟨r,0,none⟩))).run P w'=.ok (.tuple #[kv x,.bool true]) w':=by
 obtain⟨M,Z,hR,g,k,rfl,f⟩:=h;rcases hR.next (P:=P) ty with⟨hp,hrun⟩ | ⟨p,w',hpM,hpZ,hrun,hR',hk,hs,hl,hen⟩
 ·refine .inl ⟨λx=>?_,(hp.map (·.1)).nodup_iff.2 f,hrun⟩;rw[(hp.map (·.1)).mem_iff,g]
 ·have hv:=k p hpM;rw[hv]at hrun hen;refine .inr ⟨p.1,w',(g _).1 (mem_map.2 ⟨p,hpM,rfl⟩),?_,hrun,⟨M,Z ++ [p],hR',g,k,sI,f⟩,hk,hs,hl,hen⟩;intro hm;obtain⟨q,hq,he⟩:=mem_map.1 hm;have s:=hR.sub q hq;obtain⟨i,hi,m⟩:=mem_iff_getElem.1 hpM;obtain⟨j,hj,d⟩:=mem_iff_getElem.1 s;have e1:(M.map (·.1))[i]?=some p.1:=by rw[getElem?_map,getElem?_eq_getElem hi,m];rfl
  have e2:(M.map (·.1))[j]?=some p.1:=by rw[getElem?_map,getElem?_eq_getElem hj,d];simp[he]
  have:i=j:=dW f e1 e2;subst this;rw[m]at d;subst d;exact hpZ hq
end
end
end Go.Proofs.YtddopbhcpblpjaaGreatDoor
