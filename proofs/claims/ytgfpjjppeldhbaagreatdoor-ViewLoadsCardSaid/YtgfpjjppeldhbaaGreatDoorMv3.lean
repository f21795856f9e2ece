/- Part 3 of the texts that lead to this claim: the walks of the functions and the plain law, in order. -/
import Derived.Test.YtgfpjjppeldhbaaGreatDoorMv2
import Derived.Lib.BufferWrite
import Derived.Lib.LaidTab
namespace Go.Proofs.YtgfpjjppeldhbaaGreatDoor
open Go.RowKit
set_option maxRecDepth 100000
set_option maxHeartbeats 8000000
theorem sY(w:World)(e:TypeId)(s:ByteArray):Below w.heap.size w (Lib.bytesWorld w e s) :=
 ⟨rfl,rfl,rfl,by rw[Lib.bytesWorld_size];omega,λk hk=>Lib.bytesWorld_at_old w e s k hk⟩
theorem vV(l:List UInt8):(mkB l).size=l.length:=by show l.toArray.size=_;simp
theorem bits_or8(b x:Nat)(hb:b<16777216)(hx:x<256):bits BinOp.or IntKind.i64 ((b:Int)*256) (x:Int)=((256*b+x:Nat):Int):=by
 have h1:(BitVec.ofInt 64 ((b:Int)*256)).toNat=256*b:=by
  rw[BitVec.toNat_ofInt];have:((b:Int)*256) % ((2 ^ 64:Nat):Int)=((256*b:Nat):Int):=oM;rw[this];exact Int.toNat_natCast _
 have h2:(BitVec.ofInt 64 (x:Int)).toNat=x:=by
  rw[BitVec.toNat_ofInt];have:(x:Int) % ((2 ^ 64:Nat):Int)=(x:Int):=oM;rw[this];simp
 have h3:(BitVec.ofInt 64 ((b:Int)*256) ||| BitVec.ofInt 64 (x:Int)).toNat=256*b+x:=by
  rw[BitVec.toNat_or,h1,h2];have:=Nat.two_pow_add_eq_or_of_lt (i:=8) (b:=x) oM b;rw[show(2:Nat) ^ 8=256 from rfl]at this;exact this.symm
 show IntKind.i64.wrap (((BitVec.ofInt 64 ((b:Int)*256) ||| BitVec.ofInt 64 (x:Int)).toNat:Nat):Int)=_;rw[h3];exact IntWalk.i64_in _ oM
def yK(M:Nat)(l:List UInt8)(e:Int):Nat:=beN (yV M l e)
theorem rd_num(w:World)(g M:Nat)(l:List UInt8)(e:Int)(h:q8 w g l e)(hM:M=1\/M=4) :
  Calls Tryz.prog 91 #[.pointer (some ⟨g,0,none⟩),.int .i64 M] w λen w'=>en=.returned (.int .i64 (yK M l e))/\lU w g (zK M l e) (zM M l e) w':=by
 have h0:=h;obtain⟨s,a,ha,hs,hg,hl⟩:=h;obtain⟨_,_,c2,c3,_⟩:=mC hg;have Hh:=dH h0;clear hl hg ha hs h0;cases he:(e==0)with
 | false =>
  have m:e≠0:=by simpa using he
  have e1:yK M l e=0:=by unfold yK yV;rw[if_neg (λhh=>m hh.1)];rfl
  have e2:zK M l e=l:=by unfold zK;rw[if_neg (λhh=>m hh.1)]
  have e3:zM M l e=e:=by unfold zM;rw[if_neg m]
  have E1:=dH e1;have E2:=dH e2;have E3:=dH e3;clear e1 e2 e3 m;go_enter Tryz.func91,Tryz.ntmps91
  (go_wp2_with fail);refine(tP _ _ e c3 c2).mono ?_;rintro en w' ⟨rfl,rfl⟩;(go_wp2_with fail);go_ret;exact⟨yA (by rw[E1.out];rfl),by rw[E2.out,E3.out];exact⟨Hh.out,z6.refl _ _⟩⟩
 | true =>
  obtain rfl:e=0:=by simpa using he
  clear he;have X:M<=4:=oM;have V:((8*(M:Int))==0)=false:=by rw[beq_eq_false_iff_ne];omega
  have H:(M:Int)=1\/(M:Int)=2\/(M:Int)=4:=oM;have R:=dH H;obtain⟨v,hv⟩:=eX (yV M l 0)
  have T:v.length<=4:=by have:=wX M l 0;rw[hv]at this;omega
  have I:Hid (yK M l 0=beN v):=by show _=_;unfold yK;rw[hv]
  have Hv:=dH hv;clear hM H hv;go_enter Tryz.func91,Tryz.ntmps91
  (go_wp2_with fail);refine(tP _ _ 0 c3 c2).mono ?_;rintro en w' ⟨rfl,rfl⟩;(go_wp2_with fail);refine(obits M _ R.out).mono ?_;rintro e w' ⟨rfl,rfl⟩;clear c2 c3;(go_wp2_with fail);refine(bD _ g M l 0 Hh.out oM).mono ?_;rintro e w1 ⟨rfl,t⟩;rw[Hv.out];have F:=Lib.run_convert_string_bytes (P:=Tryz.prog) w1 9 37 5 (mkB v) Tryz.underlying9 Tryz.underlying37 Tryz.underlying5;have r:=sY w1 5 (mkB v);have d:Hid (∀j (hj:j<v.length),(Lib.bytesWorld w1 5 (mkB v)).cell? ⟨w1.heap.size,j,none⟩=some (.int .u8 (v[j]).toNat)):=λj hj=>by
   have:=Lib.bytesWorld_cell w1 5 (mkB v) j (by rw[vV];exact hj);rw[this];simp[mkB,List.getD,hj]
  rw[vV]at F;obtain⟨W,hW⟩:=eX (Lib.bytesWorld w1 5 (mkB v))
  rw[hW]at F r d;have f:lU w g (zK M l 0) (zM M l 0) W:=⟨t.1.below r,z6.trans t.2 (z6.of_below r) sI⟩
  have N:=dH f;clear hW r t f;go_wp2_with fail
  go_loop [5,21] (λn i=>∃k:Nat,k<=v.length/\i=.int .i64 k/\n=.int .i64 (beN (v.take k))) (λ_ i=>v.length-(intOf i).toNat)
  case atStart=>exact⟨0,zL,rfl,rfl⟩
  case round =>
   obtain⟨k,hk,rfl,rfl⟩:=hrel;by_cases D:k<v.length
   ·have hc:=d.out k D;have B:v.take (k+1)=v.take k ++ [v[k]]:=by rw[List.take_add_one,List.getElem?_eq_getElem D];rfl
    have y:=K2 (v.take k) v[k];rw[<-B]at y;have G:=QQ (v.take k);have E:(v.take k).length<=3:=sO;have A:beN (v.take k)<16777216:=Nat.lt_of_lt_of_le G (by have:=Nat.pow_le_pow_right (oM:0<256) E;simpa using this);have L:=(v[k]).toNat_lt;have O:=dH y;clear B y G E;obtain⟨x,hx⟩:=eX ((v[k]).toNat)
    obtain⟨b,hb⟩:=eX (beN (v.take k))
    rw[hx]at hc L;rw[hb]at A |-;go_wp2_with fail
    go_round
    case rel=>exact⟨k+1,oM,by go_num,by rw[bits_or8 b x oM oM,O.out,hb,hx]⟩
    case measure=>exact sZ
   ·have J:k=v.length:=oM;have e2:v.take k=v:=List.take_of_length_le oM;rw[e2];clear e2 J;(go_wp2_with fail);go_ret;exact⟨yA (by rw[I.out]),N.out⟩
structure Rr where
 s:ByteArray
 e:Int
def rrC(x:Rr):Array Value:=#[.string x.s] ++ #[.int .i64 x.e]
@[simp] theorem rrC_size(x:Rr):(rrC x).size=2:=by simp[rrC]
@[go_sem] theorem rrC_g0(x:Rr):(rrC x)[0]?=some (.string x.s):=by first | (simp[rrC,Array.getElem?_append];done) | (rw[show rrC x=((#[]:Array Value)) ++ #[.string x.s]++(#[.int .i64 x.e])from by apply Array.ext';simp[rrC]];exact qO _ _ _ _ sI)
@[go_sem] theorem rrC_gg0(x:Rr)(h:0<(rrC x).size):(rrC x)[0]'h=.string x.s:=Option.some.inj ((Array.getElem?_eq_getElem h).symm.trans (rrC_g0 x))
@[go_sem] theorem rrC_g1(x:Rr):(rrC x)[1]?=some (.int .i64 x.e):=by first | (simp[rrC,Array.getElem?_append];done) | (rw[show rrC x=(#[.string x.s]) ++ #[.int .i64 x.e]++((#[]:Array Value))from by apply Array.ext';simp[rrC]];exact qO _ _ _ _ sI)
@[go_sem] theorem rrC_gg1(x:Rr)(h:1<(rrC x).size):(rrC x)[1]'h=.int .i64 x.e:=Option.some.inj ((Array.getElem?_eq_getElem h).symm.trans (rrC_g1 x))
def rr0:Rr:=⟨⟨#[]⟩,0⟩
theorem Rr_ext{x y:Rr}(h:x.s=y.s/\x.e=y.e):x=y:=by cases x;cases y;simp_all
instance:DecidableEq Rr:=λx y=>if h:x.s=y.s/\x.e=y.e then isTrue (Rr_ext h)else isFalse (λe=>h (by subst e;simp))
@[go_sem ↓] theorem KG(w:World):(zeroValue 112).run Tryz.prog w=.ok (.agg (rrC rr0)) w:=by
 have h:(Tryz.prog.info? 112).bind (·.zero)=some (.agg (rrC rr0)):=kR;cases hi:Tryz.prog.info? 112 with
 | none=>rw[hi]at h;cases h
 | some i =>
  rw[hi]at h;have hz:i.zero=some (.agg (rrC rr0)):=h;simp[zeroValue,typeInfo,hi,hz]
@[go_sem ↓] theorem loadRr_rw(a:Addr):loadVar 112 a=ldS 112 a:=rfl
@[go_sem ↓] theorem storeRr_rw(a:Addr)(v:Value):storeVar 112 a v=stS 112 a v:=rfl
theorem fieldsRr:Tryz.prog.underlying 112=some (.struct (Tryz.prog.fieldsOf 112)):=kR
theorem placesRr(w:World):((Tryz.prog.fieldsOf 112).mapM fun (f:Field)=>do pure (f.offset,<-sizeOf f.type)).run Tryz.prog w=.ok #[(0,1),(1,1)] w:=kR
@[go_sem ↓] theorem buildRr_rw(parts:Array (Nat×Value)):Instr.build 112 parts=bdS 112 parts:=rfl
@[go_sem] theorem buildRr_0(a0:ByteArray)(w:World):(bdS 112 #[(0,.string a0)]).run Tryz.prog w=.ok (.agg (rrC ⟨a0,0⟩)) w:=by
 refine qP w fieldsRr _ (KG w) _ (placesRr w) [(0,.string a0)] _ ?_;rw[show rrC rr0=(#[]:Array Value) ++ #[.string ⟨#[]⟩]++(#[.int .i64 0])from by first | (simp[rrC,rr0,Array.append_assoc];done) | (apply Array.ext';simp[rrC,rr0])];rw[yJ (off:=0) (size:=1) rfl sI sI (by simp[Value.cells])];first | (simp[Instr.fill,rrC,Array.append_assoc,Value.cells];done) | (simp only[Instr.fill,rrC];congr 1;apply Array.ext';simp[Value.cells];done) | (simp only[Instr.fill,rrC];congr 1;done) | (simp only[Instr.fill,rrC];done)
def jQ(w:World)(g:Nat)(l:List UInt8)(e:Int):Prop :=
 l.length<=9223372036854775807/\w.heap[g]?=some (.cells (rrC ⟨mkB l,e⟩) 112 (0,0))
theorem jQ.lt{w:World}{g:Nat}{l:List UInt8}{e:Int}(h:jQ w g l e):g<w.heap.size:=(aG h.2).1
theorem jQ.kept{w w':World}{g:Nat}{l:List UInt8}{e:Int}{S:List Nat}(h:jQ w g l e)(k:z6 S w w')(hg:g∉S):jQ w' g l e:=⟨h.1,(k.block g h.lt hg).trans h.2⟩
theorem jQ.below{w w':World}{g:Nat}{l:List UInt8}{e:Int}(h:jQ w g l e)(k:Below w.heap.size w w'):jQ w' g l e:=h.kept (z6.of_below k) sI
theorem vJ{w:World}{g:Nat}{l:List UInt8}{e:Int}(h:jQ w g l e) :
  w.cell? ⟨g,0,none⟩=some (.string (mkB l))/\w.cell? ⟨g,1,none⟩=some (.int .i64 e)/\(∀j,w.frozen? ⟨g,j,none⟩=false):=by
 refine⟨?_,?_,λj=>by simp[World.frozen?,h.2]⟩ <;> rw[cell_of_row w g _ _ _ _ h.2] <;> simp[go_sem]
def ZB(w:World)(g:Nat)(l:List UInt8)(e:Int)(w':World):Prop:=jQ w' g l e/\z6 [g] w w'
theorem mkB_take(l:List UInt8)(n:Nat)(h:n<=l.length):(mkB l).extract 0 n=mkB (l.take n):=by
 apply ByteArray.ext;apply Array.toList_inj.mp;rw[ByteArray.data_extract,Array.toList_extract];simp[mkB,List.extract_eq_take_drop]
theorem mkB_drop(l:List UInt8)(n:Nat):(mkB l).extract n l.length=mkB (l.drop n):=by
 apply ByteArray.ext;apply Array.toList_inj.mp;rw[ByteArray.data_extract,Array.toList_extract];simp[mkB,List.extract_eq_take_drop,List.take_of_length_le]
theorem tA(w:World)(g n:Nat)(l:List UInt8)(e:Int)(h:jQ w g l e)(hn:n<=9223372036854775807) :
  Calls Tryz.prog 67 #[.pointer (some ⟨g,0,none⟩),.int .i64 n] w λen w'=>en=.returned (.string (mkB (yV n l e)))/\ZB w g (zK n l e) (zM n l e) w':=by
 have h0:=h;obtain⟨c0,c1,hf⟩:=vJ h;obtain⟨hl,hg⟩:=h;have f0:=hf 0;have f1:=hf 1;have r:=vV l;clear hf;cases he:(e==0)with
 | false =>
  have f:e≠0:=by simpa using he
  have y:(e != 0)=true:=by simpa using f
  have e1:yV n l e = []:=by unfold yV;rw[if_neg (λhh=>f hh.1)]
  have e2:zK n l e=l:=by unfold zK;rw[if_neg (λhh=>f hh.1)]
  have e3:zM n l e=e:=by unfold zM;rw[if_neg f]
  have E1:=dH e1;have E2:=dH e2;have E3:=dH e3;have H0:=dH h0;clear e1 e2 e3 h0 f hg;go_enter Tryz.func67,Tryz.ntmps67
  (go_wp2_with fail);go_ret;exact⟨n7 (by rw[E1.out];rfl),by rw[E2.out,E3.out];exact⟨H0.out,z6.refl _ _⟩⟩
 | true =>
  obtain rfl:e=0:=by simpa using he
  clear he;have m:decide ((n:Int)<0)=false:=sI;by_cases d:n<=l.length
  ·have e1:yV n l 0=l.take n:=by unfold yV;rw[if_pos ⟨rfl,d⟩]
   have e2:zK n l 0=l.drop n:=by unfold zK;rw[if_pos ⟨rfl,d⟩]
   have e3:zM n l 0=0:=by unfold zM;rw[if_pos rfl,if_pos d]
   have E1:=dH e1;have E2:=dH e2;have E3:=dH e3;have t:=mkB_take l n d;have s:=mkB_drop l n;have j:decide (l.length<n)=false:=by simpa using d
   have k:(l.drop n).length<=9223372036854775807:=by rw[List.length_drop];omega
   have Hg:=dH hg;have Hd:=dH k;clear e1 e2 e3 h0 hg k;go_enter Tryz.func67,Tryz.ntmps67
   (go_wp2_with fail);go_ret;refine⟨n7 (by rw[E1.out]),?_⟩;rw[E2.out,E3.out];refine⟨⟨Hd.out,?_⟩,z6.setCell w ⟨g,0,none⟩ _⟩;rw[zA Hg.out];simp[rrC]
  ·have e1:yV n l 0 = []:=by unfold yV;rw[if_neg (λhh=>d hh.2)]
   have e2:zK n l 0=l:=by unfold zK;rw[if_neg (λhh=>d hh.2)]
   have e3:zM n l 0=2:=by unfold zM;rw[if_pos rfl,if_neg d]
   have E1:=dH e1;have E2:=dH e2;have E3:=dH e3;have j:decide (l.length<n)=true:=by simpa using d
   have Hg:=dH hg;clear e1 e2 e3 h0 hg d;go_enter Tryz.func67,Tryz.ntmps67
   (go_wp2_with fail);go_ret;refine⟨n7 (by rw[E1.out];rfl),?_⟩;rw[E2.out,E3.out];refine⟨⟨hl,?_⟩,z6.setCell w ⟨g,1,none⟩ _⟩;rw[zA Hg.out];simp[rrC]
theorem tB(w:World)(g:Nat)(l:List UInt8)(e:Int)(h:jQ w g l e):Calls Tryz.prog 69 #[.pointer (some ⟨g,0,none⟩)] w λen w'=>en=.returned (.int .i64 (j4 l e))/\Below w.heap.size w w':=by
 obtain⟨c0,c1,hf⟩:=vJ h;have f:=vV l;cases he:(e==0)with
 | false =>
  have d:e≠0:=by simpa using he
  have k:(e != 0)=true:=by simpa using d
  have e1:j4 l e=e:=by unfold j4;rw[if_neg d]
  have E1:=dH e1;clear e1 d;go_enter Tryz.func69,Tryz.ntmps69
  (go_wp2_with fail);go_ret;exact⟨yA (by rw[E1.out]),Below.refl _ _⟩
 | true =>
  obtain rfl:e=0:=by simpa using he
  clear he;by_cases hz:l = []
  ·subst hz;go_enter Tryz.func69,Tryz.ntmps69
   (go_wp2_with fail);go_ret;exact⟨rfl,Below.refl _ _⟩
  ·have e1:j4 l 0=4:=by unfold j4;rw[if_pos rfl,if_neg hz]
   have E1:=dH e1;have j:0<l.length:=List.length_pos_iff.2 hz;clear e1 hz;go_enter Tryz.func69,Tryz.ntmps69
   (go_wp2_with fail);go_ret;exact⟨yA (by rw[E1.out]),Below.refl _ _⟩
theorem pD(w:World)(g M:Nat)(l:List UInt8)(e:Int)(h:jQ w g l e)(hM:M=1\/M=4) :
  Calls Tryz.prog 65 #[.pointer (some ⟨g,0,none⟩),.int .i64 M] w λen w'=>en=.returned (.int .i64 (yK M l e))/\ZB w g (zK M l e) (zM M l e) w':=by
 obtain⟨c0,c1,hf⟩:=vJ h;have N:M<=4:=oM;obtain⟨v,hv⟩:=eX (yV M l e)
 have J:v.length<=4:=by have:=wX M l e;rw[hv]at this;omega
 have A:Hid (yK M l e=beN v):=by show _=_;unfold yK;rw[hv]
 have B:=vV v;have Hv:=dH hv;have cr:=tA w g M l e h oM;rw[hv]at cr;clear hv h;obtain⟨b,G⟩:=eX (e==0)
 rcases hM with rfl | rfl <;> cases b
 all_goals
  go_enter Tryz.func65,Tryz.ntmps65
  (go_wp2_with fail);refine cr.mono ?_;rintro en w1 ⟨rfl,r⟩;have H:=dH r;clear r cr c0 c1 hf G;go_wp2_with fail
  go_loop [6,7] (λn i=>∃k:Nat,k<=v.length/\i=.int .i64 k/\n=.int .i64 (beN (v.take k))) (λ_ i=>v.length-(intOf i).toNat)
  case atStart=>exact⟨0,zL,rfl,rfl⟩
  case round =>
   obtain⟨k,hk,rfl,rfl⟩:=hrel;by_cases f:k<v.length
   ·have m:v.take (k+1)=v.take k ++ [v[k]]:=by rw[List.take_add_one,List.getElem?_eq_getElem f];rfl
    have d:=K2 (v.take k) v[k];rw[<-m]at d;have t:=QQ (v.take k);have s:(v.take k).length<=3:=sO;have j:beN (v.take k)<16777216:=Nat.lt_of_lt_of_le t (by have:=Nat.pow_le_pow_right (oM:0<256) s;simpa using this);have E:k<(mkB v).size:=by rw[B];exact f
    have F:(mkB v)[k]'E=v[k]'f:=rfl;obtain⟨y,hy⟩:=eX (v[k]'f)
    rw[hy]at d F;have L:y.toNat<256:=y.toNat_lt;have I:=dH d;clear m d t s hy;obtain⟨c,hb⟩:=eX (beN (v.take k))
    rw[hb]at j |-;have Hb:=dH hb;clear hb;go_wp2_with fail
    go_round
    case rel=>exact⟨k+1,oM,by go_num,by rw[I.out,Hb.out];go_num⟩
    case measure=>exact sZ
   ·have D:k=v.length:=oM;have e2:v.take k=v:=List.take_of_length_le oM;rw[e2];clear e2 D;(go_wp2_with fail);go_ret;exact⟨yA (by rw[A.out]),H.out⟩
def q3(v:List UInt8):zE:=if h:v.length=32 then⟨v,h⟩ else id0
def idA(v:List UInt8)(k:Nat):Array Value:=((v.take k).map vY++List.replicate (32-k) (Value.int .u8 0)).toArray
theorem VI(v:List UInt8):idA v 0=idC id0:=by unfold idA;simp[idC];rfl
theorem idA_size(v:List UInt8)(k:Nat)(hk:k<=v.length)(d:k<=32):(idA v k).size=32:=by unfold idA;simp;omega
theorem idA_set(v:List UInt8)(k:Nat)(hk:k<v.length)(d:k<32):(idA v k).setIfInBounds k (.int .u8 (v[k]).toNat)=idA v (k+1):=by
 unfold idA;apply Array.ext';rw[Array.toList_setIfInBounds];have e:v.take (k+1)=v.take k ++ [v[k]]:=by rw[List.take_add_one,List.getElem?_eq_getElem hk];rfl
 have e2:32-k=(32-(k+1))+1:=oM;have e3:((v.take k).map vY).length=k:=sO;rw[e,e2,List.replicate_succ,List.set_append_right _ _ (by rw[e3];exact lR),e3,Nat.sub_self,List.map_append];simp[vY]
theorem idA_full(v:List UInt8)(h:v.length=32\/v = []):idA v v.length=idC (q3 v):=by
 rcases h with h | h
 ·unfold idA q3;rw[dif_pos h,List.take_length,h];simp[idC]
 ·subst h;rw[show([]:List UInt8).length=0 from rfl,VI];rfl
theorem lI(l:List UInt8)(e:Int):(yV 32 l e).length=32\/yV 32 l e = []:=by
 unfold yV;split
 ·left;rename_i h;rw[List.length_take];omega
 ·exact .inr rfl
theorem yU{P:Program}{t:TypeId}{k:Nat}(hi:(P.info? t).map (·.size)=some k)(w:World)(g:Nat)(z cs:Array Value)(e:TypeId)(h:w.heap[g]?=some (.cells z e (0,0)))(hz:z.size=k)(hc:cs.size=k)(h1:∀u∈cs.toList,u.oneCell'=true) :
  (stS t ⟨g,0,none⟩ (.agg cs)).run P w=.ok () (w.setRow g cs):=by
 unfold stS storeVar;cases hinfo:P.info? t with
 | none=>rw[hinfo]at hi;cases hi
 | some i =>
  rw[hinfo]at hi;have hk:i.size=k:=by simpa using hi
  have d:=run_storeCells_at P g 0 e cs.toList 0 z w h sO h1;have hE:(z.toList.take (0+0)++cs.toList++z.toList.drop (0+0+cs.toList.length)).toArray=cs:=by
   rw[List.drop_of_length_le sO]
   simp
  rw[hE]at d;simp[Value.cells,sizeOf,typeInfo,hinfo,hk,hc];exact d
theorem nS(w:World)(g:Nat)(l:List UInt8)(e:Int)(h:jQ w g l e) :
  Calls Tryz.prog 68 #[.pointer (some ⟨g,0,none⟩)] w λen w'=>en=.returned (.agg (idC (q3 (yV 32 l e))))/\ZB w g (zK 32 l e) (zM 32 l e) w':=by
 have B:=lI l e;obtain⟨v,hv⟩:=eX (yV 32 l e)
 have H:Below w.heap.size w ((w.alloc (.cells (idC id0) 39)).alloc (.cells (idC id0) 39)):=(bA).alloc sI _;have f:((w.alloc (.cells (idC id0) 39)).alloc (.cells (idC id0) 39)).heap[w.heap.size]?=some (.cells (idC id0) 39 (0,0)):=by
  rw[Below.heap_alloc _ _ _ sI];exact heap_alloc_new w _
 have R:((w.alloc (.cells (idC id0) 39)).alloc (.cells (idC id0) 39)).heap[w.heap.size+1]?=some (.cells (idC id0) 39 (0,0)):=by
  have:=heap_alloc_new (w.alloc (.cells (idC id0) 39)) (.cells (idC id0) 39);simpa using this
 have b1:=h.lt;have cr:=tA _ g 32 l e (h.below H) oM;have m:((w.alloc (.cells (idC id0) 39)).alloc (.cells (idC id0) 39)).heap.size=w.heap.size+2:=sI;rw[hv]at cr B |-;have Hv:=dH hv;have j:=dH m;clear hv m;go_enter Tryz.func68,Tryz.ntmps68
 (go_wp2_with fail);generalize (w.alloc (.cells (idC id0) 39)).alloc (.cells (idC id0) 39)=W at *;refine cr.mono ?_;rintro en w1 ⟨rfl,J,r⟩;have b0:w.heap.size+2<=w1.heap.size:=by have:=r.size;have:=j.out;omega
 have t:=(r.block w.heap.size (oH j.out) sO).trans f;have s:=(r.block (w.heap.size+1) (oH j.out) sO).trans R;have Z:=vV v;have V:v.length<=32:=by rcases B with h | h <;> simp[h]
 have a9:=dH B;have a8:=dH t;have a7:=dH s;have a6:=dH (z6.trans ((z6.of_below H).mono (S':=[g]) sI) r iL);have a5:=dH J;clear B f R t s cr r H J h;(go_wp2_with fail);go_loopw [5] (λi wr=>∃k:Nat,k<=v.length/\i=.int .i64 k/\Hid (wr.heap[w.heap.size+1]?=some (.cells (idA v k) 39 (0,0)))/\z6 [w.heap.size+1] w1 wr) (λi _=>32-(intOf i).toNat)
 case atStart=>exact⟨0,zL,rfl,(show _=_ by rw[VI];exact a7.out),z6.refl _ _⟩
 case round =>
  obtain⟨k,hk,rfl,hc,F⟩:=hrel;by_cases A:k<v.length
  ·have D:=idA_size v k hk oM;have E:=idA_set v k A oM;have a3:wr.cell? ⟨w.heap.size+1,k,none⟩=some ((idA v k)[k]'(by rw[D];omega)):=by
    rw[cell_of_row wr _ k _ _ _ hc.out,Array.getElem?_eq_getElem]
   have b2:wr.frozen? ⟨w.heap.size+1,k,none⟩=false:=by simp[World.frozen?,hc.out]
   have U:k<(mkB v).size:=by rw[Z];exact A
   have a2:(mkB v)[k]'U=v[k]'A:=rfl;obtain⟨y,hy⟩:=eX (v[k]'A)
   rw[hy]at a2 E;obtain⟨z,hz⟩:=eX ((idA v k)[k]'(by rw[D];omega))
   rw[hz]at a3;have a4:=dH E;clear hy E D hz;have a1:k<32:=oM;(go_wp2_with fail);go_roundw
   case rel=>exact⟨k+1,oM,by go_num,(show _=_ by rw[zA hc.out,a4.out]),z6.trans F (z6.setCell wr ⟨w.heap.size+1,k,none⟩ _) sI⟩
   case measure=>exact sZ
  ·have N:k=v.length:=oM;have d:=idA_full v a9.out;have G:=hc.out;rw[N,d]at G;have Y:z7 wr (w.heap.size+1) 0 32=some (idC (q3 v)):=by unfold z7;rw[G];simp[go_sem]
   have f:=(F.block w.heap.size oM sI).trans a8.out;have X:=yU (P:=Tryz.prog) bU wr w.heap.size (idC id0) (idC (q3 v)) _ f sI sI (xG _);have L:z7 (wr.setRow w.heap.size (idC (q3 v))) w.heap.size 0 32=some (idC (q3 v)):=by
    unfold z7;rw[setRow_heap wr w.heap.size _ _ _ _ f];simp[go_sem]
   have O:z6 [w.heap.size] wr (wr.setRow w.heap.size (idC (q3 v))):=⟨rfl,rfl,rfl,by simp[World.setRow],λx _ hx=>setRow_other wr w.heap.size x _ (by simpa using hx)⟩
   have M:=z6.trans (F.mono (S':=[w.heap.size,w.heap.size+1]) sI) (O.mono (S':=[w.heap.size,w.heap.size+1]) sI) iL;have T:=dH M;have I:=dH (setRow_heap wr w.heap.size _ (idC (q3 v)) _ _ f);clear O M f G hc d N;(go_wp2_with fail);have hr:=a5.out.kept T.out sO;have a0:=z6.trans a6.out T.out (λx hx=>.inr (by simp at hx;omega));exact bodyPost_ret (results_cell_row Tryz.results68 _ _ w.heap.size 39 (idC (q3 v)) (0,0) _ rfl I.out Tryz.underlying39 rfl (by rw[kB];exact bU)) rfl ⟨rfl,hr,a0⟩
def txV(l:List UInt8)(e:Int):ByteArray:=mkB (yV (yK 1 l e) (zK 1 l e) (zM 1 l e))
def txL(l:List UInt8)(e:Int):List UInt8:=zK (yK 1 l e) (zK 1 l e) (zM 1 l e)
def txE(l:List UInt8)(e:Int):Int:=zM (yK 1 l e) (zK 1 l e) (zM 1 l e)
theorem yI(M:Nat)(l:List UInt8)(e:Int):yK M l e<256 ^ M:=by
 unfold yK;exact Nat.lt_of_lt_of_le (QQ _) (Nat.pow_le_pow_right oM (wX M l e))
theorem dV(l:List UInt8)(e:Int):(txV l e).size<=255:=by
 unfold txV;rw[vV];have:=wX (yK 1 l e) (zK 1 l e) (zM 1 l e);have:=yI 1 l e;omega
theorem K3(c:UInt8):∀(l:List UInt8),beN (c :: l)=c.toNat*256 ^ l.length+beN l:=by
 intro l;have f:∀(l:List UInt8) (a:Nat),l.foldl (λn c=>256*n+c.toNat) a=a*256 ^ l.length+beN l:=by
  intro l;induction l with
  | nil=>intro a;simp[beN]
  | cons d l ih =>
   intro a;have e:beN (d :: l)=l.foldl (λn c=>256*n+c.toNat) (256*0+d.toNat):=rfl;rw[e,List.foldl_cons,ih,ih];simp only[List.length_cons,Nat.pow_succ];rw[Nat.mul_zero,Nat.zero_add,Nat.add_mul];have:256*a*256 ^ l.length=a*(256 ^ l.length*256):=by
    rw[Nat.mul_comm 256 a,Nat.mul_assoc,Nat.mul_comm 256]
   omega
 have e:beN (c :: l)=l.foldl (λn c=>256*n+c.toNat) (256*0+c.toNat):=rfl;rw[e,f];simp
theorem QR:∀(m n k:Nat),beL m (n+k*256 ^ m)=beL m n
 | 0,_,_=>rfl
 | m+1,n,k=>by
  have h1:n+k*256 ^ (m+1)=n+(k*256)*256 ^ m:=by rw[Nat.pow_succ,Nat.mul_comm (256 ^ m),<-Nat.mul_assoc]
  unfold beL;rw[h1,Nat.add_mul_div_right _ _ (Nat.pow_pos oM)];congr 1
  ·apply UInt8.toNat_inj.1
   simp
  ·exact QR m n (k*256)
theorem ym:∀(v:List UInt8),beL v.length (beN v)=v
 | []=>rfl
 | c :: v=>by
  rw[K3];show UInt8.ofNat ((c.toNat*256 ^ v.length+beN v) / 256 ^ v.length) :: beL v.length (c.toNat*256 ^ v.length+beN v)=_;rw[Nat.add_comm,QR,ym v,Nat.add_mul_div_right _ _ (Nat.pow_pos oM),Nat.div_eq_of_lt (QQ v)];congr 1
  apply UInt8.toNat_inj.1
  simp
theorem yl:∀(m n:Nat),n<256 ^ m->beN (beL m n)=n
 | 0,n,h=>by
  have:n=0:=by simpa using h
  subst this;rfl
 | m+1,n,h=>by
  have hp:0<256 ^ m:=Nat.pow_pos oM;have hd:n / 256 ^ m<256:=by
   rw[Nat.div_lt_iff_lt_mul hp,Nat.mul_comm,<-Nat.pow_succ];exact h
  have hm:beL m n=beL m (n % 256 ^ m):=by
   have:=QR m (n % 256 ^ m) (n / 256 ^ m);rw[Nat.mul_comm,Nat.mod_add_div]at this;exact this
  show beN (UInt8.ofNat (n / 256 ^ m) :: beL m n)=n;rw[K3,y6,hm,yl m _ (Nat.mod_lt _ hp)];have:(UInt8.ofNat (n / 256 ^ m)).toNat=n / 256 ^ m:=sO;rw[this,Nat.mul_comm,Nat.add_comm,Nat.mod_add_div]
theorem tR{n:Nat}{l:List UInt8}{e:Int}(h:zM n l e=0):e=0/\yV n l e++zK n l e=l/\(yV n l e).length=n:=by
 unfold zM at h;split at h
 ·rename_i he
  split at h
  ·rename_i hn
   unfold yV zK;rw[if_pos ⟨he,hn⟩,if_pos ⟨he,hn⟩];exact⟨he,List.take_append_drop _ _,sO⟩
  ·cases h
 ·exact absurd h (by assumption)
theorem bY{M:Nat}{l:List UInt8}{e:Int}(h:zM M l e=0):e=0/\beL M (yK M l e)++zK M l e=l:=by
 obtain⟨he,h1,h2⟩:=tR h;refine⟨he,?_⟩;have h3:=ym (yV M l e);rw[h2]at h3;unfold yK;rw[h3,h1]
theorem mkB_list(l:List UInt8):(mkB l).data.toList=l:=rfl
theorem tL{l:List UInt8}{e:Int}(h:txE l e=0):e=0/\beL 1 (txV l e).size++((txV l e).data.toList++txL l e)=l:=by
 obtain⟨h1,h2,h3⟩:=tR (show zM _ _ _=0 from h);obtain⟨h4,h5⟩:=bY h1;refine⟨h4,?_⟩;unfold txV txL;rw[vV,mkB_list,h3,h2,h5]
theorem Q5(v t:List UInt8):yV v.length (v++t) 0=v/\zK v.length (v++t) 0=t/\zM v.length (v++t) 0=0:=by
 have hc:(0:Int)=0/\v.length<=(v++t).length:=⟨rfl,sI⟩
 refine⟨?_,?_,?_⟩
 ·unfold yV;rw[if_pos hc];simp
 ·unfold zK;rw[if_pos hc];simp
 ·unfold zM;rw[if_pos rfl,if_pos hc.2]
theorem zu{M n:Nat}(hn:n<256 ^ M)(t:List UInt8):yK M (beL M n++t) 0=n/\zK M (beL M n++t) 0=t/\zM M (beL M n++t) 0=0:=by
 have h:=Q5 (beL M n) t;rw[y6]at h;refine⟨?_,h.2.1,h.2.2⟩;unfold yK;rw[h.1,yl M n hn]
theorem KM{s:ByteArray}(hs:s.size<256)(t:List UInt8):txV (beL 1 s.size++(s.data.toList++t)) 0=s/\txL (beL 1 s.size++(s.data.toList++t)) 0=t/\txE (beL 1 s.size++(s.data.toList++t)) 0=0:=by
 obtain⟨h1,h2,h3⟩:=zu (M:=1) (n:=s.size) oM (s.data.toList++t);have h:=Q5 s.data.toList t;have hl:s.data.toList.length=s.size:=Array.length_toList;rw[hl]at h;unfold txV txL txE;rw[h1,h2,h3];exact⟨by rw[h.1];rfl,h.2.1,h.2.2⟩
structure OpV where
 k:Nat
 n:Int
 key:ByteArray
 val:ByteArray
 ref:zE
 refs:List zE
def opZero:OpV:=⟨0,0,⟨#[]⟩,⟨#[]⟩,id0,[]⟩
structure ZD where
 ids:List zE
 l:List UInt8
 e:Int
def idStep(s:ZD):ZD:=⟨s.ids ++ [q3 (yV 32 s.l s.e)],zK 32 s.l s.e,zM 32 s.l s.e⟩
def kH:Nat->ZD->ZD
 | 0,s=>s
 | k+1,s=>kH k (idStep s)
theorem aL:∀(k:Nat) (s:ZD),(kH k s).ids.length=s.ids.length+k
 | 0,s=>rfl
 | k+1,s=>by unfold kH;rw[aL k];simp[idStep];omega
def fP(l:List UInt8)(e:Int):ZD:=kH (yK 1 l e) ⟨[],zK 1 l e,zM 1 l e⟩
theorem YJ(l:List UInt8)(e:Int):(fP l e).ids.length<=255:=by
 unfold fP;rw[aL];have:=yI 1 l e;simp only[List.length_nil];omega
structure OpR where
 o:OpV
 l:List UInt8
 e:Int
def yX:Nat->List UInt8->Int->OpR
 | 1,l,e=>⟨⟨1,(yK 4 l e:Int)-2147483648,⟨#[]⟩,⟨#[]⟩,id0,[]⟩,zK 4 l e,zM 4 l e⟩
 | 2,l,e=>⟨⟨2,0,⟨#[]⟩,txV l e,id0,[]⟩,txL l e,txE l e⟩
 | 3,l,e=>⟨⟨3,0,⟨#[]⟩,txV l e,id0,(fP (txL l e) (txE l e)).ids⟩,(fP (txL l e) (txE l e)).l,(fP (txL l e) (txE l e)).e⟩
 | 4,l,e=>⟨⟨4,(yK 4 (txL (txL l e) (txE l e)) (txE (txL l e) (txE l e)):Int),txV l e,txV (txL l e) (txE l e),id0,[]⟩,zK 4 (txL (txL l e) (txE l e)) (txE (txL l e) (txE l e)),zM 4 (txL (txL l e) (txE l e)) (txE (txL l e) (txE l e))⟩
 | 5,l,e=>⟨⟨5,0,txV l e,txV (txL l e) (txE l e),id0,(fP (txL (txL l e) (txE l e)) (txE (txL l e) (txE l e))).ids⟩,(fP (txL (txL l e) (txE l e)) (txE (txL l e) (txE l e))).l,(fP (txL (txL l e) (txE l e)) (txE (txL l e) (txE l e))).e⟩
 | 6,l,e=>⟨⟨6,0,⟨#[]⟩,txV (zK 32 l e) (zM 32 l e),q3 (yV 32 l e),[]⟩,txL (zK 32 l e) (zM 32 l e),txE (zK 32 l e) (zM 32 l e)⟩
 | 7,l,e=>⟨⟨7,0,⟨#[]⟩,⟨#[]⟩,q3 (yV 32 l e),[]⟩,zK 32 l e,zM 32 l e⟩
 | _,l,e=>⟨opZero,l,e⟩
def vO:List zE->Bool
 | []=>true
 | [_]=>true
 | x :: y :: l=>decide (zI x y<0)&&vO (y :: l)
def vm(o:OpV):Int :=
 if 16<o.key.size\/16<o.val.size then 3
 else if 2147483648<=o.n then 5
 else if 8<o.refs.length then 6
 else if vO o.refs=false then 4 else 0
def opE(l:List UInt8):Int :=
 if zM 1 l 0≠0 then zM 1 l 0
 else if yK 1 l 0=0\/7<yK 1 l 0 then 10
 else if j4 (yX (yK 1 l 0) (zK 1 l 0) 0).l (yX (yK 1 l 0) (zK 1 l 0) 0).e≠0 then j4 (yX (yK 1 l 0) (zK 1 l 0) 0).l (yX (yK 1 l 0) (zK 1 l 0) 0).e
 else vm (yX (yK 1 l 0) (zK 1 l 0) 0).o
def opO(l:List UInt8):OpV:=(yX (yK 1 l 0) (zK 1 l 0) 0).o
def kL(k:Nat):Int:=if k=1 then 1 else if k=2\/k=3 then 2 else if k=4 then 3 else if k=5 then 4 else if k=6\/k=7 then 5 else 0
theorem n6:∀(R:List zE),vO R=true↔Ris zI R
 | []=>by simp[vO,Ris]
 | [x]=>by simp[vO,Ris]
 | x :: y :: R=>by
  have ih:=n6 (y :: R);unfold vO;rw[Bool.and_eq_true,ih,decide_eq_true_eq,fH (x:=x)];constructor
  ·rintro⟨h1,h2⟩;refine⟨λz hz=>?_,h2⟩;rcases List.mem_cons.1 hz with e | hz
   ·rw[e];exact h1
   ·exact q6.trans _ _ _ h1 ((fH.1 h2).1 z hz)
  ·rintro⟨h1,h2⟩;exact⟨h1 y sI,h2⟩
theorem k5(w:World)(g:Nat)(l:List UInt8)(e:Int)(h:q8 w g l e) :
  Calls Tryz.prog 91 #[.pointer (some ⟨g,0,none⟩),.int .i64 4] w λen w'=>en=.returned (.int .i64 (yK 4 l e))/\lU w g (zK 4 l e) (zM 4 l e) w':=rd_num w g 4 l e h (.inr rfl)
theorem vQ(w:World)(g:Nat)(l:List UInt8)(e:Int)(h:q8 w g l e) :
  Calls Tryz.prog 91 #[.pointer (some ⟨g,0,none⟩),.int .i64 1] w λen w'=>en=.returned (.int .i64 (yK 1 l e))/\lU w g (zK 1 l e) (zM 1 l e) w':=rd_num w g 1 l e h (.inl rfl)
theorem tQ(w:World)(g:Nat)(l:List UInt8)(e:Int)(h:q8 w g l e) :
  Calls Tryz.prog 93 #[.pointer (some ⟨g,0,none⟩),.int .i64 32] w λen w'=>en=.returned (.string (mkB (yV 32 l e)))/\lU w g (zK 32 l e) (zM 32 l e) w':=bD w g 32 l e h oM
theorem z6.narrow{S T:List Nat}{w w':World}(h:z6 S w w')(hs:∀x∈S,x∈T\/w.heap.size<=x):z6 T w w' :=
 ⟨h.os,h.tape,h.output,h.size,λk hk hx=>h.block k hk (λhm=>by rcases hs k hm with h1 | h1;exact hx h1;omega)⟩
theorem idC_over(d d':zE):((idC d).toList.take (0+0)++(idC d').toList++(idC d).toList.drop (0+0+(idC d').toList.length)).toArray=idC d':=by
 apply Array.ext';have h1:(idC d').toList.length=32:=sI;have h2:(idC d).toList.length=32:=sI;rw[h1];simp[List.drop_eq_nil_of_le,h2]
theorem rY{w:World}{g:Nat}(b:List UInt8)(hb:b.length=32\/b = [])(ty:TypeId)(c:Nat)(h:w.heap[g]?=some (.cells (idC id0) 39 (0,0))) :
  ∃w' m,(Builtin.copy_ #[37,9] ty #[.slice (some ⟨g,0,none⟩) 32 c,.string (mkB b)]).run Tryz.prog w=.ok m w'/\w'.heap[g]?=some (.cells (idC (q3 b)) 39 (0,0))/\z6 [g] w w':=by
 rcases hb with hb | hb
 ·have hs:(mkB b).size=32:=by rw[vV,hb]
  have h1:=Go.Lib.run_copy_row_string (P:=Tryz.prog) w 37 9 ty 5 g 0 32 c (mkB b) _ _ Tryz.underlying37 kR h oM (by rw[hs];simp);refine⟨_,_,h1,?_,⟨rfl,rfl,rfl,by simp[World.setRow],λx _ hx=>setRow_other w g x _ (by simpa using hx)⟩⟩;rw[setRow_heap w g _ _ _ _ h];have e3:=idC_over id0 (q3 b);have e:(q3 b).l=b:=by unfold q3;rw[dif_pos hb]
  have e2:(idC (q3 b)).toList=Go.Lib.byteCells (mkB b).data.toList:=by unfold idC;rw[e];rfl
  rw[e2]at e3;have e4:(Go.Lib.byteCells (mkB b).data.toList).length=32:=by rw[<-e2];simp
  rw[e4]at e3;rw[hs];simp only[Nat.add_zero]at e3;rw[<-e3]
 ·subst hb;have h1:=Go.Lib.run_copy_empty_string (P:=Tryz.prog) w 37 9 ty 5 (some ⟨g,0,none⟩) 32 c (mkB []) Tryz.underlying37 kR rfl;exact⟨_,_,h1,h,z6.refl _ _⟩
theorem zr(w:World)(g:Nat)(l:List UInt8)(e:Int)(h:q8 w g l e) :
  Calls Tryz.prog 205 #[.pointer (some ⟨g,0,none⟩)] w λen w'=>en=.returned (.agg (idC (q3 (yV 32 l e))))/\lU w g (zK 32 l e) (zM 32 l e) w':=by
 have s:Below w.heap.size w ((w.alloc (.cells (idC id0) 39)).alloc (.cells (idC id0) 39)):=(bA).alloc sI _;have F:((w.alloc (.cells (idC id0) 39)).alloc (.cells (idC id0) 39)).heap[w.heap.size]?=some (.cells (idC id0) 39 (0,0)):=by
  rw[Below.heap_alloc _ _ _ sI];exact heap_alloc_new w _
 have r:((w.alloc (.cells (idC id0) 39)).alloc (.cells (idC id0) 39)).heap[w.heap.size+1]?=some (.cells (idC id0) 39 (0,0)):=by
  have:=heap_alloc_new (w.alloc (.cells (idC id0) 39)) (.cells (idC id0) 39);simpa using this
 have Y:=h.lt;have t:=h.below s;have k:((w.alloc (.cells (idC id0) 39)).alloc (.cells (idC id0) 39)).heap.size=w.heap.size+2:=sI;have G:=dH k;clear k h;go_enter Tryz.func205,Tryz.ntmps205
 go_upto_region 2 with fail
 obtain⟨ga,O⟩:=eX w.heap.size
 have a1:=dH O;obtain⟨W,hW⟩:=eR ((w.alloc (.cells (idC id0) 39)).alloc (.cells (idC id0) 39))
 rw[<-hW]at s F r t G |-;rw[O]at F r Y |-;clear hW;have E:ga+1<W.heap.size:=(aG r).1;have c1:=tQ W.drew g l e (t.kept (z6.drew W) sI);refine kX [g,ga+1] W ?_;intro X hS;refine lZ ?_;refine lH ?_;intro K hK;refine c1.mono ?_;rintro en w1 ⟨rfl,L,D⟩;replace hS:=xA hS D sI;have m:w1.heap[ga+1]?=_:=(D.block (ga+1) (by show _<W.drew.heap.size;exact E) sO).trans r;refine⟨_,rfl,hS,hK _ _ ?_⟩;clear hK K c1;obtain⟨w2,m2,Z,f,B⟩:=rY (yV 32 l e) (lI _ _) 3 32 m;refine lH ?_;intro K hK;refine zG (xA hS B sI) (λR=>?_);refine hK _ _ ?_;clear hK K;refine zC ?_;intro hS;have y:z6 [g,ga+1] W w2:=R;have J:=L.kept B sO;have j:=(y.block ga oM sO).trans F;clear Z hS R X D B L t m;obtain⟨d,hd⟩:=eX (q3 (yV 32 l e))
 rw[hd]at f;have Hd:=dH hd;clear hd;have V:z7 w2 (ga+1) 0 32=some (idC d):=by unfold z7;rw[f];simp[go_sem]
 have T:=yU (P:=Tryz.prog) bU w2 ga (idC id0) (idC d) _ j sI sI (xG _);have A:z6 [ga] w2 (w2.setRow ga (idC d)):=⟨rfl,rfl,rfl,by simp[World.setRow],λx _ hx=>setRow_other w2 ga x _ (by simpa using hx)⟩
 have H:=dH (setRow_heap w2 ga _ (idC d) _ _ j);have I:=J.kept A sO;have N:z6 [g,ga,ga+1] w (w2.setRow ga (idC d)):=z6.trans (z6.trans ((z6.of_below s).mono (S':=[g,ga,ga+1]) sI) (y.mono (S':=[g,ga,ga+1]) sI) iL) (A.mono (S':=[g,ga,ga+1]) sI) iL;have M:z6 [g] w (w2.setRow ga (idC d)):=N.narrow (λx hx=>by have:=a1.out;simp at hx |-;omega);have U:=dH I;have a0:=dH M;clear I J N M A j f s y;(go_wp2_with fail);exact bodyPost_ret (results_cell_row Tryz.results205 _ _ ga 39 (idC d) (0,0) _ rfl H.out Tryz.underlying39 rfl (by rw[kB];exact bU)) rfl ⟨by rw[Hd.out],U.out,a0.out⟩
def kJ(k:Nat):Nat:=[0,1,4,20,7,22,12,8].getD k 0
def xL(w:World):Prop:=∀k,k<8->w.cell? ⟨0,k,none⟩=some (.int .i64 (kJ k))
theorem xL.below{w w':World}(h:xL w)(hb:Below w.heap.size w w'):xL w':=λk hk=>(hb.cell (p:=⟨0,k,none⟩) (World.block_lt_of_cell? w _ (h k hk))).trans (h k hk)
theorem xL.lt{w:World}(h:xL w):0<w.heap.size:=World.block_lt_of_cell? w _ (h 0 oM)
theorem xL.kept{w w':World}{S:List Nat}(h:xL w)(k:z6 S w w')(h0:0∉S):xL w':=λi hi=>(k.cell (p:=⟨0,i,none⟩) h.lt h0).trans (h i hi)
theorem dE(k:Nat)(w:World)(hp:xL w)(hk:k<=9223372036854775807):Calls Tryz.prog 133 #[.int .i64 k] w λe w'=>e=.returned (.int .i64 (kJ k))/\w=w':=by
 by_cases h8:k<8
 ·have hc:=hp k h8;obtain⟨v,hv⟩:∃v:Nat,kJ k=v:=⟨_,rfl⟩
  rw[hv]at hc;have Hv:=dH hv;clear hv;go_enter Tryz.func133,Tryz.ntmps133
  (go_wp2_with fail);go_ret;exact⟨yA (by rw[Hv.out]),rfl⟩
 ·have hv:kJ k=0:=by unfold kJ;simp[List.getD,List.getElem?_eq_none (sO:[0,1,4,20,7,22,12,8].length<=k)]
  have Hv:=dH hv;clear hv;go_enter Tryz.func133,Tryz.ntmps133
  (go_wp2_with fail);go_ret;exact⟨yA (by rw[Hv.out];rfl),rfl⟩
section
open Go.RowKit
theorem VM:∀(L:List (Array Value)) (k:Nat),(∀c∈L,c.size=k)->∀(i:Nat) (cs:Array Value),i<L.length ->
  (L.set i cs).flatMap Array.toList=(L.flatMap Array.toList).take (i*k)++cs.toList++(L.flatMap Array.toList).drop (i*k+k)
 | c :: L,k,hs,0,cs,_=>by
  have hc:c.toList.length=k:=by simpa using hs c sI
  simp only[List.set_cons_zero,List.flatMap_cons,Nat.zero_mul,List.take_zero,List.nil_append,Nat.zero_add];rw[<-hc,List.drop_left]
 | c :: L,k,hs,i+1,cs,hi=>by
  have hc:c.toList.length=k:=by simpa using hs c sI
  have ih:=VM L k (λc h=>hs c (by simp[h])) i cs (by simpa using hi);simp only[List.set_cons_succ,List.flatMap_cons];rw[ih];have e1:(i+1)*k=c.toList.length+i*k:=by rw[hc,Nat.add_mul];omega
  rw[e1,List.take_append,List.drop_append];have t1:c.toList.take (c.toList.length+i*k)=c.toList:=List.take_of_length_le oM;have t2:c.toList.drop (c.toList.length+i*k+k) = []:=List.drop_eq_nil_of_le oM;rw[t1,t2];have n1:c.toList.length+i*k-c.toList.length=i*k:=oM;have n2:c.toList.length+i*k+k-c.toList.length=i*k+k:=oM;rw[n1,n2]
  simp
theorem flat_div{L:List (Array Value)}{k:Nat}(hk:0<k)(hs:∀c∈L,c.size=k){j:Nat}{u:Value}(h:(L.flatMap Array.toList)[j]?=some u) :
  ∃i r,∃(hi:i<L.length),r<k/\j=i*k+r/\(L[i])[r]?=some u:=by
 have d:=kQ L k hs;have hj:j<L.length*k:=by
  have:=(List.getElem?_eq_some_iff.1 h).1;omega
 have hi:j / k<L.length:=Nat.div_lt_of_lt_mul (by rw[Nat.mul_comm];exact hj);have hr:j % k<k:=Nat.mod_lt _ hk;have he:j=j / k*k+j % k:=by rw[Nat.mul_comm];exact(Nat.div_add_mod j k).symm
 refine⟨j / k,j % k,hi,hr,he,?_⟩;rw[<-tX L k hs (j / k) (j % k) hi hr,<-he,h]
section
variable {P:Program} {T E:TypeId} {k bytes:Nat}
theorem eC(I:xH P T E k bytes){w:World}{B:Nat}{A:Option Addr}{n cap:Nat}{L:List (Array Value)}(s:Own w B E k A n cap L)
  {A2:Option Addr}{m c:Nat}{R:List (Array Value)}(d:SlR w A2 m k R)(t:A2=none->c=0)(M:∀r∈R,∀u∈r.toList,u.oneCell'=true)(D:(n+m)*bytes<=140737488355328)(hn:n+m<=9223372036854775807)(hB:B<=w.heap.size)(ty:TypeId) :
  ∃A' cap' w',(Builtin.append_ #[T,T] ty #[.slice A n cap,.slice A2 m c]).run P w=.ok (.slice A' (n+m) cap') w'/\Own w' B E k A' (n+m) cap' (L++R)/\z6 (blk A) w w'/\(∀x∈blk A',x∈blk A\/w.heap.size<=x):=by
 obtain⟨i,z,hi,hz,V,Y,O⟩:=I.info;have f:∀r∈R,r.size=k:=by
  intro r hr;obtain⟨j,hj,rfl⟩:=List.mem_iff_getElem.1 hr;obtain⟨g,o,_,hc⟩:=d.at_ (i:=j) (oH d.1);exact pE hc
 cases A2 with
 | none =>
  have hm:m=0:=by
   rcases Nat.eq_zero_or_pos m with h | h
   ·exact h
   ·obtain⟨g,o,e,_⟩:=d.2 h;cases e
  subst hm;have hR:R = []:=List.eq_nil_of_length_eq_zero d.1;subst hR;have hc:=t rfl;subst hc;exact⟨A,cap,w,run_append_owned_none (P:=P) w B T ty E i k I.und hi _ _ _ s.row,by simpa using s,z6.refl _ _,λx hx=>.inl hx⟩
 | some a =>
  obtain⟨v',w',H,y,hg,_,G⟩:=run_append_own_at (P:=P) w B T ty E i z k bytes I.und hi hz V Y O I.pos (.slice A n cap) n _ s.row a m c (R.flatMap Array.toList) (by rw[kQ R k f,d.1])
   (λj u hu=>by
    obtain⟨x,r,hx,hr,rfl,F⟩:=flat_div I.pos f hu;obtain⟨g,o,e,J⟩:=d.at_ (i:=x) (oH d.1);injection e with e;subst e
    have N:(⟨g,o,none⟩:Addr).add (x*k+r)=⟨g,o+(x*k+r),none⟩:=by unfold Addr.add;split <;> simp_all
    rw[N,<-Nat.add_assoc,z8 J hr];exact F)
   (λu hu=>by
    obtain⟨r,hr,hu⟩:=List.mem_flatMap.1 hu;exact M r hr u hu) (by simp only[maxLen];omega) D hB
  have t:∃A' cap',v'=.slice A' (n+m) cap':=by
   rcases y.2 with⟨h0,h00⟩ | ⟨g,c',cur,hv,_⟩
   ·exact⟨none,0,by rw[h0,h00]⟩
   ·exact⟨_,_,hv⟩
  obtain⟨A',cap',rfl⟩:=t;have hb:(Value.slice A n cap).ownBlock=(A.map (·.block)):=by cases A <;> rfl
  have Z:(Value.slice A' (n+m) cap').ownBlock=(A'.map (·.block)):=by cases A' <;> rfl
  refine⟨A',cap',w',H,⟨by rw[List.flatMap_append];exact y,by simp[s.len,d.1],λc' X=>?_⟩,?_,?_⟩
  ·rcases List.mem_append.1 X with h | h
   ·exact s.size c' h
   ·exact f c' h
  ·have:=z6.grown hg
   rwa [hb]at this
  ·intro x hx;rw[hb,Z]at G;rcases G with e | e
   ·left;unfold blk at hx |-;rw[e]at hx;exact hx
   ·right
    unfold blk at hx;rw[e]at hx;have:x=w.heap.size:=by simpa using hx
    omega
theorem YM(I:xH P T E k bytes){w:World}{B:Nat}{g n cap:Nat}{L:List (Array Value)}(d:Own w B E k (some ⟨g,0,none⟩) n cap L){i:Nat}(hi:i<n){cs:Array Value}(f:cs.size=k)(r:∀u∈cs.toList,u.oneCell'=true) :
  ∃w',(stS E ⟨g,i*k,none⟩ (.agg cs)).run P w=.ok () w'/\Own w' B E k (some ⟨g,0,none⟩) n cap (L.set i cs)/\z6 [g] w w':=by
 obtain⟨H,z,t,hz,A,N,J⟩:=I.info;have D:=kQ L k d.size;have hL:=d.len;obtain⟨⟨h1,h2⟩,_,hs⟩:=d;rcases h2 with⟨h2,_⟩ | ⟨g',c,cur,hv,hb,hg,hnc,hcm,hcsz,htake⟩
 ·cases h2
 ·injection hv with hA _ hc
  injection hA with hA
  injection hA with hA
  subst hA;subst hc;have M:i*k+k<=n*k:=by
   have:(i+1)*k<=n*k:=Nat.mul_le_mul_right k oM;rw[Nat.add_mul]at this;omega
  have s:n*k<=cur.size:=by rw[hcsz];exact Nat.mul_le_mul_right k hnc
  have y:=run_storeCells_at P g (i*k) E cs.toList 0 cur w hg sO r;simp only[Nat.add_zero,Array.length_toList,f]at y;have m:(w.setRow g (cur.toList.take (i*k)++cs.toList++cur.toList.drop (i*k+k)).toArray).heap[g]?=some (.cells (cur.toList.take (i*k)++cs.toList++cur.toList.drop (i*k+k)).toArray E (0,0)):=setRow_heap w g cur _ E _ hg;refine⟨_,?_,⟨⟨?_,.inr ⟨g,cap,_,rfl,hb,m,hnc,hcm,?_,?_⟩⟩,by simp[hL],?_⟩,⟨rfl,rfl,rfl,by simp[World.setRow],λx _ hx=>setRow_other w g x _ (by simpa using hx)⟩⟩
  ·unfold stS storeVar;simp[Value.cells,sizeOf,typeInfo,t,A,f];simpa using y
  ·rw[kQ _ k (λc hc=>by
    rcases List.mem_or_eq_of_mem_set hc with h | h
    ·exact hs c h
    ·rw[h];exact f),List.length_set,hL]
  ·simp;omega
  ·rw[VM L k hs i cs oM,<-htake];have G:cs.toList.length=k:=by simpa using f
   have F:n*k<=cur.toList.length:=by simpa using s
   generalize cur.toList=X at *;generalize cs.toList=Y at *;apply List.ext_getElem?;intro j;simp only[List.getElem?_take,List.getElem?_append,List.length_append,List.length_take,List.getElem?_drop];have m1:min (i*k) X.length=i*k:=oM;have m2:min (i*k) (min (n*k) X.length)=i*k:=oM;simp only[m1,m2,G];by_cases c1:j<i*k
   ·have c2:j<i*k+k:=oM;have c3:j<n*k:=oM;simp[c1,c2,c3]
   ·by_cases c2:j<i*k+k
    ·have c3:j<n*k:=oM;simp[c1,c2,c3]
    ·have e:i*k+k+(j-(i*k+k))=j:=oM;simp[c1,c2,e]
  ·intro c hc;rcases List.mem_or_eq_of_mem_set hc with h | h
   ·exact hs c h
   ·rw[h];exact f
end
theorem dZ{P:Program}{T E:TypeId}{k bytes:Nat}(I:xH P T E k bytes)(w:World):(bsS T 0 #[]).run P w=.ok (.slice (some ⟨w.heap.size,0,none⟩) 0 0) (w.alloc (.cells #[] E)):=by
 obtain⟨i,z,hi,hz,d,g,f⟩:=I.info;unfold bsS Instr.buildSlice;simp only[Sem.run_bind,run_underlying I.und,Result.andThen_ok,sizeOf,typeInfo,hi,d];simp[hi,hz,zeroValue,typeInfo,d,Instr.fill,newRow];have e:Array.range 0 = #[]:=rfl;rw[e];simp
theorem Own.empty(w:World)(B:Nat)(E:TypeId)(k:Nat)(hB:B<=w.heap.size):Own (w.alloc (.cells #[] E)) B E k (some ⟨w.heap.size,0,none⟩) 0 0 [] :=
 ⟨⟨sI,.inr ⟨w.heap.size,0,#[],rfl,hB,heap_alloc_new w _,lR,zL,sI,sI⟩⟩,rfl,sI⟩
theorem Own.cap_le{w:World}{B:Nat}{E:TypeId}{k:Nat}{A:Option Addr}{n cap:Nat}{L:List (Array Value)}(h:Own w B E k A n cap L):n<=cap/\(A=none->n=0/\cap=0):=by
 rcases h.row.2 with⟨h1,h2⟩ | ⟨g,c,cur,hv,_,_,hnc,_⟩
 ·injection h1 with e1 e2 e3
  subst e1;subst e2;subst e3;exact⟨lR,λ_=>⟨rfl,rfl⟩⟩
 ·injection hv with e1 e2 e3
  subst e1;subst e3;exact⟨hnc,λe=>by cases e⟩
theorem SlR.take_{w:World}{A:Option Addr}{n k:Nat}{L:List (Array Value)}(h:SlR w A n k L){m:Nat}(hm:m<=n):SlR w A m k (L.take m) :=
 ⟨by rw[List.length_take,h.1];omega,λh0=>by
  obtain⟨g,o,e,hc⟩:=h.2 oM;refine⟨g,o,e,λi hi=>?_⟩;have d:i<L.length:=by simp at hi;omega
  rw[hc i d];simp⟩
theorem SlR.drop_{w:World}{g o n k:Nat}{L:List (Array Value)}(h:SlR w (some ⟨g,o,none⟩) n k L){m:Nat}(hm:m<=n):SlR w (some ⟨g,o+m*k,none⟩) (n-m) k (L.drop m) :=
 ⟨by rw[List.length_drop,h.1],λh0=>by
  obtain⟨g',o',e,hc⟩:=h.2 oM;injection e with e;injection e with e1 e2
  subst e1;subst e2;refine⟨g,o+m*k,rfl,λi hi=>?_⟩;have d:m+i<L.length:=by simp at hi;omega
  have:=hc (m+i) d;rw[Nat.add_mul,<-Nat.add_assoc]at this;rw[this];simp⟩
theorem yD{P:Program}{ops:Array Oper}{Q:Exit->Act->World->Prop}{a:Act}{w:World}{f:List Oper}{dst:Option Tmp}{s x:Operand}{ty:TypeId}{pos:String}{after:Array Edge}{T E:TypeId}{k bytes:Nat}(I:xH P T E k bytes)
  {B:Nat}{A:Option Addr}{n cap:Nat}{L:List (Array Value)}(hs:a.eval s=.slice A n cap)(y:Own w B E k A n cap L)
  {A2:Option Addr}{m c:Nat}{R:List (Array Value)}(hx:a.eval x=.slice A2 m c)(j:SlR w A2 m k R)(g:A2=none->c=0)(D:∀r∈R,∀u∈r.toList,u.oneCell'=true)(d:(n+m)*bytes<=140737488355328)(hn:n+m<=9223372036854775807)(hB:B<=w.heap.size)
  (h:∀A' cap' w',Own w' B E k A' (n+m) cap' (L++R)->z6 (blk A) w w'->(∀x∈blk A',x∈blk A\/w.heap.size<=x)->wpList P ops Q f (a.put dst (.slice A' (n+m) cap')) w') :
  wpList P ops Q ({ dst:=dst,op:=.call { callee:=.builtin .append,args:=#[s,x],argTypes:=#[T,T] },type:=ty,pos:=pos,after:=after,guard:=none } :: f) a w:=by
 obtain⟨A',cap',w',t,h1,h2,h3⟩:=eC I y j g D d hn hB ty;refine wpList_plain rfl λK hK=>?_;unfold Oper.wp;rw[fC a.eval hs hx t];exact hK _ _ (h A' cap' w' h1 h2 h3)
end
structure OpP where
 k:Int
 n:Int
 key:ByteArray
 val:ByteArray
 ref:zE
 refs:Value
def zB(x:OpP):Array Value:=#[.int .i64 x.k] ++ #[.int .i64 x.n] ++ #[.string x.key] ++ #[.string x.val]++idC x.ref ++ #[x.refs]
@[simp] theorem qQ(x:OpP):(zB x).size=37:=by simp[zB]
@[go_sem] theorem qK(x:OpP):(zB x)[0]?=some (.int .i64 x.k):=by first | (simp[zB,Array.getElem?_append];done) | (rw[show zB x=((#[]:Array Value)) ++ #[.int .i64 x.k]++(#[.int .i64 x.n] ++ #[.string x.key] ++ #[.string x.val]++idC x.ref ++ #[x.refs])from by apply Array.ext';simp[zB]];exact qO _ _ _ _ sI)
@[go_sem] theorem opPC_gg0(x:OpP)(h:0<(zB x).size):(zB x)[0]'h=.int .i64 x.k:=Option.some.inj ((Array.getElem?_eq_getElem h).symm.trans (qK x))
@[go_sem] theorem j6(x:OpP):(zB x)[1]?=some (.int .i64 x.n):=by first | (simp[zB,Array.getElem?_append];done) | (rw[show zB x=(#[.int .i64 x.k]) ++ #[.int .i64 x.n]++(#[.string x.key] ++ #[.string x.val]++idC x.ref ++ #[x.refs])from by apply Array.ext';simp[zB]];exact qO _ _ _ _ sI)
@[go_sem] theorem opPC_gg1(x:OpP)(h:1<(zB x).size):(zB x)[1]'h=.int .i64 x.n:=Option.some.inj ((Array.getElem?_eq_getElem h).symm.trans (j6 x))
@[go_sem] theorem jB(x:OpP):(zB x)[2]?=some (.string x.key):=by first | (simp[zB,Array.getElem?_append];done) | (rw[show zB x=(#[.int .i64 x.k] ++ #[.int .i64 x.n]) ++ #[.string x.key]++(#[.string x.val]++idC x.ref ++ #[x.refs])from by apply Array.ext';simp[zB]];exact qO _ _ _ _ sI)
@[go_sem] theorem opPC_gg2(x:OpP)(h:2<(zB x).size):(zB x)[2]'h=.string x.key:=Option.some.inj ((Array.getElem?_eq_getElem h).symm.trans (jB x))
@[go_sem] theorem jA(x:OpP):(zB x)[3]?=some (.string x.val):=by first | (simp[zB,Array.getElem?_append];done) | (rw[show zB x=(#[.int .i64 x.k] ++ #[.int .i64 x.n] ++ #[.string x.key]) ++ #[.string x.val]++(idC x.ref ++ #[x.refs])from by apply Array.ext';simp[zB]];exact qO _ _ _ _ sI)
@[go_sem] theorem opPC_gg3(x:OpP)(h:3<(zB x).size):(zB x)[3]'h=.string x.val:=Option.some.inj ((Array.getElem?_eq_getElem h).symm.trans (jA x))
@[go_sem] theorem jO(x:OpP):(zB x).extract 4 36=idC x.ref:=by
 have h:zB x=(#[.int .i64 x.k] ++ #[.int .i64 x.n] ++ #[.string x.key] ++ #[.string x.val])++idC x.ref++(#[x.refs]):=by first | (simp[zB,Array.append_assoc];done) | (apply Array.ext';simp[zB];done)
 rw[h];exact bP _ _ _ _ _ sI sI
@[go_sem] theorem qM(x:OpP):(zB x)[36]?=some (x.refs):=by first | (simp[zB,Array.getElem?_append];done) | (rw[show zB x=(#[.int .i64 x.k] ++ #[.int .i64 x.n] ++ #[.string x.key] ++ #[.string x.val]++idC x.ref) ++ #[x.refs]++((#[]:Array Value))from by apply Array.ext';simp[zB]];exact qO _ _ _ _ sI)
@[go_sem] theorem opPC_gg36(x:OpP)(h:36<(zB x).size):(zB x)[36]'h=x.refs:=Option.some.inj ((Array.getElem?_eq_getElem h).symm.trans (qM x))
@[go_sem] theorem opPC_all(x:OpP):(zB x).extract 0 37=zB x:=by have:=Array.extract_size (xs:=zB x);rwa [qQ]at this
theorem jT(x:OpP)(d:x.refs.oneCell'=true):∀u∈(zB x).toList,u.oneCell'=true:=by
 intro u hu;simp only[zB,Array.toList_append,List.mem_append]at hu;rcases hu with((((hu | hu) | hu) | hu) | hu) | hu
 ·simp at hu;subst hu;rfl
 ·simp at hu;subst hu;rfl
 ·simp at hu;subst hu;rfl
 ·simp at hu;subst hu;rfl
 ·exact xG _ u hu
 ·simp at hu;subst hu;exact d
def yT:OpP:=⟨0,0,⟨#[]⟩,⟨#[]⟩,id0,(.slice none 0 0)⟩
theorem yY:(Tryz.prog.info? 52).map (·.size)=some 37:=kR
@[go_sem ↓] theorem zeroOpP_run(w:World):(zeroValue 52).run Tryz.prog w=.ok (.agg (zB yT)) w:=by
 have h:(Tryz.prog.info? 52).bind (·.zero)=some (.agg (zB yT)):=kR;cases hi:Tryz.prog.info? 52 with
 | none=>rw[hi]at h;cases h
 | some i =>
  rw[hi]at h;have hz:i.zero=some (.agg (zB yT)):=h;simp[zeroValue,typeInfo,hi,hz]
@[go_sem ↓] theorem loadOpP_rw(a:Addr):loadVar 52 a=ldS 52 a:=rfl
@[go_sem ↓] theorem storeOpP_rw(a:Addr)(v:Value):storeVar 52 a v=stS 52 a v:=rfl
@[go_sem] theorem loadOpP_run(w:World)(g o:Nat):(ldS 52 ⟨g,o,none⟩).run Tryz.prog w=match z7 w g o 37 with | some cs=>.ok (.agg cs) w | none=>(loadVar 52 ⟨g,o,none⟩).run Tryz.prog w :=
 vZ Tryz.underlying52 rfl yY w g o
@[go_sem] theorem r9(w:World)(g:Nat)(hg:g=w.heap.size)(z:Array Value)(hz:z.size=37)(x:OpP)(d:x.refs.oneCell'=true)(e:TypeId):(stS 52 ⟨g,0,none⟩ (.agg (zB x))).run Tryz.prog (w.alloc (.cells z e))=.ok () (w.alloc (.cells (zB x) e)) :=
 hg ▸ qY yY w z (zB x) hz (qQ x) (jT x d)
@[go_sem ↓] theorem buildOpP_rw(parts:Array (Nat×Value)):Instr.build 52 parts=bdS 52 parts:=rfl
@[go_sem] theorem buildOpP_e(w:World):(bdS 52 #[]).run Tryz.prog w=.ok (.agg (zB yT)) w:=kR
@[go_sem] theorem buildOpP_k(a0:Int)(w:World):(bdS 52 #[(0,.int .i64 a0)]).run Tryz.prog w=.ok (.agg (zB ⟨a0,0,⟨#[]⟩,⟨#[]⟩,id0,.slice none 0 0⟩)) w:=kR
@[go_sem] theorem buildOpP_kn(a0 a1:Int)(w:World):(bdS 52 #[(0,.int .i64 a0),(1,.int .i64 a1)]).run Tryz.prog w=.ok (.agg (zB ⟨a0,a1,⟨#[]⟩,⟨#[]⟩,id0,.slice none 0 0⟩)) w:=kR
def opC(o:OpV)(A:Option Addr)(c:Nat):Array Value:=zB ⟨o.k,o.n,o.key,o.val,o.ref,.slice A o.refs.length c⟩
theorem n9(k n n':Int)(key val:ByteArray)(d:zE)(R:Value):(zB ⟨k,n,key,val,d,R⟩).setIfInBounds 1 (.int .i64 n')=zB ⟨k,n',key,val,d,R⟩:=by apply Array.ext';simp[zB]
theorem sK(k n:Int)(key f val:ByteArray)(d:zE)(R:Value):(zB ⟨k,n,key,val,d,R⟩).setIfInBounds 2 (.string f)=zB ⟨k,n,f,val,d,R⟩:=by apply Array.ext';simp[zB]
theorem dN(k n:Int)(key val f:ByteArray)(d:zE)(R:Value):(zB ⟨k,n,key,val,d,R⟩).setIfInBounds 3 (.string f)=zB ⟨k,n,key,f,d,R⟩:=by apply Array.ext';simp[zB]
theorem pJ(k n:Int)(key val:ByteArray)(d:zE)(R R':Value):(zB ⟨k,n,key,val,d,R⟩).setIfInBounds 36 R'=zB ⟨k,n,key,val,d,R'⟩:=by apply Array.ext';simp[zB]
theorem qx(k n:Int)(key val:ByteArray)(d d':zE)(R:Value):((zB ⟨k,n,key,val,d,R⟩).toList.take (4+0)++(idC d').toList++(zB ⟨k,n,key,val,d,R⟩).toList.drop (4+0+(idC d').toList.length)).toArray=zB ⟨k,n,key,val,d',R⟩:=by
 apply Array.ext';have h1:(idC d').toList.length=32:=sI;have h2:(idC d).toList.length=32:=sI;rw[h1];have e:(zB ⟨k,n,key,val,d,R⟩).toList = [.int .i64 k,.int .i64 n,.string key,.string val]++((idC d).toList ++ [R]):=by simp[zB]
 have e':(zB ⟨k,n,key,val,d',R⟩).toList = [.int .i64 k,.int .i64 n,.string key,.string val]++((idC d').toList ++ [R]):=by simp[zB]
 rw[e,e'];simp[List.drop_append,h2]
theorem sB{w:World}{g:Nat}{k n:Int}{key val:ByteArray}{d:zE}{R:Value}(d':zE)(h:w.heap[g]?=some (.cells (zB ⟨k,n,key,val,d,R⟩) 52 (0,0))) :
  (stS 39 ⟨g,4,none⟩ (.agg (idC d'))).run Tryz.prog w=.ok () (w.setRow g (zB ⟨k,n,key,val,d',R⟩)):=by
 have f:=run_storeCells_at Tryz.prog g 4 52 (idC d').toList 0 (zB ⟨k,n,key,val,d,R⟩) w h sI (xG d');rw[qx]at f;unfold stS storeVar;have hi:=bU;cases hinfo:Tryz.prog.info? 39 with
 | none=>rw[hinfo]at hi;cases hi
 | some i =>
  rw[hinfo]at hi;have hk:i.size=32:=by simpa using hi
  simp[Value.cells,sizeOf,typeInfo,hinfo,hk];simpa using f
@[go_sem] theorem storeOpA_run(w:World)(g:Nat)(hg:g=w.heap.size)(z:Array Value)(hz:z.size=37)(k n:Int)(key val:ByteArray)(d:zE)(A:Option Addr)(m c:Nat)(e:TypeId):(stS 52 ⟨g,0,none⟩ (.agg (zB ⟨k,n,key,val,d,.slice A m c⟩))).run Tryz.prog (w.alloc (.cells z e))=.ok () (w.alloc (.cells (zB ⟨k,n,key,val,d,.slice A m c⟩) e)):=r9 w g hg z hz _ rfl e
theorem JR(k:Int)(w:World):Calls Tryz.prog 206 #[.int .i64 k] w λe w'=>e=.returned (.int .i64 (if k=1 then 2147483648 else 0))/\w=w':=by
 by_cases h:k=1
 ·subst h;go_enter Tryz.func206,Tryz.ntmps206
  (go_wp2_with fail);go_ret;exact⟨rfl,rfl⟩
 ·have hb:(k==1)=false:=by simpa using h
  have Hk:=dH h;clear h;go_enter Tryz.func206,Tryz.ntmps206
  (go_wp2_with fail);go_ret;exact⟨yA (by simp[Hk.out]),rfl⟩
theorem take_1(w:World)(g:Nat)(l:List UInt8)(e:Int)(h:q8 w g l e)(hp:xL w) :
  Calls Tryz.prog 134 #[.pointer (some ⟨g,0,none⟩),.int .i64 1] w λen w'=>en=.returned (.agg (opC (yX 1 l e).o none 0))/\q8 w' g (yX 1 l e).l (yX 1 l e).e/\z6 [g] w w':=by
 have r:((w.alloc (.cells (zB yT) 52)).alloc (.cells (zB ⟨1,0,⟨#[]⟩,⟨#[]⟩,id0,.slice none 0 0⟩) 52)).heap[w.heap.size]?=some (.cells (zB yT) 52 (0,0)):=by
  rw[Below.heap_alloc _ _ _ sI];exact heap_alloc_new w _
 have m:((w.alloc (.cells (zB yT) 52)).alloc (.cells (zB ⟨1,0,⟨#[]⟩,⟨#[]⟩,id0,.slice none 0 0⟩) 52)).heap[w.heap.size+1]?=some (.cells (zB ⟨1,0,⟨#[]⟩,⟨#[]⟩,id0,.slice none 0 0⟩) 52 (0,0)):=by
  have:=heap_alloc_new (w.alloc (.cells (zB yT) 52)) (.cells (zB ⟨1,0,⟨#[]⟩,⟨#[]⟩,id0,.slice none 0 0⟩) 52);simpa using this
 have E:Below w.heap.size w ((w.alloc (.cells (zB yT) 52)).alloc (.cells (zB ⟨1,0,⟨#[]⟩,⟨#[]⟩,id0,.slice none 0 0⟩) 52)):=(bA).alloc sI _;have G:=dE 1 _ (hp.below E) oM;rw[show kJ 1=1 from rfl]at G;have hE:=h.below E;have a4:=h.lt;go_enter Tryz.func134,Tryz.ntmps134
 go_upto_region 2 with fail
 obtain⟨ga,R⟩:=eX w.heap.size
 have a7:=dH R;obtain⟨W,hW⟩:=eR ((w.alloc (.cells (zB yT) 52)).alloc (.cells (zB ⟨1,0,⟨#[]⟩,⟨#[]⟩,id0,.slice none 0 0⟩) 52))
 rw[<-hW]at E r m hE G |-;rw[R]at r m a4 |-;clear hW h hp R;have F:z6 [g,ga+1] w W:=(z6.of_below E).mono sI;have L:g∉[ga+1]:=sO;have M:ga∉[g,ga+1]:=sO;have J:ga+1∉[g]:=sO;have s:ga+1<W.heap.size:=(aG m).1;(go_wp2_with fail);refine G.mono ?_;rintro en w1 ⟨rfl,rfl⟩;clear G;(go_wp2_with fail);refine(k5 _ g _ _ hE).mono ?_;rintro en w3 ⟨rfl,a0,d⟩;have N:=yI 4 (l) (e);obtain⟨nv,I⟩:=eX (yK 4 (l) (e))
 rw[I]at N |-;have a5:=dH I;clear I;have a3:nv<4294967296:=by simpa using N
 have H:=(d.block (ga+1) s J).trans m;have D:∀j,w3.frozen? ⟨ga+1,j,none⟩=false:=λj=>(by simp[World.frozen?,H]);have x0:w3.cell? ⟨ga+1,1,none⟩=some (.int .i64 0):=by rw[cell_of_row w3 (ga+1) _ _ _ _ H];simp[go_sem]
 have f0:=D 1;have f:=zA H 1 (.int .i64 ((nv:Int)-2147483648));rw[n9]at f;have B:=z6.setCell w3 ⟨ga+1,1,none⟩ (.int .i64 ((nv:Int)-2147483648));have T:=q8.kept a0 B L;have t:=((z6.trans (d.mono (S':=[g,ga+1]) sI) (B.mono (S':=[g,ga+1]) sI) iL).block ga oM M).trans r;have y:z6 [g,ga+1] w (w3.setCell ⟨ga+1,1,none⟩ (.int .i64 ((nv:Int)-2147483648))):=z6.trans (z6.trans F (d.mono (S':=[g,ga+1]) sI) iL) (B.mono (S':=[g,ga+1]) sI) iL;have A:W.heap.size<=(w3.setCell ⟨ga+1,1,none⟩ (.int .i64 ((nv:Int)-2147483648))).heap.size:=Nat.le_trans d.size B.size;clear hE a0 N d m r H D B F;(go_wp2_with fail);refine(JR _ _).mono ?_;rintro en w4 ⟨rfl,rfl⟩;go_upto_region 11 with fail
 obtain⟨W',Z⟩:=eR (w3.setCell ⟨ga+1,1,none⟩ (.int .i64 ((nv:Int)-2147483648)))
 rw[<-Z]at f T t y A |-;clear Z x0 f0 a3;have k:ga+1<W'.heap.size:=oM;clear s A;obtain⟨W,rfl⟩:∃W:World,W=W':=⟨_,rfl⟩
 have s:=k;have hE:=T;have r:=t;have m:=f;have F:=y;clear k T t f y;go_upto_region 16 with fail
 have a2:z7 W (ga+1) 0 37=some (zB ⟨1,(nv:Int)-2147483648,⟨#[]⟩,⟨#[]⟩,id0,.slice none 0 0⟩):=by unfold z7;rw[m];simp[go_sem]
 have a1:=yU (P:=Tryz.prog) yY W ga (zB yT) (zB ⟨1,(nv:Int)-2147483648,⟨#[]⟩,⟨#[]⟩,id0,.slice none 0 0⟩) _ r sI sI (jT _ rfl);have O:z6 [ga] W (W.setRow ga (zB ⟨1,(nv:Int)-2147483648,⟨#[]⟩,⟨#[]⟩,id0,.slice none 0 0⟩)):=⟨rfl,rfl,rfl,by simp[World.setRow],λx _ hx=>setRow_other W ga x _ (by simpa using hx)⟩
 have V:=dH (setRow_heap W ga _ (zB ⟨1,(nv:Int)-2147483648,⟨#[]⟩,⟨#[]⟩,id0,.slice none 0 0⟩) _ _ r);have U:=hE.kept O sO;have Y:z6 [g,ga,ga+1] w (W.setRow ga (zB ⟨1,(nv:Int)-2147483648,⟨#[]⟩,⟨#[]⟩,id0,.slice none 0 0⟩)):=z6.trans (F.mono (S':=[g,ga,ga+1]) (by intro x hx;simp at hx |-;omega)) (O.mono (S':=[g,ga,ga+1]) sI) iL;have X:z6 [g] w (W.setRow ga (zB ⟨1,(nv:Int)-2147483648,⟨#[]⟩,⟨#[]⟩,id0,.slice none 0 0⟩)):=Y.narrow (λx hx=>by have:=a7.out;simp at hx |-;omega);have a8:=dH U;have a6:=dH X;clear U hE Y X O r m E F;(go_wp2_with fail);refine bodyPost_ret (results_cell_row Tryz.results134 _ _ ga 52 (zB ⟨1,(nv:Int)-2147483648,⟨#[]⟩,⟨#[]⟩,id0,.slice none 0 0⟩) (0,0) _ rfl V.out Tryz.underlying52 rfl (by rw[qQ];exact yY)) rfl ?_;exact⟨by rw[<-a5.out];rfl,a8.out,a6.out⟩
theorem take_2(w:World)(g:Nat)(l:List UInt8)(e:Int)(h:q8 w g l e)(hp:xL w) :
  Calls Tryz.prog 134 #[.pointer (some ⟨g,0,none⟩),.int .i64 2] w λen w'=>en=.returned (.agg (opC (yX 2 l e).o none 0))/\q8 w' g (yX 2 l e).l (yX 2 l e).e/\z6 [g] w w':=by
 have r:((w.alloc (.cells (zB yT) 52)).alloc (.cells (zB ⟨2,0,⟨#[]⟩,⟨#[]⟩,id0,.slice none 0 0⟩) 52)).heap[w.heap.size]?=some (.cells (zB yT) 52 (0,0)):=by
  rw[Below.heap_alloc _ _ _ sI];exact heap_alloc_new w _
 have m:((w.alloc (.cells (zB yT) 52)).alloc (.cells (zB ⟨2,0,⟨#[]⟩,⟨#[]⟩,id0,.slice none 0 0⟩) 52)).heap[w.heap.size+1]?=some (.cells (zB ⟨2,0,⟨#[]⟩,⟨#[]⟩,id0,.slice none 0 0⟩) 52 (0,0)):=by
  have:=heap_alloc_new (w.alloc (.cells (zB yT) 52)) (.cells (zB ⟨2,0,⟨#[]⟩,⟨#[]⟩,id0,.slice none 0 0⟩) 52);simpa using this
 have E:Below w.heap.size w ((w.alloc (.cells (zB yT) 52)).alloc (.cells (zB ⟨2,0,⟨#[]⟩,⟨#[]⟩,id0,.slice none 0 0⟩) 52)):=(bA).alloc sI _;have G:=dE 2 _ (hp.below E) oM;rw[show kJ 2=4 from rfl]at G;have hE:=h.below E;have a7:=h.lt;go_enter Tryz.func134,Tryz.ntmps134
 go_upto_region 2 with fail
 obtain⟨ga,R⟩:=eX w.heap.size
 have a9:=dH R;obtain⟨W,hW⟩:=eR ((w.alloc (.cells (zB yT) 52)).alloc (.cells (zB ⟨2,0,⟨#[]⟩,⟨#[]⟩,id0,.slice none 0 0⟩) 52))
 rw[<-hW]at E r m hE G |-;rw[R]at r m a7 |-;clear hW h hp R;have F:z6 [g,ga+1] w W:=(z6.of_below E).mono sI;have L:g∉[ga+1]:=sO;have M:ga∉[g,ga+1]:=sO;have J:ga+1∉[g]:=sO;have s:ga+1<W.heap.size:=(aG m).1;(go_wp2_with fail);refine G.mono ?_;rintro en w1 ⟨rfl,rfl⟩;clear G;(go_wp2_with fail);refine(vQ _ g _ _ hE).mono ?_;rintro en w2 ⟨rfl,Y,a1⟩;have a6:=yI 1 (l) (e);(go_wp2_with fail);refine(bD _ g _ _ _ Y oM).mono ?_;rintro en w3 ⟨rfl,H,a0⟩;replace H:q8 w3 g (txL (l) (e)) (txE (l) (e)):=H;obtain⟨val,N⟩:=eX (mkB (yV (yK 1 (l) (e)) (zK 1 (l) (e)) (zM 1 (l) (e))))
 have V:=dH (show txV (l) (e)=val from N);rw[N];have d:z6 [g] W w3:=z6.trans a1 a0 iL;have I:=(d.block (ga+1) s J).trans m;have D:∀j,w3.frozen? ⟨ga+1,j,none⟩=false:=λj=>(by simp[World.frozen?,I]);have x0:w3.cell? ⟨ga+1,3,none⟩=some (.string ⟨#[]⟩):=by rw[cell_of_row w3 (ga+1) _ _ _ _ I];simp[go_sem]
 have f0:=D 3;have f:=zA I 3 (.string val);rw[dN]at f;have B:=z6.setCell w3 ⟨ga+1,3,none⟩ (.string val);have T:=H.kept B L;have t:=((z6.trans (d.mono (S':=[g,ga+1]) sI) (B.mono (S':=[g,ga+1]) sI) iL).block ga oM M).trans r;have y:z6 [g,ga+1] w (w3.setCell ⟨ga+1,3,none⟩ (.string val)):=z6.trans (z6.trans F (d.mono (S':=[g,ga+1]) sI) iL) (B.mono (S':=[g,ga+1]) sI) iL;have A:W.heap.size<=(w3.setCell ⟨ga+1,3,none⟩ (.string val)).heap.size:=Nat.le_trans d.size B.size;clear hE Y a1 a6 N H a0 d m r I D B F;go_upto_region 9 with fail
 obtain⟨W',a2⟩:=eR (w3.setCell ⟨ga+1,3,none⟩ (.string val))
 rw[<-a2]at f T t y A |-;clear a2 x0 f0;have k:ga+1<W'.heap.size:=oM;clear s A;obtain⟨W,rfl⟩:∃W:World,W=W':=⟨_,rfl⟩
 have s:=k;have hE:=T;have r:=t;have m:=f;have F:=y;clear k T t f y;go_upto_region 16 with fail
 have a5:z7 W (ga+1) 0 37=some (zB ⟨2,0,⟨#[]⟩,val,id0,.slice none 0 0⟩):=by unfold z7;rw[m];simp[go_sem]
 have a4:=yU (P:=Tryz.prog) yY W ga (zB yT) (zB ⟨2,0,⟨#[]⟩,val,id0,.slice none 0 0⟩) _ r sI sI (jT _ rfl);have O:z6 [ga] W (W.setRow ga (zB ⟨2,0,⟨#[]⟩,val,id0,.slice none 0 0⟩)):=⟨rfl,rfl,rfl,by simp[World.setRow],λx _ hx=>setRow_other W ga x _ (by simpa using hx)⟩
 have X:=dH (setRow_heap W ga _ (zB ⟨2,0,⟨#[]⟩,val,id0,.slice none 0 0⟩) _ _ r);have a3:=hE.kept O sO;have U:z6 [g,ga,ga+1] w (W.setRow ga (zB ⟨2,0,⟨#[]⟩,val,id0,.slice none 0 0⟩)):=z6.trans (F.mono (S':=[g,ga,ga+1]) (by intro x hx;simp at hx |-;omega)) (O.mono (S':=[g,ga,ga+1]) sI) iL;have Z:z6 [g] w (W.setRow ga (zB ⟨2,0,⟨#[]⟩,val,id0,.slice none 0 0⟩)):=U.narrow (λx hx=>by have:=a9.out;simp at hx |-;omega);have b0:=dH a3;have a8:=dH Z;clear a3 hE U Z O r m E F;(go_wp2_with fail);refine bodyPost_ret (results_cell_row Tryz.results134 _ _ ga 52 (zB ⟨2,0,⟨#[]⟩,val,id0,.slice none 0 0⟩) (0,0) _ rfl X.out Tryz.underlying52 rfl (by rw[qQ];exact yY)) rfl ?_;exact⟨by rw[<-V.out];rfl,b0.out,a8.out⟩
theorem take_4(w:World)(g:Nat)(l:List UInt8)(e:Int)(h:q8 w g l e)(hp:xL w) :
  Calls Tryz.prog 134 #[.pointer (some ⟨g,0,none⟩),.int .i64 4] w λen w'=>en=.returned (.agg (opC (yX 4 l e).o none 0))/\q8 w' g (yX 4 l e).l (yX 4 l e).e/\z6 [g] w w':=by
 have D:((w.alloc (.cells (zB yT) 52)).alloc (.cells (zB ⟨4,0,⟨#[]⟩,⟨#[]⟩,id0,.slice none 0 0⟩) 52)).heap[w.heap.size]?=some (.cells (zB yT) 52 (0,0)):=by
  rw[Below.heap_alloc _ _ _ sI];exact heap_alloc_new w _
 have B:((w.alloc (.cells (zB yT) 52)).alloc (.cells (zB ⟨4,0,⟨#[]⟩,⟨#[]⟩,id0,.slice none 0 0⟩) 52)).heap[w.heap.size+1]?=some (.cells (zB ⟨4,0,⟨#[]⟩,⟨#[]⟩,id0,.slice none 0 0⟩) 52 (0,0)):=by
  have:=heap_alloc_new (w.alloc (.cells (zB yT) 52)) (.cells (zB ⟨4,0,⟨#[]⟩,⟨#[]⟩,id0,.slice none 0 0⟩) 52);simpa using this
 have V:Below w.heap.size w ((w.alloc (.cells (zB yT) 52)).alloc (.cells (zB ⟨4,0,⟨#[]⟩,⟨#[]⟩,id0,.slice none 0 0⟩) 52)):=(bA).alloc sI _;have X:=dE 4 _ (hp.below V) oM;rw[show kJ 4=7 from rfl]at X;have hE:=h.below V;have b1:=h.lt;go_enter Tryz.func134,Tryz.ntmps134
 go_upto_region 2 with fail
 obtain⟨ga,a1⟩:=eX w.heap.size
 have b4:=dH a1;obtain⟨W,hW⟩:=eR ((w.alloc (.cells (zB yT) 52)).alloc (.cells (zB ⟨4,0,⟨#[]⟩,⟨#[]⟩,id0,.slice none 0 0⟩) 52))
 rw[<-hW]at V D B hE X |-;rw[a1]at D B b1 |-;clear hW h hp a1;have G:z6 [g,ga+1] w W:=(z6.of_below V).mono sI;have L:g∉[ga+1]:=sO;have M:ga∉[g,ga+1]:=sO;have J:ga+1∉[g]:=sO;have s:ga+1<W.heap.size:=(aG B).1;(go_wp2_with fail);refine X.mono ?_;rintro en w1 ⟨rfl,rfl⟩;clear X;(go_wp2_with fail);refine(vQ _ g _ _ hE).mono ?_;rintro en w2 ⟨rfl,O,T⟩;have U:=yI 1 (l) (e);(go_wp2_with fail);refine(bD _ g _ _ _ O oM).mono ?_;rintro en w3 ⟨rfl,F,R⟩;replace F:q8 w3 g (txL (l) (e)) (txE (l) (e)):=F;obtain⟨key,N⟩:=eX (mkB (yV (yK 1 (l) (e)) (zK 1 (l) (e)) (zM 1 (l) (e))))
 have a3:=dH (show txV (l) (e)=key from N);rw[N];have d:z6 [g] W w3:=z6.trans T R iL;have E:=(d.block (ga+1) s J).trans B;have A:∀j,w3.frozen? ⟨ga+1,j,none⟩=false:=λj=>(by simp[World.frozen?,E]);have x0:w3.cell? ⟨ga+1,2,none⟩=some (.string ⟨#[]⟩):=by rw[cell_of_row w3 (ga+1) _ _ _ _ E];simp[go_sem]
 have f0:=A 2;have f:=zA E 2 (.string key);rw[sK]at f;have y:=z6.setCell w3 ⟨ga+1,2,none⟩ (.string key);have H:=F.kept y L;have m:=((z6.trans (d.mono (S':=[g,ga+1]) sI) (y.mono (S':=[g,ga+1]) sI) iL).block ga oM M).trans D;have r:z6 [g,ga+1] w (w3.setCell ⟨ga+1,2,none⟩ (.string key)):=z6.trans (z6.trans G (d.mono (S':=[g,ga+1]) sI) iL) (y.mono (S':=[g,ga+1]) sI) iL;have t:W.heap.size<=(w3.setCell ⟨ga+1,2,none⟩ (.string key)).heap.size:=Nat.le_trans d.size y.size;clear hE O T U N F R d B D E A y G;go_upto_region 7 with fail
 obtain⟨W',I⟩:=eR (w3.setCell ⟨ga+1,2,none⟩ (.string key))
 rw[<-I]at f H m r t |-;clear I x0 f0;have k:ga+1<W'.heap.size:=oM;clear s t;obtain⟨W,rfl⟩:∃W:World,W=W':=⟨_,rfl⟩
 have s:=k;have hE:=H;have D:=m;have B:=f;have G:=r;clear k H m f r;(go_wp2_with fail);refine(vQ _ g _ _ hE).mono ?_;rintro en w2 ⟨rfl,O,T⟩;have U:=yI 1 (txL l e) (txE l e);(go_wp2_with fail);refine(bD _ g _ _ _ O oM).mono ?_;rintro en w3 ⟨rfl,F,R⟩;replace F:q8 w3 g (txL (txL l e) (txE l e)) (txE (txL l e) (txE l e)):=F;obtain⟨val,N⟩:=eX (mkB (yV (yK 1 (txL l e) (txE l e)) (zK 1 (txL l e) (txE l e)) (zM 1 (txL l e) (txE l e))))
 have a2:=dH (show txV (txL l e) (txE l e)=val from N);rw[N];have d:z6 [g] W w3:=z6.trans T R iL;have E:=(d.block (ga+1) s J).trans B;have A:∀j,w3.frozen? ⟨ga+1,j,none⟩=false:=λj=>(by simp[World.frozen?,E]);have x0:w3.cell? ⟨ga+1,3,none⟩=some (.string ⟨#[]⟩):=by rw[cell_of_row w3 (ga+1) _ _ _ _ E];simp[go_sem]
 have f0:=A 3;have f:=zA E 3 (.string val);rw[dN]at f;have y:=z6.setCell w3 ⟨ga+1,3,none⟩ (.string val);have H:=F.kept y L;have m:=((z6.trans (d.mono (S':=[g,ga+1]) sI) (y.mono (S':=[g,ga+1]) sI) iL).block ga oM M).trans D;have r:z6 [g,ga+1] w (w3.setCell ⟨ga+1,3,none⟩ (.string val)):=z6.trans (z6.trans G (d.mono (S':=[g,ga+1]) sI) iL) (y.mono (S':=[g,ga+1]) sI) iL;have t:W.heap.size<=(w3.setCell ⟨ga+1,3,none⟩ (.string val)).heap.size:=Nat.le_trans d.size y.size;clear hE O T U N F R d B D E A y G;go_upto_region 9 with fail
 obtain⟨W',I⟩:=eR (w3.setCell ⟨ga+1,3,none⟩ (.string val))
 rw[<-I]at f H m r t |-;clear I x0 f0;have k:ga+1<W'.heap.size:=oM;clear s t;obtain⟨W,rfl⟩:∃W:World,W=W':=⟨_,rfl⟩
 have s:=k;have hE:=H;have D:=m;have B:=f;have G:=r;clear k H m f r;(go_wp2_with fail);refine(k5 _ g _ _ hE).mono ?_;rintro en w3 ⟨rfl,F,d⟩;have Z:=yI 4 (txL (txL l e) (txE l e)) (txE (txL l e) (txE l e));obtain⟨nv,Y⟩:=eX (yK 4 (txL (txL l e) (txE l e)) (txE (txL l e) (txE l e)))
 rw[Y]at Z |-;have b2:=dH Y;clear Y;have b0:nv<4294967296:=by simpa using Z
 have E:=(d.block (ga+1) s J).trans B;have A:∀j,w3.frozen? ⟨ga+1,j,none⟩=false:=λj=>(by simp[World.frozen?,E]);have x0:w3.cell? ⟨ga+1,1,none⟩=some (.int .i64 0):=by rw[cell_of_row w3 (ga+1) _ _ _ _ E];simp[go_sem]
 have f0:=A 1;have f:=zA E 1 (.int .i64 ((nv:Int)));rw[n9]at f;have y:=z6.setCell w3 ⟨ga+1,1,none⟩ (.int .i64 ((nv:Int)));have H:=q8.kept F y L;have m:=((z6.trans (d.mono (S':=[g,ga+1]) sI) (y.mono (S':=[g,ga+1]) sI) iL).block ga oM M).trans D;have r:z6 [g,ga+1] w (w3.setCell ⟨ga+1,1,none⟩ (.int .i64 ((nv:Int)))):=z6.trans (z6.trans G (d.mono (S':=[g,ga+1]) sI) iL) (y.mono (S':=[g,ga+1]) sI) iL;have t:W.heap.size<=(w3.setCell ⟨ga+1,1,none⟩ (.int .i64 ((nv:Int)))).heap.size:=Nat.le_trans d.size y.size;clear hE F Z d B D E A y G;(go_wp2_with fail);refine(JR _ _).mono ?_;rintro en w4 ⟨rfl,rfl⟩;go_upto_region 11 with fail
 obtain⟨W',I⟩:=eR (w3.setCell ⟨ga+1,1,none⟩ (.int .i64 ((nv:Int))))
 rw[<-I]at f H m r t |-;clear I x0 f0 b0;have k:ga+1<W'.heap.size:=oM;clear s t;obtain⟨W,rfl⟩:∃W:World,W=W':=⟨_,rfl⟩
 have s:=k;have hE:=H;have D:=m;have B:=f;have G:=r;clear k H m f r;go_upto_region 16 with fail
 have a9:z7 W (ga+1) 0 37=some (zB ⟨4,(nv:Int),key,val,id0,.slice none 0 0⟩):=by unfold z7;rw[B];simp[go_sem]
 have a8:=yU (P:=Tryz.prog) yY W ga (zB yT) (zB ⟨4,(nv:Int),key,val,id0,.slice none 0 0⟩) _ D sI sI (jT _ rfl);have a0:z6 [ga] W (W.setRow ga (zB ⟨4,(nv:Int),key,val,id0,.slice none 0 0⟩)):=⟨rfl,rfl,rfl,by simp[World.setRow],λx _ hx=>setRow_other W ga x _ (by simpa using hx)⟩
 have a4:=dH (setRow_heap W ga _ (zB ⟨4,(nv:Int),key,val,id0,.slice none 0 0⟩) _ _ D);have a7:=hE.kept a0 sO;have a6:z6 [g,ga,ga+1] w (W.setRow ga (zB ⟨4,(nv:Int),key,val,id0,.slice none 0 0⟩)):=z6.trans (G.mono (S':=[g,ga,ga+1]) (by intro x hx;simp at hx |-;omega)) (a0.mono (S':=[g,ga,ga+1]) sI) iL;have a5:z6 [g] w (W.setRow ga (zB ⟨4,(nv:Int),key,val,id0,.slice none 0 0⟩)):=a6.narrow (λx hx=>by have:=b4.out;simp at hx |-;omega);have b5:=dH a7;have b3:=dH a5;clear a7 hE a6 a5 a0 D B V G;(go_wp2_with fail);refine bodyPost_ret (results_cell_row Tryz.results134 _ _ ga 52 (zB ⟨4,(nv:Int),key,val,id0,.slice none 0 0⟩) (0,0) _ rfl a4.out Tryz.underlying52 rfl (by rw[qQ];exact yY)) rfl ?_;exact⟨by rw[<-b2.out,<-a2.out,<-a3.out];rfl,b5.out,b3.out⟩
theorem take_6(w:World)(g:Nat)(l:List UInt8)(e:Int)(h:q8 w g l e)(hp:xL w) :
  Calls Tryz.prog 134 #[.pointer (some ⟨g,0,none⟩),.int .i64 6] w λen w'=>en=.returned (.agg (opC (yX 6 l e).o none 0))/\q8 w' g (yX 6 l e).l (yX 6 l e).e/\z6 [g] w w':=by
 have D:((w.alloc (.cells (zB yT) 52)).alloc (.cells (zB ⟨6,0,⟨#[]⟩,⟨#[]⟩,id0,.slice none 0 0⟩) 52)).heap[w.heap.size]?=some (.cells (zB yT) 52 (0,0)):=by
  rw[Below.heap_alloc _ _ _ sI];exact heap_alloc_new w _
 have B:((w.alloc (.cells (zB yT) 52)).alloc (.cells (zB ⟨6,0,⟨#[]⟩,⟨#[]⟩,id0,.slice none 0 0⟩) 52)).heap[w.heap.size+1]?=some (.cells (zB ⟨6,0,⟨#[]⟩,⟨#[]⟩,id0,.slice none 0 0⟩) 52 (0,0)):=by
  have:=heap_alloc_new (w.alloc (.cells (zB yT) 52)) (.cells (zB ⟨6,0,⟨#[]⟩,⟨#[]⟩,id0,.slice none 0 0⟩) 52);simpa using this
 have N:Below w.heap.size w ((w.alloc (.cells (zB yT) 52)).alloc (.cells (zB ⟨6,0,⟨#[]⟩,⟨#[]⟩,id0,.slice none 0 0⟩) 52)):=(bA).alloc sI _;have R:=dE 6 _ (hp.below N) oM;rw[show kJ 6=12 from rfl]at R;have hE:=h.below N;have a9:=h.lt;go_enter Tryz.func134,Tryz.ntmps134
 go_upto_region 2 with fail
 obtain⟨ga,X⟩:=eX w.heap.size
 have b1:=dH X;obtain⟨W,hW⟩:=eR ((w.alloc (.cells (zB yT) 52)).alloc (.cells (zB ⟨6,0,⟨#[]⟩,⟨#[]⟩,id0,.slice none 0 0⟩) 52))
 rw[<-hW]at N D B hE R |-;rw[X]at D B a9 |-;clear hW h hp X;have E:z6 [g,ga+1] w W:=(z6.of_below N).mono sI;have J:g∉[ga+1]:=sO;have L:ga∉[g,ga+1]:=sO;have I:ga+1∉[g]:=sO;have t:ga+1<W.heap.size:=(aG B).1;(go_wp2_with fail);refine R.mono ?_;rintro en w1 ⟨rfl,rfl⟩;clear R;(go_wp2_with fail);refine(zr _ g _ _ hE).mono ?_;rintro en w3 ⟨rfl,H,f⟩;obtain⟨d,hd⟩:=eX (q3 (yV 32 l e))
 rw[hd];have Hd:=dH hd;clear hd;have F:=(f.block (ga+1) t I).trans B;have a6:=sB d F;have m:=setRow_heap w3 (ga+1) _ (zB ⟨6,0,⟨#[]⟩,⟨#[]⟩,d,.slice none 0 0⟩) _ _ F;have A:z6 [ga+1] w3 (w3.setRow (ga+1) (zB ⟨6,0,⟨#[]⟩,⟨#[]⟩,d,.slice none 0 0⟩)):=⟨rfl,rfl,rfl,by simp[World.setRow],λx _ hx=>setRow_other w3 (ga+1) x _ (by simpa using hx)⟩
 have G:=q8.kept H A J;have r:=((z6.trans (f.mono (S':=[g,ga+1]) sI) (A.mono (S':=[g,ga+1]) sI) iL).block ga oM L).trans D;have s:z6 [g,ga+1] w (w3.setRow (ga+1) (zB ⟨6,0,⟨#[]⟩,⟨#[]⟩,d,.slice none 0 0⟩)):=z6.trans (z6.trans E (f.mono (S':=[g,ga+1]) sI) iL) (A.mono (S':=[g,ga+1]) sI) iL;have y:W.heap.size<=(w3.setRow (ga+1) (zB ⟨6,0,⟨#[]⟩,⟨#[]⟩,d,.slice none 0 0⟩)).heap.size:=Nat.le_trans f.size A.size;clear hE H f B D F A E;go_upto_region 5 with fail
 obtain⟨W',O⟩:=eR (w3.setRow (ga+1) (zB ⟨6,0,⟨#[]⟩,⟨#[]⟩,d,.slice none 0 0⟩))
 rw[<-O]at m G r s y |-;clear O a6;have k:ga+1<W'.heap.size:=oM;clear t y;obtain⟨W,rfl⟩:∃W:World,W=W':=⟨_,rfl⟩
 have t:=k;have hE:=G;have D:=r;have B:=m;have E:=s;clear k G r m s;(go_wp2_with fail);refine(vQ _ g _ _ hE).mono ?_;rintro en w2 ⟨rfl,U,a3⟩;have a8:=yI 1 (zK 32 l e) (zM 32 l e);(go_wp2_with fail);refine(bD _ g _ _ _ U oM).mono ?_;rintro en w3 ⟨rfl,H,a2⟩;replace H:q8 w3 g (txL (zK 32 l e) (zM 32 l e)) (txE (zK 32 l e) (zM 32 l e)):=H;obtain⟨val,T⟩:=eX (mkB (yV (yK 1 (zK 32 l e) (zM 32 l e)) (zK 1 (zK 32 l e) (zM 32 l e)) (zM 1 (zK 32 l e) (zM 32 l e))))
 have Y:=dH (show txV (zK 32 l e) (zM 32 l e)=val from T);rw[T];have f:z6 [g] W w3:=z6.trans a3 a2 iL;have F:=(f.block (ga+1) t I).trans B;have M:∀j,w3.frozen? ⟨ga+1,j,none⟩=false:=λj=>(by simp[World.frozen?,F]);have x0:w3.cell? ⟨ga+1,3,none⟩=some (.string ⟨#[]⟩):=by rw[cell_of_row w3 (ga+1) _ _ _ _ F];simp[go_sem]
 have f0:=M 3;have m:=zA F 3 (.string val);rw[dN]at m;have A:=z6.setCell w3 ⟨ga+1,3,none⟩ (.string val);have G:=H.kept A J;have r:=((z6.trans (f.mono (S':=[g,ga+1]) sI) (A.mono (S':=[g,ga+1]) sI) iL).block ga oM L).trans D;have s:z6 [g,ga+1] w (w3.setCell ⟨ga+1,3,none⟩ (.string val)):=z6.trans (z6.trans E (f.mono (S':=[g,ga+1]) sI) iL) (A.mono (S':=[g,ga+1]) sI) iL;have y:W.heap.size<=(w3.setCell ⟨ga+1,3,none⟩ (.string val)).heap.size:=Nat.le_trans f.size A.size;clear hE U a3 a8 T H a2 f B D F M A E;go_upto_region 9 with fail
 obtain⟨W',O⟩:=eR (w3.setCell ⟨ga+1,3,none⟩ (.string val))
 rw[<-O]at m G r s y |-;clear O x0 f0;have k:ga+1<W'.heap.size:=oM;clear t y;obtain⟨W,rfl⟩:∃W:World,W=W':=⟨_,rfl⟩
 have t:=k;have hE:=G;have D:=r;have B:=m;have E:=s;clear k G r m s;go_upto_region 16 with fail
 have a7:z7 W (ga+1) 0 37=some (zB ⟨6,0,⟨#[]⟩,val,d,.slice none 0 0⟩):=by unfold z7;rw[B];simp[go_sem]
 have a5:=yU (P:=Tryz.prog) yY W ga (zB yT) (zB ⟨6,0,⟨#[]⟩,val,d,.slice none 0 0⟩) _ D sI sI (jT _ rfl);have V:z6 [ga] W (W.setRow ga (zB ⟨6,0,⟨#[]⟩,val,d,.slice none 0 0⟩)):=⟨rfl,rfl,rfl,by simp[World.setRow],λx _ hx=>setRow_other W ga x _ (by simpa using hx)⟩
 have Z:=dH (setRow_heap W ga _ (zB ⟨6,0,⟨#[]⟩,val,d,.slice none 0 0⟩) _ _ D);have a4:=hE.kept V sO;have a1:z6 [g,ga,ga+1] w (W.setRow ga (zB ⟨6,0,⟨#[]⟩,val,d,.slice none 0 0⟩)):=z6.trans (E.mono (S':=[g,ga,ga+1]) (by intro x hx;simp at hx |-;omega)) (V.mono (S':=[g,ga,ga+1]) sI) iL;have a0:z6 [g] w (W.setRow ga (zB ⟨6,0,⟨#[]⟩,val,d,.slice none 0 0⟩)):=a1.narrow (λx hx=>by have:=b1.out;simp at hx |-;omega);have b2:=dH a4;have b0:=dH a0;clear a4 hE a1 a0 V D B N E;(go_wp2_with fail);refine bodyPost_ret (results_cell_row Tryz.results134 _ _ ga 52 (zB ⟨6,0,⟨#[]⟩,val,d,.slice none 0 0⟩) (0,0) _ rfl Z.out Tryz.underlying52 rfl (by rw[qQ];exact yY)) rfl ?_;exact⟨by rw[<-Y.out,<-Hd.out];rfl,b2.out,b0.out⟩
theorem take_7(w:World)(g:Nat)(l:List UInt8)(e:Int)(h:q8 w g l e)(hp:xL w) :
  Calls Tryz.prog 134 #[.pointer (some ⟨g,0,none⟩),.int .i64 7] w λen w'=>en=.returned (.agg (opC (yX 7 l e).o none 0))/\q8 w' g (yX 7 l e).l (yX 7 l e).e/\z6 [g] w w':=by
 have m:((w.alloc (.cells (zB yT) 52)).alloc (.cells (zB ⟨7,0,⟨#[]⟩,⟨#[]⟩,id0,.slice none 0 0⟩) 52)).heap[w.heap.size]?=some (.cells (zB yT) 52 (0,0)):=by
  rw[Below.heap_alloc _ _ _ sI];exact heap_alloc_new w _
 have k:((w.alloc (.cells (zB yT) 52)).alloc (.cells (zB ⟨7,0,⟨#[]⟩,⟨#[]⟩,id0,.slice none 0 0⟩) 52)).heap[w.heap.size+1]?=some (.cells (zB ⟨7,0,⟨#[]⟩,⟨#[]⟩,id0,.slice none 0 0⟩) 52 (0,0)):=by
  have:=heap_alloc_new (w.alloc (.cells (zB yT) 52)) (.cells (zB ⟨7,0,⟨#[]⟩,⟨#[]⟩,id0,.slice none 0 0⟩) 52);simpa using this
 have D:Below w.heap.size w ((w.alloc (.cells (zB yT) 52)).alloc (.cells (zB ⟨7,0,⟨#[]⟩,⟨#[]⟩,id0,.slice none 0 0⟩) 52)):=(bA).alloc sI _;have F:=dE 7 _ (hp.below D) oM;rw[show kJ 7=8 from rfl]at F;have hE:=h.below D;have a1:=h.lt;go_enter Tryz.func134,Tryz.ntmps134
 go_upto_region 2 with fail
 obtain⟨ga,L⟩:=eX w.heap.size
 have a3:=dH L;obtain⟨W,hW⟩:=eR ((w.alloc (.cells (zB yT) 52)).alloc (.cells (zB ⟨7,0,⟨#[]⟩,⟨#[]⟩,id0,.slice none 0 0⟩) 52))
 rw[<-hW]at D m k hE F |-;rw[L]at m k a1 |-;clear hW h hp L;have E:z6 [g,ga+1] w W:=(z6.of_below D).mono sI;have H:g∉[ga+1]:=sO;have I:ga∉[g,ga+1]:=sO;have G:ga+1∉[g]:=sO;have r:ga+1<W.heap.size:=(aG k).1;(go_wp2_with fail);refine F.mono ?_;rintro en w1 ⟨rfl,rfl⟩;clear F;(go_wp2_with fail);refine(zr _ g _ _ hE).mono ?_;rintro en w3 ⟨rfl,Y,f⟩;obtain⟨d,hd⟩:=eX (q3 (yV 32 l e))
 rw[hd];have Hd:=dH hd;clear hd;have N:=(f.block (ga+1) r G).trans k;have U:=sB d N;have s:=setRow_heap w3 (ga+1) _ (zB ⟨7,0,⟨#[]⟩,⟨#[]⟩,d,.slice none 0 0⟩) _ _ N;have B:z6 [ga+1] w3 (w3.setRow (ga+1) (zB ⟨7,0,⟨#[]⟩,⟨#[]⟩,d,.slice none 0 0⟩)):=⟨rfl,rfl,rfl,by simp[World.setRow],λx _ hx=>setRow_other w3 (ga+1) x _ (by simpa using hx)⟩
 have M:=q8.kept Y B H;have t:=((z6.trans (f.mono (S':=[g,ga+1]) sI) (B.mono (S':=[g,ga+1]) sI) iL).block ga oM I).trans m;have y:z6 [g,ga+1] w (w3.setRow (ga+1) (zB ⟨7,0,⟨#[]⟩,⟨#[]⟩,d,.slice none 0 0⟩)):=z6.trans (z6.trans E (f.mono (S':=[g,ga+1]) sI) iL) (B.mono (S':=[g,ga+1]) sI) iL;have A:W.heap.size<=(w3.setRow (ga+1) (zB ⟨7,0,⟨#[]⟩,⟨#[]⟩,d,.slice none 0 0⟩)).heap.size:=Nat.le_trans f.size B.size;clear hE Y f k m N B E;go_upto_region 5 with fail
 obtain⟨W',V⟩:=eR (w3.setRow (ga+1) (zB ⟨7,0,⟨#[]⟩,⟨#[]⟩,d,.slice none 0 0⟩))
 rw[<-V]at s M t y A |-;clear V U;have j:ga+1<W'.heap.size:=oM;clear r A;obtain⟨W,rfl⟩:∃W:World,W=W':=⟨_,rfl⟩
 have r:=j;have hE:=M;have m:=t;have k:=s;have E:=y;clear j M t s y;go_upto_region 16 with fail
 have a0:z7 W (ga+1) 0 37=some (zB ⟨7,0,⟨#[]⟩,⟨#[]⟩,d,.slice none 0 0⟩):=by unfold z7;rw[k];simp[go_sem]
 have Z:=yU (P:=Tryz.prog) yY W ga (zB yT) (zB ⟨7,0,⟨#[]⟩,⟨#[]⟩,d,.slice none 0 0⟩) _ m sI sI (jT _ rfl);have J:z6 [ga] W (W.setRow ga (zB ⟨7,0,⟨#[]⟩,⟨#[]⟩,d,.slice none 0 0⟩)):=⟨rfl,rfl,rfl,by simp[World.setRow],λx _ hx=>setRow_other W ga x _ (by simpa using hx)⟩
 have O:=dH (setRow_heap W ga _ (zB ⟨7,0,⟨#[]⟩,⟨#[]⟩,d,.slice none 0 0⟩) _ _ m);have X:=hE.kept J sO;have T:z6 [g,ga,ga+1] w (W.setRow ga (zB ⟨7,0,⟨#[]⟩,⟨#[]⟩,d,.slice none 0 0⟩)):=z6.trans (E.mono (S':=[g,ga,ga+1]) (by intro x hx;simp at hx |-;omega)) (J.mono (S':=[g,ga,ga+1]) sI) iL;have R:z6 [g] w (W.setRow ga (zB ⟨7,0,⟨#[]⟩,⟨#[]⟩,d,.slice none 0 0⟩)):=T.narrow (λx hx=>by have:=a3.out;simp at hx |-;omega);have a4:=dH X;have a2:=dH R;clear X hE T R J m k D E;(go_wp2_with fail);refine bodyPost_ret (results_cell_row Tryz.results134 _ _ ga 52 (zB ⟨7,0,⟨#[]⟩,⟨#[]⟩,d,.slice none 0 0⟩) (0,0) _ rfl O.out Tryz.underlying52 rfl (by rw[qQ];exact yY)) rfl ?_;exact⟨by rw[<-Hd.out];rfl,a4.out,a2.out⟩
theorem xI:xH Tryz.prog 50 39 32 32 :=
 .of (z:=.agg (idC id0)) Tryz.underlying50 kR kR kR (kB _) oM
@[go_sem ↓] theorem bsId_rw(n:Nat)(parts:Array (Nat×Value)):Instr.buildSlice 50 n parts=bsS 50 n parts:=rfl
@[go_sem] theorem bsId_run(w:World)(x:zE):(bsS 50 1 #[(0,.agg (idC x))]).run Tryz.prog w=.ok (.slice (some ⟨w.heap.size,0,none⟩) 1 1) (w.alloc (.cells (idC x) 39)) :=
 bF xI oM w (idC x) (kB x)
abbrev zY(w:World)(A:Option Addr)(n:Nat)(R:List zE):Prop:=SlR w A n 32 (R.map idC)
theorem zY.len{w:World}{A:Option Addr}{n:Nat}{R:List zE}(h:zY w A n R):R.length=n:=by simpa using h.1
theorem zY.get{w:World}{A:Option Addr}{n:Nat}{R:List zE}(h:zY w A n R){i:Nat}(hi:i<n)(hR:i<R.length):∃g o,A=some ⟨g,o,none⟩/\z7 w g (o+i*32) 32=some (idC R[i]):=by
 obtain⟨g,o,e,hr⟩:=h.at_ hi;rw[List.getElem_map]at hr;exact⟨g,o,e,hr⟩
end Go.Proofs.YtgfpjjppeldhbaaGreatDoor
