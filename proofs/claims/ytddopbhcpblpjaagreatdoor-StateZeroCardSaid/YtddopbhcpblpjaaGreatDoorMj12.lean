/- Part 12 of the texts that lead to this claim: the walks of the functions and the plain law, in order. -/
import Derived.Test.YtddopbhcpblpjaaGreatDoorMj11
import Derived.Deep.AppendSrc
import Derived.Laws.CopyRow
import Derived.Lib.AppendZeros
import Derived.Lib.Overlaps
import Derived.Shelf.Spec.SlicesInsert
namespace Go.Proofs.YtddopbhcpblpjaaGreatDoor
open Go.RowKit
open List hiding and get max min or set
open Go.Proofs.Tryz
open World
set_option maxRecDepth 100000
set_option maxHeartbeats 8000000
variable {g k m n sLen:Nat}{w:World}{cs f:Array Value}{r:Value}{T t ty:TypeId}{P:Program}{ops:Array Oper}{S:World->Prop}{Q:Act->World->Prop}{A:Option Addr}{bs:List UInt8}{L X:List (Array Value)}
theorem sW(a:List UInt8):(yH a).length=a.length:=length_map _
theorem bytesR_one(a:List UInt8):∀r∈yH a,∀u∈r.toList,u.oneCell'=true:=by
 intro r hr u hu;simp[yH]at hr;obtain⟨c,_,rfl⟩:=hr;simp[vY]at hu;subst hu;rfl
theorem bs0_u8(w:World):(Instr.buildSlice 127 0 #[]).run prog w=.ok (.slice (some ⟨w.heap.size,0,none⟩) 0 0) (w.alloc (.cells #[] 5)):=kR
theorem QU(w:World)(c:Int):(Instr.buildSlice 127 1 #[(0,.int .u8 c)]).run prog w=.ok (.slice (some ⟨w.heap.size,0,none⟩) 1 1) (w.alloc (.cells #[.int .u8 c] 5)):=kR
theorem VW{i:Nat}(hn:n<=1000000)(hi:i<8):(sK n).take (i+1)=(sK n).take i ++ [UInt8.ofNat (n*8 / 2 ^ (8*(7-i)))]:=by
 have hl:i<(sK n).length:=by rw[tD];exact hi
 rw[take_add_one,getElem?_eq_getElem hl];congr 1
 simp[sK];rw[Nat.mod_eq_of_lt oM]
def V8:Value->Nat | .slice _ n _=>n | _=>0
theorem sha_end(w:World)(A:Option Addr)(m cap:Nat)(d:List UInt8)(h:SlW w A m cap 1 (yH d))(N:Nat)(hN:N<=1000000)(hm:m=N % 64) :
  Calls prog 272 #[.slice A m cap,.int .i64 N] w λe w'=>∃A' cap',e=.returned (.slice A' (m+(wK N).length) cap')/\Own w' w.heap.size 5 1 A' (m+(wK N).length) cap' (yH (d++wK N))/\Below w.heap.size w w':=by
 have I:d.length=m:=by have:=h.len;rwa [sW]at this
 have c3:m<64:=oM;have c8:=dH I;have Hm:=dH hm;have q0:=bs0_u8 w;have U:Below w.heap.size w (w.alloc (.cells #[] 5)):=bA;have a9:=Own.empty w w.heap.size 5 1 lR;have a5:=h.rd.below U;clear I hm;go_enter func272,ntmps272
 go_wp2_with (at_builtin;first | (refine m6 qV rfl a9 rfl a5 h.nil (bytesR_one _) oM oM sI ?_;intro A1 c6 w1 L b7 G;have q1:=QU w1 128;simp only[Nat.zero_add,nil_append]at L;have t:=L.kept (z8.alloc w1 (.cells #[.int .u8 128] 5)) sI;have s:z9 (w1.alloc (.cells #[.int .u8 128] 5)) w1.heap.size 0 1=some (vY 128):=(by simp[go_sem,vY,yG]);have Z:Below w.heap.size w w1:=U.trans (b7.below sI (by simp[blk]));have f:=Z.size;clear a9) | (refine xS qV rfl t rfl s (by simp[vY,yG];rfl) oM oM sO ?_;intro A2 a2 w2 a8 b6 F))
 have b8:Below w.heap.size w w2:=Z.trans ((z8.trans ((z8.alloc w1 _).mono (S':=blk A1) sI) b6 iL).below f (λx hx=>(L.at_base hx).1));have b3:yH d ++ [vY 128]=yH (d ++ [128]):=by simp[yH]
 rw[b3]at a8;have c2:=b8.size;clear L b7 G q1 t s Z f b6 F b3 q0 U a5;obtain⟨z,hz⟩:=eX ((119-N % 64) % 64)
 have Hz:=dH hz;have c1:z<64:=oM;have b0:m+1+z=56\/m+1+z=120:=oH Hm.out;have c0:=dH b0;clear hz b0;go_upto_region 2 with fail
 go_loopw [5] (λsv wr=>∃(j:Nat) (A3:Option Addr) (k:Nat),j<=z/\sv=.slice A3 (m+1+j) k/\Own wr w.heap.size 5 1 A3 (m+1+j) k (yH (d++128 :: replicate j 0))/\Below w.heap.size w wr) (λsv _=>200-V8 sv)
 case atStart=>exact⟨0,A2,a2,oM,rfl,a8,b8⟩
 case round =>
  obtain⟨j,A3,k,hj,rfl,ho,hb⟩:=hrel;obtain⟨ln,R⟩:=eX (m+1+j)
  rw[R]at ho |-;have J:=dH R;have d0:ln<=128:=oM;clear R;by_cases O:j<z
  ·have e1:((ln:Int) % (64:Int) != 56)=true:=by
    rw[bne_iff_ne];have:=c0.out;have:=J.out;omega
   have q1:=QU wr 0;have t:=ho.kept (z8.alloc wr (.cells #[.int .u8 0] 5)) sI;have s:z9 (wr.alloc (.cells #[.int .u8 0] 5)) wr.heap.size 0 1=some (vY 0):=(by simp[go_sem,vY,yG])
   have f:=hb.size;go_wp2_with (at_builtin;refine xS qV rfl t rfl s (by simp[vY,yG];rfl) oM oM sO ?_;intro A4 a1 w4 a7 b5 E)
   have c5:Below w.heap.size w w4:=hb.trans ((z8.trans ((z8.alloc wr _).mono (S':=blk A3) sI) b5 iL).below f (λx hx=>(ho.at_base hx).1));have b2:yH (d++128 :: replicate j 0) ++ [vY 0]=yH (d++128 :: replicate (j+1) 0):=by
    rw[replicate_succ'];simp[yH]
   rw[b2]at a7;clear b2 b5 E t s q1 ho f hb;go_roundw
   case rel=>exact⟨j+1,A4,a1,oM,(by rw[<-J.out,Nat.add_assoc]),(by rw[show m+1+(j+1)=ln+1 by have:=J.out;omega];exact a7),c5⟩
   case measure=>simp[V8];omega
  ·have X:j=z:=oM;have e1:((ln:Int) % (64:Int) != 56)=false:=by
    rw[bne_eq_false_iff_eq];have:=c0.out;have:=J.out;omega
   have a4:d++128 :: replicate j 0=d++128 :: replicate z 0:=by rw[X]
   rw[a4]at ho;have H:m+1+z=ln:=by rw[<-J.out,X]
   have a3:=dH H;obtain⟨D,hD⟩:=eX (d++128 :: replicate z 0)
   rw[hD]at ho;have HD:=dH hD;obtain⟨V,hV⟩:∃V,V=wr:=⟨wr,rfl⟩
   clear X H a4 hD hj O;go_upto_region 6 with fail
   go_loopw [5,7,23] (λsv _ iv wr=>∃(i:Nat) (A5:Option Addr) (g:Nat),i<=8/\iv=.int .i64 i/\sv=.slice A5 (ln+i) g/\Own wr w.heap.size 5 1 A5 (ln+i) g (yH (D++(sK N).take i))/\Below w.heap.size w wr) (λ_ _ iv _=>8-(intOf iv).toNat)
   case atStart=>exact⟨0,A3,k,oM,rfl,rfl,(by rw[take_zero,append_nil];exact ho),hb⟩
   case round =>
    clear ho hb;obtain⟨i,A5,g,hi,rfl,rfl,ho,hb⟩:=hrel;by_cases O:i<8
    ·obtain⟨c,hc⟩:=eX (UInt8.ofNat (N*8 / 2 ^ (8*(7-i))))
     have M:=VW hN O;rw[hc]at M;obtain⟨r,hr⟩:∃r:Nat,7-i=r:=⟨_,rfl⟩
     have er:7-(i:Int)=(r:Int):=oM;have c9:r<8:=oM;have eb:(N:Int)*(8:Int) / 2 ^ (8*r) % (256:Int)=((c.toNat:Nat):Int):=by
      rw[<-hc,hr];have h3:((N*8 / 2 ^ (8*r):Nat):Int)=(N:Int)*(8:Int) / 2 ^ (8*r):=sI;rw[<-h3]
      simp
     have q1:=QU wr ((c.toNat:Nat):Int);have s:z9 (wr.alloc (.cells #[.int .u8 ((c.toNat:Nat):Int)] 5)) wr.heap.size 0 1=some (vY c):=(by simp[go_sem,vY,yG])
     have t:=ho.kept (z8.alloc wr (.cells #[.int .u8 ((c.toNat:Nat):Int)] 5)) sI;have f:=hb.size;have b9:=dH M;clear hc hr M;go_wp2_with (at_builtin;refine xS qV rfl t rfl s (by simp[vY,yG];rfl) oM oM sO ?_;intro A6 a0 w6 a6 b4 B)
     have c4:Below w.heap.size w w6:=hb.trans ((z8.trans ((z8.alloc wr _).mono (S':=blk A5) sI) b4 iL).below f (λx hx=>(ho.at_base hx).1));have b1:yH (D++(sK N).take i) ++ [vY c]=yH (D++(sK N).take (i+1)):=by rw[b9.out];simp[yH]
     rw[b1]at a6;clear b1 b4 B t s q1 ho f hb b9 eb er;(go_wp2_with fail);go_roundw
     case rel=>exact⟨i+1,A6,a0,oM,by go_num,rfl,a6,c4⟩
     case measure=>exact sZ
    ·have Y:i=8:=oM;have y:D++(sK N).take i=d++wK N:=by
      rw[Y,take_of_length_le (by rw[tD];omega),<-HD.out];unfold wK;rw[Hz.out];simp
     rw[y]at ho;have T:ln+i=m+(wK N).length:=by rw[nT,Hz.out,Y];have:=a3.out;omega
     rw[T]at ho;have Ho:=dH ho;have c7:=dH T;clear T y ho Y;(go_wp2_with fail);go_ret;exact⟨A5,g,by rw[c7.out];rfl,Ho.out,hb⟩
theorem iW:(prog.info? 251).map (·.size)=some 8:=kR
@[go_sem ↓] theorem zeroA8_run(w:World):(zeroValue 251).run prog w=.ok (.agg (wsC (zU 8))) w:=by
 have h:(prog.info? 251).bind (·.zero)=some (.agg (wsC (zU 8))):=kR;cases hi:prog.info? 251 with
 | none=>rw[hi]at h;cases h
 | some i =>
  rw[hi]at h;have hz:i.zero=some (.agg (wsC (zU 8))):=h;simp[zeroValue,typeInfo,hi,hz]
@[go_sem ↓] theorem loadA8_rw(a:Addr):loadVar 251 a=ldS 251 a:=rfl
@[go_sem ↓] theorem storeA8_rw(a:Addr)(v:Value):storeVar 251 a v=stS 251 a v:=rfl
@[go_sem] theorem loadA8_run(w:World)(g o:Nat):(ldS 251 ⟨g,o,none⟩).run prog w=match z9 w g o 8 with | some cs=>.ok (.agg cs) w | none=>(loadVar 251 ⟨g,o,none⟩).run prog w :=
 jD underlying251 rfl iW w g o
@[go_sem] theorem nJ(w:World)(g:Nat)(hg:g=w.heap.size)(z:Array Value)(hz:z.size=8)(L:List UInt32)(hL:L.length=8)(e:TypeId):(stS 251 ⟨g,0,none⟩ (.agg (wsC L))).run prog (w.alloc (.cells z e))=.ok () (w.alloc (.cells (wsC L) e)) :=
 hg ▸ xW iW w z (wsC L) hz ((bE L).trans hL) (pU L)
theorem BD(hk:0<k)(hs:cs.size=k)(h:∀j,j<k->w.cell? ⟨g,j,none⟩=cs[j]?):z9 w g 0 k=some cs:=by
 have h0:=h (k-1) oM;rw[Array.getElem?_eq_getElem oM]at h0;unfold z9;cases hg:w.heap[g]? with
 | none=>simp[cell?,hg]at h0
 | some ob =>
  cases ob with
  | cells c T fr =>
   have hc:∀j,j<k->c[j]?=cs[j]?:=λj hj=>(by rw[<-h j hj,cell_of_row w g j _ _ _ hg]);have h1:=hc (k-1) oM;rw[Array.getElem?_eq_getElem (xs:=cs) oM]at h1;have d:k<=c.size:=oH ((aG h1).1);simp only[Nat.zero_add];rw[if_pos d];congr 1
   apply Array.ext
   ·simp;omega
   ·intro j h2 h3;have:=hc j oM;rw[Array.getElem?_eq_getElem oM,Array.getElem?_eq_getElem oM]at this;simpa using Option.some.inj this
  | _=>simp[cell?,hg]at h0
theorem xV.row(h:xV w):z9 w 0 0 8=some (wsC hU):=by
 refine BD oM (by simp[hU]) λj hj=>?_;rw[h.first j hj,dN hU (by simpa[hU]using hj)]
theorem buildHash(w:World):(Instr.build 342 #[(0,.agg (wsC hU)),(3,.bool true)]).run prog w=.ok (.agg (wsC xY.l ++ #[.slice none 0 0,.int .i64 0,.bool true])) w:=kR
abbrev haC(s:StU)(r:Value)(n:Int):Array Value:=wsC s.l ++ #[r,.int .i64 n,.bool true]
theorem ZJ{s:StU}{n:Int}(h:w.heap[g]?=some (.cells (haC s r n) T (0,0))) :
  w.cell? ⟨g,8,none⟩=some r/\w.cell? ⟨g,9,none⟩=some (.int .i64 n)/\w.cell? ⟨g,10,none⟩=some (.bool true)/\∀j,w.frozen? ⟨g,j,none⟩=false:=by
 have e:(wsC s.l).size=8:=by rw[bE];rfl
 refine⟨?_,?_,?_,λj=>by simp[frozen?,h]⟩ <;> rw[cell_of_row w g _ _ _ _ h,Array.getElem?_append_right oM,e] <;> rfl
theorem jl(s:StU)(r r':Value)(n:Int):(haC s r n).setIfInBounds 8 r'=haC s r' n:=by
 apply Array.ext';simp[StU.l,wsC]
theorem haC_set9(s:StU)(r:Value)(n n':Int):(haC s r n).setIfInBounds 9 (.int .i64 n')=haC s r n':=by
 apply Array.ext';simp[StU.l,wsC]
theorem sha_new(w:World)(hv:xV w):Calls prog 200 #[] w λe w'=>e=.returned (.pointer (some ⟨w.heap.size,0,none⟩))/\w'=w.alloc (.cells (haC xY (.slice none 0 0) 0) 342):=by
 have hr:=hv.row;have hb:=buildHash w;go_enter func200,ntmps200
 (go_wp2_with fail);go_ret;exact⟨rfl,rfl⟩
theorem yx(w:World)(g:Nat)(h:w.cell? ⟨g,10,none⟩=some (.bool true)):Calls prog 270 #[.pointer (some ⟨g,0,none⟩)] w λe w'=>e=.returned (.bool false)/\w=w':=by
 go_enter func270,ntmps270
 (go_wp2_with fail);go_ret;exact⟨rfl,rfl⟩
theorem JX{cv fb:Bool}{a:Act}{f:List Oper}{dst:Option Tmp}{sl x:Operand}{pos:String}{after:Array Edge}{U E:TypeId}{i:TypeInfo}(ht:P.underlying T=some (.slice E))(hu:P.underlying U=some .string)(hi:P.info? E=some i)(hz:i.zero=some (.int .u8 0))(g:i.size=1)(k:i.bytes=1)
  {B:Nat}{cap:Nat}{s:ByteArray}(hs:a.eval sl=.slice A n cap)(j:Own w B E 1 A n cap (yH bs))(hx:a.eval x=.string s)(d:n+s.size<=140737488355328)(hB:B<=w.heap.size)
  (h:∀A' cap' w',Own w' B E 1 A' (n+s.size) cap' (yH (bs++s.data.toList))->z8 (blk A) w w'->(∀x∈blk A',x∈blk A\/w.heap.size<=x)->S w'/\nF P ops S cv fb Q f (a.put dst (.slice A' (n+s.size) cap')) w') :
  nF P ops S cv fb Q ({ dst:=dst,op:=.call { callee:=.builtin .append,args:=#[sl,x],argTypes:=#[T,U] },type:=ty,pos:=pos,after:=after,guard:=none } :: f) a w:=by
 obtain⟨A',cap',w',hr,h1,h2,h3⟩:=QX ht hu hi hz g k j s d hB ty;obtain⟨k1,k2⟩:=h A' cap' w' h1 h2 h3;exact aT hs hx hr k1 k2
theorem SlW.hi2{E:TypeId}{bytes:Nat}{cap:Nat}(I:yT P T E k bytes)(h:SlW w A n cap k L)(hm:m<=n) :
  ∃A2 c2,(∀w0:World,(slS T (.slice A n cap) (some (.int .i64 m)) none none).run P w0=.ok (.slice A2 (n-m) c2) w0)/\(∀w':World,SlR w' A n k L->SlW w' A2 (n-m) c2 k (L.drop m)):=by
 have f:=h.le;refine⟨if cap=m then A else A.map λa=>a.add (m*k),cap-m,λw0=>?_,λw' hL=>⟨?_,oM,?_,?_⟩⟩
 ·rw[wZ I];unfold Instr.slice Instr.sliceBounds;simp only[Sem.run_bind,run_underlying I.und,Result.andThen_ok,Sem.run_pure,k9 w0 m n hm,I.sizeOf_run w0,Option.isSome_none,Bool.false_eq_true,if_false]
 ·by_cases d:cap=m
  ·have:n-m=0:=oM;rw[this];exact⟨by rw[length_drop,hL.1];omega,λh=>absurd h oM⟩
  ·rw[if_neg d];cases A with
   | none=>exact absurd (h.nil rfl) oM
   | some a =>
    obtain⟨g,o,sp⟩:=a;have:sp=none:=h.plain _ rfl;subst this;have e:(⟨g,o,none⟩:Addr).add (m*k)=⟨g,o+m*k,none⟩:=by unfold Addr.add;split <;> simp_all
    simp only[Option.map_some,e];exact hL.drop_ hm
 ·intro e;by_cases d:cap=m
  ·omega
  ·rw[if_neg d]at e;cases A with
   | none=>have:=h.nil rfl;omega
   | some a=>cases e
 ·intro a e;by_cases d:cap=m
  ·rw[if_pos d]at e;exact h.plain _ e
  ·rw[if_neg d]at e;cases A with
   | none=>cases e
   | some a' =>
    have hp:=h.plain _ rfl;obtain⟨g,o,sp⟩:=a';simp only at hp;subst hp;simp only[Option.map_some]at e;injection e with e
    rw[<-e];unfold Addr.add;split <;> rfl
def iE(w:World)(p:Addr):Nat:=match w.cell? p with | some (.slice _ n _)=>n | _=>0
@[go_sem ↓] theorem slU8_rw(x:Value)(lo hi mx:Option Value):Instr.sliceAt 127 x lo hi mx=slS 127 x lo hi mx:=rfl
@[go_sem] theorem slU8_nil(w:World):(slS 127 (.slice none 0 0) none (some (.int .i64 0)) (some (.int .i64 0))).run prog w=.ok (.slice none 0 0) w:=kR
theorem sha_write(w:World)(g:Nat)(T:TypeId)(st:StU)(s:ByteArray)(hv:xV w)(hg:w.heap[g]?=some (.cells (haC st (.slice none 0 0) 0) T (0,0)))(hs:s.size<=1000000)(d1:g≠0)(d0:g≠2) :
  Calls prog 201 #[.pointer (some ⟨g,0,none⟩),.string s] w λe w'=>e=.returned (.int .i64 s.size)/\∃A cap,w'.heap[g]?=some (.cells (haC (vB (s.size / 64) st s.data.toList) (.slice A (s.size % 64) cap) s.size) T (0,0))/\SlW w' A (s.size % 64) cap 1 (yH (s.data.toList.drop (64*(s.size / 64))))/\z8 [g] w w':=by
 have d7:g<w.heap.size:=(aG hg).1;obtain⟨c8,c9,B,cf⟩:=ZJ hg;have f9:=cf 9;have cn:=yx w g B;obtain⟨l,hl⟩:=eX s.data.toList
 have b6:l.length=s.size:=by rw[<-hl];rfl
 rw[hl];have e0:=dH b6;have Hl:=dH hl;clear hl b6;go_enter func201,ntmps201
 (go_wp2_with fail);refine cn.mono ?_;rintro e w1 ⟨rfl,rfl⟩;clear cn;go_upto_region 4 with fail
 have D:=zE hg 9 (.int .i64 s.size);rw[haC_set9]at D;have R:=z8.setCell w ⟨g,9,none⟩ (.int .i64 s.size);obtain⟨W,hW⟩:=eR (w.setCell ⟨g,9,none⟩ (.int .i64 s.size))
 rw[<-hW]at D R |-;have a9:xV W:=hv.kept R sO sO;have d2:g<W.heap.size:=(aG D).1;clear hW hg c8 c9 B cf f9 hv;obtain⟨c8,c9,B,cf⟩:=ZJ D;obtain⟨i,i1,i2,i3,i4⟩:=vp;have H:g∉([]:List Nat):=sI;refine kF ([]:List Nat) W ?_;intro a0 hS;have b0:=zF c8 H;refine lZ ?_;have ho:Own W.drew W.drew.heap.size 5 1 none 0 0 (yH []):=Own.nil _ _ _ _;refine JX underlying127 underlying9 i1 i2 i3 i4 rfl ho rfl oM lR ?_;intro A' cap' w2 M c5 E;have J:z8 [] W w2:=z8.trans (z8.drew W) c5 (by simp[blk]);refine zH J (λd3=>?_);refine lZ ?_;have a5:=(J.block g d2 H).trans D;obtain⟨d8,_,_,df⟩:=ZJ a5;have f8:=df 8;refine qY ?_ ?_;(focus(simp only[yL];done));intro K hK;go_simp;refine hK _ _ ?_;clear hK K;simp only[Nat.zero_add,nil_append]at M |-;have X:=zE a5 8 (.slice A' s.size cap');rw[jl]at X;have V:=z8.setCell w2 ⟨g,8,none⟩ (.slice A' s.size cap');have c6:∀x∈blk A',x≠g:=λx hx=>(by have:=(M.at_base hx).1;have:W.heap.size<=W.drew.heap.size:=lR;omega);have b8:z8 [g] w (w2.setCell ⟨g,8,none⟩ (.slice A' s.size cap')):=z8.trans (z8.trans R (J.mono (S':=[g]) sI) iL) V iL;have L:=(M.kept V (λx hx=>by simpa using c6 x hx)).slw;have b1:xV (w2.setCell ⟨g,8,none⟩ (.slice A' s.size cap')):=(a9.kept J sI sI).kept V sO sO;clear M ho c5 E hS a0 d3 b0 c8 c9 B cf d8 df f8 a5 V D R a9 H;obtain⟨Z,hZ⟩:=eR (w2.setCell ⟨g,8,none⟩ (.slice A' s.size cap'))
 rw[<-hZ]at X b8 L b1 |-;have d9:g<Z.heap.size:=(aG X).1;clear hZ J;rw[Hl.out]at L;go_upto_region 5 with fail
 go_loopw [] (λwr=>∃(k:Nat) (A3:Option Addr) (d:Nat),64*k<=s.size/\wr.heap[g]?=some (.cells (haC (vB k st l) (.slice A3 (s.size-64*k) d) s.size) T (0,0))/\SlW wr A3 (s.size-64*k) d 1 (yH (l.drop (64*k)))/\Hid (∀w',SlR w' A' s.size 1 (yH l)->SlR w' A3 (s.size-64*k) 1 (yH (l.drop (64*k))))/\z8 [g] Z wr) (λwr=>iE wr ⟨g,8,none⟩)
 case atStart=>exact⟨0,A',cap',oM,X,L,(show ∀w',_ from λw' h=>h),z8.refl _ _⟩
 case round =>
  obtain⟨k,A3,d,hk,j,f,G,N⟩:=hrel;obtain⟨c8,c9,B,cf⟩:=ZJ j;obtain⟨n,hn⟩:=eX (s.size-64*k)
  rw[hn]at j f c8 G;have Hn:=dH hn;have Hm:=dH (show iE wr ⟨g,8,none⟩=n by unfold iE;rw[c8]);have Y:xV wr:=b1.kept N sO sO;clear hn;by_cases a1:64<=n
  ·obtain⟨A4,c4,F,t⟩:=f.hi2 qV (m:=64) a1;have c7:∀w0:World,(slS 127 (.slice A3 n d) none (some (.int .i64 64)) none).run prog w0=.ok (.slice A3 64 d) w0:=λw0=>f.lo qV (m:=64) a1 w0;have b3:∀w0:World,(slS 127 (.slice A3 n d) (some (.int .i64 64)) none none).run prog w0=.ok (.slice A4 (n-64) c4) w0:=F;have I:b9 wr A3 64 ((l.drop (64*k)).take 64):=by
    have h1:=f.rd.take_ (m:=64) a1;unfold yH at h1;rw[<-map_take]at h1;exact h1
   have H:g∉([]:List Nat):=sI;have ct:=yd wr.drew g T (vB k st l) #[.slice A3 n d,.int .i64 s.size,.bool true] A3 d ((l.drop (64*k)).take 64) (Y.kept (z8.drew wr) sI sI) j (I.kept (z8.drew wr) sI) d1 d0;clear F I;go_upto_region 6 with fail
   refine kF ([]:List Nat) wr ?_;intro a0 hS;have b0:=zF c8 H;refine lZ ?_;refine qY ?_ ?_;(focus(simp only[yL];done));intro K hK;go_simp;refine ct.mono ?_;rintro e w5 ⟨rfl,a4,c3⟩;refine⟨_,rfl,hK _ _ ?_⟩;clear hK K ct a0 hS b0 c9 B cf j c7;have b2:rJ (vB k st l) ((l.drop (64*k)).take 64)=vB (k+1) st l:=(aM k st l).symm;rw[b2]at a4;have y:w5.heap[g]?=some (.cells (haC (vB (k+1) st l) (.slice A3 n d) s.size) T (0,0)):=a4;have c1:z8 [g] wr w5:=z8.trans ((z8.drew wr).mono (S':=[g]) sI) c3 iL;obtain⟨c8,_,_,cf⟩:=ZJ y;have f8:=cf 8;have a3:=zE y 8 (.slice A4 (n-64) c4);rw[jl]at a3;have c2:=z8.setCell w5 ⟨g,8,none⟩ (.slice A4 (n-64) c4);have O:z8 [g] Z (w5.setCell ⟨g,8,none⟩ (.slice A4 (n-64) c4)):=z8.trans (z8.trans N c1 iL) c2 iL;have b7:=L.rd.kept O (λx hx=>by simpa using c6 x hx);have r:=t _ (G.out _ b7);have a6:(yH (l.drop (64*k))).drop 64=yH (l.drop (64*(k+1))):=by
    unfold yH;rw[<-map_drop,drop_drop,(oM:64*k+64=64*(k+1))]
   rw[a6]at r;have U:Hid (∀w',SlR w' A' s.size 1 (yH l)->SlR w' A4 (n-64) 1 (yH (l.drop (64*(k+1))))):=(show ∀w',_->_ from λw' h=>by
    have:=(t w' (G.out w' h)).rd;rwa [a6]at this)
   have a7:=dH r;have d5:Hid (iE (w5.setCell ⟨g,8,none⟩ (.slice A4 (n-64) c4)) ⟨g,8,none⟩=n-64):=by
    show _=_;obtain⟨e8,_⟩:=ZJ a3;unfold iE;rw[e8]
   have b5:s.size-64*(k+1)=n-64:=oH Hn.out;have a8:=dH b5;have a2:64*(k+1)<=s.size:=oH Hn.out;clear b2 a4 y c1 c2 b7 r a6 b5 t f Y N G c3;(go_wp2_with fail);go_roundw
   case rel=>exact⟨k+1,A4,c4,a2,(by rw[a8.out];exact a3),(by rw[a8.out];exact a7.out),(by rw[a8.out];exact U),O⟩
   case measure=>rw[Hm.out,d5.out];omega
  ·have c0:k=s.size / 64:=oH Hn.out;have b4:n=s.size % 64:=oH Hn.out;have O:z8 [g] w wr:=z8.trans b8 N iL;rw[b4]at f j;rw[c0]at j f;have d6:=dH j;have d4:=dH f;clear c0 b4 j f G Y c9 B cf;(go_wp2_with fail);go_ret;exact⟨rfl,A3,d,d6.out,d4.out,O⟩
theorem ji{a b:List UInt8}{ha:a.length=32}{hb:b.length=32}(h:a=b):(⟨a,ha⟩:zA)=⟨b,hb⟩:=zA.ext' h
def JK(s:StU)(k:Nat):Array Value:=(((s.l.take k).flatMap b4U).map yG++replicate (32-4*k) (Value.int .u8 0)).toArray
theorem outA_zero(s:StU):JK s 0=idC id0:=by unfold JK idC id0;simp[yG]
theorem VM(s:StU):s.l.flatMap b4U=fM s:=by simp[StU.l,fM]
theorem outA_full(s:StU):JK s 8=idC ⟨fM s,xX s⟩:=by
 unfold JK idC;rw[show s.l.take 8=s.l from rfl,VM];simp
theorem flat4(L:List UInt32):(L.flatMap b4U).length=4*L.length:=by
 induction L with
 | nil=>rfl
 | cons a L ih=>rw[flatMap_cons,length_append,ih,wT,length_cons];omega
theorem outA_size(s:StU)(hk:k<=8):(JK s k).size=32:=by
 have h:=flat4 (s.l.take k);have h8:=s.l_len;simp only[JK,size_toArray,length_append,length_map,length_replicate,h,length_take];omega
theorem outA_set(s:StU)(hk:k<8)(x:UInt32)(hx:s.l.getD k 0=x) :
  ((((JK s k).setIfInBounds (4*k) (yG (x >>> 24).toUInt8)).setIfInBounds (4*k+1) (yG (x >>> 16).toUInt8)).setIfInBounds (4*k+2) (yG (x >>> 8).toUInt8)).setIfInBounds (4*k+3) (yG x.toUInt8)=JK s (k+1):=by
 have hL:k<s.l.length:=hk;have e1:s.l.take (k+1)=s.l.take k ++ [x]:=by
  rw[take_add_one,getElem?_eq_getElem hL,<-hx,getD_eq_getElem?_getD,getElem?_eq_getElem hL];rfl
 obtain⟨P,hP⟩:=eX (((s.l.take k).flatMap b4U).map yG)
 have d:P.length=4*k:=by rw[<-hP,length_map,flat4,length_take];have:=s.l_len;omega
 apply Array.ext';unfold JK;rw[e1,flatMap_append,map_append,hP];simp only[Array.toList_setIfInBounds];rw[(oM:32-4*k=(28-4*k)+1+1+1+1),(oM:32-4*(k+1)=28-4*k)];simp only[replicate_succ,flatMap_cons,flatMap_nil,append_nil,b4U,map_cons,map_nil,append_assoc];rw[<-d];simp[set_append]
theorem w24(x:UInt32):nU x / (16777216:Int) % (256:Int)=(((x >>> 24).toUInt8.toNat:Nat):Int):=by
 have h:=YQ x 24 oM;rw[show((2:Int) ^ 24)=16777216 from rfl]at h;rw[h];simp[nU]
theorem w16(x:UInt32):nU x / (65536:Int) % (256:Int)=(((x >>> 16).toUInt8.toNat:Nat):Int):=by
 have h:=YQ x 16 oM;rw[show((2:Int) ^ 16)=65536 from rfl]at h;rw[h];simp[nU]
theorem w8(x:UInt32):nU x / (256:Int) % (256:Int)=(((x >>> 8).toUInt8.toNat:Nat):Int):=by
 have h:=YQ x 8 oM;rw[show((2:Int) ^ 8)=256 from rfl]at h;rw[h];simp[nU]
theorem w0(x:UInt32):nU x % (256:Int)=((x.toUInt8.toNat:Nat):Int):=by
 simp[nU]
theorem haC_row{s:StU}{n:Int}(h:w.heap[g]?=some (.cells (haC s r n) T (0,0))):z9 w g 0 8=some (wsC s.l):=by
 unfold z9;rw[h];have e:(wsC s.l).size=8:=by rw[bE];rfl
 simp only[Nat.zero_add];rw[if_pos (by simp[e])];rw[<-e];simp
theorem sha_sumH(w:World)(g:Nat)(T:TypeId)(s:StU)(A:Option Addr)(m cap N:Nat)(B:List UInt8)(hv:xV w)(hg:w.heap[g]?=some (.cells (haC s (.slice A m cap) N) T (0,0)))(h:SlW w A m cap 1 (yH B))(hN:N<=1000000)(hm:m=N % 64) :
  Calls prog 202 #[.pointer (some ⟨g,0,none⟩)] w λe w'=>e=.returned (.agg (idC ⟨fM (vB ((m+(wK N).length) / 64) s (B++wK N)),xX _⟩))/\Below w.heap.size w w':=by
 have e2:g<w.heap.size:=(aG hg).1;have G:Below w.heap.size w (w.alloc (.cells (idC id0) 23)):=bA;have e7:=(G.block g e2).trans hg;obtain⟨c8,c9,d2,cf⟩:=ZJ e7;have r:=haC_row e7;have cn:=yx _ g d2;have hid:=heap_alloc_new w (.cells (idC id0) 23);have h5:=hv.below G;have d5:=h.below G;have c7:=B5 (w.alloc (.cells (idC id0) 23)) (w.heap.size+1) sI (wsC (zU 8)) (by simp[fX]) s.l s.l_len 340;have y:Below w.heap.size w ((w.alloc (.cells (idC id0) 23)).alloc (.cells (wsC s.l) 340)):=G.alloc sI _;have U:=heap_alloc_new (w.alloc (.cells (idC id0) 23)) (.cells (wsC s.l) 340);rw[(sI:(w.alloc (.cells (idC id0) 23)).heap.size=w.heap.size+1)]at U;have E:((w.alloc (.cells (idC id0) 23)).alloc (.cells (wsC s.l) 340)).heap[w.heap.size]?=some (.cells (idC id0) 23 (0,0)):=by
  rw[Below.heap_alloc _ _ _ sI];exact hid
 have d4:=hv.below y;have L:=h.below y;have e6:=(y.block g e2).trans hg;have d9:=hv.ltF;have d8:=hv.ltK;obtain⟨M,hM⟩:=eX (m+(wK N).length)
 have c5:M % 64=0:=by rw[<-hM,hm];have:=XL N;omega
 obtain⟨l,hl⟩:=eX (B++wK N)
 rw[hM,hl];clear h hv hg h5 d5;go_enter func202,ntmps202
 (go_wp2_with fail);refine cn.mono ?_;rintro e w1 ⟨rfl,rfl⟩;clear cn;go_upto_region 4 with fail
 obtain⟨ga,e4⟩:=eX w.heap.size
 have h0:=dH e4;obtain⟨W,hW⟩:=eR ((w.alloc (.cells (idC id0) 23)).alloc (.cells (wsC s.l) 340))
 rw[<-hW]at y U E d4 L e6 |-;rw[e4]at e2 U E d9 d8 |-;have e3:ga+1<W.heap.size:=(aG U).1;clear G e7 c8 c9 d2 cf r hid c7 hW e4;obtain⟨c8,c9,d2,cf⟩:=ZJ e6;have ce:=sha_end W.drew A m cap B (L.kept (z8.drew W) sI) N hN hm;rw[hM,hl]at ce;have c6:=dH c5;have d7:g∉([]:List Nat):=sI;have Hm:=dH hm;clear hM hl c5 hm;refine kX ([]:List Nat) W ?_;intro h7 hS;have b0:=zF c8 d7;have b1:=zF c9 d7;refine lQ ?_;intro K hK;refine ce.mono ?_;rintro e w2 ⟨A',cap',rfl,ho,a0⟩;replace hS:=bM hS a0;refine⟨_,rfl,hS,hK _ _ ?_⟩;clear hK K;refine lZ ?_;refine zC ?_;intro hS;have a1:z8 [] W w2:=hS;have i1:∀x∈blk A',x≠ga+1:=λx hx=>(by have:=(ho.at_base hx).1;have:W.heap.size<=W.drew.heap.size:=lR;omega);have J:=ho.slw;have a5:w2.heap[ga+1]?=some (.cells (wsC s.l ++ #[]) 340 (0,0)):=by rw[a1.block (ga+1) e3 sI,U];simp
 have a8:=(a1.block ga oM sI).trans E;have g0:=d4.kept a1 sI sI;have Y:Below w.heap.size w w2:=y.trans (a1.below y.size sI);have e5:ga+1<w2.heap.size:=oH a1.size;clear ho ce h7 hS a0 b0 b1 c8 c9 d2 cf e6 L d4 E U y d7 a1;go_upto_region 5 with fail
 go_loopw [4] (λsv wr=>∃(k:Nat) (A3:Option Addr) (d:Nat),64*k<=M/\sv=.slice A3 (M-64*k) d/\wr.heap[ga+1]?=some (.cells (wsC (vB k s l).l ++ #[]) 340 (0,0))/\SlW wr A3 (M-64*k) d 1 (yH (l.drop (64*k)))/\Hid (∀w',SlR w' A' M 1 (yH l)->SlR w' A3 (M-64*k) 1 (yH (l.drop (64*k))))/\z8 [ga+1] w2 wr) (λsv _=>V8 sv)
 case atStart=>exact⟨0,A',cap',oM,rfl,a5,J,(show ∀w',_ from λw' h=>h),z8.refl _ _⟩
 case round =>
  obtain⟨k,A3,d,hk,rfl,b4,Z,a4,f⟩:=hrel;obtain⟨n,hn⟩:=eX (M-64*k)
  rw[hn]at Z a4 |-;have Hn:=dH hn;have d3:xV wr:=g0.kept f sI sO;clear hn;by_cases d0:0<n
  ·have f6:64<=n:=by have:=Hn.out;have:=c6.out;omega
   obtain⟨A4,c4,a3,O⟩:=Z.hi2 qV (m:=64) f6;have h8:∀w0:World,(slS 127 (.slice A3 n d) none (some (.int .i64 64)) none).run prog w0=.ok (.slice A3 64 d) w0:=λw0=>Z.lo qV (m:=64) f6 w0;have g1:∀w0:World,(slS 127 (.slice A3 n d) (some (.int .i64 64)) none none).run prog w0=.ok (.slice A4 (n-64) c4) w0:=a3;have b7:b9 wr A3 64 ((l.drop (64*k)).take 64):=by
    have h1:=Z.rd.take_ (m:=64) f6;unfold yH at h1;rw[<-map_take]at h1;exact h1
   have ct:=yd wr (ga+1) 340 (vB k s l) #[] A3 d ((l.drop (64*k)).take 64) d3 b4 b7 (by show ga+1≠_;omega) (by show ga+1≠_;omega);have c7:rJ (vB k s l) ((l.drop (64*k)).take 64)=vB (k+1) s l:=(aM k s l).symm;rw[c7]at ct;clear a3 b7 c7 b4;(go_wp2_with fail);refine ct.mono ?_;rintro e w5 ⟨rfl,i0,g6⟩;have a6:z8 [ga+1] w2 w5:=z8.trans f g6 iL;have g3:=J.rd.kept a6 (λx hx=>by simpa using i1 x hx);have I:=O _ (a4.out _ g3);have e9:(yH (l.drop (64*k))).drop 64=yH (l.drop (64*(k+1))):=by
    unfold yH;rw[<-map_drop,drop_drop,(oM:64*k+64=64*(k+1))]
   rw[e9]at I;have d6:Hid (∀w',SlR w' A' M 1 (yH l)->SlR w' A4 (n-64) 1 (yH (l.drop (64*(k+1))))):=(show ∀w',_->_ from λw' h=>by
    have:=(O w' (a4.out w' h)).rd;rwa [e9]at this)
   have a5:M-64*(k+1)=n-64:=oH Hn.out;have f8:=dH a5;have e1:64*(k+1)<=M:=oH Hn.out;have f7:=dH I;clear ct h8 g3 I e9 a5 O Z d3 f a4 g6;(go_wp2_with fail);go_roundw
   case rel=>exact⟨k+1,A4,c4,e1,(by rw[f8.out]),i0,(by rw[f8.out];exact f7.out),(by rw[f8.out];exact d6),a6⟩
   case measure=>simp[V8];omega
  ·have g5:k=M / 64:=by have:=Hn.out;have:=c6.out;omega
   obtain⟨F,hF⟩:=eX (vB (M / 64) s l)
   rw[g5,hF]at b4;have HF:=dH hF;have a9:wr.heap[ga+1]?=some (.cells (wsC F.l) 340 (0,0)):=by rw[b4];simp
   have r:z9 wr (ga+1) 0 8=some (wsC F.l):=by unfold z9;rw[a9];simp[F.l_len]
   have a7:=(f.block ga oM sI).trans a8;have f4:Below w.heap.size w wr:=Y.trans (f.below Y.size (by simp;have:=h0.out;omega));have b6:ga+1<wr.heap.size:=oH f.size;have b5:=heap_alloc_new wr (.cells (idC id0) 23);have d1:Below w.heap.size w (wr.alloc (.cells (idC id0) 23)):=f4.alloc f4.size _;have R:=(Below.heap_alloc wr (.cells (idC id0) 23) ga oM).trans a7;have H:z9 (wr.alloc (.cells (idC id0) 23)) (ga+1) 0 8=some (wsC F.l):=(zG (Below.heap_alloc wr (.cells (idC id0) 23) (ga+1) b6) _ _).trans r;clear hF b4 a9 Z a4 d3 f g5 r a7 f4 a5 J g0 a8 Y e5;go_upto_region 10 with fail
   obtain⟨gb,g8⟩:=eX wr.heap.size
   obtain⟨V,hV⟩:=eR (wr.alloc (.cells (idC id0) 23))
   rw[<-hV]at b5 d1 R H |-;rw[g8]at b5 b6 |-;have h9:gb<V.heap.size:=(aG b5).1;clear hV g8;go_loopw [6,7,34] (λ_ _ iv wr=>∃i:Nat,i<=8/\iv=.int .i64 i/\wr.heap[gb]?=some (.cells (JK F i) 23 (0,0))/\z8 [gb] V wr) (λ_ _ iv _=>8-(intOf iv).toNat)
   case atStart=>exact⟨0,oM,rfl,(by rw[outA_zero];exact b5),z8.refl _ _⟩
   case round =>
    clear b5;obtain⟨i,hi,rfl,hc,f⟩:=hrel;by_cases d0:i<8
    ·obtain⟨m4,g2⟩:∃m4:Nat,4*i=m4:=⟨_,rfl⟩
     have em:4*(i:Int)=(m4:Int):=oM;have l0:(m4:Int)<32:=oM;have l1:0<=(m4:Int)+1/\(m4:Int)+1<32:=oM;have l2:0<=(m4:Int)+2/\(m4:Int)+2<32:=oM;have l3:0<=(m4:Int)+3/\(m4:Int)+3<32:=oM;have t2:((m4:Int)+2).toNat=m4+2:=oM;have t3:((m4:Int)+3).toNat=m4+3:=oM;obtain⟨x,hx⟩:=eX (F.l.getD i 0)
     have D:=outA_set F d0 x hx;have i2:=w24 x;have i3:=w16 x;have e8:=w8 x;have e0:=w0 x;rw[g2]at D;obtain⟨b0,G⟩:=eX ((x >>> 24).toUInt8)
     obtain⟨b1,y⟩:=eX ((x >>> 16).toUInt8)
     obtain⟨b2,a0⟩:=eX ((x >>> 8).toUInt8)
     obtain⟨b3,f5⟩:=eX x.toUInt8
     rw[G,y,a0,f5]at D;rw[G]at i2;rw[y]at i3;rw[a0]at e8;rw[f5]at e0;clear G y a0 f5;have y1:(wsC F.l)[i]?=some (.int .u32 (nU x)):=by rw[dN F.l d0,hx]
     have i5:=index_w (t:=340) underlying340 d0 y1 wr;have a2:=outA_size F hi;have h1:=zE hc m4 (yG b0);have h2:=zE h1 (m4+1) (yG b1);have h3:=zE h2 (m4+2) (yG b2);have h4:=zE h3 (m4+3) (yG b3);rw[D]at h4;have k1:=z8.setCell wr ⟨gb,m4,none⟩ (yG b0);have k2:=z8.setCell (wr.setCell ⟨gb,m4,none⟩ (yG b0)) ⟨gb,m4+1,none⟩ (yG b1);have k3:=z8.setCell ((wr.setCell ⟨gb,m4,none⟩ (yG b0)).setCell ⟨gb,m4+1,none⟩ (yG b1)) ⟨gb,m4+2,none⟩ (yG b2);have k4:=z8.setCell (((wr.setCell ⟨gb,m4,none⟩ (yG b0)).setCell ⟨gb,m4+1,none⟩ (yG b1)).setCell ⟨gb,m4+2,none⟩ (yG b2)) ⟨gb,m4+3,none⟩ (yG b3);have kk:=z8.trans (z8.trans (z8.trans (z8.trans f k1 iL) k2 iL) k3 iL) k4 iL;have b8:∀ {w':World} {c:Array Value} (_:w'.heap[gb]?=some (.cells c 23 (0,0))) (_:c.size=32) (j:Nat) (_:j<32),(∃v,w'.cell? ⟨gb,j,none⟩=some v)/\w'.frozen? ⟨gb,j,none⟩=false:=fun {w' c} h hs j hj=>⟨⟨c[j]'oM,by rw[cell_of_row w' gb j _ _ _ h,Array.getElem?_eq_getElem]⟩,by simp[frozen?,h]⟩;obtain⟨⟨v0,c0⟩,f0⟩:=b8 hc a2 m4 oM;obtain⟨⟨v1,c1⟩,f1⟩:=b8 h1 (by simp[a2]) (m4+1) oM;obtain⟨⟨v2,c2⟩,f2⟩:=b8 h2 (by simp[a2]) (m4+2) oM;obtain⟨⟨v3,c3⟩,f3⟩:=b8 h3 (by simp[a2]) (m4+3) oM;have H4:=dH h4;have Kk:=dH kk;clear D hx h1 h2 h3 h4 k1 k2 k3 k4 kk b8 a2 g2 f hc y1;unfold yG at c1 c2 c3 f1 f2 f3;(go_wp2_with fail);go_roundw
     case rel=>exact⟨i+1,oM,by go_num,H4.out,Kk.out⟩
     case measure=>exact sZ
    ·have g7:i=8:=oM;rw[g7,outA_full]at hc;have r:z9 wr gb 0 32=some (idC ⟨fM F,xX F⟩):=by unfold z9;rw[hc];simp
     have X:=(f.block ga oM sO).trans R;have h6:=zX (P:=prog) xP wr ga (idC id0) (idC ⟨fM F,xX F⟩) _ X sI sI (yN _);have f9:=dH (setRow_heap wr ga _ (idC ⟨fM F,xX F⟩) _ _ X);have a6:z8 [ga] wr (wr.setRow ga (idC ⟨fM F,xX F⟩)):=⟨rfl,rfl,rfl,by simp[setRow],λx _ hx=>setRow_other wr ga x _ (by simpa using hx)⟩
     have g4:=z8.trans (f.mono (S':=[ga,gb]) sI) (a6.mono (S':=[ga,gb]) sI) iL;have g9:Below w.heap.size w (wr.setRow ga (idC ⟨fM F,xX F⟩)):=d1.trans (g4.below d1.size (by simp;have:=h0.out;omega));have i4:=dH g9;clear a6 g4 g9 X hc g7 f R d1 H;(go_wp2_with fail);exact bodyPost_ret (results_cell_row results202 _ _ ga 23 (idC ⟨fM F,xX F⟩) (0,0) _ rfl f9.out underlying23 rfl (by rw[xM];exact xP)) rfl ⟨by rw[HF.out],i4.out⟩
theorem sha_sum(w:World)(s:ByteArray)(hv:xV w)(hs:s.size<=1000000) :
  Calls prog 150 #[.string s] w λe w'=>e=.returned (.agg (idC (qI s.data.toList)))/\Below w.heap.size w w':=by
 have J:Below w.heap.size w (w.alloc (.cells (idC id0) 23)):=bA;have hid:=heap_alloc_new w (.cells (idC id0) 23);have E:=hv.below J;have c1:=sha_new _ E;have G:=hv.ltF;have F:=hv.ltK;have H:s.data.toList.length=s.size:=rfl;have t:(⟨fM (vB ((s.size % 64+(wK s.size).length) / 64) (vB (s.size / 64) xY s.data.toList) (s.data.toList.drop (64*(s.size / 64))++wK s.size)),xX _⟩:zA)=qI s.data.toList:=by
  unfold qI;apply ji;rw[shaU_parts,H,length_append,length_drop,H,(oM:s.size-64*(s.size / 64)=s.size % 64)]
 have f:=dH t;clear t H hv;obtain⟨ga,I⟩:=eX w.heap.size
 have X:=dH I;rw[(sI:(w.alloc (.cells (idC id0) 23)).heap.size=w.heap.size+1)]at c1;go_enter func150,ntmps150
 (go_wp2_with fail);refine c1.mono ?_;rintro e w1 ⟨rfl,rfl⟩;have j:=heap_alloc_new (w.alloc (.cells (idC id0) 23)) (.cells (haC xY (.slice none 0 0) 0) 342);rw[(sI:(w.alloc (.cells (idC id0) 23)).heap.size=w.heap.size+1)]at j;have D:=J.alloc sI (.cells (haC xY (.slice none 0 0) 0) 342);have d:=(Below.heap_alloc (w.alloc (.cells (idC id0) 23)) (.cells (haC xY (.slice none 0 0) 0) 342) w.heap.size sI).trans hid;have y:xV ((w.alloc (.cells (idC id0) 23)).alloc (.cells (haC xY (.slice none 0 0) 0) 342)):=E.kept (z8.alloc _ _) sI sI;obtain⟨W,hW⟩:=eR ((w.alloc (.cells (idC id0) 23)).alloc (.cells (haC xY (.slice none 0 0) 0) 342))
 rw[<-hW]at j D d y |-;rw[I]at j D d G F |-;have U:ga+1<W.heap.size:=(aG j).1;have c2:=sha_write W (ga+1) 342 xY s y j hs (by show ga+1≠_;omega) (by show ga+1≠_;omega);clear hW J hid E c1 I;(go_wp2_with fail);refine c2.mono ?_;rintro e w2 ⟨rfl,A,cap,N,k,m⟩;have r:=(m.block ga oM sI).trans d;have L:=y.kept m sI sO;have R:Below ga w w2:=D.trans (m.below oM sI);have c3:=sha_sumH w2 (ga+1) 342 _ A _ cap s.size _ L N k hs rfl;rw[f.out]at c3;have Z:=m.size;clear c2 j D d y N k m L f;(go_wp2_with fail);refine c3.mono ?_;rintro e w3 ⟨rfl,B⟩;have g:=(B.block ga oM).trans r;have T:=zX (P:=prog) xP w3 ga (idC id0) (idC (qI s.data.toList)) _ g sI sI (yN _);have f:=dH (setRow_heap w3 ga _ (idC (qI s.data.toList)) _ _ g);have M:z8 [ga] w3 (w3.setRow ga (idC (qI s.data.toList))):=⟨rfl,rfl,rfl,by simp[setRow],λx _ hx=>setRow_other w3 ga x _ (by simpa using hx)⟩
 have V:=B.size;have O:Below ga w (w3.setRow ga (idC (qI s.data.toList))):=(R.trans (B.mono oM)).trans (M.below oM sI);have Y:=dH O;clear M O g r B R c3;(go_wp2_with fail);exact bodyPost_ret (results_cell_row results150 _ _ ga 23 (idC (qI s.data.toList)) (0,0) _ rfl f.out underlying23 rfl (by rw[xM];exact xP)) rfl ⟨rfl,by rw[X.out];exact Y.out⟩
theorem idbox{d:zA}(h:w.heap[g]?=some (.cells (idC d) 23 (0,0)))(x:zA):∃w',(stS 23 ⟨g,0,none⟩ (.agg (idC x))).run prog w=.ok () w'/\w'.heap[g]?=some (.cells (idC x) 23 (0,0))/\z8 [g] w w' :=
 ⟨_,zX (P:=prog) xP w g (idC d) (idC x) _ h sI sI (yN _),setRow_heap w g _ (idC x) _ _ h,⟨rfl,rfl,rfl,by simp[setRow],λy _ hy=>setRow_other w g y _ (by simpa using hy)⟩⟩
theorem empty_size(s:ByteArray):s.toList.isEmpty=decide (s.size=0):=by
 rw[ByteArray.toList_eq];show s.data.toList.isEmpty=decide (s.data.size=0);rw[<-Array.length_toList];cases s.data.toList <;> simp
theorem sto_check(s:ByteArray)(w:World)(hs:s.size<=9223372036854775807):Calls prog 149 #[.string s] w λe w'=>e=.returned (.int .i64 (rZ s))/\w=w':=by
 obtain⟨E,hE⟩:=eX (rZ s)
 rw[hE];have he:=empty_size s;have HE:=dH (show E=if s.size=0 then 4 else if 512<s.size then 3 else 0 from hE.symm);clear hE;by_cases h0:s.size=0
 ·rw[decide_eq_true h0]at he;have HX:Hid (E=4):=(show _=_ by rw[HE.out,if_pos h0])
  clear h0;go_enter func149,ntmps149
  (go_wp2_with fail);go_ret;exact⟨y9 HX.out.symm,rfl⟩
 ·rw[decide_eq_false h0]at he;by_cases h1:512<s.size
  ·have hl:(512:Int)<(s.size:Int):=oM;have HX:Hid (E=3):=(show _=_ by rw[HE.out,if_neg h0,if_pos h1])
   clear h0 h1;go_enter func149,ntmps149
   (go_wp2_with fail);go_ret;exact⟨y9 HX.out.symm,rfl⟩
  ·have hl:¬(512:Int)<(s.size:Int):=oM;have HX:Hid (E=0):=(show _=_ by rw[HE.out,if_neg h0,if_neg h1])
   clear h0 h1;go_enter func149,ntmps149
   (go_wp2_with fail);go_ret;exact⟨y9 HX.out.symm,rfl⟩
theorem sto_fits(w:World)(g:Nat)(q b n:Int)(h:w.cell? ⟨g,1,none⟩=some (.int .i64 q))(hr:IntKind.i64.wrap (q-b)=q-b):Calls prog 71 #[.pointer (some ⟨g,0,none⟩),.int .i64 b,.int .i64 n] w λe w'=>e=.returned (.bool (decide (n<=q-b)))/\Below w.heap.size w w':=by
 obtain⟨bb,d⟩:=eX (decide (n<=q-b))
 rw[d];have Hb:=dH d;go_enter func71,ntmps71
 (go_wp2_with fail);go_ret;exact⟨rfl,Below.refl _ _⟩
theorem sto_put(w:World)(g:Nat)(F:List Nat)(q:Int)(S:List Pay)(s:ByteArray)(h:v6 w g F q S)(hv:xV w)(hs:s.size<=1000000)(hq:0<=q/\q<=1000000)(n1:xR S<=1000000) :
  Calls prog 87 #[.pointer (some ⟨g,0,none⟩),.string s] w λe w'=>e=.returned (.tuple #[.agg (idC (if sD S q s=0 then qI s.data.toList else id0)),.int .i64 (sD S q s)])/\(∃F',v6 w' g F' q (lG S q s)/\∀x∈F',x∈F\/w.heap.size<=x)/\z8 F w w':=by
 obtain⟨E,hE⟩:=eX (sD S q s)
 obtain⟨I,hI⟩:∃I,(if E=0 then qI s.data.toList else id0)=I:=⟨_,rfl⟩
 obtain⟨T,hT⟩:=eX (lG S q s)
 rw[hE,hI,hT];obtain⟨C,hC⟩:=eX (qI s.data.toList)
 have D:E=if rZ s≠0 then rZ s else if C∈S.map (·.c)then 0 else if q-xR S<s.size then 14 else 0:=by rw[<-hE,<-hC];rfl
 have d0:T=if E=0/\C∉S.map (·.c)then S ++ [⟨C,s,false⟩]else S:=by rw[<-hT,<-hC,<-hE];rfl
 rw[hC]at hI;have hB:Below w.heap.size w (w.alloc (.cells (idC id0) 23)):=bA;have hid:=heap_alloc_new w (.cells (idC id0) 23);obtain⟨W,hW⟩:=eR (w.alloc (.cells (idC id0) 23))
 obtain⟨ga,c8⟩:=eX w.heap.size
 rw[<-hW]at hB hid;have f0:ga<W.heap.size:=by rw[hW,<-c8];simp
 have f5:=h.lt;have i7:=h.kept (z8.of_below hB) sI;have m5:=hv.below hB;obtain⟨l,b,Fl,N,e1,e2,e3,e4,⟨M,es,n3,hm,d7⟩,e6,e7,e8⟩:=h;have g6:g<w.heap.size:=(aG e3).1;have c9:=(hB.block g g6).trans e3;have c4:W.cell? ⟨g,4,none⟩=some (.map (some b)):=by rw[cell_of_row W g 4 _ _ _ c9];rfl
 have cn:=yn W g b c4;have cc:=sto_check s W oM;rw[c8]at hid hB g6 f5 |-;obtain⟨E1,g9⟩:=eX (rZ s)
 rw[g9]at D cc;have HW:=dH hW;have G:=dH c8;have H0:=dH (show v6 w g F q S from⟨l,b,Fl,N,e1,e2,e3,e4,⟨M,es,n3,hm,d7⟩,e6,e7,e8⟩);by_cases a8:E1=0
 ·rw[if_neg (by simpa using a8)]at D;have n0:(E1 != 0)=false:=by rw[bne_eq_false_iff_eq];exact a8
  have cs:=sha_sum W s m5 hs;rw[hC]at cs;by_cases b5:C∈S.map (·.c)
  ·rw[if_pos b5]at D;have O:T=S:=by rw[d0,if_neg (λh=>h.2 b5)]
   have a3:I=C:=by rw[<-hI,if_pos D]
   have a9:(jH S C).isSome=true:=by
    cases e:jH S C with
    | none=>exact absurd b5 (dS.1 e)
    | some p=>rfl
   have HI:=dH a3;have HE:=dH D;have HT:=dH O;have g0:=dH a9;clear hE hI hT D d0 hC i7 c9 e1 e2 e3 e4 hm d7 e6 e7 e8 a8 O a3 g9 f5 hW c8 b5 a9;go_enter func87,ntmps87
   (go_wp2_with fail);rw[<-HW.out,G.out];refine cn.mono ?_;rintro e w1 ⟨rfl,rfl⟩;(go_wp2_with fail);refine cc.mono ?_;rintro e w1 ⟨rfl,rfl⟩;(go_wp2_with fail);refine cs.mono ?_;rintro e w2 ⟨rfl,a7⟩;have a2:=(a7.block ga f0).trans hid;have f7:Below ga w w2:=hB.trans (a7.mono oM);have f4:ga<w2.heap.size:=oH a7.size;have V:Below w2.heap.size w2 (w2.alloc (.cells (idC C) 23)):=bA;have d:z9 (w2.alloc (.cells (idC C) 23)) w2.heap.size 0 32=some (idC C):=by simp[go_sem]
   obtain⟨W3,b6⟩:=eR (w2.alloc (.cells (idC C) 23))
   rw[<-b6]at V d;have f6:Below ga w W3:=f7.trans (V.mono oM);have B:z8 [] w W3:=z8.of_below (by rw[G.out];exact f6);have A:=(V.block ga f4).trans a2;have ch:=B6 W3 g F q S C (H0.out.kept B sI);have j5:=dH b6;have i6:ga<W3.heap.size:=oH V.size;clear cs cn cc a7 a2 f7 hid hB b6 c4;(go_wp2_with fail);rw[<-j5.out];obtain⟨gc,c7⟩:=eX w2.heap.size
   rw[c7]at V d f4 |-;clear c7;refine ch.mono ?_;rintro e w4 ⟨rfl,a6⟩;rw[g0.out];have R:=(a6.block ga i6).trans A;have J:z9 w4 gc 0 32=some (idC C):=((z8.of_below a6).row (zD d) sI _ _).trans d;obtain⟨w5,h5,t,a4⟩:=idbox R C;have Y:z8 [] w w5:=(z8.trans (z8.trans (B.mono (S':=[ga]) sI) ((z8.of_below a6).mono (S':=[ga]) sI) (λy hy=>.inl hy)) a4 (λy hy=>.inl hy)).narrow (λy hy=>by simp at hy;rw[G.out];omega);have HF:=dH (And.intro (show v6 w5 g F q T by rw[HT.out];exact H0.out.kept Y sI) (Y.mono (S':=F) sI));have j0:=dH t;clear Y t a4 R A a6 V f6 B ch d;(go_wp2_with fail);refine bodyPost_ret (yU results87 _ _ ga 23 (idC C) (0,0) _ rfl j0.out underlying23 rfl (by rw[xM];exact xP)) rfl ?_;exact⟨by rw[HI.out,HE.out];rfl,⟨F,HF.out.1,λ_ h=>.inl h⟩,HF.out.2⟩
  ·rw[if_neg b5]at D;have b0:(jH S C).isSome=false:=by rw[dS.2 b5];rfl
   obtain⟨B0,h0⟩:=eX (xR S)
   obtain⟨Z,hZ⟩:=eX s.size
   rw[h0,hZ]at D;rw[h0]at n1 c9;rw[hZ]at hs;have m4:IntKind.i64.wrap (q-(B0:Int))=q-(B0:Int):=IntWalk.i64_in _ oM;obtain⟨fb,k9⟩:=eX (decide ((Z:Int)<=q-(B0:Int)))
   have j2:=dH k9;have g1:=dH b0;have HZ:=dH hZ;have j9:=dH h0;have m0:=dH D;have l9:=dH d0;have HI:=dH hI;have j4:=dH b5;have H7:=dH e7;have H3:=dH e3;have Hm:=dH hm;have h3:=dH f5;have n9:=dH c9;have l6:=dH d7;have j3:=dH e6;have n5:=dH e4;have l7:=dH e1;have d6:=dH e2;have n4:=dH e8;clear hE hI hT D d0 hC i7 c9 e1 e2 e3 e4 hm d7 e6 e7 e8 a8 g9 f5 hW c8 b5 b0 h0 k9;go_enter func87,ntmps87
   (go_wp2_with fail);rw[<-HW.out,G.out];refine cn.mono ?_;rintro e w1 ⟨rfl,rfl⟩;(go_wp2_with fail);refine cc.mono ?_;rintro e w1 ⟨rfl,rfl⟩;(go_wp2_with fail);refine cs.mono ?_;rintro e w2 ⟨rfl,a7⟩;have a2:=(a7.block ga f0).trans hid;have f7:Below ga w w2:=hB.trans (a7.mono oM);have f4:ga<w2.heap.size:=oH a7.size;have V:Below w2.heap.size w2 (w2.alloc (.cells (idC C) 23)):=bA;have d:z9 (w2.alloc (.cells (idC C) 23)) w2.heap.size 0 32=some (idC C):=by simp[go_sem]
   obtain⟨W3,b6⟩:=eR (w2.alloc (.cells (idC C) 23))
   rw[<-b6]at V d;have f6:Below ga w W3:=f7.trans (V.mono oM);have B:z8 [] w W3:=z8.of_below (by rw[G.out];exact f6);have A:=(V.block ga f4).trans a2;have ch:=B6 W3 g F q S C (H0.out.kept B sI);have j5:=dH b6;have i6:ga<W3.heap.size:=oH V.size;have i2:w2.heap.size<W3.heap.size:=by rw[b6];simp
   clear cs cn cc a7 a2 f7 hid hB b6 c4;(go_wp2_with fail);rw[<-j5.out];obtain⟨gc,c7⟩:=eX w2.heap.size
   rw[c7]at d i2 |-;have m9:ga<gc:=by rw[<-c7];exact f4
   clear c7;refine ch.mono ?_;rintro e w4 ⟨rfl,a6⟩;rw[g1.out];have R:=(a6.block ga i6).trans A;have J:z9 w4 gc 0 32=some (idC C):=((z8.of_below a6).row (zD d) sI _ _).trans d;have i1:z8 [] w w4:=z8.trans B (z8.of_below a6) sI;have f3:ga<w4.heap.size:=(aG R).1;have h2:=(i1.block g (by rw[G.out];exact g6) sI).trans H3.out;rw[j9.out]at h2;have d2:w4.cell? ⟨g,2,none⟩=some (.int .i64 B0):=by rw[cell_of_row w4 g 2 _ _ _ h2];rfl
   have d1:w4.cell? ⟨g,1,none⟩=some (.int .i64 q):=by rw[cell_of_row w4 g 1 _ _ _ h2];rfl
   have cf:=sto_fits w4 g q B0 Z d1 m4;rw[j2.out]at cf;clear A a6 V f6 B ch d d1;(go_wp2_with fail);refine cf.mono ?_;rintro e w5 ⟨rfl,g7⟩;have t:=(g7.block ga f3).trans R;have j:z9 w5 gc 0 32=some (idC C):=((z8.of_below g7).row (zD J) sI _ _).trans J;have a4:z8 [] w w5:=z8.trans i1 (z8.of_below g7) sI;have d5:=(a4.block g (by rw[G.out];exact g6) sI).trans H3.out;rw[j9.out]at d5;clear R J i1 h2 d2 cf g7 f3;cases fb with
   | false =>
    have g5:q-(B0:Int)<(Z:Int):=by have:=j2.out;simpa using this
    have m:E=14:=by rw[m0.out,if_pos g5]
    have a3:I=id0:=by rw[<-HI.out,if_neg (by rw[m];decide)]
    have O:T=S:=by rw[l9.out,if_neg (λh=>by rw[m]at h;exact absurd h.1 (by decide))]
    obtain⟨w6,h5,e5,c6⟩:=idbox t id0;have Y:z8 [] w w6:=(z8.trans (a4.mono (S':=[ga]) sI) c6 (λy hy=>.inl hy)).narrow (λy hy=>by simp at hy;rw[G.out];omega);have HF:=dH (And.intro (show v6 w6 g F q T by rw[O];exact H0.out.kept Y sI) (Y.mono (S':=F) sI));have i9:=dH e5;have j6:=dH a3;have j8:=dH m;clear g5 Y e5 c6 O a3 m t j a4 d5;(go_wp2_with fail);refine bodyPost_ret (yU results87 _ _ ga 23 (idC id0) (0,0) _ rfl i9.out underlying23 rfl (by rw[xM];exact xP)) rfl ?_;exact⟨by rw[j6.out,j8.out];rfl,⟨F,HF.out.1,λ_ h=>.inl h⟩,HF.out.2⟩
   | true =>
    have g5:(Z:Int)<=q-(B0:Int):=by have:=j2.out;simpa using this
    have m:E=0:=by rw[m0.out,if_neg oM]
    have a3:I=C:=by rw[<-HI.out,if_pos m]
    have O:T=S ++ [⟨C,s,false⟩]:=by rw[l9.out,if_pos ⟨m,j4.out⟩]
    have d4:w5.cell? ⟨g,4,none⟩=some (.map (some b)):=by rw[cell_of_row w5 g 4 _ _ _ d5];rfl
    have i3:g≠b:=λe=>(by have:=H3.out;rw[e,Hm.out.heap]at this;cases this);have n7:b<ga:=by rw[<-G.out];exact Hm.out.lt
    have i5:g∉[b]:=by simpa using i3
    have c0:gc∉[b]:=sO;obtain⟨x,hx⟩:=eX w5.heap.size
    have m3:w5.drew.heap.size=x:=hx;have k2:=Hm.out.kept a4 sI;obtain⟨W6,g8⟩:=eR ((w5.alloc (.cells (dI ⟨s,false⟩) 116)).drew)
    have c6:z8 [] w5 W6:=by rw[g8];exact z8.trans (z8.alloc w5 _) (z8.drew _) sI
    obtain⟨w7,l5,f9,h6,k4,i0⟩:=(k2.kept c6 sI).update j7 underlying108 (k:=C) (v:=x) trivial;go_upto_region 11 with fail
    refine kX [b] w5 ?_;intro h7 hS;have b1:=zF d4 i5;have b2:=zY j c0;refine lQ ?_;intro K hK;rw[<-g8];have l8:=dH g8;clear g8;have i8:Kp [b] w5 W6:=c6.mono sI;refine⟨i8,hK _ _ ?_⟩;clear hK K hS;have hS:=i8;refine lQ ?_;intro K hK;refine zH (yA hS i0 sI) (λhS=>?_);refine hK _ _ ?_;clear hK K;refine zC ?_;intro hS;have a0:z8 [b] w5 w7:=hS;have i4:ga<w5.heap.size:=(aG t).1;have m2:ga<x:=oM;have m8:gc<x:=oH (zD j);have k8:g≠x:=oM;have l0:x≠b:=oM;have h4:w7.heap[x]?=some (.cells #[.string s,.bool false] 116 (0,0)):=by
     refine(i0.block x (by rw[l8.out];show x<(w5.alloc _).heap.size;simp;omega) (by simpa using l0)).trans ?_;rw[l8.out,<-hx];exact heap_alloc_new w5 _
    have b9:=(a0.block ga i4 sO).trans t;have X:z9 w7 gc 0 32=some (idC C):=(a0.row (zD j) c0 _ _).trans j;have h1:=(a0.block g (aG d5).1 i5).trans d5;have d2:w7.cell? ⟨g,2,none⟩=some (.int .i64 B0):=by rw[cell_of_row w7 g 2 _ _ _ h1];rfl
    have f2:w7.frozen? ⟨g,2,none⟩=false:=by simp[frozen?,h1]
    have n6:IntKind.i64.wrap ((B0:Int)+(Z:Int))=(B0:Int)+(Z:Int):=IntWalk.i64_in _ oM;have b8:=z8.setCell w7 ⟨g,2,none⟩ (.int .i64 ((B0:Int)+(Z:Int)));have f8:=vQ h1 2 (.int .i64 ((B0:Int)+(Z:Int)));have d8:yK w7 b idV fA vL (bJ M C x) l5 f9:=k4;clear c6 k2 m3 hx h6 i0 i8 hS h7 b1 b2 d4 k4 d5 j t;go_upto_region 13 with fail
    obtain⟨W8,l3⟩:=eX (w7.setCell ⟨g,2,none⟩ (.int .i64 ((B0:Int)+(Z:Int))))
    rw[l3]at b8 f8 |-;clear l3 d2 f2;have b7:z8 [b,g] w W8:=z8.trans (z8.trans (a4.mono sI) (a0.mono (S':=[b,g]) sI) (λy hy=>.inl hy)) (b8.mono (S':=[b,g]) sI) (λy hy=>.inl hy);have l1:b∉[g]:=by simpa using λe:b=g=>i3 e.symm
    have k3:=d8.kept b8 l1;have g3:=(b8.block x (aG h4).1 (by simpa using λe:x=g=>k8 e.symm)).trans h4;have a1:=(b8.block ga (aG b9).1 sO).trans b9;have H:z9 W8 gc 0 32=some (idC C):=(b8.row (zD X) sO _ _).trans X;have e0:W8.cell? ⟨g,0,none⟩=some (.pointer (some ⟨l,0,none⟩)):=by rw[cell_of_row W8 g 0 _ _ _ f8];rfl
    have d3:∀y∈Fl,y<ga:=λy hy=>h3.out y (by rw[d6.out];exact mem_cons_of_mem _ (mem_cons_of_mem _ (mem_append_left _ hy)));have c3:g∉Fl:=λh=>(H7.out g h).1 rfl;have c1:gc∉Fl:=λh=>(oH (d3 gc h));have f1:ga∉Fl:=λh=>(oH (d3 ga h));have k0:x∉Fl:=λh=>(oH (d3 x h));have l2:b∉Fl:=λh=>(H7.out b h).2.1 rfl;have c2:=lru_use W8.drew l Fl _ C ((n5.out.kept b7 (λy hy hm=>by
     rcases mem_cons.1 hm with e | hm
     ·exact(H7.out y hy).2.1 e
     ·exact(H7.out y hy).1 (by simpa using hm))).kept (z8.drew W8) (S:=[]) sI)
    clear a0 b8 d8 h4 b9 X h1;refine kX Fl W8 ?_;intro h7 hS;have b1:=zF e0 c3;have b2:=zY H c1;refine lQ ?_;intro K hK;refine c2.mono ?_;rintro e w9 ⟨rfl,⟨m1,k5,g4⟩,k6⟩;replace hS:=yA hS k6 (λy hy=>.inl hy);refine⟨_,rfl,hS,hK _ _ ?_⟩;clear hK K;refine lZ ?_;refine zC ?_;intro hS;have U:z8 Fl W8 w9:=hS;have d9:=(U.block ga (aG a1).1 f1).trans a1;have k1:z9 w9 gc 0 32=some (idC C):=(U.row (zD H) c1 _ _).trans H;obtain⟨g2,h5,b3,a5⟩:=idbox d9 C;have h8:z8 ([b,g]++Fl ++ [ga]) w g2:=z8.trans (z8.trans (b7.mono λy hy=>.inl (by simp at hy |-;omega)) (U.mono λy hy=>.inl (by simp[hy])) (λy hy=>.inl hy)) (a5.mono λy hy=>.inl (by simp at hy |-;omega)) (λy hy=>.inl hy);have b4:∀y∈F,y≠ga:=λy hy=>(oH (h3.out y hy));have L:z8 (Fl ++ [ga]) W8 g2:=z8.trans (U.mono λy hy=>.inl (by simp[hy])) (a5.mono λy hy=>.inl (by simp at hy |-;omega)) (λy hy=>.inl hy);have c5:(∃F',v6 g2 g F' q T/\∀y∈F',y∈F\/w.heap.size<=y)/\z8 F w g2:=by
     refine⟨⟨g :: b :: (m1++(N ++ [((⟨C,s,false⟩:Pay),x)]).map (·.2)),⟨l,b,m1,N ++ [((⟨C,s,false⟩:Pay),x)],?_,rfl,?_,?_,⟨_,l5,f9,k3.kept L ?_,?_⟩,?_,?_,?_⟩,?_⟩,?_⟩
     ·rw[O,map_append,l7.out];rfl
     ·have h9:=(L.block g (aG f8).1 (by simp;exact⟨c3,oM⟩)).trans f8;have e9:((B0:Int)+(Z:Int))=((xR T:Nat):Int):=by rw[O,QT,j9.out,<-HZ.out];push_cast;rfl
      have e8:qW T=qW S:=by rw[O];unfold qW;rw[filter_append];simp
      rw[h9,e9,e8];rfl
     ·have e9:T.map (·.c)=rE (S.map (·.c)) C ++ [C]:=by rw[O,map_append,eK j4.out];rfl
      rw[e9];exact k5.kept a5 λy hy hm=>by
       have e:y=ga:=by simpa using hm
       rcases g4 y hy with h | h
       ·have:=d3 y h;omega
       ·have n8:=(aG a1).1;have l4:W8.heap.size<=y:=h;omega
     ·simp;exact⟨l2,oM⟩
     ·have hn:C∉M.map (·.1):=by
       intro h;have h9:=(l6.out.map (·.1)).mem_iff.1 h;rw[map_map]at h9;exact j4.out (by rw[<-l7.out,map_map];exact h9)
      unfold bJ;rw[if_neg hn,map_append];exact Perm.append_right _ l6.out
     ·intro r hr;rcases mem_append.1 hr with hr | hr
      ·have m6:r.2∈F:=by rw[d6.out];exact mem_cons_of_mem _ (mem_cons_of_mem _ (mem_append_right _ (mem_map_of_mem (f:=(·.2)) hr)))
       refine(j3.out r hr).kept h8 λhm=>?_;simp only[mem_append,mem_cons,not_mem_nil,or_false]at hm;rcases hm with((h | h) | h) | h
       ·have h9:=(j3.out r hr).heap;rw[h,Hm.out.heap]at h9;cases h9
       ·have h9:=(j3.out r hr).heap;rw[h,H3.out]at h9;injection h9 with h9;injection h9 with h9 _ _
        have:=congrArg Array.size h9;simp at this
       ·exact(H7.out _ h).2.2 (mem_map_of_mem (f:=(·.2)) hr)
       ·exact b4 _ m6 h
      ·have e:r=(⟨C,s,false⟩,x):=by simpa using hr
       subst e;exact⟨(L.block x (aG g3).1 (by simp;exact⟨k0,oM⟩)).trans g3⟩
     ·intro y hy;rcases g4 y hy with h | h
      ·have:=d3 y h;refine⟨(H7.out y h).1,(H7.out y h).2.1,λhm=>?_⟩;rw[map_append]at hm;rcases mem_append.1 hm with hm | hm
       ·exact(H7.out y h).2.2 hm
       ·have e:y=x:=by simpa using hm
        omega
      ·have l4:W8.heap.size<=y:=h;have n2:=(aG g3).1;refine⟨oM,oM,λhm=>?_⟩;rw[map_append]at hm;rcases mem_append.1 hm with hm | hm
       ·have:=h3.out y (by rw[d6.out];exact mem_cons_of_mem _ (mem_cons_of_mem _ (mem_append_right _ hm)));omega
       ·have e:y=x:=by simpa using hm
        omega
     ·rw[map_append];refine nodup_append.2 ⟨n4.out,sI,λy hy z hz e=>?_⟩;have ez:z=x:=by simpa using hz
      have:=h3.out y (by rw[d6.out];exact mem_cons_of_mem _ (mem_cons_of_mem _ (mem_append_right _ hy)));omega
     ·intro y hy;rw[d6.out,G.out];rcases mem_cons.1 hy with h | hy
      ·left;rw[h];simp
      rcases mem_cons.1 hy with h | hy
      ·left;rw[h];simp
      rcases mem_append.1 hy with h | h
      ·rcases g4 y h with h | h
       ·left;exact mem_cons_of_mem _ (mem_cons_of_mem _ (mem_append_left _ h))
       ·right
        have l4:W8.heap.size<=y:=h;have n2:=(aG a1).1;omega
      ·rw[map_append]at h;rcases mem_append.1 h with h | h
       ·left;exact mem_cons_of_mem _ (mem_cons_of_mem _ (mem_append_right _ h))
       ·right
        have e:y=x:=by simpa using h
        omega
     ·refine h8.mono λy hy=>?_;simp only[mem_append,mem_cons,not_mem_nil,or_false]at hy;rw[d6.out,G.out];rcases hy with((h | h) | h) | h
      ·left;rw[h];simp
      ·left;rw[h];simp
      ·left;exact mem_cons_of_mem _ (mem_cons_of_mem _ (mem_append_left _ h))
      ·right;omega
    rw[G.out]at c5;have HF:=dH c5;have Hid:=dH b3;have j6:=dH a3;have j8:=dH m;clear c5 h8 L b3 a5 d9 U k5 g4 k6 hS h7 b1 b2 c2 a1 H g3 k3 b7 f8 e0 O a3 m a4 b4 d3 g5 c3 c1 f1 k0 l2 l1 k8 l0 i3 i5 c0;(go_wp2_with fail);refine bodyPost_ret (yU results87 _ _ ga 23 (idC C) (0,0) _ rfl Hid.out underlying23 rfl (by rw[xM];exact xP)) rfl ?_;exact⟨by rw[j6.out,j8.out];rfl,HF.out⟩
 ·rw[if_pos a8]at D;have n0:(E1 != 0)=true:=by rw[bne_iff_ne];exact a8
  have O:T=S:=by rw[d0,if_neg (λh=>a8 (by rw[<-D];exact h.1))]
  have a3:I=id0:=by rw[<-hI,if_neg (by rw[D];exact a8)]
  obtain⟨w3,h5,A,k7⟩:=idbox hid id0;have m7:z8 [] w W:=z8.of_below (by rw[G.out];exact hB);have Y:z8 [] w w3:=(z8.trans (m7.mono (S':=[ga]) sI) k7 (λy hy=>.inl hy)).narrow (λy hy=>by simp at hy;rw[G.out];omega);have HF:=dH (And.intro (show v6 w3 g F q T by rw[O];exact H0.out.kept Y sI) (Y.mono (S':=F) sI));have j1:=dH A;have HI:=dH a3;have HE:=dH D;clear hE hI hT D d0 hC i7 c9 e1 e2 e3 e4 hm d7 e6 e7 e8 hB hid a8 Y A k7 O a3 g9 f5 hW c8;go_enter func87,ntmps87
  (go_wp2_with fail);rw[<-HW.out,G.out];refine cn.mono ?_;rintro e w1 ⟨rfl,rfl⟩;(go_wp2_with fail);refine cc.mono ?_;rintro e w1 ⟨rfl,rfl⟩;clear cn cc;(go_wp2_with fail);refine bodyPost_ret (yU results87 _ _ ga 23 (idC id0) (0,0) _ rfl j1.out underlying23 rfl (by rw[xM];exact xP)) rfl ?_;exact⟨by rw[HI.out,HE.out];rfl,⟨F,HF.out.1,λ_ h=>.inl h⟩,HF.out.2⟩
theorem sto_new(w:World)(q:Int):Calls prog 120 #[.int .i64 q] w λe w'=>if 0<=q/\q<=4096 then ∃g F,e=.returned (.tuple #[.pointer (some ⟨g,0,none⟩),.int .i64 0])/\v6 w' g F q []/\(∀x∈F,w.heap.size<=x)/\Below w.heap.size w w' else e=.returned (.tuple #[.pointer none,.int .i64 1])/\Below w.heap.size w w':=by
 have c1:=lru_new w;have j:=@run_makeMap prog;by_cases h:0<=q/\q<=4096
 ·simp only[if_pos h];have h1:decide (q<0)=false:=sO;have h2:decide (4096<q)=false:=sO;have H:=dH h;go_enter func120,ntmps120
  (go_wp2_with fail);refine c1.mono ?_;rintro e w1 ⟨l,Fl,rfl,hl,hs,hb⟩;have hm:=yK.new (kv:=idV) (vv:=fA) (ok:=vL) w1 w1.heap.size rfl;have HL:=dH hl;have HS:=dH hs;have HB:=dH hb;have Hm:=dH hm;clear c1 hl hs hb hm;(go_wp2_with fail);go_ret2;have hg:=heap_alloc_new (w1.alloc (.map #[] 0)) (.cells (yo l q 0 0 w1.heap.size) 110 (0,0));rw[(sI:(w1.alloc (.map #[] 0)).heap.size=w1.heap.size+1)]at hg;have hk:=z8.trans (z8.alloc w1 (.map #[] 0)) (z8.alloc (w1.alloc (.map #[] 0)) (.cells (yo l q 0 0 w1.heap.size) 110 (0,0))) sI;have f:=HL.out.lt;have d:=HB.out.size;refine⟨w1.heap.size+1,_,rfl,⟨l,w1.heap.size,Fl,[],rfl,rfl,hg,HL.out.kept hk sI,⟨_,_,_,Hm.out.kept (z8.alloc _ _) sI,Perm.refl _⟩,sI,λx hx=>?_,sI⟩,λx hx=>?_,?_⟩
  ·have:=f x hx;exact⟨oM,oM,sI⟩
  ·simp at hx;rcases hx with h | h | h
   ·omega
   ·omega
   ·exact HS.out x h
  ·exact(HB.out.alloc d _).alloc sO _
 ·simp only[if_neg h];have h1:(decide (q<0)||decide (4096<q))=true:=sO;have H:=dH h;by_cases hq:q<0
  ·have h2:decide (q<0)=true:=by simpa using hq
   clear h1 hq h c1;go_enter func120,ntmps120
   (go_wp2_with fail);go_ret2;exact⟨rfl,Below.refl _ _⟩
  ·have h2:decide (q<0)=false:=by simpa using hq
   have h3:decide (4096<q)=true:=sO;clear h1 hq h c1;go_enter func120,ntmps120
   (go_wp2_with fail);go_ret2;exact⟨rfl,Below.refl _ _⟩
section
section
variable {D D':List HdX}
theorem X9(d:(qR D').Nodup)(sub:∀x∈D,x∈D')(hr:JW D):Ris (dF (htX D')) (qR D):=by
 unfold JW Ris qR at *;rw[pairwise_map];refine hr.imp_of_mem fun {a b} ha hb hab=>?_;unfold dF;rw[YF (D:=D') d (sub a ha),YF (D:=D') d (sub b hb)];exact hab
theorem Y8(t:ByteArray):(j8 D t).Sublist (qR D):=Sublist.map _ filter_sublist
theorem zl(c:zA):(vA D c).Sublist (qR D):=Sublist.map _ filter_sublist
theorem tps_nodup(h:(qR D).Nodup)(t:ByteArray):(j8 D t).Nodup:=h.sublist (Y8 t)
end
section
variable {n:Nat} {X:StX} {y:HdV}
theorem ki(hv:fZ X.D y=0)(hi:hdI y∉qR X.D):vZ X.D y=JN X.D ⟨hdI y,y⟩:=if_pos ⟨hv,hi⟩
theorem tps_add(h:kK n X)(hv:fZ X.D y=0)(hi:hdI y∉qR X.D)(t:ByteArray) :
  Ris (dF (htX (vZ X.D y))) (j8 X.D t)/\j8 (vZ X.D y) t=if y.tp=t then jI (dF (htX (vZ X.D y))) (j8 X.D t) (hdI y)else j8 X.D t:=by
 obtain⟨a1,a2,_⟩:=rC h hv;have d:∀x∈X.D,x∈vZ X.D y:=λx hx=>bW.2 (.inl hx);have r1:=(X9 a1 d h.ris).sub (Y8 t);have r2:=(xj a1 a2).sub (Y8 t);refine⟨r1,?_⟩;have hm:∀z,z∈j8 (vZ X.D y) t↔z∈j8 X.D t\/(y.tp=t/\z=hdI y):=λz=>by
  rw[tX,tX];constructor
  ·rintro⟨x,hx,h1,h2⟩;rcases bW.1 hx with hx | ⟨_,_,e⟩
   ·exact .inl ⟨x,hx,h1,h2⟩
   ·subst e;exact .inr ⟨h1,h2.symm⟩
  ·rintro(⟨x,hx,h1,h2⟩ | ⟨h1,h2⟩)
   ·exact⟨x,d x hx,h1,h2⟩
   ·exact⟨⟨hdI y,y⟩,bW.2 (.inr ⟨hv,hi,rfl⟩),h1,h2.symm⟩
 split
 ·rename_i ht
  refine gH (YS _) r2 (gT (YS _) r1) λz=>?_;rw[hm,jB (YS _)];constructor
  ·rintro(h1 | ⟨_,h1⟩)
   ·exact .inr h1
   ·exact .inl h1
  ·rintro(h1 | h1)
   ·exact .inr ⟨ht,h1⟩
   ·exact .inl h1
 ·rename_i ht
  refine gH (YS _) r2 r1 λz=>?_;rw[hm];exact⟨λh1=>h1.elim id λh1=>absurd h1.1 ht,.inl⟩
theorem cms_add(h:kK n X)(hv:fZ X.D y=0)(hi:hdI y∉qR X.D)(c:zA) :
  Ris (dF (htX (vZ X.D y))) (vA X.D c)/\vA (vZ X.D y) c=if y.cm=c then jI (dF (htX (vZ X.D y))) (vA X.D c) (hdI y)else vA X.D c:=by
 obtain⟨a1,a2,_⟩:=rC h hv;have d:∀x∈X.D,x∈vZ X.D y:=λx hx=>bW.2 (.inl hx);have r1:=(X9 a1 d h.ris).sub (zl c);have r2:=(xj a1 a2).sub (zl c);refine⟨r1,?_⟩;have hm:∀z,z∈vA (vZ X.D y) c↔z∈vA X.D c\/(y.cm=c/\z=hdI y):=λz=>by
  rw[QQ,QQ];constructor
  ·rintro⟨x,hx,h1,h2⟩;rcases bW.1 hx with hx | ⟨_,_,e⟩
   ·exact .inl ⟨x,hx,h1,h2⟩
   ·subst e;exact .inr ⟨h1,h2.symm⟩
  ·rintro(⟨x,hx,h1,h2⟩ | ⟨h1,h2⟩)
   ·exact⟨x,d x hx,h1,h2⟩
   ·exact⟨⟨hdI y,y⟩,bW.2 (.inr ⟨hv,hi,rfl⟩),h1,h2.symm⟩
 split
 ·rename_i ht
  refine gH (YS _) r2 (gT (YS _) r1) λz=>?_;rw[hm,jB (YS _)];constructor
  ·rintro(h1 | ⟨_,h1⟩)
   ·exact .inr h1
   ·exact .inl h1
  ·rintro(h1 | h1)
   ·exact .inr ⟨ht,h1⟩
   ·exact .inl h1
 ·rename_i ht
  refine gH (YS _) r2 r1 λz=>?_;rw[hm];exact⟨λh1=>h1.elim id λh1=>absurd h1.1 ht,.inl⟩
theorem par_add(hv:fZ X.D y=0)(hi:hdI y∉qR X.D)(z:zA):z∈JJ (vZ X.D y)↔z∈JJ X.D\/z∈y.ps:=by
 rw[ki hv hi];unfold JJ;simp only[mem_flatMap];constructor
 ·rintro⟨x,hx,hz⟩;rcases lK.1 hx with e | hx
  ·subst e;exact .inr hz
  ·exact .inl ⟨x,hx,hz⟩
 ·rintro(⟨x,hx,hz⟩ | hz)
  ·exact⟨x,lK.2 (.inr hx),hz⟩
  ·exact⟨⟨hdI y,y⟩,lK.2 (.inl rfl),hz⟩
end
end
section
theorem aB:∀(L:List (Array Value)) (k m:Nat),(∀c∈L,c.size=k)->m<=L.length->(L.take m).flatMap Array.toList=(L.flatMap Array.toList).take (m*k)/\(L.drop m).flatMap Array.toList=(L.flatMap Array.toList).drop (m*k)
 | L,k,0,_,_=>by simp
 | c :: L,k,m+1,hs,hm=>by
  have hc:c.toList.length=k:=by simpa using hs c sI
  obtain⟨h1,h2⟩:=aB L k m (λc h=>hs c (by simp[h])) (by simpa using hm);have e:(m+1)*k=c.toList.length+m*k:=by rw[hc,Nat.add_mul];omega
  simp only[take_succ_cons,drop_succ_cons,flatMap_cons];rw[h1,h2,e];exact⟨(take_length_add_append _).symm,(drop_length_add_append _).symm⟩
 | [],k,m+1,_,hm=>by simp at hm
theorem kh(q o j:Nat):(⟨q,o,none⟩:Addr).add j=⟨q,o+j,none⟩:=by unfold Addr.add;split <;> simp_all
section
variable {P:Program} {T E:TypeId} {k bytes:Nat} {w:World} {B g n cap:Nat} {R:List (Array Value)}
theorem Own.drop_slr(h:Own w B E k (some ⟨g,0,none⟩) n cap R){i:Nat}(hi:i<=n):SlR w (some ⟨g,i*k,none⟩) (n-i) k (R.drop i):=by
 have hs:=h.slr;refine⟨by rw[length_drop,h.len],λh0=>⟨g,i*k,rfl,λj hj=>?_⟩⟩;have d:i+j<R.length:=by rw[length_drop]at hj;omega
 obtain⟨g',o',e,hr⟩:=hs.2 oM;injection e with e;injection e with e1 e2
 subst e1;subst e2;have:=hr (i+j) d;rw[Nat.zero_add,Nat.add_mul]at this;rw[this,getElem_drop]
theorem JH{dT sT elem:TypeId}{o dLen dCap:Nat}{q off sCap:Nat}(hu:P.underlying dT=some (.slice elem))(hs:(P.info? elem).map (·.size)=some k)
  (hg:w.heap[g]?=some (.cells f t (0,0)))(hn:Nat.min sLen dLen=m)(hX:SlR w (some ⟨q,off,none⟩) m k X)(D:∀c∈X,c.size=k)(y:o+m*k<=f.size)(h1:∀c∈X,∀v∈c.toList,v.oneCell'=true) :
  (Builtin.copy_ #[dT,sT] ty #[.slice (some ⟨g,o,none⟩) dLen dCap,.slice (some ⟨q,off,none⟩) sLen sCap]).run P w =
   .ok (goInt m) (w.setRow g (f.toList.take o++X.flatMap Array.toList++f.toList.drop (o+m*k)).toArray):=by
 have d:=j3 X k D;rw[hX.1]at d;have hl:=run_loadCells_list (P:=P) w ⟨q,off,none⟩ (X.flatMap Array.toList) (λj v hj=>by
  have B:j<m*k:=by rw[<-d];exact(List.getElem?_eq_some_iff.1 hj).1
  have F:0<k:=by rcases Nat.eq_zero_or_pos k with h | h;· subst h;simp at B
                 · exact h
  have hi:j / k<m:=Nat.div_lt_of_lt_mul (by rw[Nat.mul_comm];exact B);have hr:j % k<k:=Nat.mod_lt _ F;have he:j=j / k*k+j % k:=by rw[Nat.mul_comm];exact(Nat.div_add_mod j k).symm
  obtain⟨g',o',e,s⟩:=hX.2 (Nat.lt_of_le_of_lt zL hi);injection e with e;injection e with e1 e2
  subst e1;subst e2;have E:=s (j / k) (by rw[hX.1];exact hi);have A:=kh q off j;have h2:=gZ X k D (j / k) (j % k) (by rw[hX.1];exact hi) hr;rw[<-he,hj]at h2;rw[A,show off+j=off+j / k*k+j % k by rw[Nat.add_assoc,<-he],zB E hr];exact h2.symm)
 have r:=run_storeCells_at P g o t (X.flatMap Array.toList) 0 f w hg (by rw[d,Nat.add_zero];exact y) (λv hv=>by
  obtain⟨c,hc,hv⟩:=mem_flatMap.1 hv;exact h1 c hc v hv)
 rw[d]at hl r;simp only[Nat.add_zero]at r;cases hq:P.info? elem with
 | none=>simp[hq]at hs
 | some i =>
  have hi:i.size=k:=by simpa[hq]using hs
  simp[Builtin.copy_,run_underlying hu,Builtin.lenOf,Builtin.firstCells,sizeOf,typeInfo,hq,hi,hn,hl,r]
theorem eH(I:yT P T E k bytes)(h:Own w B E k (some ⟨g,0,none⟩) n cap R){d q off:Nat}(hX:SlR w (some ⟨q,off,none⟩) m k X)(F:∀c∈X,c.size=k)(L:∀c∈X,∀v∈c.toList,v.oneCell'=true)(J:d+m<=n)(hn:Nat.min sLen (n-d)=m) :
  ∃w',(∀(ty:TypeId) (dc sCap:Nat),(Builtin.copy_ #[T,T] ty #[.slice (some ⟨g,d*k,none⟩) (n-d) dc,.slice (some ⟨q,off,none⟩) sLen sCap]).run P w=.ok (goInt m) w')/\Own w' B E k (some ⟨g,0,none⟩) n cap (R.take d++X++R.drop (d+m))/\z8 [g] w w':=by
 have hL:=h.len;have s:=h.size;obtain⟨M,z,D,hz,A,V,N⟩:=I.info;obtain⟨⟨h1,h2⟩,_,_⟩:=h;rcases h2 with⟨h2,_⟩ | ⟨g',c,cur,hv,hb,hg,hnc,hcm,hcsz,htake⟩
 ·cases h2
 injection hv with r _ hc
 injection r with r
 injection r with r
 subst r;subst hc;have O:n*k<=cur.size:=by rw[hcsz];exact Nat.mul_le_mul_right k hnc
 have j:(d+m)*k<=n*k:=Nat.mul_le_mul_right k J;have G:=j3 X k F;rw[hX.1]at G;have t:=fun (ty:TypeId) (dc sCap:Nat)=>JH (P:=P) (dT:=T) (sT:=T) (ty:=ty) (elem:=E) (o:=d*k) (dLen:=n-d) (dCap:=dc) (sCap:=sCap) I.und (by rw[D];simp[A]) hg hn hX F (by rw[Nat.add_mul]at j;omega) L;have H:∀c∈R.take d++X++R.drop (d+m),c.size=k:=λc hc=>by
  rcases mem_append.1 hc with hc | hc
  ·rcases mem_append.1 hc with hc | hc
   ·exact s c (mem_of_mem_take hc)
   ·exact F c hc
  ·exact s c (mem_of_mem_drop hc)
 have f:(R.take d++X++R.drop (d+m)).length=n:=by
  simp only[length_append,length_take,length_drop,hX.1];omega
 refine⟨_,t,⟨⟨?_,.inr ⟨g,cap,_,rfl,hb,setRow_heap w g _ _ _ _ hg,hnc,hcm,?_,?_⟩⟩,f,H⟩,⟨rfl,rfl,rfl,by simp[setRow],λy _ hy=>setRow_other w g y _ (by simpa using hy)⟩⟩
 ·rw[j3 _ k H,f]
 ·have e1:(cur.toList.take (d*k)).length=d*k:=by rw[length_take,Array.length_toList];rw[Nat.add_mul]at j;omega
  have e2:(cur.toList.drop (d*k+m*k)).length=cap*k-(d*k+m*k):=by rw[length_drop,Array.length_toList,hcsz]
  simp only[size_toArray,length_append,e1,e2,G];rw[Nat.add_mul]at j;omega
 ·have e0:cur.toList.take (d*k)=(R.flatMap Array.toList).take (d*k):=by
   rw[<-htake,take_take,Nat.min_eq_left (by rw[Nat.add_mul]at j;omega)]
  obtain⟨f1,_⟩:=aB R k d s oM;obtain⟨_,f2⟩:=aB R k (d+m) s oM;rw[flatMap_append,flatMap_append,f1,f2,<-e0];show List.take (n*k) ((cur.toList.take (d*k)++X.flatMap Array.toList)++cur.toList.drop (d*k+m*k))=_;have e1:(cur.toList.take (d*k)++X.flatMap Array.toList).length=(d+m)*k:=by
   rw[length_append,G,length_take,Array.length_toList];rw[Nat.add_mul]at j |-;omega
  rw[take_append,e1,take_of_length_le oM];congr 1
  rw[<-htake,drop_take,Nat.add_mul]
theorem iM{tn e:TypeId}{i:TypeInfo}{z:Value}{kn kk:IntKind}(ht:P.underlying t=some (.slice e))(s:P.underlying tn=some (.int kn))(hi:P.info? e=some i)(hz:i.zero=some z){base:Option Addr}{sCap:Nat}{d:List Value}
  (f:(Builtin.firstCells i.size sLen (.slice base sLen sCap)).run P w.drew=.ok d.toArray w.drew)(h0:0<m)(hs:0<i.size)(hg:sCap<sLen+m)(B:((sLen+m:Nat):Int)<=9223372036854775807)(A:Builtin.nextslicecap (sLen+m) sCap*i.bytes<=281474976710656)(D:m*i.bytes<=281474976710656) :
  (Builtin.append_ #[t,tn] ty #[.slice base sLen sCap,.int kk m]).run P w =
   .ok (.slice (some ⟨w.heap.size,0,none⟩) (sLen+m) (grownCap w (sLen+m) sCap e))
    (w.drew.alloc (.cells (d.toArray++Builtin.zeroCells z.cells m++Builtin.zeroCells z.cells (grownCap w (sLen+m) sCap e-(sLen+m))) e)):=by
 have hw:IntKind.i64.wrap (m:Int)=m:=by rw[IntKind.wrap_i64];omega
 have hn:¬(sLen+m<=sCap):=oM;have j:¬(9223372036854775807<((sLen:Int)+(m:Int))):=oM;have r:¬(281474976710656<Builtin.nextslicecap (sLen+m) sCap*i.bytes):=oM;have k:¬(281474976710656<(m:Int)*(i.bytes:Int)):=by rw[<-Int.natCast_mul];omega
 have g:¬((m:Int)<0):=oM;have y:¬(m*i.size=0):=Nat.mul_ne_zero oM oM;simp[Builtin.append_,run_underlying ht,run_underlying s,sizeOf,typeInfo,zeroValue,hi,hz,asInt,asIntOf,hw,hn,g,y,j,r,k,Question.forced,f,newRow,grownCap]
end
end
section
section
variable {P:Program} {T E:TypeId} {k bytes:Nat} {w:World} {B n cap:Nat} {A:Option Addr} {R:List (Array Value)}
theorem own_more(h:Own w B E k (some ⟨g,0,none⟩) n cap R)(hr:n+1<=cap):∃J,J.size=k/\Own w B E k (some ⟨g,0,none⟩) (n+1) cap (R ++ [J]):=by
 have hL:=h.len;have m:=h.size;obtain⟨⟨h1,h2⟩,_,_⟩:=h;rcases h2 with⟨h2,_⟩ | ⟨g',c,cur,hv,hb,hg,hnc,hcm,hcsz,htake⟩
 ·cases h2
 injection hv with d _ hc
 injection d with d
 injection d with d
 subst d;subst hc;have j:(n+1)*k<=cur.size:=by rw[hcsz];exact Nat.mul_le_mul_right k hr
 have r:n*k+k<=cur.size:=by rw[Nat.add_mul,Nat.one_mul]at j;exact j
 have hJ:(cur.extract (n*k) (n*k+k)).size=k:=sO;have f:∀c∈R ++ [cur.extract (n*k) (n*k+k)],c.size=k:=λc hc=>by
  rcases mem_append.1 hc with hc | hc
  ·exact m c hc
  ·have e:c=cur.extract (n*k) (n*k+k):=by simpa using hc
   rw[e];exact hJ
 refine⟨_,hJ,⟨⟨by rw[j3 _ k f];simp[hL],.inr ⟨g,cap,cur,rfl,hb,hg,hr,hcm,hcsz,?_⟩⟩,by simp[hL],f⟩⟩;rw[flatMap_append,<-htake];simp only[flatMap_cons,flatMap_nil,append_nil,Array.toList_extract,extract_eq_take_drop];rw[(oM:n*k+k-n*k=k),Nat.add_mul,Nat.one_mul,take_add]
end
theorem xe{k:Nat}:∀(n:Nat) (l:List Value),l.length=n*k->∃R:List (Array Value),R.length=n/\(∀c∈R,c.size=k)/\R.flatMap Array.toList=l
 | 0,l,h=>⟨[],rfl,sI,by rw[Nat.zero_mul]at h;exact(length_eq_zero_iff.1 h).symm⟩
 | n+1,l,h=>by
  rw[Nat.add_mul,Nat.one_mul]at h;obtain⟨R,h1,h2,h3⟩:=xe (k:=k) n (l.drop k) (by rw[length_drop];omega);refine⟨(l.take k).toArray :: R,by simp[h1],λc hc=>?_,by simp[h3]⟩;rcases mem_cons.1 hc with e | hc
  ·rw[e];simp;omega
  ·exact h2 c hc
theorem swap_rows{α:Type}(A C:List α)(x:α)(R1:List α)(n i:Nat)(hA:A.length=i)(hC:C.length=n-i)(hR:R1.length=n-i)(hi:i<=n) :
  ((A ++ [x]++R1).take (i+1)++C++(A ++ [x]++R1).drop (i+1+(n-i)))=A++x :: C:=by
 rw[take_append_of_le_length (by simp[hA]),take_of_length_le (by simp[hA]),drop_of_length_le (by simp[hA,hR];omega)]
 simp
theorem insert_id(w:World)(B:Nat)(A:Option Addr)(n cap:Nat)(L:List zA)(h:Own w B 23 32 A n cap (L.map idC))(i:Nat)(hi:i<=n)(x:zA)(q:Nat)(hq:w.heap[q]?=some (.cells (idC x) 23 (0,0)))(f6:q∉blk A)(hn:n<=1000000)(hB:B<=w.heap.size) :
  Calls prog 196 #[.slice A n cap,.int .i64 i,.slice (some ⟨q,0,none⟩) 1 1] w λe w'=>∃A' cap',e=.returned (.slice A' (n+1) cap')/\Own w' B 23 32 A' (n+1) cap' ((L.take i++x :: L.drop i).map idC)/\z8 (blk A) w w'/\∀y∈blk A',y∈blk A\/w.heap.size<=y:=by
 have b1:L.length=n:=by simpa using h.len
 have F:z9 w q 0 32=some (idC x):=by unfold z9;rw[hq];simp[go_sem]
 obtain⟨A2,c2,f4,_,_⟩:=SlW.hi (w:=w) yO h.slw hi;by_cases f9:i=n
 ·subst f9;have hL:L.take i++x :: L.drop i=L ++ [x]:=by rw[take_of_length_le oM,drop_of_length_le oM]
  have HL:=dH hL;clear hL b1;go_enter func196,ntmps196
  go_wp2_with (at_builtin;refine xS yO rfl h rfl F (yN _) oM oM hB ?_;intro A' cap' w2 a9 f8 a7)
  (go_wp2_with fail);go_ret;exact⟨A',cap',rfl,by rw[HL.out];simpa using a9,f8,a7⟩
 ·have h4:i<n:=oM;clear f4;obtain⟨g,rfl⟩:∃g,A=some ⟨g,0,none⟩:=by
   rcases h.addr with e | e
   ·obtain⟨⟨_,h2⟩,_,_⟩:=h;rcases h2 with⟨_,h0⟩ | ⟨g,c,a6,hv,_⟩
    ·omega
    ·rw[e]at hv;cases hv
   ·exact e
  have e5:q≠g:=by simpa[blk]using f6
  have e0:¬((i:Int)=(n:Int)):=oM;have g4:=h.cap_le;have g8:IntKind.i64.wrap ((n:Int)+1)=(n:Int)+1:=IntWalk.i64_in _ oM;obtain⟨N1,f1⟩:=eX (n+1-i)
  have c9:(L.take i).length=i:=by rw[length_take];omega
  have f2:(L.drop i).length=n-i:=by rw[length_drop];omega
  have D:∀(l:List zA),∀c∈l.map idC,c.size=32:=λl c hc=>by
   obtain⟨y,_,rfl⟩:=mem_map.1 hc;exact xM y
  have I:∀(l:List zA),∀c∈l.map idC,∀v∈c.toList,v.oneCell'=true:=λl c hc=>by
   obtain⟨y,_,rfl⟩:=mem_map.1 hc;exact yN y
  have U:B<=g:=(h.at_base (x:=g) (by simp[blk])).1;have e8:g<w.heap.size:=(h.at_base (x:=g) (by simp[blk])).2;by_cases X:n+1<=cap
  ·obtain⟨J,hJ,G⟩:=own_more h X;have e7:=λw0=>s9 (P:=prog) yO w0 (some ⟨g,0,none⟩) n cap (n+1) X;have h1:=λw0=>Own.hi_at yO h (m:=i) oM w0;have d0:=λw0=>Own.hi_at yO G (m:=i+1) oM w0;have e4:=λw0=>Own.hi_at yO G (m:=i) oM w0;obtain⟨a6,d6⟩:∃a6,w.heap[g]?=some (.cells a6 23 (0,0))/\a6.size=cap*32:=by
    obtain⟨⟨_,h2⟩,_,_⟩:=h;rcases h2 with⟨h2,_⟩ | ⟨g',c,a6,hv,_,hg,_,_,hcs,_⟩
    ·cases h2
    ·injection hv with c4 _ hc
     injection c4 with c4
     injection c4 with c4
     subst c4;subst hc;exact⟨a6,hg,hcs⟩
   have h3:∀lb cb,(callFunc 258 #[.slice (some ⟨q,0,none⟩) 1 1,.slice (some ⟨g,(i+1)*32,none⟩) lb cb]).run prog w=.ok (.value (.bool false)) w:=λlb cb=>by
    rw[run_callFunc_extern func258 kR kR kR (e:=Extern.SlicesOverlaps.overlaps #[33,33] #[4]) kR,
     Lib.run_overlaps_apart w 33 4 23 underlying33 32 (λw=>yO.sizeOf_run w) ⟨q,0,none⟩ ⟨g,(i+1)*32,none⟩ 1 1 lb cb e5 23 23 32 (cap*32) (by simp[shape?,hq]) (by simp[shape?,d6.1,d6.2]) oM (by simp[frozen?,hq]) (by simp[frozen?,hq])]
    rfl
   have d4:(L.map idC ++ [J]).length=n+1:=by simp[b1]
   have N:Own w.drew B 23 32 (some ⟨g,0,none⟩) n cap (L.map idC):=h.kept (z8.drew w) (S:=[]) sI;obtain⟨w1,b7,r,a5⟩:=eH yO (G.kept (z8.drew w) (S:=[]) sI) (d:=i+1) (m:=n-i) (sLen:=n+1-i) (N.drop_slr (i:=i) oM) (λc hc=>D L c (mem_of_mem_drop hc)) (λc hc=>I L c (mem_of_mem_drop hc)) oM (by rw[(oM:n+1-(i+1)=n-i)];exact Nat.min_eq_right oM);have R:z8 [g] w w1:=z8.trans ((z8.drew w).mono sI) a5 (λy hy=>.inl hy);have a8:z9 w1 q 0 32=some (idC x):=(R.row (zD F) (by simpa using e5) _ _).trans F;have c1:SlR w1 (some ⟨q,0,none⟩) 1 32 [idC x]:=⟨rfl,λ_=>⟨q,0,rfl,λj hj=>by
    have e:j=0:=by simpa using hj
    subst e;simpa using a8⟩⟩
   obtain⟨w2,V,f,b4⟩:=eH yO r (d:=i) (m:=1) (sLen:=1) c1 sI (by simpa using yN x) oM (Nat.min_eq_left oM);have s:(((L.map idC ++ [J]).take (i+1)++(L.map idC).drop i++(L.map idC ++ [J]).drop (i+1+(n-i))).take i ++ [idC x]++((L.map idC ++ [J]).take (i+1)++(L.map idC).drop i++(L.map idC ++ [J]).drop (i+1+(n-i))).drop (i+1))=(L.take i++x :: L.drop i).map idC:=by
    have e1:(L.map idC ++ [J]).drop (i+1+(n-i)) = []:=drop_of_length_le (by rw[d4];omega);have e2:((L.map idC ++ [J]).take (i+1)).length=i+1:=by rw[length_take,d4];omega
    rw[e1,append_nil,take_append_of_le_length oM,take_take,Nat.min_eq_left oM,take_append_of_le_length sO,drop_append,e2,drop_of_length_le oM,nil_append,Nat.sub_self,drop_zero,map_append,map_cons,map_take,map_drop]
    simp
   rw[s]at f;have b3:z8 [g] w w2:=z8.trans R b4 (λy hy=>.inl hy);have f3:IntKind.i64.wrap ((i:Int)+1)=(i:Int)+1:=IntWalk.i64_in _ oM;have b8:((i+1:Nat):Int)=(i:Int)+1:=by push_cast;rfl
   have c6:((n+1:Nat):Int)=(n:Int)+1:=by push_cast;rfl
   rw[b8]at d0;rw[c6]at e7;simp only[Nat.add_sub_add_right]at b7 d0;have g1:¬((cap:Int)<(n:Int)+1):=oM;have HF:=dH (And.intro f b3);have g6:=dH (show Kp [g] w w1 from R);clear b8 c6 f b3 s b4 c1 a8 R a5 r N d4 d6 G c9 f2 D I U e8 f1 h hq F;go_enter func196,ntmps196
   go_upto_region 15 with fail
   refine kX [g] w ?_;intro d3 hS;refine lQ ?_;intro K hK;have a3:Kp [g] w w1:=g6.out;refine⟨a3,hK _ _ ?_⟩;clear hK K hS;have hS:=a3;refine zC ?_;intro hS;clear hS a3 d3 b7;go_wp2_with (at_builtin;refine wpList_copy_runI _ rfl _ _ 33 33 rfl _ _ rfl rfl (V _ _ _) ?_)
   (go_wp2_with fail);go_ret;exact⟨_,_,rfl,by simpa using HF.out.1,by simpa[blk]using HF.out.2,λy hy=>.inl hy⟩
  ·have c6:cap=n:=oM;subst c6;have e7:=λw0=>s9 (P:=prog) yO w0 (some ⟨g,0,none⟩) cap cap i oM;obtain⟨c5,T,hz⟩:=Option.bind_eq_some_iff.1 (kR:(prog.info? 23).bind (·.zero)=some (.agg (idC id0)));have b5:c5.size=32:=by have:=xP;rw[T]at this;simpa using this
   have a1:c5.bytes=32:=by have:(prog.info? 23).map (·.bytes)=some 32:=kR
                           rw[T]at this;simpa using this
   obtain⟨O,M⟩:=eX (((L.take i).map idC).flatMap Array.toList)
   have a4:O.length=i*32:=by rw[<-M,j3 _ 32 (D _),length_map,c9]
   have b0:(Builtin.firstCells c5.size i (.slice (some ⟨g,0,none⟩) i cap)).run prog w.drew=.ok O.toArray w.drew:=by
    refine run_firstCells_some w.drew c5.size i ⟨g,0,none⟩ i cap O (by rw[a4,b5]) λj v hj=>?_;have hs:=(h.kept (z8.drew w) sI).slr;obtain⟨g',o',e,hr⟩:=hs.2 oM;injection e with e;injection e with e1 e2
    subst e1;subst e2;have h6:j<i*32:=by rw[<-a4];exact(List.getElem?_eq_some_iff.1 hj).1
    have h5:j / 32<i:=oM;have f5:=hr (j / 32) sO;have Y:=gZ ((L.take i).map idC) 32 (D _) (j / 32) (j % 32) sO oM;rw[M,(oM:j / 32*32+j % 32=j),hj]at Y;rw[kh,(oM:0+j=0+j / 32*32+j % 32),zB f5 oM,Y]
    simp
   have f7:=nextslicecap_le (need:=i+N1) (old:=cap) oM;have E:=λty=>iM (P:=prog) (w:=w) (t:=33) (tn:=3) (ty:=ty) (kk:=.i64) underlying33 underlying3 T hz b0 (m:=N1) oM oM oM oM (by rw[a1];omega) (by rw[a1];omega);obtain⟨NC,c8⟩:=eX (grownCap w (i+N1) cap 23)
   have e3:i+N1<=NC:=by rw[<-c8];exact grownCap_ge _ _ _ _
   have c3:NC<=maxLen:=by rw[<-c8];exact grownCap_le_maxLen _ _ _ _ (by simp only[maxLen];omega)
   rw[c8]at E;obtain⟨ZC,d8⟩:=eX (Builtin.zeroCells (Value.agg (idC id0)).cells N1)
   obtain⟨ZR,d7⟩:=eX (Builtin.zeroCells (Value.agg (idC id0)).cells (NC-(i+N1)))
   have b9:ZC.size=N1*32:=by rw[<-d8,size_zeroCells];simp[Value.cells]
   have c0:ZR.size=(NC-(i+N1))*32:=by rw[<-d7,size_zeroCells];simp[Value.cells]
   rw[d8,d7]at E;obtain⟨Z,d9,f0,e9⟩:=xe (k:=32) N1 ZC.toList (by simpa using b9);obtain⟨W1,c7⟩:=eX (w.drew.alloc (.cells (O.toArray++ZC++ZR) 23))
   rw[c7]at E;have e6:i+N1=cap+1:=oM;have a2:W1.heap[w.heap.size]?=some (.cells (O.toArray++ZC++ZR) 23 (0,0)):=by rw[<-c7];exact heap_alloc_new w.drew _
   have a5:z8 [] w W1:=by rw[<-c7];exact z8.trans (z8.drew w) (z8.alloc _ _) sI
   obtain⟨g2,Y⟩:=eX w.heap.size
   rw[Y]at a2 E;have d1:∀c∈(L.take i).map idC++Z,c.size=32:=λc hc=>by
    rcases mem_append.1 hc with hc | hc
    ·exact D _ c hc
    ·exact f0 c hc
   have d2:((L.take i).map idC++Z).length=cap+1:=by rw[length_append,length_map,c9,d9];omega
   have r:Own W1 B 23 32 (some ⟨g2,0,none⟩) (cap+1) NC ((L.take i).map idC++Z):=by
    refine⟨⟨by rw[j3 _ 32 d1,d2],.inr ⟨g2,NC,_,rfl,oM,a2,oM,c3,?_,?_⟩⟩,d2,d1⟩
    ·simp only[Array.size_append,b9,c0,size_toArray,a4];omega
    ·rw[flatMap_append,M,e9];simp only[Array.toList_append];rw[take_append_of_le_length (by simp[a4,b9];omega),take_of_length_le (by simp[a4,b9];omega)]
   have a8:z9 W1 q 0 32=some (idC x):=(a5.row (zD F) sI _ _).trans F;have c1:SlR W1 (some ⟨q,0,none⟩) 1 32 [idC x]:=⟨rfl,λ_=>⟨q,0,rfl,λj hj=>by
    have e:j=0:=by simpa using hj
    subst e;simpa using a8⟩⟩
   have d0:=λw0=>Own.hi_at yO r (m:=i) oM w0;obtain⟨w2,V,f,b4⟩:=eH yO r (d:=i) (m:=1) (sLen:=1) c1 sI (by simpa using yN x) oM (Nat.min_eq_left oM);have g3:g2≠g:=oM;have a0:z8 [g2] w w2:=z8.trans (a5.mono sI) b4 (λy hy=>.inl hy);have b2:z8 [] w w2:=a0.narrow (λy hy=>by simp at hy;rw[Y];omega);have N:Own w2.drew B 23 32 (some ⟨g,0,none⟩) cap cap (L.map idC):=(h.kept b2 sI).kept (z8.drew w2) (S:=[]) sI;have e4:=λw0=>Own.hi_at yO f (m:=i+1) oM w0;have g9:=λw0=>Own.hi_at yO N (m:=i) oM w0;obtain⟨w3,b6,H,d5⟩:=eH yO (f.kept (z8.drew w2) (S:=[]) sI) (d:=i+1) (m:=cap-i) (sLen:=cap-i) (N.drop_slr (i:=i) oM) (λc hc=>D L c (mem_of_mem_drop hc)) (λc hc=>I L c (mem_of_mem_drop hc)) oM (by rw[(oM:cap+1-(i+1)=cap-i)];exact Nat.min_self _);have s:(((L.take i).map idC++Z).take i ++ [idC x]++((L.take i).map idC++Z).drop (i+1))=(L.take i).map idC ++ [idC x]++Z.drop 1:=by
    rw[take_append_of_le_length sO,take_of_length_le sO,drop_append];rw[drop_of_length_le sO,nil_append];congr 2
    simp;omega
   rw[s]at H;rw[<-map_drop,swap_rows ((L.take i).map idC) ((L.drop i).map idC) (idC x) (Z.drop 1) cap i sO sO (by simp[d9];omega) hi,(sI:(L.take i).map idC++idC x :: (L.drop i).map idC=(L.take i++x :: L.drop i).map idC)]at H;have b3:z8 [] w w3:=(z8.trans (z8.trans (a0.mono (S':=[g2]) sI) ((z8.drew w2).mono sI) (λy hy=>.inl hy)) d5 (λy hy=>.inl hy)).narrow (λy hy=>by simp at hy;rw[Y];omega);simp only[e6]at E;have g7:IntKind.i64.wrap ((cap:Int)+1-(i:Int))=(N1:Int):=by rw[IntWalk.i64_in _ oM];omega
   have f3:IntKind.i64.wrap ((i:Int)+1)=(i:Int)+1:=IntWalk.i64_in _ oM;have b8:((i+1:Nat):Int)=(i:Int)+1:=by push_cast;rfl
   rw[b8]at e4;clear b8;have g1:¬((cap:Int)+1<=(cap:Int)):=oM;have g0:(cap:Int)<(cap:Int)+1:=oM;have HF:=dH (And.intro H (And.intro b3 Y));simp only[Nat.add_sub_add_right]at b6;have h7:=dH e6;have g5:=dH (z8.trans ((z8.drew w2).mono sI) d5 (λy hy=>.inl hy):z8 [g2] w2 w3);clear H b3 d5 s N b2 a0 g3 f b4 c1 a8 r d2 d1 a5 a2 c7 d9 f0 e9 b9 c0 d8 d7 c8 e3 c3 b0 a4 M hz T b5 a1 f7 c9 f2 D I U e8 f1 h hq F Y;go_enter func196,ntmps196
   go_upto_region 10 with(at_builtin;refine Lib.wpList_append_run _ rfl _ _ _ _ rfl _ _ rfl rfl _ _ (E _) ?_)
   clear E;go_upto_region 11 with(at_builtin;refine wpList_copy_runI _ rfl _ _ 33 33 rfl _ _ rfl rfl (V _ _ _) ?_)
   clear V;refine kX [g2] w2 ?_;intro d3 hS;refine lQ ?_;intro K hK;have a3:Kp [g2] w2 w3:=g5.out;refine⟨a3,hK _ _ ?_⟩;clear hK K hS;have hS:=a3;refine zC ?_;intro hS;clear hS a3 d3 b6;(go_wp2_with fail);go_ret;refine⟨_,_,rfl,by simpa using HF.out.1,HF.out.2.1.mono sI,λy hy=>.inr ?_⟩;have e:y=g2:=by simpa[blk]using hy
   rw[e,HF.out.2.2];exact lR
end
section
structure k6{κ:Type}(w:World)(b:Nat)(kv:κ->Value)(ok:κ->Prop)(M:List (κ×Sl))(f:κ->List zA):Prop where
 map:∃es clk,yK w b kv slV ok M es clk
 own:∀q∈M,Own w 0 23 32 q.2.A q.2.n q.2.c ((f q.1).map idC)
 non:∀k,k∉M.map (·.1)->f k = []
 dis:M.Pairwise (λa c=>∀y∈blk a.2.A,y∉blk c.2.A)
def slF{κ:Type}(M:List (κ×Sl)):List Nat:=M.flatMap λq=>blk q.2.A
section
variable {κ:Type} {w w':World} {b:Nat} {kv:κ->Value} {ok:κ->Prop} {M:List (κ×Sl)} {f:κ->List zA} {K:TypeId}
theorem k6.bnot(h:k6 w b kv ok M f):b∉slF M:=λhb=>by
 obtain⟨q,hq,hy⟩:=mem_flatMap.1 hb;obtain⟨es,d,hm⟩:=h.map;obtain⟨⟨_,h2⟩,_,_⟩:=h.own q hq;rcases h2 with⟨e,_⟩ | ⟨g,c,cur,e,_,hg,_⟩
 ·injection e with e;rw[e]at hy;simp[blk]at hy
 ·injection e with e;rw[e]at hy
  have e2:b=g:=by simpa[blk]using hy
  rw[<-e2,hm.heap]at hg;cases hg
theorem k6.lt(h:k6 w b kv ok M f):b<w.heap.size/\∀y∈slF M,y<w.heap.size:=by
 obtain⟨es,d,hm⟩:=h.map;refine⟨hm.lt,λy hy=>?_⟩;obtain⟨q,hq,hy⟩:=mem_flatMap.1 hy;exact((h.own q hq).at_base hy).2
theorem k6.kept{S:List Nat}(h:k6 w b kv ok M f)(k:z8 S w w')(hb:b∉S)(hF:∀y∈slF M,y∉S):k6 w' b kv ok M f:=by
 obtain⟨es,d,hm⟩:=h.map;exact⟨⟨es,d,hm.kept k hb⟩,λq hq=>(h.own q hq).kept k λy hy=>hF y (mem_flatMap.2 ⟨q,hq,hy⟩),h.non,h.dis⟩
theorem k6.congr{f':κ->List zA}(h:k6 w b kv ok M f)(e:∀k,f' k=f k):k6 w b kv ok M f':=by
 have:f'=f:=funext e;rw[this];exact h
theorem k6.new(w:World)(b:Nat)(hb:b=w.heap.size):k6 (w.alloc (.map #[] 0)) b kv ok [] (λ_=>[]) :=
 ⟨⟨_,_,yK.new w b hb⟩,sI,λ_ _=>rfl,Pairwise.nil⟩
theorem k6.get(h:k6 w b kv ok M f)(E:bD prog K kv ok)(ht:prog.underlying T=some (.map K 33)){k:κ}(hk:ok k) :
  ∃s:Sl,(∀w2,Below w.heap.size w w2->(Instr.lookup T (.map (some b)) (kv k) false).run prog w2=.ok (slV s) w2)/\Own w 0 23 32 s.A s.n s.c ((f k).map idC)/\((k,s)∈M\/(k∉M.map (·.1)/\s=⟨none,0,0⟩)):=by
 obtain⟨es,d,hm⟩:=h.map;by_cases hx:k∈M.map (·.1)
 ·obtain⟨q,hq,rfl⟩:=mem_map.1 hx;exact⟨q.2,λw2 hb=>(hm.kept (z8.of_below hb) sI).hit E ht hk hq false,h.own q hq,.inl hq⟩
 ·refine⟨⟨none,0,0⟩,λw2 hb=>(hm.kept (z8.of_below hb) sI).miss E ht (pT w2) hk hx false,?_,.inr ⟨hx,rfl⟩⟩;rw[h.non k hx];exact Own.nil _ _ _ _
theorem k6.put[DecidableEq κ](h:k6 w b kv ok M f)(E:bD prog K kv ok)(ht:prog.underlying T=some (.map K 33)){k:κ}(hk:ok k){s s':Sl}{l:List zA}{w1:World}(hs:(k,s)∈M\/(k∉M.map (·.1)/\s=⟨none,0,0⟩))
  (R:z8 (blk s.A) w w1)(ho:Own w1 0 23 32 s'.A s'.n s'.c (l.map idC))(hb:∀y∈blk s'.A,y∈blk s.A\/w.heap.size<=y) :
  ∃w2 M',(Instr.mapUpdate T (.map (some b)) (kv k) (slV s')).run prog w1=.ok () w2/\k6 w2 b kv ok M' (λj=>if j=k then l else f j)/\z8 [b] w1 w2/\∀y∈slF M',y∈slF M\/w.heap.size<=y:=by
 have O:∀y∈blk s.A,y∈slF M:=λy hy=>by
  rcases hs with hs | ⟨_,e⟩
  ·exact mem_flatMap.2 ⟨_,hs,hy⟩
  ·rw[e]at hy;simp[blk]at hy
 have X:b∉blk s.A:=λhy=>h.bnot (O b hy);have N:b∉blk s'.A:=λhy=>by
  rcases hb b hy with h1 | h1
  ·exact X h1
  ·have:=h.lt.1;omega
 obtain⟨es,a3,hm⟩:=h.map;have a0:=hm.kept R X;obtain⟨w2,a2,a1,hr,U,J⟩:=a0.update E ht (k:=k) (v:=s') hk;have Z:(M.map (·.1)).Nodup:=hm.nodup;have D:∀q∈M,q.1≠k->∀y∈blk q.2.A,y∉blk s.A:=by
  intro q hq m y hy g;rcases hs with hs | ⟨_,e⟩
  ·have Y:q≠(k,s):=λe=>m (by rw[e]);obtain⟨i,hi,I⟩:=mem_iff_getElem.1 hq;obtain⟨j,hj,H⟩:=mem_iff_getElem.1 hs;rcases Nat.lt_trichotomy i j with G | G | G
   ·have:=pairwise_iff_getElem.1 h.dis i j hi hj G;rw[I,H]at this;exact this y hy g
   ·subst G;exact Y (by rw[<-I,<-H])
   ·have:=pairwise_iff_getElem.1 h.dis j i hj hi G;rw[I,H]at this;exact this y g hy
  ·rw[e]at g;simp[blk]at g
 have d:∀q∈M,q.1≠k->∀y∈blk q.2.A,y∉blk s'.A:=λq hq m y hy g=>by
  rcases hb y g with h1 | h1
  ·exact D q hq m y hy h1
  ·have:=((h.own q hq).at_base hy).2;omega
 have t:∀q∈M,q.1≠k->Own w2 0 23 32 q.2.A q.2.n q.2.c ((f q.1).map idC):=λq hq m =>
  ((h.own q hq).kept R (D q hq m)).kept J (λy hy hm=>h.bnot (mem_flatMap.2 ⟨q,hq,by have e:y=b:=(by simpa using hm);rw[<-e];exact hy⟩))
 have B:Own w2 0 23 32 s'.A s'.n s'.c (l.map idC):=ho.kept J (λy hy hm=>N (by have e:y=b:=(by simpa using hm);rw[<-e];exact hy));have F:∀q∈bJ M k s',q=(k,s')\/(q∈M/\q.1≠k):=by
  intro q hq;unfold bJ at hq;split at hq
  ·obtain⟨r,hr,rfl⟩:=mem_map.1 hq;by_cases e:r.1=k
   ·left;rw[if_pos e]
   ·right;rw[if_neg e];exact⟨hr,e⟩
  ·rename_i hno
   rcases mem_append.1 hq with h1 | h1
   ·exact .inr ⟨h1,λe=>hno (e ▸ mem_map_of_mem (f:=(·.1)) h1)⟩
   ·left;simpa using h1
 refine⟨w2,bJ M k s',hr,⟨⟨_,_,U⟩,λq hq=>?_,λj hj=>?_,?_⟩,J,λy hy=>?_⟩
 ·rcases F q hq with e | ⟨h1,h2⟩
  ·subst e;simp only[if_pos];exact B
  ·rw[if_neg h2];exact t q h1 h2
 ·have V:j≠k:=λe=>hj (by
   subst e;unfold bJ;split
   ·rename_i L
    rw[map_map];obtain⟨r,hr,e⟩:=mem_map.1 L;exact mem_map.2 ⟨r,hr,by simp[e]⟩
   ·simp)
  rw[if_neg V];refine h.non j λL=>hj ?_;obtain⟨r,hr,e⟩:=mem_map.1 L;unfold bJ;split
  ·rw[map_map];exact mem_map.2 ⟨r,hr,by simp[e,V]⟩
  ·exact mem_map.2 ⟨r,mem_append_left _ hr,e⟩
 ·unfold bJ;split
  ·rw[pairwise_map];refine(Pairwise.and_mem.1 (h.dis.and (show M.Pairwise (λa c=>a.1≠c.1)from pairwise_map.1 Z))).imp fun {a c} ⟨ha,hc,hac,m⟩=>?_;by_cases e1:a.1=k
   ·have e2:c.1≠k:=λe=>m (e1.trans e.symm);rw[if_pos e1,if_neg e2];exact λy hy g=>d c hc e2 y g hy
   ·rw[if_neg e1];by_cases e2:c.1=k
    ·rw[if_pos e2];exact d a ha e1
    ·rw[if_neg e2];exact hac
  ·rename_i hno
   refine pairwise_append.2 ⟨h.dis,sI,λa ha c hc=>?_⟩;have e:c=(k,s'):=by simpa using hc
   subst e;exact d a ha (λe=>hno (e ▸ mem_map_of_mem (f:=(·.1)) ha))
 ·obtain⟨q,hq,hy⟩:=mem_flatMap.1 hy;rcases F q hq with e | ⟨h1,h2⟩
  ·subst e;rcases hb y hy with h1 | h1
   ·exact .inl (O y h1)
   ·exact .inr h1
  ·exact .inl (mem_flatMap.2 ⟨q,h1,hy⟩)
end
end
def zt(f:FuncId):Prop:=∀(args:Array Value) (w:World),(callFunc f args).run prog w=.ok (.enter f args) w
def Tells(f:FuncId)(first caps:Array Value)(S:List Nat)(W:World)(p:zA->Bool):Prop :=
 ∀(x:zA) (w':World),z8 S W w'->Calls prog f (first.push (.agg (idC x))++caps) w' λe w''=>e=.returned (.bool (p x))/\Below w'.heap.size w' w''
theorem K5(f:FuncId)(first g:Array Value)(H:zt f)(S:List Nat)(W:World)(p:zA->Bool)(hp:Tells f first g S W p)(A:Option Addr)(n cap:Nat)(R:List zA)(w:World)(hw:z8 S W w)(h:zW w A n R)(hn:n<=1000000) :
  Calls prog 59 #[.slice A n cap,.func (.func f) first g] w λe w'=>∃j:Int,e=.returned (.int .i64 j)/\((j = -1/\∀x∈R,p x=false)\/∃i:Nat,j=i/\i<n/\(∀x∈R.take i,p x=false)/\∀hi:i<R.length,p (R[i])=true)/\Below w.heap.size w w':=by
 have G:R.length=n:=by simpa using h.1
 have Hp:=dH hp;have Hw:=dH hw;clear hp hw;go_enter func59,ntmps59
 (go_wp2_with fail);go_loopw [8] (λiv wr=>∃i:Nat,i<=n/\iv=.int .i64 i/\Hid (∀x∈R.take i,p x=false)/\Below w.heap.size w wr) (λiv _=>n-(intOf iv).toNat)
 case atStart=>exact⟨0,zL,rfl,(sI:∀x∈R.take 0,p x=false),Below.refl _ _⟩
 case round =>
  obtain⟨i,hi,rfl,s,hb⟩:=hrel;by_cases B:i<n
  ·obtain⟨q,o,rfl,r⟩:=zW.get (SlR.below h hb) B oM;have m:R.take (i+1)=R.take i ++ [R[i]'oM]:=by rw[take_succ_eq_append_getElem oM]
   obtain⟨x,hx⟩:=eX (R[i]'oM)
   rw[hx]at r m;have I:=dH m;have Hx:=dH hx;have c1:=Hp.out x wr (z8.trans Hw.out (z8.of_below hb) sI);clear hx m;obtain⟨bb,t⟩:=eX (p x)
   rw[t]at c1;have F:=dH t;clear t;have hc:=H (first.push (.agg (idC x))++g);(go_wp2_with fail);refine c1.mono ?_;rintro e w1 ⟨rfl,E⟩;have D:=hb.trans (E.mono hb.size);clear c1 E hb;cases bb with
   | true =>
    (go_wp2_with fail);go_ret;exact⟨_,rfl,.inr ⟨i,rfl,B,s.out,λ_=>by rw[Hx.out];exact F.out⟩,D⟩
   | false =>
    have d:∀y∈R.take (i+1),p y=false:=by
     intro y hy;rw[I.out,mem_append,mem_singleton]at hy;rcases hy with hy | hy
     ·exact s.out y hy
     ·rw[hy];exact F.out
    have k:=dH d;clear d;(go_wp2_with fail);go_roundw
    case rel=>exact⟨i+1,oM,by go_num,k,D⟩
    case measure=>exact sZ
  ·have e2:R.take i=R:=take_of_length_le oM;have d:=s.out;rw[e2]at d;have k:=dH d;clear e2 d;(go_wp2_with fail);go_ret;exact⟨_,rfl,.inl ⟨rfl,k.out⟩,hb⟩
theorem zk(f:FuncId)(first d:Array Value)(k:zt f)(S:List Nat)(W:World)(p:zA->Bool)(hp:Tells f first d S W p)(A:Option Addr)(n cap:Nat)(R:List zA)(w:World)(hw:z8 S W w)(h:zW w A n R)(hn:n<=1000000) :
  Calls prog 151 #[.slice A n cap,.func (.func f) first d] w λe w'=>e=.returned (.bool (R.any p))/\Below w.heap.size w w':=by
 have g:R.length=n:=by simpa using h.1
 have c2:=K5 f first d k S W p hp A n cap R w hw h hn;have Hl:=dH g;clear g hp k;go_enter func151,ntmps151
 (go_wp2_with fail);refine c2.mono ?_;rintro e w1 ⟨j,rfl,hj,m⟩;have Hj:=dH hj;clear c2 hj;(go_wp2_with fail);go_ret;refine⟨yI ?_,m⟩;rcases Hj.out with⟨rfl,h1⟩ | ⟨i,rfl,h1,_,h2⟩
 ·rw[show R.any p=false by rw[any_eq_false];simpa using h1];rfl
 ·have hi:i<R.length:=oH Hl.out;rw[show R.any p=true from any_eq_true.2 ⟨_,getElem_mem hi,h2 hi⟩]
  simp
end Go.Proofs.YtddopbhcpblpjaaGreatDoor
