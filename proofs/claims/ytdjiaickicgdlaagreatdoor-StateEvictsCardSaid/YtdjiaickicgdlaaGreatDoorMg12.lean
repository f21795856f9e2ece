/- Part 12 of the texts that lead to this claim: the walks of the functions and the plain law, in order. -/
import Derived.Test.YtdjiaickicgdlaaGreatDoorMg11
import Derived.ChangeKeysEq
import Derived.Deep.AppendSrc
import Derived.Laws.CopyRow
namespace Go.Proofs.YtdjiaickicgdlaaGreatDoor
open Go.RowKit
open List hiding and get max min or set
open Go.Proofs.Tryz
open World
set_option maxRecDepth 100000
set_option maxHeartbeats 8000000
variable {w:World}{A:Option Addr}{g i k m n sLen:Nat}{bs:List UInt8}{S:World->Prop}{L M:List UInt32}{s:StU}{T t ty:TypeId}{R cs f:Array Value}{r:Value}{P:Program}{ops:Array Oper}{Q:Act->World->Prop}{X:List (Array Value)}
theorem rot_left(x:UInt32)(n:Nat)(h0:0<n)(h1:n<32)(w:World) :
  Calls prog 307 #[.int .u32 (nU x),.int .i64 (-(n:Int))] w λe w'=>e=.returned (.int .u32 (nU (tX x n)))/\w=w':=by
 have hw:IntKind.u64.wrap (-(n:Int))=18446744073709551616-(n:Int):=by simp[IntKind.wrap,IntKind.bits,IntKind.signed];omega
 have hs:bits .and .u64 (18446744073709551616-(n:Int)) 31=((32-n:Nat):Int):=by
  rw[u64_and _ _ oM oM oM oM,show(31:Int).toNat=31 from rfl,nat_mask5];omega
 have g:IntKind.u64.wrap (32-((32-n:Nat):Int))=(n:Int):=by simp[IntKind.wrap,IntKind.bits,IntKind.signed];omega
 have hl:nU x*2 ^ (32-n) % 4294967296=nU (x <<< UInt32.ofNat (32-n)):=by
  rw[<-xm _ _ oM,IntKind.wrap_u32']
 have hr:Op.shift .shr .u32 (nU x) .u64 (n:Int)=pure (.int .u32 (nU (x >>> UInt32.ofNat n))):=by
  rw[shift_shr _ _ _ _ oM (by show _<=((32:Nat):Int);omega),Int.toNat_natCast,XH _ _ h1]
 have d:x <<< UInt32.ofNat (32-n) ||| x >>> UInt32.ofNat n=tX x n:=UInt32.or_comm _ _
 have f:=dH d;clear d h0 h1;go_enter func307,ntmps307
 (go_wp2_with fail);go_ret;exact⟨by rw[f.out];rfl,rfl⟩
theorem bZ(x:UInt32)(n:Nat)(h0:0<n)(h1:n<32)(w:World) :
  Calls prog 289 #[.int .u32 (nU x),.int .i64 n] w λe w'=>e=.returned (.int .u32 (nU (tX x n)))/\w=w':=by
 have c:=rot_left x n h0 h1 w;have hw:IntKind.i64.wrap (-(n:Int)) = -(n:Int):=by simp[IntKind.wrap,IntKind.bits,IntKind.signed];omega
 clear h0 h1;go_enter func289,ntmps289
 (go_wp2_with fail);refine c.mono ?_;rintro e w1 ⟨rfl,rfl⟩;(go_wp2_with fail);go_ret;exact⟨rfl,rfl⟩
@[go_sem] theorem u8_word(b:UInt8):IntKind.u32.wrap ((b.toNat:Nat):Int)=nU b.toUInt32:=by
 have:=b.toNat_lt;rw[IntKind.wrap_u32'];unfold nU;rw[UInt8.toNat_toUInt32];omega
theorem sh24(x:UInt32):IntKind.u32.wrap (nU x*(16777216:Int))=nU (x <<< 24):=xm x 24 oM
theorem sh16(x:UInt32):IntKind.u32.wrap (nU x*(65536:Int))=nU (x <<< 16):=xm x 16 oM
theorem sh8(x:UInt32):IntKind.u32.wrap (nU x*(256:Int))=nU (x <<< 8):=xm x 8 oM
theorem sh24m(x:UInt32):nU x*(16777216:Int) % (4294967296:Int)=nU (x <<< 24):=by have h:=sh24 x;rwa [IntKind.wrap_u32']at h
theorem sh16m(x:UInt32):nU x*(65536:Int) % (4294967296:Int)=nU (x <<< 16):=by have h:=sh16 x;rwa [IntKind.wrap_u32']at h
theorem sh8m(x:UInt32):nU x*(256:Int) % (4294967296:Int)=nU (x <<< 8):=by have h:=sh8 x;rwa [IntKind.wrap_u32']at h
attribute [go_sem] sh24 sh16 sh8 sh24m sh16m sh8m
@[go_sem] theorem dn3(x:UInt32):nU x / (8:Int)=nU (x >>> 3):=XH x 3 oM
@[go_sem] theorem dn10(x:UInt32):nU x / (1024:Int)=nU (x >>> 10):=XH x 10 oM
abbrev bE(w:World)(A:Option Addr)(n:Nat)(bs:List UInt8):Prop:=SlR w A n 1 (yJ bs)
theorem bE.get(h:bE w A n bs)(hi:i<n):∃g o,A=some ⟨g,o,none⟩/\∀j,j<n->w.cell? ⟨g,o+j,none⟩=some (.int .u8 ((bs.getD j 0).toNat:Int)):=by
 obtain⟨g,o,e,hr⟩:=h.at_ hi;have k:bs.length=n:=by simpa[yJ]using h.1
 refine⟨g,o,e,λj hj=>?_⟩;obtain⟨g',o',e',f⟩:=h.at_ hj;rw[e]at e';injection e' with e';injection e' with e1 e2;subst e1 e2
 have d:zA w g (o+j*1) 1=some #[yI (bs[j]'oM)]:=by rw[f];simp[yJ,k9]
 have hc:=zC d (j:=0) oM;rw[(oM:o+j*1+0=o+j)]at hc;rw[hc];have m:j<bs.length:=oM;simp[yI,getD,m]
theorem sched_any(w:World)(A:Option Addr)(cap:Nat)(bs:List UInt8)(h:bE w A 64 bs) :
  Calls prog 288 #[.slice A 64 cap] w λe w'=>e=.returned (.agg (wsC (yV bs 64)))/\Below w.heap.size w w':=by
 have F:Below w.heap.size w ((w.alloc (.cells (wsC (zU 64)) 244)).alloc (.cells (wsC (zU 64)) 244)):=(bA).alloc sI _;have J:((w.alloc (.cells (wsC (zU 64)) 244)).alloc (.cells (wsC (zU 64)) 244)).heap[w.heap.size]?=some (.cells (wsC (zU 64)) 244 (0,0)):=by
  rw[Below.heap_alloc _ _ _ sI];exact heap_alloc_new w _
 have I:((w.alloc (.cells (wsC (zU 64)) 244)).alloc (.cells (wsC (zU 64)) 244)).heap[w.heap.size+1]?=some (.cells (wsC (zU 64)) 244 (0,0)):=by
  have:=heap_alloc_new (w.alloc (.cells (wsC (zU 64)) 244)) (.cells (wsC (zU 64)) 244);simpa using this
 obtain⟨q,o,rfl,y⟩:=bE.get h (i:=0) oM;have X:q<w.heap.size:=block_lt_of_cell? _ _ (y 0 oM);have T:∀j,j<64->_:=λj hj=>(F.cell (p:=⟨q,o+j,none⟩) X).trans (y j hj);clear h y;go_enter func288,ntmps288
 (go_wp2_with fail);obtain⟨g,hg⟩:=eX w.heap.size
 have Hg:=dH hg;obtain⟨W,hW⟩:=eR ((w.alloc (.cells (wsC (zU 64)) 244)).alloc (.cells (wsC (zU 64)) 244))
 rw[<-hW]at F J I T |-;have c7:g+2=W.heap.size:=by rw[hW,<-hg];simp
 rw[hg]at F J I X |-;clear hg hW;go_loopw [4,5,6,7,8,9] (λ_ _ _ _ _ n wr=>∃k:Nat,k<=64/\n=.int .i64 k/\wr.heap[g+1]?=some (.cells (wsC (wsU bs k)) 244 (0,0))/\z9 [g+1] W wr) (λ_ _ _ _ _ n _=>64-(intOf n).toNat)
 case atStart=>exact⟨0,zL,rfl,I,z9.refl _ _⟩
 case round =>
  obtain⟨k,hk,rfl,hc,s⟩:=hrel;by_cases H:k<64
  ·by_cases a1:k<16
   ·obtain⟨m,hm⟩:∃m:Nat,4*k=m:=⟨_,rfl⟩
    have em:4*(k:Int)=(m:Int):=oM;have l0:(m:Int)<64:=oM;have t2:((m:Int)+2).toNat=m+2:=oM;have t3:((m:Int)+3).toNat=m+3:=oM;have w0:IntKind.i64.wrap (m:Int)=m:=by simp[IntKind.wrap,IntKind.bits,IntKind.signed];omega
    have w1:IntKind.i64.wrap ((m:Int)+1)=(m:Int)+1:=by simp[IntKind.wrap,IntKind.bits,IntKind.signed];omega
    have w2:IntKind.i64.wrap ((m:Int)+2)=(m:Int)+2:=by simp[IntKind.wrap,IntKind.bits,IntKind.signed];omega
    have w3:IntKind.i64.wrap ((m:Int)+3)=(m:Int)+3:=by simp[IntKind.wrap,IntKind.bits,IntKind.signed];omega
    have l1:0<=(m:Int)+1/\(m:Int)+1<64:=oM;have l2:0<=(m:Int)+2/\(m:Int)+2<64:=oM;have l3:0<=(m:Int)+3/\(m:Int)+3<64:=oM;have D:=λj (hj:j<64)=>(s.cell (p:=⟨q,o+j,none⟩) (by show q<_;omega) sO).trans (T j hj);have x0:=D m oM;have x1:=D (m+1) oM;have x2:=D (m+2) oM;have x3:=D (m+3) oM;have Y:=dH hm;clear D hm;go_upto_region 6 with fail
    refine kF ([]:List Nat) wr ?_;intro B hS;have d:q∉([]:List Nat):=sI;have b0:=zG x0 d;have b1:=zG x1 d;have b2:=zG x2 d;have b3:=zG x3 d;refine lZ ?_;have f:(bs.getD m 0).toUInt32 <<< 24 ||| (bs.getD (m+1) 0).toUInt32 <<< 16 ||| (bs.getD (m+2) 0).toUInt32 <<< 8 ||| (bs.getD (m+3) 0).toUInt32=gA bs (yV bs k) k:=by
     unfold gA xe byU;rw[if_pos a1,Y.out]
    have r:wr.drew.heap[g+1]?=some (.cells (wsC (wsU bs k)) 244 (0,0)):=hc;have x9:wr.drew.cell? ⟨g+1,k,none⟩=some (.int .u32 (nU ((wsU bs k).getD k 0))):=by
     rw[cell_of_row wr.drew _ k _ _ _ r,dY _ (by rw[gC _ hk];exact H)]
    have f9:wr.drew.frozen? ⟨g+1,k,none⟩=false:=by simp[frozen?,r]
    simp only[getD_eq_getElem?_getD]at f;have G:=dH f;clear f em Y b0 b1 b2 b3 x0 x1 x2 x3;refine j3 ?_ ?_;(focus(simp only[yO];done));intro K hK;go_simp;rw[G.out];refine hK _ _ ?_;clear hK K;have E:=zF r k (.int .u32 (nU (gA bs (yV bs k) k)));rw[dX,YV bs H]at E;have R:z9 [g+1] W (wr.drew.setCell ⟨g+1,k,none⟩ (.int .u32 (nU (gA bs (yV bs k) k)))):=z9.trans (z9.trans s (z9.drew wr) sI) (z9.setCell wr.drew ⟨g+1,k,none⟩ _) sI;clear B hS d x9 f9 hc r s G;(go_wp2_with fail);go_roundw
    case rel=>exact⟨k+1,oM,by go_num,E,R⟩
    case measure=>exact sZ
   ·have gt:∀j:Nat,j<k->wr.drew.cell? ⟨g+1,j,none⟩=some (.int .u32 (nU ((yV bs k).getD j 0)))/\wr.cell? ⟨g+1,j,none⟩=some (.int .u32 (nU ((yV bs k).getD j 0))):=λj hj=>by
     have r:wr.drew.heap[g+1]?=some (.cells (wsC (wsU bs k)) 244 (0,0)):=hc;rw[cell_of_row wr.drew _ j _ _ _ r,cell_of_row wr _ j _ _ _ hc,dY _ (by rw[gC _ hk];omega),wsU_get bs hj];exact⟨rfl,rfl⟩
    obtain⟨a,ha⟩:∃a:Nat,k=a+16:=⟨k-16,oM⟩
    obtain⟨a5,a9⟩:∃a5:Nat,a+1=a5:=⟨_,rfl⟩
    obtain⟨a2,b4⟩:∃a2:Nat,a+14=a2:=⟨_,rfl⟩
    obtain⟨a7,a8⟩:∃a7:Nat,a+9=a7:=⟨_,rfl⟩
    have b9:(k:Int)-15=(a5:Int):=oM;have b7:IntKind.i64.wrap (a5:Int)=(a5:Int):=by simp[IntKind.wrap,IntKind.bits,IntKind.signed];omega
    have c6:(a5:Int)<64:=oM;have N:=(gt a5 oM).2;have s2:(k:Int)-2=(a2:Int):=oM;have w2:IntKind.i64.wrap (a2:Int)=(a2:Int):=by simp[IntKind.wrap,IntKind.bits,IntKind.signed];omega
    have l2:(a2:Int)<64:=oM;have x2:=(gt a2 oM).2;have b8:(k:Int)-16=(a:Int):=oM;have w16:IntKind.i64.wrap (a:Int)=(a:Int):=by simp[IntKind.wrap,IntKind.bits,IntKind.signed];omega
    have c5:(a:Int)<64:=oM;have M:=(gt a oM).1;have s7:(k:Int)-7=(a7:Int):=oM;have w7:IntKind.i64.wrap (a7:Int)=(a7:Int):=by simp[IntKind.wrap,IntKind.bits,IntKind.signed];omega
    have l7:(a7:Int)<64:=oM;have x7:=(gt a7 oM).1;have f:(yV bs k).getD a 0+sg0 ((yV bs k).getD a5 0)+(yV bs k).getD a7 0+sg1 ((yV bs k).getD a2 0)=gA bs (yV bs k) k:=by
     unfold gA;rw[if_neg a1,(oM:k-16=a),(oM:k-15=a5),(oM:k-7=a7),(oM:k-2=a2)]
    obtain⟨L,a3⟩:=eX ((yV bs k).getD a5 0)
    obtain⟨z2,h2⟩:=eX ((yV bs k).getD a2 0)
    obtain⟨b6,h3⟩:=eX ((yV bs k).getD a 0)
    obtain⟨z7,h4⟩:=eX ((yV bs k).getD a7 0)
    rw[a3]at N f;rw[h2]at x2 f;rw[h3]at M f;rw[h4]at x7 f;unfold sg0 sg1 at f;have G:=dH f;clear gt f a3 h2 h3 h4 ha a9 b4 a8;go_upto_region 7 with fail
    have d:g+1∉([]:List Nat):=sI;refine kX ([]:List Nat) wr ?_;intro B hS;have b0:=zG N d;have b1:=zG x2 d;refine lZ ?_;refine zD ?_;intro hS;clear B hS b0 b1 N x2;have q3:=dn3 L;have c0:=dn10 z2;have c1:=λw=>bZ L 7 oM oM w;have c2:=λw=>bZ L 18 oM oM w;have c3:=λw=>bZ z2 17 oM oM w;have c4:=λw=>bZ z2 19 oM oM w;(go_wp2_with fail);refine(c1 _).mono ?_;rintro e w1 ⟨rfl,rfl⟩;(go_wp2_with fail);refine(c2 _).mono ?_;rintro e w1 ⟨rfl,rfl⟩;(go_wp2_with fail);refine(c3 _).mono ?_;rintro e w1 ⟨rfl,rfl⟩;(go_wp2_with fail);refine(c4 _).mono ?_;rintro e w1 ⟨rfl,rfl⟩;clear c1 c2 c3 c4;go_upto_region 10 with fail
    refine kF ([]:List Nat) wr.drew ?_;intro B hS;have b0:=zG M d;have b1:=zG x7 d;have r:wr.drew.drew.heap[g+1]?=some (.cells (wsC (wsU bs k)) 244 (0,0)):=hc;have x9:wr.drew.drew.cell? ⟨g+1,k,none⟩=some (.int .u32 (nU ((wsU bs k).getD k 0))):=by
     rw[cell_of_row wr.drew.drew _ k _ _ _ r,dY _ (by rw[gC _ hk];exact H)]
    have f9:wr.drew.drew.frozen? ⟨g+1,k,none⟩=false:=by simp[frozen?,r]
    refine lZ ?_;refine j3 ?_ ?_;(focus(simp only[yO];done));intro K hK;go_simp;rw[G.out];refine hK _ _ ?_;clear hK K;have E:=zF r k (.int .u32 (nU (gA bs (yV bs k) k)));rw[dX,YV bs H]at E;have R:z9 [g+1] W (wr.drew.drew.setCell ⟨g+1,k,none⟩ (.int .u32 (nU (gA bs (yV bs k) k)))):=z9.trans (z9.trans s ((z9.drew wr).trans (z9.drew wr.drew) sI) sI) (z9.setCell wr.drew.drew ⟨g+1,k,none⟩ _) sI;clear B hS d x9 f9 hc r s G b0 b1 M x7;(go_wp2_with fail);go_roundw
    case rel=>exact⟨k+1,oM,by go_num,E,R⟩
    case measure=>exact sZ
  ·have O:k=64:=oM;subst O;rw[wsU_all]at hc;have a6:zA wr (g+1) 0 64=some (wsC (yV bs 64)):=by unfold zA;rw[hc];simp[go_sem,qP]
   have t:=(s.block g oM sI).trans J;have a4:=y9 (P:=prog) X5 wr g (wsC (zU 64)) (wsC (yV bs 64)) _ t (by simp[gB]) (by simp[qP]) (r6 _);have V:=dH (setRow_heap wr g _ (wsC (yV bs 64)) _ _ t);have U:z9 [g] wr (wr.setRow g (wsC (yV bs 64))):=⟨rfl,rfl,rfl,by simp[setRow],λx _ hx=>setRow_other wr g x _ (by simpa using hx)⟩
   have Z:=z9.trans (s.mono (S':=[g,g+1]) sI) (U.mono (S':=[g,g+1]) sI) iL;have a0:Below g w (wr.setRow g (wsC (yV bs 64))):=F.trans (Z.below oM sI);have b5:=dH a0;clear U Z a0 t J I T F s;(go_wp2_with fail);exact bodyPost_ret (results_cell_row results288 _ _ g 244 (wsC (yV bs 64)) (0,0) _ rfl V.out underlying244 rfl (by rw[bJ,qP];exact X5)) rfl ⟨rfl,by rw[Hg.out];exact b5.out⟩
@[go_sem] theorem notU(x:UInt32):bits .xor .u32 (if IntKind.u32.signed=true then -1 else IntKind.u32.max) (nU x)=nU (~~~x):=u_not x
structure xY(w:World):Prop where
 first:∀k,k<8->w.cell? ⟨0,k,none⟩=some (.int .u32 (nU (hU.getD k 0)))
 k:∀k,k<64->w.cell? ⟨2,k,none⟩=some (.int .u32 (nU (kU.getD k 0)))
theorem xY.ltF(h:xY w):0<w.heap.size:=block_lt_of_cell? w _ (h.first 0 oM)
theorem xY.ltK(h:xY w):2<w.heap.size:=block_lt_of_cell? w _ (h.k 0 oM)
theorem xY.kept{w':World}{S:List Nat}(h:xY w)(k:z9 S w w')(h0:0∉S)(h1:2∉S):xY w' :=
 ⟨λi hi=>(k.cell (p:=⟨0,i,none⟩) h.ltF h0).trans (h.first i hi),λi hi=>(k.cell (p:=⟨2,i,none⟩) h.ltK h1).trans (h.k i hi)⟩
theorem xY.below{w':World}(h:xY w)(hb:Below w.heap.size w w'):xY w':=h.kept (z9.of_below hb) sI sI
def StU.l(s:StU):List UInt32:=[s.a,s.b,s.c,s.d,s.e,s.f,s.g,s.h]
theorem StU.l_len(s:StU):s.l.length=8:=rfl
theorem mix_get(h:L.length=M.length)(hk:k<M.length):(L.take k++M.drop k).getD k 0=M.getD k 0:=by
 rw[getD_eq_getElem?_getD,getD_eq_getElem?_getD,getElem?_append_right sO,length_take,(oM:min k L.length=k),Nat.sub_self,getElem?_drop,Nat.add_zero]
theorem mix_set(h:L.length=M.length)(hk:k<M.length):(L.take k++M.drop k).set k (L.getD k 0)=L.take (k+1)++M.drop (k+1):=by
 have hL:k<L.length:=oM;have e1:L.take (k+1)=L.take k ++ [L[k]]:=by rw[take_add_one,getElem?_eq_getElem hL];rfl
 have e2:L.getD k 0=L[k]:=by rw[getD_eq_getElem?_getD,getElem?_eq_getElem hL];rfl
 rw[set_append_right _ _ sO,length_take,(oM:min k L.length=k),Nat.sub_self,drop_eq_getElem_cons hk,set_cons_zero,e1,e2,append_assoc];rfl
theorem zip_get{t:StU}(hk:k<8):s.l.getD k 0+t.l.getD k 0=(fY s t).l.getD k 0:=by
 have h8:k=0\/k=1\/k=2\/k=3\/k=4\/k=5\/k=6\/k=7:=oM;rcases h8 with rfl | rfl | rfl | rfl | rfl | rfl | rfl | rfl <;> rfl
theorem app_cell{g T}(hb:w.heap[g]?=some (.cells (wsC L++R) T (0,0)))(hk:k<L.length):w.cell? ⟨g,k,none⟩=some (.int .u32 (nU (L.getD k 0))):=by
 rw[cell_of_row w g k _ _ _ hb,Array.getElem?_append_left (by rw[bJ];exact hk),dY L hk]
theorem app_set(L:List UInt32)(R:Array Value)(k:Nat)(hk:k<L.length)(x:UInt32):(wsC L++R).setIfInBounds k (.int .u32 (nU x))=wsC (L.set k x)++R:=by
 rw[<-dX,Array.setIfInBounds_append_left (by rw[bJ];exact hk)]
theorem sizeU32(w:World):(sizeOf 170).run prog w=.ok 1 w:=by
 have h:(prog.info? 170).map (·.size)=some 1:=kR;cases hi:prog.info? 170 with
 | none=>rw[hi]at h;cases h
 | some i =>
  rw[hi]at h;have hk:i.size=1:=by simpa using h
  simp[sizeOf,typeInfo,hi,hk]
theorem index_w(h:prog.underlying t=some (.array n 170))(hk:k<n){v:Value}(hc:cs[k]?=some v)(w:World) :
  (Instr.index t (.agg cs) (.int .i64 k)).run prog w=.ok v w:=by
 have h1:(part 170 cs k).run prog w=.ok v w:=run_part_plain w kR hc;have h2:(0:Int)<=(k:Int)/\(k:Int)<(n:Int):=⟨oM,oM⟩
 simp[Instr.index,asIntOf,run_underlying h,hk,sizeU32,h1]
theorem xo(w:World)(g:Nat)(T:TypeId)(s:StU)(R:Array Value)(A:Option Addr)(cap:Nat)(bs:List UInt8)(hv:xY w)(hg:w.heap[g]?=some (.cells (wsC s.l++R) T (0,0)))(h:bE w A 64 bs)(f0:g≠0)(e9:g≠2) :
  Calls prog 249 #[.pointer (some ⟨g,0,none⟩),.slice A 64 cap] w λe w'=>e=.returned (.tuple #[])/\w'.heap[g]?=some (.cells (wsC (rS s bs).l++R) T (0,0))/\z9 [g] w w':=by
 have e5:g<w.heap.size:=(aG hg).1;have c0:=sched_any w A cap bs h;have U:=qP bs 64;obtain⟨ws,D⟩:=eX (yV bs 64)
 have b9:rS s bs=fY s (lO ws s 64):=by rw[<-D];rfl
 rw[D]at c0 U;rw[b9];have d5:=dH U;clear D b9 h U;go_enter func249,ntmps249
 (go_wp2_with fail);refine c0.mono ?_;rintro e w1 ⟨rfl,E⟩;have a1:=hv.below (E.alloc (oH E.size) (.cells (wsC ws) 244));have Y:Below w.heap.size w (w1.alloc (.cells (wsC ws) 244)):=E.alloc E.size _;have hn:=heap_alloc_new w1 (.cells (wsC ws) 244);have d8:=BX w1 w1.heap.size rfl (wsC (zU 64)) (by simp[gB]) ws d5.out 244;have d7:=E.size;have O:=(Y.block g e5).trans hg;clear c0 hv;go_upto_region 1 with fail
 obtain⟨ga,c8⟩:=eX w1.heap.size
 obtain⟨W,hW⟩:=eR (w1.alloc (.cells (wsC ws) 244))
 rw[c8]at hn d7 |-;rw[<-hW]at hn Y a1 O |-;have J:ga<W.heap.size:=(aG hn).1;clear d8 hW c8 E hg;have xs:=λk (hk:k<8)=>app_cell O (k:=k) hk;have x0:=xs 0 oM;have x1:=xs 1 oM;have x2:=xs 2 oM;have x3:=xs 3 oM;have x4:=xs 4 oM;have x5:=xs 5 oM;have x6:=xs 6 oM;have x7:=xs 7 oM;simp only[StU.l,getD_cons_zero,getD_cons_succ]at x0 x1 x2 x3 x4 x5 x6 x7;have B:g∉([]:List Nat):=sI;refine kX ([]:List Nat) W ?_;intro H hS;have b0:=zG x0 B;have b1:=zG x1 B;have b2:=zG x2 B;have b3:=zG x3 B;have b4:=zG x4 B;have b5:=zG x5 B;have b6:=zG x6 B;have b7:=zG x7 B;refine lZ ?_;refine zD ?_;intro hS;clear H b0 b1 b2 b3 b4 b5 b6 b7 x0 x1 x2 x3 x4 x5 x6 x7 xs;have a0:xY W.drew:=a1.kept hS sI sI;have a2:W.drew.heap[ga]?=some (.cells (wsC ws) 244 (0,0)):=hn;have hgd:W.drew.heap[g]?=some (.cells (wsC s.l++R) T (0,0)):=O;have X:Below w.heap.size w W.drew:=Y.drew;clear hS a1 hn O Y;obtain⟨V,hV⟩:=eR W.drew
 have a4:ga<V.heap.size:=by rw[hV];exact J
 rw[<-hV]at a0 a2 hgd X |-;clear hV J;(go_wp2_with fail);go_loopw [5,6,7,8,9,10,11,12,13,14,15,52] (λra rb rc rd re rf rg rh _ _ _ n wr=>∃(k:Nat) (z:StU),k<=64/\n=.int .i64 k/\Hid (lO ws s k=z)/\ra=.int .u32 (nU z.a)/\rb=.int .u32 (nU z.b)/\rc=.int .u32 (nU z.c)/\rd=.int .u32 (nU z.d)/\re=.int .u32 (nU z.e)/\rf=.int .u32 (nU z.f)/\rg=.int .u32 (nU z.g)/\rh=.int .u32 (nU z.h)/\z9 [] V wr) (λ_ _ _ _ _ _ _ _ _ _ _ n _=>64-(intOf n).toNat)
 case atStart=>exact⟨0,s,oM,rfl,(show _=_ from rfl),rfl,rfl,rfl,rfl,rfl,rfl,rfl,rfl,z9.refl _ _⟩
 case round =>
  obtain⟨k,z,hk,rfl,hz,rfl,rfl,rfl,rfl,rfl,rfl,rfl,rfl,j⟩:=hrel;by_cases m:k<64
  ·have F:lO ws s (k+1)=rndU z (kU.getD k 0) (ws.getD k 0):=by rw[lO,hz.out]
   have d4:=dH F;obtain⟨za,zb,zc,zd,ze,zf,zg,zh⟩:=z;have b8:=a0.kept j sI sI;have c3:=(j.block ga a4 sI).trans a2;have y0:=b8.k k m;have y1:wr.cell? ⟨ga,k,none⟩=some (.int .u32 (nU (ws.getD k 0))):=by rw[cell_of_row wr ga k _ _ _ c3,dY ws (by rw[d5.out];exact m)]
   obtain⟨kv,c4⟩:=eX (kU.getD k 0)
   obtain⟨wv,a8⟩:=eX (ws.getD k 0)
   rw[c4]at y0 F;rw[a8]at y1 F;have d4:=dH F;have c6:=λw=>bZ ze 6 oM oM w;have d3:=λw=>bZ ze 11 oM oM w;have d0:=λw=>bZ ze 25 oM oM w;have c2:=λw=>bZ za 2 oM oM w;have d2:=λw=>bZ za 13 oM oM w;have d1:=λw=>bZ za 22 oM oM w;clear F c4 a8 b8 c3;go_upto_region 5 with fail
   have e0:2∉([]:List Nat):=sI;have d9:ga∉([]:List Nat):=sI;refine kX ([]:List Nat) wr ?_;intro H hS;have b0:=zG y0 e0;have b1:=zG y1 d9;refine lQ ?_;intro K hK;refine(c6 _).mono ?_;rintro e w' ⟨rfl,rfl⟩;refine⟨_,rfl,hS,hK _ _ ?_⟩;clear hK K;refine lQ ?_;intro K hK;refine(d3 _).mono ?_;rintro e w' ⟨rfl,rfl⟩;refine⟨_,rfl,hS,hK _ _ ?_⟩;clear hK K;refine lQ ?_;intro K hK;refine(d0 _).mono ?_;rintro e w' ⟨rfl,rfl⟩;refine⟨_,rfl,hS,hK _ _ ?_⟩;clear hK K;refine lZ ?_;refine zD ?_;intro hS;clear H b0 b1 y0 y1 c6 d3 d0;have c5:z9 [] V wr.drew:=z9.trans j hS sI;obtain⟨wd,a9⟩:=eR wr.drew
   rw[<-a9]at c5 |-;clear hS a9 j;(go_wp2_with fail);refine(c2 _).mono ?_;rintro e w2 ⟨rfl,rfl⟩;(go_wp2_with fail);refine(d2 _).mono ?_;rintro e w2 ⟨rfl,rfl⟩;(go_wp2_with fail);refine(d1 _).mono ?_;rintro e w2 ⟨rfl,rfl⟩;clear c2 d2 d1;(go_wp2_with fail);go_roundw
   case rel=>exact⟨k+1,_,oM,by go_num,(show _=_ from d4.out),rfl,rfl,rfl,rfl,rfl,rfl,rfl,rfl,c5⟩
   case measure=>exact sZ
  ·have I:k=64:=oM;have G:lO ws s 64=z:=I ▸ hz.out;have Hz:=dH G;clear G I;have r:=(j.block g oM sI).trans hgd;have e6:Below w.heap.size w wr:=X.trans (j.below X.size sI);clear hz hk a0 a2 hgd;have d6:Below w.heap.size w wr:=e6;clear j X;go_upto_region 10 with fail
   have e4:g<wr.heap.size:=(aG r).1;obtain⟨V2,a7⟩:∃V2,V2=wr:=⟨wr,rfl⟩
   have f1:=dH (show[z.a,z.b,z.c,z.d,z.e,z.f,z.g,z.h]=z.l from rfl);go_loopw [16,17,124] (λ_ _ n wr=>∃k:Nat,k<=8/\n=.int .i64 k/\wr.heap[g]?=some (.cells (wsC ((fY s z).l.take k++s.l.drop k)++R) T (0,0))/\z9 [g] V2 wr) (λ_ _ n _=>8-(intOf n).toNat)
   case atStart=>exact⟨0,oM,rfl,(by rw[r];rfl),by rw[a7];exact z9.refl _ _⟩
   case round =>
    clear r;obtain⟨k,hk,rfl,r,j⟩:=hrel;by_cases m:k<8
    ·have a3:((fY s z).l.take k++s.l.drop k).length=8:=by simp[StU.l_len];omega
     have y0:=app_cell r (k:=k) (by rw[a3];exact m);rw[mix_get (L:=(fY s z).l) (M:=s.l) rfl m]at y0;have y1:(wsC [z.a,z.b,z.c,z.d,z.e,z.f,z.g,z.h])[k]?=some (.int .u32 (nU (z.l.getD k 0))):=dY z.l m;have y:=app_set ((fY s z).l.take k++s.l.drop k) R k (by rw[a3];exact m) ((fY s z).l.getD k 0);rw[mix_set (L:=(fY s z).l) (M:=s.l) rfl m]at y;have Z:=zip_get (s:=s) (t:=z) m;obtain⟨c1,a6⟩:=eX (s.l.getD k 0)
     obtain⟨c2,a5⟩:=eX (z.l.getD k 0)
     rw[a6,a5]at Z;rw[a6]at y0;rw[a5]at y1;rw[<-Z]at y;have N:=dH y;have e3:(Instr.index 171 (.agg #[.int .u32 (nU z.a),.int .u32 (nU z.b),.int .u32 (nU z.c),.int .u32 (nU z.d),.int .u32 (nU z.e),.int .u32 (nU z.f),.int .u32 (nU z.g),.int .u32 (nU z.h)]) (.int .i64 k)).run prog wr=.ok (.int .u32 (nU c2)) wr:=index_w (t:=171) underlying171 m y1 wr;clear y Z a6 a5 a3;go_upto_region 12 with fail
     refine kF ([]:List Nat) wr ?_;intro H hS;have b0:=zG y0 B;have hgd:wr.drew.heap[g]?=some (.cells (wsC ((fY s z).l.take k++s.l.drop k)++R) T (0,0)):=r;have x9:wr.drew.cell? ⟨g,k,none⟩=some (.int .u32 (nU c1)):=y0;have f9:wr.drew.frozen? ⟨g,k,none⟩=false:=by simp[frozen?,hgd]
     refine lZ ?_;refine j3 ?_ ?_;(focus(simp only[yO];done));intro K hK;go_simp;refine hK _ _ ?_;clear hK K;have c9:=zF hgd k (.int .u32 (nU (c1+c2)));rw[N.out]at c9;have e2:z9 [g] V2 (wr.drew.setCell ⟨g,k,none⟩ (.int .u32 (nU (c1+c2)))):=z9.trans (z9.trans j (z9.drew wr) sI) (z9.setCell wr.drew ⟨g,k,none⟩ _) sI;clear H hS x9 f9 r hgd j b0 y0 y1 e3 N;(go_wp2_with fail);go_roundw
     case rel=>exact⟨k+1,oM,by go_num,c9,e2⟩
     case measure=>exact sZ
    ·have c7:k=8:=oM;have e8:(fY s z).l.take k++s.l.drop k=(fY s z).l:=by rw[c7];rfl
     rw[e8,<-Hz.out]at r;have e7:=dH r;have e1:z9 [g] w wr:=z9.trans ((z9.of_below d6).mono (S':=[g]) sI) (by rw[<-a7];exact j) sI;clear r j e8 c7 a7;(go_wp2_with fail);go_end0;exact⟨rfl,e7.out,e1⟩
theorem eF(a:List UInt8):(yJ a).length=a.length:=length_map _
theorem bytesR_one(a:List UInt8):∀r∈yJ a,∀u∈r.toList,u.oneCell'=true:=by
 intro r hr u hu;simp[yJ]at hr;obtain⟨c,_,rfl⟩:=hr;simp[k9]at hu;subst hu;rfl
theorem bs0_u8(w:World):(Instr.buildSlice 128 0 #[]).run prog w=.ok (.slice (some ⟨w.heap.size,0,none⟩) 0 0) (w.alloc (.cells #[] 5)):=kR
theorem JI(w:World)(c:Int):(Instr.buildSlice 128 1 #[(0,.int .u8 c)]).run prog w=.ok (.slice (some ⟨w.heap.size,0,none⟩) 1 1) (w.alloc (.cells #[.int .u8 c] 5)):=kR
theorem KO(hn:n<=1000000)(hi:i<8):(sW n).take (i+1)=(sW n).take i ++ [UInt8.ofNat (n*8 / 2 ^ (8*(7-i)))]:=by
 have hl:i<(sW n).length:=by rw[tP];exact hi
 rw[take_add_one,getElem?_eq_getElem hl];congr 1
 simp[sW];rw[Nat.mod_eq_of_lt oM]
def VU:Value->Nat | .slice _ n _=>n | _=>0
theorem sha_end(w:World)(A:Option Addr)(m cap:Nat)(d:List UInt8)(h:SlW w A m cap 1 (yJ d))(N:Nat)(hN:N<=1000000)(hm:m=N % 64) :
  Calls prog 250 #[.slice A m cap,.int .i64 N] w λe w'=>∃A' cap',e=.returned (.slice A' (m+(wV N).length) cap')/\Own w' w.heap.size 5 1 A' (m+(wV N).length) cap' (yJ (d++wV N))/\Below w.heap.size w w':=by
 have I:d.length=m:=by have:=h.len;rwa [eF]at this
 have c3:m<64:=oM;have c8:=dH I;have Hm:=dH hm;have q0:=bs0_u8 w;have U:Below w.heap.size w (w.alloc (.cells #[] 5)):=bA;have a9:=Own.empty w w.heap.size 5 1 lR;have a5:=h.rd.below U;clear I hm;go_enter func250,ntmps250
 go_wp2_with (at_builtin;first | (refine mF qX rfl a9 rfl a5 h.nil (bytesR_one _) oM oM sI ?_;intro A1 c6 w1 L b7 G;have q1:=JI w1 128;simp only[Nat.zero_add,nil_append]at L;have t:=L.kept (z9.alloc w1 (.cells #[.int .u8 128] 5)) sI;have s:zA (w1.alloc (.cells #[.int .u8 128] 5)) w1.heap.size 0 1=some (k9 128):=(by simp[go_sem,k9,yI]);have Z:Below w.heap.size w w1:=U.trans (b7.below sI (by simp[blk]));have f:=Z.size;clear a9) | (refine xN qX rfl t rfl s (by simp[k9,yI];rfl) oM oM sO ?_;intro A2 a2 w2 a8 b6 F))
 have b8:Below w.heap.size w w2:=Z.trans ((z9.trans ((z9.alloc w1 _).mono (S':=blk A1) sI) b6 iL).below f (λx hx=>(L.at_base hx).1));have b3:yJ d ++ [k9 128]=yJ (d ++ [128]):=by simp[yJ]
 rw[b3]at a8;have c2:=b8.size;clear L b7 G q1 t s Z f b6 F b3 q0 U a5;obtain⟨z,hz⟩:=eX ((119-N % 64) % 64)
 have Hz:=dH hz;have c1:z<64:=oM;have b0:m+1+z=56\/m+1+z=120:=oH Hm.out;have c0:=dH b0;clear hz b0;go_upto_region 2 with fail
 go_loopw [5] (λsv wr=>∃(j:Nat) (A3:Option Addr) (k:Nat),j<=z/\sv=.slice A3 (m+1+j) k/\Own wr w.heap.size 5 1 A3 (m+1+j) k (yJ (d++128 :: replicate j 0))/\Below w.heap.size w wr) (λsv _=>200-VU sv)
 case atStart=>exact⟨0,A2,a2,oM,rfl,a8,b8⟩
 case round =>
  obtain⟨j,A3,k,hj,rfl,ho,hb⟩:=hrel;obtain⟨ln,R⟩:=eX (m+1+j)
  rw[R]at ho |-;have J:=dH R;have d0:ln<=128:=oM;clear R;by_cases O:j<z
  ·have e1:((ln:Int) % (64:Int) != 56)=true:=by
    rw[bne_iff_ne];have:=c0.out;have:=J.out;omega
   have q1:=JI wr 0;have t:=ho.kept (z9.alloc wr (.cells #[.int .u8 0] 5)) sI;have s:zA (wr.alloc (.cells #[.int .u8 0] 5)) wr.heap.size 0 1=some (k9 0):=(by simp[go_sem,k9,yI])
   have f:=hb.size;go_wp2_with (at_builtin;refine xN qX rfl t rfl s (by simp[k9,yI];rfl) oM oM sO ?_;intro A4 a1 w4 a7 b5 E)
   have c5:Below w.heap.size w w4:=hb.trans ((z9.trans ((z9.alloc wr _).mono (S':=blk A3) sI) b5 iL).below f (λx hx=>(ho.at_base hx).1));have b2:yJ (d++128 :: replicate j 0) ++ [k9 0]=yJ (d++128 :: replicate (j+1) 0):=by
    rw[replicate_succ'];simp[yJ]
   rw[b2]at a7;clear b2 b5 E t s q1 ho f hb;go_roundw
   case rel=>exact⟨j+1,A4,a1,oM,(by rw[<-J.out,Nat.add_assoc]),(by rw[show m+1+(j+1)=ln+1 by have:=J.out;omega];exact a7),c5⟩
   case measure=>simp[VU];omega
  ·have X:j=z:=oM;have e1:((ln:Int) % (64:Int) != 56)=false:=by
    rw[bne_eq_false_iff_eq];have:=c0.out;have:=J.out;omega
   have a4:d++128 :: replicate j 0=d++128 :: replicate z 0:=by rw[X]
   rw[a4]at ho;have H:m+1+z=ln:=by rw[<-J.out,X]
   have a3:=dH H;obtain⟨D,hD⟩:=eX (d++128 :: replicate z 0)
   rw[hD]at ho;have HD:=dH hD;obtain⟨V,hV⟩:∃V,V=wr:=⟨wr,rfl⟩
   clear X H a4 hD hj O;go_upto_region 6 with fail
   go_loopw [5,7,23] (λsv _ iv wr=>∃(i:Nat) (A5:Option Addr) (g:Nat),i<=8/\iv=.int .i64 i/\sv=.slice A5 (ln+i) g/\Own wr w.heap.size 5 1 A5 (ln+i) g (yJ (D++(sW N).take i))/\Below w.heap.size w wr) (λ_ _ iv _=>8-(intOf iv).toNat)
   case atStart=>exact⟨0,A3,k,oM,rfl,rfl,(by rw[take_zero,append_nil];exact ho),hb⟩
   case round =>
    clear ho hb;obtain⟨i,A5,g,hi,rfl,rfl,ho,hb⟩:=hrel;by_cases O:i<8
    ·obtain⟨c,hc⟩:=eX (UInt8.ofNat (N*8 / 2 ^ (8*(7-i))))
     have M:=KO hN O;rw[hc]at M;obtain⟨r,hr⟩:∃r:Nat,7-i=r:=⟨_,rfl⟩
     have er:7-(i:Int)=(r:Int):=oM;have c9:r<8:=oM;have eb:(N:Int)*(8:Int) / 2 ^ (8*r) % (256:Int)=((c.toNat:Nat):Int):=by
      rw[<-hc,hr];have h3:((N*8 / 2 ^ (8*r):Nat):Int)=(N:Int)*(8:Int) / 2 ^ (8*r):=sI;rw[<-h3]
      simp
     have q1:=JI wr ((c.toNat:Nat):Int);have s:zA (wr.alloc (.cells #[.int .u8 ((c.toNat:Nat):Int)] 5)) wr.heap.size 0 1=some (k9 c):=(by simp[go_sem,k9,yI])
     have t:=ho.kept (z9.alloc wr (.cells #[.int .u8 ((c.toNat:Nat):Int)] 5)) sI;have f:=hb.size;have b9:=dH M;clear hc hr M;go_wp2_with (at_builtin;refine xN qX rfl t rfl s (by simp[k9,yI];rfl) oM oM sO ?_;intro A6 a0 w6 a6 b4 B)
     have c4:Below w.heap.size w w6:=hb.trans ((z9.trans ((z9.alloc wr _).mono (S':=blk A5) sI) b4 iL).below f (λx hx=>(ho.at_base hx).1));have b1:yJ (D++(sW N).take i) ++ [k9 c]=yJ (D++(sW N).take (i+1)):=by rw[b9.out];simp[yJ]
     rw[b1]at a6;clear b1 b4 B t s q1 ho f hb b9 eb er;(go_wp2_with fail);go_roundw
     case rel=>exact⟨i+1,A6,a0,oM,by go_num,rfl,a6,c4⟩
     case measure=>exact sZ
    ·have Y:i=8:=oM;have y:D++(sW N).take i=d++wV N:=by
      rw[Y,take_of_length_le (by rw[tP];omega),<-HD.out];unfold wV;rw[Hz.out];simp
     rw[y]at ho;have T:ln+i=m+(wV N).length:=by rw[pB,Hz.out,Y];have:=a3.out;omega
     rw[T]at ho;have Ho:=dH ho;have c7:=dH T;clear T y ho Y;(go_wp2_with fail);go_ret;exact⟨A5,g,by rw[c7.out];rfl,Ho.out,hb⟩
theorem aU:(prog.info? 171).map (·.size)=some 8:=kR
@[go_sem ↓] theorem zeroA8_run(w:World):(zeroValue 171).run prog w=.ok (.agg (wsC (zU 8))) w:=by
 have h:(prog.info? 171).bind (·.zero)=some (.agg (wsC (zU 8))):=kR;cases hi:prog.info? 171 with
 | none=>rw[hi]at h;cases h
 | some i =>
  rw[hi]at h;have hz:i.zero=some (.agg (wsC (zU 8))):=h;simp[zeroValue,typeInfo,hi,hz]
@[go_sem ↓] theorem loadA8_rw(a:Addr):loadVar 171 a=ldS 171 a:=rfl
@[go_sem ↓] theorem storeA8_rw(a:Addr)(v:Value):storeVar 171 a v=stS 171 a v:=rfl
@[go_sem] theorem loadA8_run(w:World)(g o:Nat):(ldS 171 ⟨g,o,none⟩).run prog w=match zA w g o 8 with | some cs=>.ok (.agg cs) w | none=>(loadVar 171 ⟨g,o,none⟩).run prog w :=
 jK underlying171 rfl aU w g o
@[go_sem] theorem nV(w:World)(g:Nat)(hg:g=w.heap.size)(z:Array Value)(hz:z.size=8)(L:List UInt32)(hL:L.length=8)(e:TypeId):(stS 171 ⟨g,0,none⟩ (.agg (wsC L))).run prog (w.alloc (.cells z e))=.ok () (w.alloc (.cells (wsC L) e)) :=
 hg ▸ xZ aU w z (wsC L) hz ((bJ L).trans hL) (r6 L)
theorem zl(hk:0<k)(hs:cs.size=k)(h:∀j,j<k->w.cell? ⟨g,j,none⟩=cs[j]?):zA w g 0 k=some cs:=by
 have h0:=h (k-1) oM;rw[Array.getElem?_eq_getElem oM]at h0;unfold zA;cases hg:w.heap[g]? with
 | none=>simp[cell?,hg]at h0
 | some ob =>
  cases ob with
  | cells c T fr =>
   have hc:∀j,j<k->c[j]?=cs[j]?:=λj hj=>(by rw[<-h j hj,cell_of_row w g j _ _ _ hg]);have h1:=hc (k-1) oM;rw[Array.getElem?_eq_getElem (xs:=cs) oM]at h1;have d:k<=c.size:=oH ((aG h1).1);simp only[Nat.zero_add];rw[if_pos d];congr 1
   apply Array.ext
   ·simp;omega
   ·intro j h2 h3;have:=hc j oM;rw[Array.getElem?_eq_getElem oM,Array.getElem?_eq_getElem oM]at this;simpa using Option.some.inj this
  | _=>simp[cell?,hg]at h0
theorem xY.row(h:xY w):zA w 0 0 8=some (wsC hU):=by
 refine zl oM (by simp[hU]) λj hj=>?_;rw[h.first j hj,dY hU (by simpa[hU]using hj)]
theorem buildHash(w:World):(Instr.build 331 #[(0,.agg (wsC hU)),(3,.bool true)]).run prog w=.ok (.agg (wsC q8.l ++ #[.slice none 0 0,.int .i64 0,.bool true])) w:=kR
abbrev haC(s:StU)(r:Value)(n:Int):Array Value:=wsC s.l ++ #[r,.int .i64 n,.bool true]
theorem YA{n:Int}(h:w.heap[g]?=some (.cells (haC s r n) T (0,0))) :
  w.cell? ⟨g,8,none⟩=some r/\w.cell? ⟨g,9,none⟩=some (.int .i64 n)/\w.cell? ⟨g,10,none⟩=some (.bool true)/\∀j,w.frozen? ⟨g,j,none⟩=false:=by
 have e:(wsC s.l).size=8:=by rw[bJ];rfl
 refine⟨?_,?_,?_,λj=>by simp[frozen?,h]⟩ <;> rw[cell_of_row w g _ _ _ _ h,Array.getElem?_append_right oM,e] <;> rfl
theorem ka(s:StU)(r r':Value)(n:Int):(haC s r n).setIfInBounds 8 r'=haC s r' n:=by
 apply Array.ext';simp[StU.l,wsC]
theorem haC_set9(s:StU)(r:Value)(n n':Int):(haC s r n).setIfInBounds 9 (.int .i64 n')=haC s r n':=by
 apply Array.ext';simp[StU.l,wsC]
theorem sha_new(w:World)(hv:xY w):Calls prog 176 #[] w λe w'=>e=.returned (.pointer (some ⟨w.heap.size,0,none⟩))/\w'=w.alloc (.cells (haC q8 (.slice none 0 0) 0) 331):=by
 have hr:=hv.row;have hb:=buildHash w;go_enter func176,ntmps176
 (go_wp2_with fail);go_ret;exact⟨rfl,rfl⟩
theorem qh(w:World)(g:Nat)(h:w.cell? ⟨g,10,none⟩=some (.bool true)):Calls prog 248 #[.pointer (some ⟨g,0,none⟩)] w λe w'=>e=.returned (.bool false)/\w=w':=by
 go_enter func248,ntmps248
 (go_wp2_with fail);go_ret;exact⟨rfl,rfl⟩
theorem VL{cv fb:Bool}{a:Act}{f:List Oper}{dst:Option Tmp}{sl x:Operand}{pos:String}{after:Array Edge}{U E:TypeId}{i:TypeInfo}(ht:P.underlying T=some (.slice E))(hu:P.underlying U=some .string)(hi:P.info? E=some i)(hz:i.zero=some (.int .u8 0))(g:i.size=1)(k:i.bytes=1)
  {B:Nat}{cap:Nat}{s:ByteArray}(hs:a.eval sl=.slice A n cap)(j:Own w B E 1 A n cap (yJ bs))(hx:a.eval x=.string s)(d:n+s.size<=140737488355328)(hB:B<=w.heap.size)
  (h:∀A' cap' w',Own w' B E 1 A' (n+s.size) cap' (yJ (bs++s.data.toList))->z9 (blk A) w w'->(∀x∈blk A',x∈blk A\/w.heap.size<=x)->S w'/\nQ P ops S cv fb Q f (a.put dst (.slice A' (n+s.size) cap')) w') :
  nQ P ops S cv fb Q ({ dst:=dst,op:=.call { callee:=.builtin .append,args:=#[sl,x],argTypes:=#[T,U] },type:=ty,pos:=pos,after:=after,guard:=none } :: f) a w:=by
 obtain⟨A',cap',w',hr,h1,h2,h3⟩:=JL ht hu hi hz g k j s d hB ty;obtain⟨k1,k2⟩:=h A' cap' w' h1 h2 h3;exact ZS hs hx hr k1 k2
theorem SlW.hi2{E:TypeId}{bytes:Nat}{cap:Nat}{L:List (Array Value)}(I:yR P T E k bytes)(h:SlW w A n cap k L)(hm:m<=n) :
  ∃A2 c2,(∀w0:World,(slS T (.slice A n cap) (some (.int .i64 m)) none none).run P w0=.ok (.slice A2 (n-m) c2) w0)/\(∀w':World,SlR w' A n k L->SlW w' A2 (n-m) c2 k (L.drop m)):=by
 have f:=h.le;refine⟨if cap=m then A else A.map λa=>a.add (m*k),cap-m,λw0=>?_,λw' hL=>⟨?_,oM,?_,?_⟩⟩
 ·rw[tJ I];unfold Instr.slice Instr.sliceBounds;simp only[Sem.run_bind,run_underlying I.und,Result.andThen_ok,Sem.run_pure,kD w0 m n hm,I.sizeOf_run w0,Option.isSome_none,Bool.false_eq_true,if_false]
 ·by_cases d:cap=m
  ·have:n-m=0:=oM;rw[this];exact⟨by rw[length_drop,hL.1];omega,λh=>absurd h oM⟩
  ·rw[if_neg d];cases A with
   | none=>exact absurd (h.nil rfl) oM
   | some a =>
    obtain⟨g,o,sp⟩:=a;have:sp=none:=h.plain _ rfl;subst this;have e:(⟨g,o,none⟩:Addr).add (m*k)=⟨g,o+m*k,none⟩:=by unfold Addr.add;split <;> simp_all
    simp only[Option.map_some,e];exact hL.drop_ hm
 ·intro e;by_cases d:cap=m
  ·omega
  ·rw[if_neg d]at e;cases A with
   | none=>have:=h.nil rfl;omega
   | some a=>cases e
 ·intro a e;by_cases d:cap=m
  ·rw[if_pos d]at e;exact h.plain _ e
  ·rw[if_neg d]at e;cases A with
   | none=>cases e
   | some a' =>
    have hp:=h.plain _ rfl;obtain⟨g,o,sp⟩:=a';simp only at hp;subst hp;simp only[Option.map_some]at e;injection e with e
    rw[<-e];unfold Addr.add;split <;> rfl
def iZ(w:World)(p:Addr):Nat:=match w.cell? p with | some (.slice _ n _)=>n | _=>0
@[go_sem ↓] theorem slU8_rw(x:Value)(lo hi mx:Option Value):Instr.sliceAt 128 x lo hi mx=slS 128 x lo hi mx:=rfl
@[go_sem] theorem slU8_nil(w:World):(slS 128 (.slice none 0 0) none (some (.int .i64 0)) (some (.int .i64 0))).run prog w=.ok (.slice none 0 0) w:=kR
theorem sha_write(w:World)(g:Nat)(T:TypeId)(st:StU)(s:ByteArray)(hv:xY w)(hg:w.heap[g]?=some (.cells (haC st (.slice none 0 0) 0) T (0,0)))(hs:s.size<=1000000)(d0:g≠0)(c7:g≠2) :
  Calls prog 177 #[.pointer (some ⟨g,0,none⟩),.string s] w λe w'=>e=.returned (.int .i64 s.size)/\∃A cap,w'.heap[g]?=some (.cells (haC (vE (s.size / 64) st s.data.toList) (.slice A (s.size % 64) cap) s.size) T (0,0))/\SlW w' A (s.size % 64) cap 1 (yJ (s.data.toList.drop (64*(s.size / 64))))/\z9 [g] w w':=by
 have d6:g<w.heap.size:=(aG hg).1;obtain⟨c8,c9,B,cf⟩:=YA hg;have f9:=cf 9;have cn:=qh w g B;obtain⟨l,hl⟩:=eX s.data.toList
 have b6:l.length=s.size:=by rw[<-hl];rfl
 rw[hl];have d9:=dH b6;have Hl:=dH hl;clear hl b6;go_enter func177,ntmps177
 (go_wp2_with fail);refine cn.mono ?_;rintro e w1 ⟨rfl,rfl⟩;clear cn;go_upto_region 4 with fail
 have D:=zF hg 9 (.int .i64 s.size);rw[haC_set9]at D;have R:=z9.setCell w ⟨g,9,none⟩ (.int .i64 s.size);obtain⟨W,hW⟩:=eR (w.setCell ⟨g,9,none⟩ (.int .i64 s.size))
 rw[<-hW]at D R |-;have a9:xY W:=hv.kept R sO sO;have d1:g<W.heap.size:=(aG D).1;clear hW hg c8 c9 B cf f9 hv;obtain⟨c8,c9,B,cf⟩:=YA D;obtain⟨i,i1,i2,i3,i4⟩:=byteInfo;have H:g∉([]:List Nat):=sI;refine kF ([]:List Nat) W ?_;intro a0 hS;have b0:=zG c8 H;refine lZ ?_;have ho:Own W.drew W.drew.heap.size 5 1 none 0 0 (yJ []):=Own.nil _ _ _ _;refine VL underlying128 underlying9 i1 i2 i3 i4 rfl ho rfl oM lR ?_;intro A' cap' w2 M c3 E;have J:z9 [] W w2:=z9.trans (z9.drew W) c3 (by simp[blk]);refine zI J (λd2=>?_);refine lZ ?_;have a5:=(J.block g d1 H).trans D;obtain⟨d8,_,_,df⟩:=YA a5;have f8:=df 8;refine j3 ?_ ?_;(focus(simp only[yO];done));intro K hK;go_simp;refine hK _ _ ?_;clear hK K;simp only[Nat.zero_add,nil_append]at M |-;have X:=zF a5 8 (.slice A' s.size cap');rw[ka]at X;have V:=z9.setCell w2 ⟨g,8,none⟩ (.slice A' s.size cap');have c5:∀x∈blk A',x≠g:=λx hx=>(by have:=(M.at_base hx).1;have:W.heap.size<=W.drew.heap.size:=lR;omega);have b8:z9 [g] w (w2.setCell ⟨g,8,none⟩ (.slice A' s.size cap')):=z9.trans (z9.trans R (J.mono (S':=[g]) sI) iL) V iL;have L:=(M.kept V (λx hx=>by simpa using c5 x hx)).slw;have b1:xY (w2.setCell ⟨g,8,none⟩ (.slice A' s.size cap')):=(a9.kept J sI sI).kept V sO sO;clear M ho c3 E hS a0 d2 b0 c8 c9 B cf d8 df f8 a5 V D R a9 H;obtain⟨Z,hZ⟩:=eR (w2.setCell ⟨g,8,none⟩ (.slice A' s.size cap'))
 rw[<-hZ]at X b8 L b1 |-;have d7:g<Z.heap.size:=(aG X).1;clear hZ J;rw[Hl.out]at L;go_upto_region 5 with fail
 go_loopw [] (λwr=>∃(k:Nat) (A3:Option Addr) (d:Nat),64*k<=s.size/\wr.heap[g]?=some (.cells (haC (vE k st l) (.slice A3 (s.size-64*k) d) s.size) T (0,0))/\SlW wr A3 (s.size-64*k) d 1 (yJ (l.drop (64*k)))/\Hid (∀w',SlR w' A' s.size 1 (yJ l)->SlR w' A3 (s.size-64*k) 1 (yJ (l.drop (64*k))))/\z9 [g] Z wr) (λwr=>iZ wr ⟨g,8,none⟩)
 case atStart=>exact⟨0,A',cap',oM,X,L,(show ∀w',_ from λw' h=>h),z9.refl _ _⟩
 case round =>
  obtain⟨k,A3,d,hk,j,f,G,N⟩:=hrel;obtain⟨c8,c9,B,cf⟩:=YA j;obtain⟨n,hn⟩:=eX (s.size-64*k)
  rw[hn]at j f c8 G;have Hn:=dH hn;have Hm:=dH (show iZ wr ⟨g,8,none⟩=n by unfold iZ;rw[c8]);have Y:xY wr:=b1.kept N sO sO;clear hn;by_cases a1:64<=n
  ·obtain⟨A4,c4,F,t⟩:=f.hi2 qX (m:=64) a1;have c6:∀w0:World,(slS 128 (.slice A3 n d) none (some (.int .i64 64)) none).run prog w0=.ok (.slice A3 64 d) w0:=λw0=>f.lo qX (m:=64) a1 w0;have b3:∀w0:World,(slS 128 (.slice A3 n d) (some (.int .i64 64)) none none).run prog w0=.ok (.slice A4 (n-64) c4) w0:=F;have I:bE wr A3 64 ((l.drop (64*k)).take 64):=by
    have h1:=f.rd.take_ (m:=64) a1;unfold yJ at h1;rw[<-map_take]at h1;exact h1
   have H:g∉([]:List Nat):=sI;have ct:=xo wr.drew g T (vE k st l) #[.slice A3 n d,.int .i64 s.size,.bool true] A3 d ((l.drop (64*k)).take 64) (Y.kept (z9.drew wr) sI sI) j (I.kept (z9.drew wr) sI) d0 c7;clear F I;go_upto_region 6 with fail
   refine kF ([]:List Nat) wr ?_;intro a0 hS;have b0:=zG c8 H;refine lZ ?_;refine j3 ?_ ?_;(focus(simp only[yO];done));intro K hK;go_simp;refine ct.mono ?_;rintro e w5 ⟨rfl,a4,c2⟩;refine⟨_,rfl,hK _ _ ?_⟩;clear hK K ct a0 hS b0 c9 B cf j c6;have b2:rS (vE k st l) ((l.drop (64*k)).take 64)=vE (k+1) st l:=(ZK k st l).symm;rw[b2]at a4;have y:w5.heap[g]?=some (.cells (haC (vE (k+1) st l) (.slice A3 n d) s.size) T (0,0)):=a4;have c0:z9 [g] wr w5:=z9.trans ((z9.drew wr).mono (S':=[g]) sI) c2 iL;obtain⟨c8,_,_,cf⟩:=YA y;have f8:=cf 8;have a3:=zF y 8 (.slice A4 (n-64) c4);rw[ka]at a3;have c1:=z9.setCell w5 ⟨g,8,none⟩ (.slice A4 (n-64) c4);have O:z9 [g] Z (w5.setCell ⟨g,8,none⟩ (.slice A4 (n-64) c4)):=z9.trans (z9.trans N c0 iL) c1 iL;have b7:=L.rd.kept O (λx hx=>by simpa using c5 x hx);have r:=t _ (G.out _ b7);have a6:(yJ (l.drop (64*k))).drop 64=yJ (l.drop (64*(k+1))):=by
    unfold yJ;rw[<-map_drop,drop_drop,(oM:64*k+64=64*(k+1))]
   rw[a6]at r;have U:Hid (∀w',SlR w' A' s.size 1 (yJ l)->SlR w' A4 (n-64) 1 (yJ (l.drop (64*(k+1))))):=(show ∀w',_->_ from λw' h=>by
    have:=(t w' (G.out w' h)).rd;rwa [a6]at this)
   have a7:=dH r;have d4:Hid (iZ (w5.setCell ⟨g,8,none⟩ (.slice A4 (n-64) c4)) ⟨g,8,none⟩=n-64):=by
    show _=_;obtain⟨e8,_⟩:=YA a3;unfold iZ;rw[e8]
   have b5:s.size-64*(k+1)=n-64:=oH Hn.out;have a8:=dH b5;have a2:64*(k+1)<=s.size:=oH Hn.out;clear b2 a4 y c0 c1 b7 r a6 b5 t f Y N G c2;(go_wp2_with fail);go_roundw
   case rel=>exact⟨k+1,A4,c4,a2,(by rw[a8.out];exact a3),(by rw[a8.out];exact a7.out),(by rw[a8.out];exact U),O⟩
   case measure=>rw[Hm.out,d4.out];omega
  ·have b9:k=s.size / 64:=oH Hn.out;have b4:n=s.size % 64:=oH Hn.out;have O:z9 [g] w wr:=z9.trans b8 N iL;rw[b4]at f j;rw[b9]at j f;have d5:=dH j;have d3:=dH f;clear b9 b4 j f G Y c9 B cf;(go_wp2_with fail);go_ret;exact⟨rfl,A3,d,d5.out,d3.out,O⟩
theorem vu{a b:List UInt8}{ha:a.length=32}{hb:b.length=32}(h:a=b):(⟨a,ha⟩:zB)=⟨b,hb⟩:=zB.ext' h
def V8(s:StU)(k:Nat):Array Value:=(((s.l.take k).flatMap b4U).map yI++replicate (32-4*k) (Value.int .u8 0)).toArray
theorem outA_zero(s:StU):V8 s 0=idC id0:=by unfold V8 idC id0;simp[yI]
theorem KE(s:StU):s.l.flatMap b4U=fP s:=by simp[StU.l,fP]
theorem outA_full(s:StU):V8 s 8=idC ⟨fP s,q7 s⟩:=by
 unfold V8 idC;rw[show s.l.take 8=s.l from rfl,KE];simp
theorem flat4(L:List UInt32):(L.flatMap b4U).length=4*L.length:=by
 induction L with
 | nil=>rfl
 | cons a L ih=>rw[flatMap_cons,length_append,ih,tB,length_cons];omega
theorem outA_size(s:StU)(hk:k<=8):(V8 s k).size=32:=by
 have h:=flat4 (s.l.take k);have h8:=s.l_len;simp only[V8,size_toArray,length_append,length_map,length_replicate,h,length_take];omega
theorem outA_set(s:StU)(hk:k<8)(x:UInt32)(hx:s.l.getD k 0=x) :
  ((((V8 s k).setIfInBounds (4*k) (yI (x >>> 24).toUInt8)).setIfInBounds (4*k+1) (yI (x >>> 16).toUInt8)).setIfInBounds (4*k+2) (yI (x >>> 8).toUInt8)).setIfInBounds (4*k+3) (yI x.toUInt8)=V8 s (k+1):=by
 have hL:k<s.l.length:=hk;have e1:s.l.take (k+1)=s.l.take k ++ [x]:=by
  rw[take_add_one,getElem?_eq_getElem hL,<-hx,getD_eq_getElem?_getD,getElem?_eq_getElem hL];rfl
 obtain⟨P,hP⟩:=eX (((s.l.take k).flatMap b4U).map yI)
 have d:P.length=4*k:=by rw[<-hP,length_map,flat4,length_take];have:=s.l_len;omega
 apply Array.ext';unfold V8;rw[e1,flatMap_append,map_append,hP];simp only[Array.toList_setIfInBounds];rw[(oM:32-4*k=(28-4*k)+1+1+1+1),(oM:32-4*(k+1)=28-4*k)];simp only[replicate_succ,flatMap_cons,flatMap_nil,append_nil,b4U,map_cons,map_nil,append_assoc];rw[<-d];simp[set_append]
theorem w24(x:UInt32):nU x / (16777216:Int) % (256:Int)=(((x >>> 24).toUInt8.toNat:Nat):Int):=by
 have h:=XH x 24 oM;rw[show((2:Int) ^ 24)=16777216 from rfl]at h;rw[h];simp[nU]
theorem w16(x:UInt32):nU x / (65536:Int) % (256:Int)=(((x >>> 16).toUInt8.toNat:Nat):Int):=by
 have h:=XH x 16 oM;rw[show((2:Int) ^ 16)=65536 from rfl]at h;rw[h];simp[nU]
theorem w8(x:UInt32):nU x / (256:Int) % (256:Int)=(((x >>> 8).toUInt8.toNat:Nat):Int):=by
 have h:=XH x 8 oM;rw[show((2:Int) ^ 8)=256 from rfl]at h;rw[h];simp[nU]
theorem w0(x:UInt32):nU x % (256:Int)=((x.toUInt8.toNat:Nat):Int):=by
 simp[nU]
theorem haC_row{n:Int}(h:w.heap[g]?=some (.cells (haC s r n) T (0,0))):zA w g 0 8=some (wsC s.l):=by
 unfold zA;rw[h];have e:(wsC s.l).size=8:=by rw[bJ];rfl
 simp only[Nat.zero_add];rw[if_pos (by simp[e])];rw[<-e];simp
theorem sha_sumH(w:World)(g:Nat)(T:TypeId)(s:StU)(A:Option Addr)(m cap N:Nat)(B:List UInt8)(hv:xY w)(hg:w.heap[g]?=some (.cells (haC s (.slice A m cap) N) T (0,0)))(h:SlW w A m cap 1 (yJ B))(hN:N<=1000000)(hm:m=N % 64) :
  Calls prog 178 #[.pointer (some ⟨g,0,none⟩)] w λe w'=>e=.returned (.agg (idC ⟨fP (vE ((m+(wV N).length) / 64) s (B++wV N)),q7 _⟩))/\Below w.heap.size w w':=by
 have e1:g<w.heap.size:=(aG hg).1;have G:Below w.heap.size w (w.alloc (.cells (idC id0) 31)):=bA;have e6:=(G.block g e1).trans hg;obtain⟨c8,c9,d1,cf⟩:=YA e6;have r:=haC_row e6;have cn:=qh _ g d1;have hid:=heap_alloc_new w (.cells (idC id0) 31);have h0:=hv.below G;have d4:=h.below G;have c6:=BY (w.alloc (.cells (idC id0) 31)) (w.heap.size+1) sI (wsC (zU 8)) (by simp[gB]) s.l s.l_len 329;have y:Below w.heap.size w ((w.alloc (.cells (idC id0) 31)).alloc (.cells (wsC s.l) 329)):=G.alloc sI _;have U:=heap_alloc_new (w.alloc (.cells (idC id0) 31)) (.cells (wsC s.l) 329);rw[(sI:(w.alloc (.cells (idC id0) 31)).heap.size=w.heap.size+1)]at U;have E:((w.alloc (.cells (idC id0) 31)).alloc (.cells (wsC s.l) 329)).heap[w.heap.size]?=some (.cells (idC id0) 31 (0,0)):=by
  rw[Below.heap_alloc _ _ _ sI];exact hid
 have d3:=hv.below y;have L:=h.below y;have e5:=(y.block g e1).trans hg;have d8:=hv.ltF;have d7:=hv.ltK;obtain⟨M,hM⟩:=eX (m+(wV N).length)
 have b9:M % 64=0:=by rw[<-hM,hm];have:=Q7 N;omega
 obtain⟨l,hl⟩:=eX (B++wV N)
 rw[hM,hl];clear h hv hg h0 d4;go_enter func178,ntmps178
 (go_wp2_with fail);refine cn.mono ?_;rintro e w1 ⟨rfl,rfl⟩;clear cn;go_upto_region 4 with fail
 obtain⟨ga,e3⟩:=eX w.heap.size
 have g9:=dH e3;obtain⟨W,hW⟩:=eR ((w.alloc (.cells (idC id0) 31)).alloc (.cells (wsC s.l) 329))
 rw[<-hW]at y U E d3 L e5 |-;rw[e3]at e1 U E d8 d7 |-;have e2:ga+1<W.heap.size:=(aG U).1;clear G e6 c8 c9 d1 cf r hid c6 hW e3;obtain⟨c8,c9,d1,cf⟩:=YA e5;have ce:=sha_end W.drew A m cap B (L.kept (z9.drew W) sI) N hN hm;rw[hM,hl]at ce;have c5:=dH b9;have d6:g∉([]:List Nat):=sI;have Hm:=dH hm;clear hM hl b9 hm;refine kX ([]:List Nat) W ?_;intro h6 hS;have b0:=zG c8 d6;have b1:=zG c9 d6;refine lQ ?_;intro K hK;refine ce.mono ?_;rintro e w2 ⟨A',cap',rfl,ho,a0⟩;replace hS:=bW hS a0;refine⟨_,rfl,hS,hK _ _ ?_⟩;clear hK K;refine lZ ?_;refine zD ?_;intro hS;have a1:z9 [] W w2:=hS;have i0:∀x∈blk A',x≠ga+1:=λx hx=>(by have:=(ho.at_base hx).1;have:W.heap.size<=W.drew.heap.size:=lR;omega);have J:=ho.slw;have a5:w2.heap[ga+1]?=some (.cells (wsC s.l ++ #[]) 329 (0,0)):=by rw[a1.block (ga+1) e2 sI,U];simp
 have a8:=(a1.block ga oM sI).trans E;have f9:=d3.kept a1 sI sI;have Y:Below w.heap.size w w2:=y.trans (a1.below y.size sI);have e4:ga+1<w2.heap.size:=oH a1.size;clear ho ce h6 hS a0 b0 b1 c8 c9 d1 cf e5 L d3 E U y d6 a1;go_upto_region 5 with fail
 go_loopw [4] (λsv wr=>∃(k:Nat) (A3:Option Addr) (d:Nat),64*k<=M/\sv=.slice A3 (M-64*k) d/\wr.heap[ga+1]?=some (.cells (wsC (vE k s l).l ++ #[]) 329 (0,0))/\SlW wr A3 (M-64*k) d 1 (yJ (l.drop (64*k)))/\Hid (∀w',SlR w' A' M 1 (yJ l)->SlR w' A3 (M-64*k) 1 (yJ (l.drop (64*k))))/\z9 [ga+1] w2 wr) (λsv _=>VU sv)
 case atStart=>exact⟨0,A',cap',oM,rfl,a5,J,(show ∀w',_ from λw' h=>h),z9.refl _ _⟩
 case round =>
  obtain⟨k,A3,d,hk,rfl,b4,Z,a4,f⟩:=hrel;obtain⟨n,hn⟩:=eX (M-64*k)
  rw[hn]at Z a4 |-;have Hn:=dH hn;have d2:xY wr:=f9.kept f sI sO;clear hn;by_cases c7:0<n
  ·have f5:64<=n:=by have:=Hn.out;have:=c5.out;omega
   obtain⟨A4,c4,a3,O⟩:=Z.hi2 qX (m:=64) f5;have h7:∀w0:World,(slS 128 (.slice A3 n d) none (some (.int .i64 64)) none).run prog w0=.ok (.slice A3 64 d) w0:=λw0=>Z.lo qX (m:=64) f5 w0;have g0:∀w0:World,(slS 128 (.slice A3 n d) (some (.int .i64 64)) none none).run prog w0=.ok (.slice A4 (n-64) c4) w0:=a3;have b7:bE wr A3 64 ((l.drop (64*k)).take 64):=by
    have h1:=Z.rd.take_ (m:=64) f5;unfold yJ at h1;rw[<-map_take]at h1;exact h1
   have ct:=xo wr (ga+1) 329 (vE k s l) #[] A3 d ((l.drop (64*k)).take 64) d2 b4 b7 (by show ga+1≠_;omega) (by show ga+1≠_;omega);have c6:rS (vE k s l) ((l.drop (64*k)).take 64)=vE (k+1) s l:=(ZK k s l).symm;rw[c6]at ct;clear a3 b7 c6 b4;(go_wp2_with fail);refine ct.mono ?_;rintro e w5 ⟨rfl,h9,g5⟩;have a6:z9 [ga+1] w2 w5:=z9.trans f g5 iL;have g2:=J.rd.kept a6 (λx hx=>by simpa using i0 x hx);have I:=O _ (a4.out _ g2);have e7:(yJ (l.drop (64*k))).drop 64=yJ (l.drop (64*(k+1))):=by
    unfold yJ;rw[<-map_drop,drop_drop,(oM:64*k+64=64*(k+1))]
   rw[e7]at I;have d5:Hid (∀w',SlR w' A' M 1 (yJ l)->SlR w' A4 (n-64) 1 (yJ (l.drop (64*(k+1))))):=(show ∀w',_->_ from λw' h=>by
    have:=(O w' (a4.out w' h)).rd;rwa [e7]at this)
   have a5:M-64*(k+1)=n-64:=oH Hn.out;have f7:=dH a5;have d9:64*(k+1)<=M:=oH Hn.out;have f6:=dH I;clear ct h7 g2 I e7 a5 O Z d2 f a4 g5;(go_wp2_with fail);go_roundw
   case rel=>exact⟨k+1,A4,c4,d9,(by rw[f7.out]),h9,(by rw[f7.out];exact f6.out),(by rw[f7.out];exact d5),a6⟩
   case measure=>simp[VU];omega
  ·have g4:k=M / 64:=by have:=Hn.out;have:=c5.out;omega
   obtain⟨F,hF⟩:=eX (vE (M / 64) s l)
   rw[g4,hF]at b4;have HF:=dH hF;have a9:wr.heap[ga+1]?=some (.cells (wsC F.l) 329 (0,0)):=by rw[b4];simp
   have r:zA wr (ga+1) 0 8=some (wsC F.l):=by unfold zA;rw[a9];simp[F.l_len]
   have a7:=(f.block ga oM sI).trans a8;have e9:Below w.heap.size w wr:=Y.trans (f.below Y.size (by simp;have:=g9.out;omega));have b6:ga+1<wr.heap.size:=oH f.size;have b5:=heap_alloc_new wr (.cells (idC id0) 31);have d0:Below w.heap.size w (wr.alloc (.cells (idC id0) 31)):=e9.alloc e9.size _;have R:=(Below.heap_alloc wr (.cells (idC id0) 31) ga oM).trans a7;have H:zA (wr.alloc (.cells (idC id0) 31)) (ga+1) 0 8=some (wsC F.l):=(zH (Below.heap_alloc wr (.cells (idC id0) 31) (ga+1) b6) _ _).trans r;clear hF b4 a9 Z a4 d2 f g4 r a7 e9 a5 J f9 a8 Y e4;go_upto_region 10 with fail
   obtain⟨gb,g7⟩:=eX wr.heap.size
   obtain⟨V,hV⟩:=eR (wr.alloc (.cells (idC id0) 31))
   rw[<-hV]at b5 d0 R H |-;rw[g7]at b5 b6 |-;have h8:gb<V.heap.size:=(aG b5).1;clear hV g7;go_loopw [6,7,34] (λ_ _ iv wr=>∃i:Nat,i<=8/\iv=.int .i64 i/\wr.heap[gb]?=some (.cells (V8 F i) 31 (0,0))/\z9 [gb] V wr) (λ_ _ iv _=>8-(intOf iv).toNat)
   case atStart=>exact⟨0,oM,rfl,(by rw[outA_zero];exact b5),z9.refl _ _⟩
   case round =>
    clear b5;obtain⟨i,hi,rfl,hc,f⟩:=hrel;by_cases c7:i<8
    ·obtain⟨m4,g1⟩:∃m4:Nat,4*i=m4:=⟨_,rfl⟩
     have em:4*(i:Int)=(m4:Int):=oM;have l0:(m4:Int)<32:=oM;have l1:0<=(m4:Int)+1/\(m4:Int)+1<32:=oM;have l2:0<=(m4:Int)+2/\(m4:Int)+2<32:=oM;have l3:0<=(m4:Int)+3/\(m4:Int)+3<32:=oM;have t2:((m4:Int)+2).toNat=m4+2:=oM;have t3:((m4:Int)+3).toNat=m4+3:=oM;obtain⟨x,hx⟩:=eX (F.l.getD i 0)
     have D:=outA_set F c7 x hx;have i1:=w24 x;have i2:=w16 x;have e8:=w8 x;have e0:=w0 x;rw[g1]at D;obtain⟨b0,G⟩:=eX ((x >>> 24).toUInt8)
     obtain⟨b1,y⟩:=eX ((x >>> 16).toUInt8)
     obtain⟨b2,a0⟩:=eX ((x >>> 8).toUInt8)
     obtain⟨b3,f4⟩:=eX x.toUInt8
     rw[G,y,a0,f4]at D;rw[G]at i1;rw[y]at i2;rw[a0]at e8;rw[f4]at e0;clear G y a0 f4;have y1:(wsC F.l)[i]?=some (.int .u32 (nU x)):=by rw[dY F.l c7,hx]
     have i4:=index_w (t:=329) underlying329 c7 y1 wr;have a2:=outA_size F hi;have h1:=zF hc m4 (yI b0);have h2:=zF h1 (m4+1) (yI b1);have h3:=zF h2 (m4+2) (yI b2);have h4:=zF h3 (m4+3) (yI b3);rw[D]at h4;have k1:=z9.setCell wr ⟨gb,m4,none⟩ (yI b0);have k2:=z9.setCell (wr.setCell ⟨gb,m4,none⟩ (yI b0)) ⟨gb,m4+1,none⟩ (yI b1);have k3:=z9.setCell ((wr.setCell ⟨gb,m4,none⟩ (yI b0)).setCell ⟨gb,m4+1,none⟩ (yI b1)) ⟨gb,m4+2,none⟩ (yI b2);have k4:=z9.setCell (((wr.setCell ⟨gb,m4,none⟩ (yI b0)).setCell ⟨gb,m4+1,none⟩ (yI b1)).setCell ⟨gb,m4+2,none⟩ (yI b2)) ⟨gb,m4+3,none⟩ (yI b3);have kk:=z9.trans (z9.trans (z9.trans (z9.trans f k1 iL) k2 iL) k3 iL) k4 iL;have b8:∀ {w':World} {c:Array Value} (_:w'.heap[gb]?=some (.cells c 31 (0,0))) (_:c.size=32) (j:Nat) (_:j<32),(∃v,w'.cell? ⟨gb,j,none⟩=some v)/\w'.frozen? ⟨gb,j,none⟩=false:=fun {w' c} h hs j hj=>⟨⟨c[j]'oM,by rw[cell_of_row w' gb j _ _ _ h,Array.getElem?_eq_getElem]⟩,by simp[frozen?,h]⟩;obtain⟨⟨v0,c0⟩,f0⟩:=b8 hc a2 m4 oM;obtain⟨⟨v1,c1⟩,f1⟩:=b8 h1 (by simp[a2]) (m4+1) oM;obtain⟨⟨v2,c2⟩,f2⟩:=b8 h2 (by simp[a2]) (m4+2) oM;obtain⟨⟨v3,c3⟩,f3⟩:=b8 h3 (by simp[a2]) (m4+3) oM;have H4:=dH h4;have Kk:=dH kk;clear D hx h1 h2 h3 h4 k1 k2 k3 k4 kk b8 a2 g1 f hc y1;unfold yI at c1 c2 c3 f1 f2 f3;(go_wp2_with fail);go_roundw
     case rel=>exact⟨i+1,oM,by go_num,H4.out,Kk.out⟩
     case measure=>exact sZ
    ·have g6:i=8:=oM;rw[g6,outA_full]at hc;have r:zA wr gb 0 32=some (idC ⟨fP F,q7 F⟩):=by unfold zA;rw[hc];simp
     have X:=(f.block ga oM sO).trans R;have h5:=y9 (P:=prog) xU wr ga (idC id0) (idC ⟨fP F,q7 F⟩) _ X sI sI (yN _);have f8:=dH (setRow_heap wr ga _ (idC ⟨fP F,q7 F⟩) _ _ X);have a6:z9 [ga] wr (wr.setRow ga (idC ⟨fP F,q7 F⟩)):=⟨rfl,rfl,rfl,by simp[setRow],λx _ hx=>setRow_other wr ga x _ (by simpa using hx)⟩
     have g3:=z9.trans (f.mono (S':=[ga,gb]) sI) (a6.mono (S':=[ga,gb]) sI) iL;have g8:Below w.heap.size w (wr.setRow ga (idC ⟨fP F,q7 F⟩)):=d0.trans (g3.below d0.size (by simp;have:=g9.out;omega));have i3:=dH g8;clear a6 g3 g8 X hc g6 f R d0 H;(go_wp2_with fail);exact bodyPost_ret (results_cell_row results178 _ _ ga 31 (idC ⟨fP F,q7 F⟩) (0,0) _ rfl f8.out underlying31 rfl (by rw[xQ];exact xU)) rfl ⟨by rw[HF.out],i3.out⟩
theorem sha_sum(w:World)(s:ByteArray)(hv:xY w)(hs:s.size<=1000000) :
  Calls prog 120 #[.string s] w λe w'=>e=.returned (.agg (idC (qM s.data.toList)))/\Below w.heap.size w w':=by
 have J:Below w.heap.size w (w.alloc (.cells (idC id0) 31)):=bA;have hid:=heap_alloc_new w (.cells (idC id0) 31);have E:=hv.below J;have c1:=sha_new _ E;have G:=hv.ltF;have F:=hv.ltK;have H:s.data.toList.length=s.size:=rfl;have t:(⟨fP (vE ((s.size % 64+(wV s.size).length) / 64) (vE (s.size / 64) q8 s.data.toList) (s.data.toList.drop (64*(s.size / 64))++wV s.size)),q7 _⟩:zB)=qM s.data.toList:=by
  unfold qM;apply vu;rw[shaU_parts,H,length_append,length_drop,H,(oM:s.size-64*(s.size / 64)=s.size % 64)]
 have f:=dH t;clear t H hv;obtain⟨ga,I⟩:=eX w.heap.size
 have X:=dH I;rw[(sI:(w.alloc (.cells (idC id0) 31)).heap.size=w.heap.size+1)]at c1;go_enter func120,ntmps120
 (go_wp2_with fail);refine c1.mono ?_;rintro e w1 ⟨rfl,rfl⟩;have j:=heap_alloc_new (w.alloc (.cells (idC id0) 31)) (.cells (haC q8 (.slice none 0 0) 0) 331);rw[(sI:(w.alloc (.cells (idC id0) 31)).heap.size=w.heap.size+1)]at j;have D:=J.alloc sI (.cells (haC q8 (.slice none 0 0) 0) 331);have d:=(Below.heap_alloc (w.alloc (.cells (idC id0) 31)) (.cells (haC q8 (.slice none 0 0) 0) 331) w.heap.size sI).trans hid;have y:xY ((w.alloc (.cells (idC id0) 31)).alloc (.cells (haC q8 (.slice none 0 0) 0) 331)):=E.kept (z9.alloc _ _) sI sI;obtain⟨W,hW⟩:=eR ((w.alloc (.cells (idC id0) 31)).alloc (.cells (haC q8 (.slice none 0 0) 0) 331))
 rw[<-hW]at j D d y |-;rw[I]at j D d G F |-;have U:ga+1<W.heap.size:=(aG j).1;have c2:=sha_write W (ga+1) 331 q8 s y j hs (by show ga+1≠_;omega) (by show ga+1≠_;omega);clear hW J hid E c1 I;(go_wp2_with fail);refine c2.mono ?_;rintro e w2 ⟨rfl,A,cap,N,k,m⟩;have r:=(m.block ga oM sI).trans d;have L:=y.kept m sI sO;have R:Below ga w w2:=D.trans (m.below oM sI);have c3:=sha_sumH w2 (ga+1) 331 _ A _ cap s.size _ L N k hs rfl;rw[f.out]at c3;have Z:=m.size;clear c2 j D d y N k m L f;(go_wp2_with fail);refine c3.mono ?_;rintro e w3 ⟨rfl,B⟩;have g:=(B.block ga oM).trans r;have T:=y9 (P:=prog) xU w3 ga (idC id0) (idC (qM s.data.toList)) _ g sI sI (yN _);have f:=dH (setRow_heap w3 ga _ (idC (qM s.data.toList)) _ _ g);have M:z9 [ga] w3 (w3.setRow ga (idC (qM s.data.toList))):=⟨rfl,rfl,rfl,by simp[setRow],λx _ hx=>setRow_other w3 ga x _ (by simpa using hx)⟩
 have V:=B.size;have O:Below ga w (w3.setRow ga (idC (qM s.data.toList))):=(R.trans (B.mono oM)).trans (M.below oM sI);have Y:=dH O;clear M O g r B R c3;(go_wp2_with fail);exact bodyPost_ret (results_cell_row results120 _ _ ga 31 (idC (qM s.data.toList)) (0,0) _ rfl f.out underlying31 rfl (by rw[xQ];exact xU)) rfl ⟨rfl,by rw[X.out];exact Y.out⟩
theorem idbox{d:zB}(h:w.heap[g]?=some (.cells (idC d) 31 (0,0)))(x:zB):∃w',(stS 31 ⟨g,0,none⟩ (.agg (idC x))).run prog w=.ok () w'/\w'.heap[g]?=some (.cells (idC x) 31 (0,0))/\z9 [g] w w' :=
 ⟨_,y9 (P:=prog) xU w g (idC d) (idC x) _ h sI sI (yN _),setRow_heap w g _ (idC x) _ _ h,⟨rfl,rfl,rfl,by simp[setRow],λy _ hy=>setRow_other w g y _ (by simpa using hy)⟩⟩
theorem empty_size(s:ByteArray):s.toList.isEmpty=decide (s.size=0):=by
 rw[ByteArray.toList_eq];show s.data.toList.isEmpty=decide (s.data.size=0);rw[<-Array.length_toList];cases s.data.toList <;> simp
theorem sto_check(s:ByteArray)(w:World)(hs:s.size<=9223372036854775807):Calls prog 119 #[.string s] w λe w'=>e=.returned (.int .i64 (sB s))/\w=w':=by
 obtain⟨E,hE⟩:=eX (sB s)
 rw[hE];have he:=empty_size s;have HE:=dH (show E=if s.size=0 then 4 else if 512<s.size then 3 else 0 from hE.symm);clear hE;by_cases h0:s.size=0
 ·rw[decide_eq_true h0]at he;have HX:Hid (E=4):=(show _=_ by rw[HE.out,if_pos h0])
  clear h0;go_enter func119,ntmps119
  (go_wp2_with fail);go_ret;exact⟨yA HX.out.symm,rfl⟩
 ·rw[decide_eq_false h0]at he;by_cases h1:512<s.size
  ·have hl:(512:Int)<(s.size:Int):=oM;have HX:Hid (E=3):=(show _=_ by rw[HE.out,if_neg h0,if_pos h1])
   clear h0 h1;go_enter func119,ntmps119
   (go_wp2_with fail);go_ret;exact⟨yA HX.out.symm,rfl⟩
  ·have hl:¬(512:Int)<(s.size:Int):=oM;have HX:Hid (E=0):=(show _=_ by rw[HE.out,if_neg h0,if_neg h1])
   clear h0 h1;go_enter func119,ntmps119
   (go_wp2_with fail);go_ret;exact⟨yA HX.out.symm,rfl⟩
theorem sto_fits(w:World)(g:Nat)(q b n:Int)(h:w.cell? ⟨g,1,none⟩=some (.int .i64 q))(hr:IntKind.i64.wrap (q-b)=q-b):Calls prog 121 #[.pointer (some ⟨g,0,none⟩),.int .i64 b,.int .i64 n] w λe w'=>e=.returned (.bool (decide (n<=q-b)))/\Below w.heap.size w w':=by
 obtain⟨bb,d⟩:=eX (decide (n<=q-b))
 rw[d];have Hb:=dH d;go_enter func121,ntmps121
 (go_wp2_with fail);go_ret;exact⟨rfl,Below.refl _ _⟩
theorem sto_put(w:World)(g:Nat)(F:List Nat)(q:Int)(S:List Pay)(s:ByteArray)(h:v4 w g F q S)(hv:xY w)(hs:s.size<=1000000)(hq:0<=q/\q<=1000000)(n0:xK S<=1000000) :
  Calls prog 70 #[.pointer (some ⟨g,0,none⟩),.string s] w λe w'=>e=.returned (.tuple #[.agg (idC (if sQ S q s=0 then qM s.data.toList else id0)),.int .i64 (sQ S q s)])/\(∃F',v4 w' g F' q (lV S q s)/\∀x∈F',x∈F\/w.heap.size<=x)/\z9 F w w':=by
 obtain⟨E,hE⟩:=eX (sQ S q s)
 obtain⟨I,hI⟩:∃I,(if E=0 then qM s.data.toList else id0)=I:=⟨_,rfl⟩
 obtain⟨T,hT⟩:=eX (lV S q s)
 rw[hE,hI,hT];obtain⟨C,hC⟩:=eX (qM s.data.toList)
 have D:E=if sB s≠0 then sB s else if C∈S.map (·.c)then 0 else if q-xK S<s.size then 14 else 0:=by rw[<-hE,<-hC];rfl
 have d0:T=if E=0/\C∉S.map (·.c)then S ++ [⟨C,s,false⟩]else S:=by rw[<-hT,<-hC,<-hE];rfl
 rw[hC]at hI;have hB:Below w.heap.size w (w.alloc (.cells (idC id0) 31)):=bA;have hid:=heap_alloc_new w (.cells (idC id0) 31);obtain⟨W,hW⟩:=eR (w.alloc (.cells (idC id0) 31))
 obtain⟨ga,c8⟩:=eX w.heap.size
 rw[<-hW]at hB hid;have f0:ga<W.heap.size:=by rw[hW,<-c8];simp
 have f5:=h.lt;have i7:=h.kept (z9.of_below hB) sI;have m4:=hv.below hB;obtain⟨l,b,Fl,N,e1,e2,e3,e4,⟨M,es,n2,hm,d7⟩,e6,e7,e8⟩:=h;have g6:g<w.heap.size:=(aG e3).1;have c9:=(hB.block g g6).trans e3;have c4:W.cell? ⟨g,4,none⟩=some (.map (some b)):=by rw[cell_of_row W g 4 _ _ _ c9];rfl
 have cn:=XM W g b c4;have cc:=sto_check s W oM;rw[c8]at hid hB g6 f5 |-;obtain⟨E1,g9⟩:=eX (sB s)
 rw[g9]at D cc;have HW:=dH hW;have G:=dH c8;have H0:=dH (show v4 w g F q S from⟨l,b,Fl,N,e1,e2,e3,e4,⟨M,es,n2,hm,d7⟩,e6,e7,e8⟩);by_cases a8:E1=0
 ·rw[if_neg (by simpa using a8)]at D;have m9:(E1 != 0)=false:=by rw[bne_eq_false_iff_eq];exact a8
  have cs:=sha_sum W s m4 hs;rw[hC]at cs;by_cases b5:C∈S.map (·.c)
  ·rw[if_pos b5]at D;have O:T=S:=by rw[d0,if_neg (λh=>h.2 b5)]
   have a3:I=C:=by rw[<-hI,if_pos D]
   have a9:(jN S C).isSome=true:=by
    cases e:jN S C with
    | none=>exact absurd b5 (wH.1 e)
    | some p=>rfl
   have HI:=dH a3;have HE:=dH D;have HT:=dH O;have g0:=dH a9;clear hE hI hT D d0 hC i7 c9 e1 e2 e3 e4 hm d7 e6 e7 e8 a8 O a3 g9 f5 hW c8 b5 a9;go_enter func70,ntmps70
   (go_wp2_with fail);rw[<-HW.out,G.out];refine cn.mono ?_;rintro e w1 ⟨rfl,rfl⟩;(go_wp2_with fail);refine cc.mono ?_;rintro e w1 ⟨rfl,rfl⟩;(go_wp2_with fail);refine cs.mono ?_;rintro e w2 ⟨rfl,a7⟩;have a2:=(a7.block ga f0).trans hid;have f7:Below ga w w2:=hB.trans (a7.mono oM);have f4:ga<w2.heap.size:=oH a7.size;have V:Below w2.heap.size w2 (w2.alloc (.cells (idC C) 31)):=bA;have d:zA (w2.alloc (.cells (idC C) 31)) w2.heap.size 0 32=some (idC C):=by simp[go_sem]
   obtain⟨W3,b6⟩:=eR (w2.alloc (.cells (idC C) 31))
   rw[<-b6]at V d;have f6:Below ga w W3:=f7.trans (V.mono oM);have B:z9 [] w W3:=z9.of_below (by rw[G.out];exact f6);have A:=(V.block ga f4).trans a2;have ch:=BZ W3 g F q S C (H0.out.kept B sI);have j5:=dH b6;have i6:ga<W3.heap.size:=oH V.size;clear cs cn cc a7 a2 f7 hid hB b6 c4;(go_wp2_with fail);rw[<-j5.out];obtain⟨gc,c7⟩:=eX w2.heap.size
   rw[c7]at V d f4 |-;clear c7;refine ch.mono ?_;rintro e w4 ⟨rfl,a6⟩;rw[g0.out];have R:=(a6.block ga i6).trans A;have J:zA w4 gc 0 32=some (idC C):=((z9.of_below a6).row (zE d) sI _ _).trans d;obtain⟨w5,h5,t,a4⟩:=idbox R C;have Y:z9 [] w w5:=(z9.trans (z9.trans (B.mono (S':=[ga]) sI) ((z9.of_below a6).mono (S':=[ga]) sI) (λy hy=>.inl hy)) a4 (λy hy=>.inl hy)).narrow (λy hy=>by simp at hy;rw[G.out];omega);have HF:=dH (And.intro (show v4 w5 g F q T by rw[HT.out];exact H0.out.kept Y sI) (Y.mono (S':=F) sI));have j0:=dH t;clear Y t a4 R A a6 V f6 B ch d;(go_wp2_with fail);refine bodyPost_ret (yZ results70 _ _ ga 31 (idC C) (0,0) _ rfl j0.out underlying31 rfl (by rw[xQ];exact xU)) rfl ?_;exact⟨by rw[HI.out,HE.out];rfl,⟨F,HF.out.1,λ_ h=>.inl h⟩,HF.out.2⟩
  ·rw[if_neg b5]at D;have b0:(jN S C).isSome=false:=by rw[wH.2 b5];rfl
   obtain⟨B0,h0⟩:=eX (xK S)
   obtain⟨Z,hZ⟩:=eX s.size
   rw[h0,hZ]at D;rw[h0]at n0 c9;rw[hZ]at hs;have m3:IntKind.i64.wrap (q-(B0:Int))=q-(B0:Int):=IntWalk.i64_in _ oM;obtain⟨fb,k8⟩:=eX (decide ((Z:Int)<=q-(B0:Int)))
   have j2:=dH k8;have g1:=dH b0;have HZ:=dH hZ;have j8:=dH h0;have l9:=dH D;have l8:=dH d0;have HI:=dH hI;have j4:=dH b5;have H7:=dH e7;have H3:=dH e3;have Hm:=dH hm;have h3:=dH f5;have n8:=dH c9;have l5:=dH d7;have j3:=dH e6;have n4:=dH e4;have l6:=dH e1;have d6:=dH e2;have n3:=dH e8;clear hE hI hT D d0 hC i7 c9 e1 e2 e3 e4 hm d7 e6 e7 e8 a8 g9 f5 hW c8 b5 b0 h0 k8;go_enter func70,ntmps70
   (go_wp2_with fail);rw[<-HW.out,G.out];refine cn.mono ?_;rintro e w1 ⟨rfl,rfl⟩;(go_wp2_with fail);refine cc.mono ?_;rintro e w1 ⟨rfl,rfl⟩;(go_wp2_with fail);refine cs.mono ?_;rintro e w2 ⟨rfl,a7⟩;have a2:=(a7.block ga f0).trans hid;have f7:Below ga w w2:=hB.trans (a7.mono oM);have f4:ga<w2.heap.size:=oH a7.size;have V:Below w2.heap.size w2 (w2.alloc (.cells (idC C) 31)):=bA;have d:zA (w2.alloc (.cells (idC C) 31)) w2.heap.size 0 32=some (idC C):=by simp[go_sem]
   obtain⟨W3,b6⟩:=eR (w2.alloc (.cells (idC C) 31))
   rw[<-b6]at V d;have f6:Below ga w W3:=f7.trans (V.mono oM);have B:z9 [] w W3:=z9.of_below (by rw[G.out];exact f6);have A:=(V.block ga f4).trans a2;have ch:=BZ W3 g F q S C (H0.out.kept B sI);have j5:=dH b6;have i6:ga<W3.heap.size:=oH V.size;have i2:w2.heap.size<W3.heap.size:=by rw[b6];simp
   clear cs cn cc a7 a2 f7 hid hB b6 c4;(go_wp2_with fail);rw[<-j5.out];obtain⟨gc,c7⟩:=eX w2.heap.size
   rw[c7]at d i2 |-;have m8:ga<gc:=by rw[<-c7];exact f4
   clear c7;refine ch.mono ?_;rintro e w4 ⟨rfl,a6⟩;rw[g1.out];have R:=(a6.block ga i6).trans A;have J:zA w4 gc 0 32=some (idC C):=((z9.of_below a6).row (zE d) sI _ _).trans d;have i1:z9 [] w w4:=z9.trans B (z9.of_below a6) sI;have f3:ga<w4.heap.size:=(aG R).1;have h2:=(i1.block g (by rw[G.out];exact g6) sI).trans H3.out;rw[j8.out]at h2;have d2:w4.cell? ⟨g,2,none⟩=some (.int .i64 B0):=by rw[cell_of_row w4 g 2 _ _ _ h2];rfl
   have d1:w4.cell? ⟨g,1,none⟩=some (.int .i64 q):=by rw[cell_of_row w4 g 1 _ _ _ h2];rfl
   have cf:=sto_fits w4 g q B0 Z d1 m3;rw[j2.out]at cf;clear A a6 V f6 B ch d d1;(go_wp2_with fail);refine cf.mono ?_;rintro e w5 ⟨rfl,g7⟩;have t:=(g7.block ga f3).trans R;have j:zA w5 gc 0 32=some (idC C):=((z9.of_below g7).row (zE J) sI _ _).trans J;have a4:z9 [] w w5:=z9.trans i1 (z9.of_below g7) sI;have d5:=(a4.block g (by rw[G.out];exact g6) sI).trans H3.out;rw[j8.out]at d5;clear R J i1 h2 d2 cf g7 f3;cases fb with
   | false =>
    have g5:q-(B0:Int)<(Z:Int):=by have:=j2.out;simpa using this
    have m:E=14:=by rw[l9.out,if_pos g5]
    have a3:I=id0:=by rw[<-HI.out,if_neg (by rw[m];decide)]
    have O:T=S:=by rw[l8.out,if_neg (λh=>by rw[m]at h;exact absurd h.1 (by decide))]
    obtain⟨w6,h5,e5,c6⟩:=idbox t id0;have Y:z9 [] w w6:=(z9.trans (a4.mono (S':=[ga]) sI) c6 (λy hy=>.inl hy)).narrow (λy hy=>by simp at hy;rw[G.out];omega);have HF:=dH (And.intro (show v4 w6 g F q T by rw[O];exact H0.out.kept Y sI) (Y.mono (S':=F) sI));have i9:=dH e5;have j6:=dH a3;have j7:=dH m;clear g5 Y e5 c6 O a3 m t j a4 d5;(go_wp2_with fail);refine bodyPost_ret (yZ results70 _ _ ga 31 (idC id0) (0,0) _ rfl i9.out underlying31 rfl (by rw[xQ];exact xU)) rfl ?_;exact⟨by rw[j6.out,j7.out];rfl,⟨F,HF.out.1,λ_ h=>.inl h⟩,HF.out.2⟩
   | true =>
    have g5:(Z:Int)<=q-(B0:Int):=by have:=j2.out;simpa using this
    have m:E=0:=by rw[l9.out,if_neg oM]
    have a3:I=C:=by rw[<-HI.out,if_pos m]
    have O:T=S ++ [⟨C,s,false⟩]:=by rw[l8.out,if_pos ⟨m,j4.out⟩]
    have d4:w5.cell? ⟨g,4,none⟩=some (.map (some b)):=by rw[cell_of_row w5 g 4 _ _ _ d5];rfl
    have i3:g≠b:=λe=>(by have:=H3.out;rw[e,Hm.out.heap]at this;cases this);have n6:b<ga:=by rw[<-G.out];exact Hm.out.lt
    have i5:g∉[b]:=by simpa using i3
    have c0:gc∉[b]:=sO;obtain⟨x,hx⟩:=eX w5.heap.size
    have m2:w5.drew.heap.size=x:=hx;have k1:=Hm.out.kept a4 sI;obtain⟨W6,g8⟩:=eR ((w5.alloc (.cells (dU ⟨s,false⟩) 158)).drew)
    have c6:z9 [] w5 W6:=by rw[g8];exact z9.trans (z9.alloc w5 _) (z9.drew _) sI
    obtain⟨w7,l4,f9,h6,k3,i0⟩:=(k1.kept c6 sI).update jA underlying95 (k:=C) (v:=x) trivial;go_upto_region 11 with fail
    refine kX [b] w5 ?_;intro h7 hS;have b1:=zG d4 i5;have b2:=zY j c0;refine lQ ?_;intro K hK;rw[<-g8];have l7:=dH g8;clear g8;have i8:Kp [b] w5 W6:=c6.mono sI;refine⟨i8,hK _ _ ?_⟩;clear hK K hS;have hS:=i8;refine lQ ?_;intro K hK;refine zI (yC hS i0 sI) (λhS=>?_);refine hK _ _ ?_;clear hK K;refine zD ?_;intro hS;have a0:z9 [b] w5 w7:=hS;have i4:ga<w5.heap.size:=(aG t).1;have m1:ga<x:=oM;have m7:gc<x:=oH (zE j);have k7:g≠x:=oM;have k9:x≠b:=oM;have h4:w7.heap[x]?=some (.cells #[.string s,.bool false] 158 (0,0)):=by
     refine(i0.block x (by rw[l7.out];show x<(w5.alloc _).heap.size;simp;omega) (by simpa using k9)).trans ?_;rw[l7.out,<-hx];exact heap_alloc_new w5 _
    have b9:=(a0.block ga i4 sO).trans t;have X:zA w7 gc 0 32=some (idC C):=(a0.row (zE j) c0 _ _).trans j;have h1:=(a0.block g (aG d5).1 i5).trans d5;have d2:w7.cell? ⟨g,2,none⟩=some (.int .i64 B0):=by rw[cell_of_row w7 g 2 _ _ _ h1];rfl
    have f2:w7.frozen? ⟨g,2,none⟩=false:=by simp[frozen?,h1]
    have n5:IntKind.i64.wrap ((B0:Int)+(Z:Int))=(B0:Int)+(Z:Int):=IntWalk.i64_in _ oM;have b8:=z9.setCell w7 ⟨g,2,none⟩ (.int .i64 ((B0:Int)+(Z:Int)));have f8:=vT h1 2 (.int .i64 ((B0:Int)+(Z:Int)));have d8:yL w7 b idV fD vN (bS M C x) l4 f9:=k3;clear c6 k1 m2 hx h6 i0 i8 hS h7 b1 b2 d4 k3 d5 j t;go_upto_region 13 with fail
    obtain⟨W8,l2⟩:=eX (w7.setCell ⟨g,2,none⟩ (.int .i64 ((B0:Int)+(Z:Int))))
    rw[l2]at b8 f8 |-;clear l2 d2 f2;have b7:z9 [b,g] w W8:=z9.trans (z9.trans (a4.mono sI) (a0.mono (S':=[b,g]) sI) (λy hy=>.inl hy)) (b8.mono (S':=[b,g]) sI) (λy hy=>.inl hy);have l0:b∉[g]:=by simpa using λe:b=g=>i3 e.symm
    have k2:=d8.kept b8 l0;have g3:=(b8.block x (aG h4).1 (by simpa using λe:x=g=>k7 e.symm)).trans h4;have a1:=(b8.block ga (aG b9).1 sO).trans b9;have H:zA W8 gc 0 32=some (idC C):=(b8.row (zE X) sO _ _).trans X;have e0:W8.cell? ⟨g,0,none⟩=some (.pointer (some ⟨l,0,none⟩)):=by rw[cell_of_row W8 g 0 _ _ _ f8];rfl
    have d3:∀y∈Fl,y<ga:=λy hy=>h3.out y (by rw[d6.out];exact mem_cons_of_mem _ (mem_cons_of_mem _ (mem_append_left _ hy)));have c3:g∉Fl:=λh=>(H7.out g h).1 rfl;have c1:gc∉Fl:=λh=>(oH (d3 gc h));have f1:ga∉Fl:=λh=>(oH (d3 ga h));have j9:x∉Fl:=λh=>(oH (d3 x h));have l1:b∉Fl:=λh=>(H7.out b h).2.1 rfl;have c2:=lru_use W8.drew l Fl _ C ((n4.out.kept b7 (λy hy hm=>by
     rcases mem_cons.1 hm with e | hm
     ·exact(H7.out y hy).2.1 e
     ·exact(H7.out y hy).1 (by simpa using hm))).kept (z9.drew W8) (S:=[]) sI)
    clear a0 b8 d8 h4 b9 X h1;refine kX Fl W8 ?_;intro h7 hS;have b1:=zG e0 c3;have b2:=zY H c1;refine lQ ?_;intro K hK;refine c2.mono ?_;rintro e w9 ⟨rfl,⟨m0,k4,g4⟩,k5⟩;replace hS:=yC hS k5 (λy hy=>.inl hy);refine⟨_,rfl,hS,hK _ _ ?_⟩;clear hK K;refine lZ ?_;refine zD ?_;intro hS;have U:z9 Fl W8 w9:=hS;have d9:=(U.block ga (aG a1).1 f1).trans a1;have k0:zA w9 gc 0 32=some (idC C):=(U.row (zE H) c1 _ _).trans H;obtain⟨g2,h5,b3,a5⟩:=idbox d9 C;have h8:z9 ([b,g]++Fl ++ [ga]) w g2:=z9.trans (z9.trans (b7.mono λy hy=>.inl (by simp at hy |-;omega)) (U.mono λy hy=>.inl (by simp[hy])) (λy hy=>.inl hy)) (a5.mono λy hy=>.inl (by simp at hy |-;omega)) (λy hy=>.inl hy);have b4:∀y∈F,y≠ga:=λy hy=>(oH (h3.out y hy));have L:z9 (Fl ++ [ga]) W8 g2:=z9.trans (U.mono λy hy=>.inl (by simp[hy])) (a5.mono λy hy=>.inl (by simp at hy |-;omega)) (λy hy=>.inl hy);have c5:(∃F',v4 g2 g F' q T/\∀y∈F',y∈F\/w.heap.size<=y)/\z9 F w g2:=by
     refine⟨⟨g :: b :: (m0++(N ++ [((⟨C,s,false⟩:Pay),x)]).map (·.2)),⟨l,b,m0,N ++ [((⟨C,s,false⟩:Pay),x)],?_,rfl,?_,?_,⟨_,l4,f9,k2.kept L ?_,?_⟩,?_,?_,?_⟩,?_⟩,?_⟩
     ·rw[O,map_append,l6.out];rfl
     ·have h9:=(L.block g (aG f8).1 (by simp;exact⟨c3,oM⟩)).trans f8;have e9:((B0:Int)+(Z:Int))=((xK T:Nat):Int):=by rw[O,JH,j8.out,<-HZ.out];push_cast;rfl
      have e8:qY T=qY S:=by rw[O];unfold qY;rw[filter_append];simp
      rw[h9,e9,e8];rfl
     ·have e9:T.map (·.c)=rL (S.map (·.c)) C ++ [C]:=by rw[O,map_append,iB j4.out];rfl
      rw[e9];exact k4.kept a5 λy hy hm=>by
       have e:y=ga:=by simpa using hm
       rcases g4 y hy with h | h
       ·have:=d3 y h;omega
       ·have n7:=(aG a1).1;have l3:W8.heap.size<=y:=h;omega
     ·simp;exact⟨l1,oM⟩
     ·have hn:C∉M.map (·.1):=by
       intro h;have h9:=(l5.out.map (·.1)).mem_iff.1 h;rw[map_map]at h9;exact j4.out (by rw[<-l6.out,map_map];exact h9)
      unfold bS;rw[if_neg hn,map_append];exact Perm.append_right _ l5.out
     ·intro r hr;rcases mem_append.1 hr with hr | hr
      ·have m5:r.2∈F:=by rw[d6.out];exact mem_cons_of_mem _ (mem_cons_of_mem _ (mem_append_right _ (mem_map_of_mem (f:=(·.2)) hr)))
       refine(j3.out r hr).kept h8 λhm=>?_;simp only[mem_append,mem_cons,not_mem_nil,or_false]at hm;rcases hm with((h | h) | h) | h
       ·have h9:=(j3.out r hr).heap;rw[h,Hm.out.heap]at h9;cases h9
       ·have h9:=(j3.out r hr).heap;rw[h,H3.out]at h9;injection h9 with h9;injection h9 with h9 _ _
        have:=congrArg Array.size h9;simp at this
       ·exact(H7.out _ h).2.2 (mem_map_of_mem (f:=(·.2)) hr)
       ·exact b4 _ m5 h
      ·have e:r=(⟨C,s,false⟩,x):=by simpa using hr
       subst e;exact⟨(L.block x (aG g3).1 (by simp;exact⟨j9,oM⟩)).trans g3⟩
     ·intro y hy;rcases g4 y hy with h | h
      ·have:=d3 y h;refine⟨(H7.out y h).1,(H7.out y h).2.1,λhm=>?_⟩;rw[map_append]at hm;rcases mem_append.1 hm with hm | hm
       ·exact(H7.out y h).2.2 hm
       ·have e:y=x:=by simpa using hm
        omega
      ·have l3:W8.heap.size<=y:=h;have n1:=(aG g3).1;refine⟨oM,oM,λhm=>?_⟩;rw[map_append]at hm;rcases mem_append.1 hm with hm | hm
       ·have:=h3.out y (by rw[d6.out];exact mem_cons_of_mem _ (mem_cons_of_mem _ (mem_append_right _ hm)));omega
       ·have e:y=x:=by simpa using hm
        omega
     ·rw[map_append];refine nodup_append.2 ⟨n3.out,sI,λy hy z hz e=>?_⟩;have ez:z=x:=by simpa using hz
      have:=h3.out y (by rw[d6.out];exact mem_cons_of_mem _ (mem_cons_of_mem _ (mem_append_right _ hy)));omega
     ·intro y hy;rw[d6.out,G.out];rcases mem_cons.1 hy with h | hy
      ·left;rw[h];simp
      rcases mem_cons.1 hy with h | hy
      ·left;rw[h];simp
      rcases mem_append.1 hy with h | h
      ·rcases g4 y h with h | h
       ·left;exact mem_cons_of_mem _ (mem_cons_of_mem _ (mem_append_left _ h))
       ·right
        have l3:W8.heap.size<=y:=h;have n1:=(aG a1).1;omega
      ·rw[map_append]at h;rcases mem_append.1 h with h | h
       ·left;exact mem_cons_of_mem _ (mem_cons_of_mem _ (mem_append_right _ h))
       ·right
        have e:y=x:=by simpa using h
        omega
     ·refine h8.mono λy hy=>?_;simp only[mem_append,mem_cons,not_mem_nil,or_false]at hy;rw[d6.out,G.out];rcases hy with((h | h) | h) | h
      ·left;rw[h];simp
      ·left;rw[h];simp
      ·left;exact mem_cons_of_mem _ (mem_cons_of_mem _ (mem_append_left _ h))
      ·right;omega
    rw[G.out]at c5;have HF:=dH c5;have Hid:=dH b3;have j6:=dH a3;have j7:=dH m;clear c5 h8 L b3 a5 d9 U k4 g4 k5 hS h7 b1 b2 c2 a1 H g3 k2 b7 f8 e0 O a3 m a4 b4 d3 g5 c3 c1 f1 j9 l1 l0 k7 k9 i3 i5 c0;(go_wp2_with fail);refine bodyPost_ret (yZ results70 _ _ ga 31 (idC C) (0,0) _ rfl Hid.out underlying31 rfl (by rw[xQ];exact xU)) rfl ?_;exact⟨by rw[j6.out,j7.out];rfl,HF.out⟩
 ·rw[if_pos a8]at D;have m9:(E1 != 0)=true:=by rw[bne_iff_ne];exact a8
  have O:T=S:=by rw[d0,if_neg (λh=>a8 (by rw[<-D];exact h.1))]
  have a3:I=id0:=by rw[<-hI,if_neg (by rw[D];exact a8)]
  obtain⟨w3,h5,A,k6⟩:=idbox hid id0;have m6:z9 [] w W:=z9.of_below (by rw[G.out];exact hB);have Y:z9 [] w w3:=(z9.trans (m6.mono (S':=[ga]) sI) k6 (λy hy=>.inl hy)).narrow (λy hy=>by simp at hy;rw[G.out];omega);have HF:=dH (And.intro (show v4 w3 g F q T by rw[O];exact H0.out.kept Y sI) (Y.mono (S':=F) sI));have j1:=dH A;have HI:=dH a3;have HE:=dH D;clear hE hI hT D d0 hC i7 c9 e1 e2 e3 e4 hm d7 e6 e7 e8 hB hid a8 Y A k6 O a3 g9 f5 hW c8;go_enter func70,ntmps70
  (go_wp2_with fail);rw[<-HW.out,G.out];refine cn.mono ?_;rintro e w1 ⟨rfl,rfl⟩;(go_wp2_with fail);refine cc.mono ?_;rintro e w1 ⟨rfl,rfl⟩;clear cn cc;(go_wp2_with fail);refine bodyPost_ret (yZ results70 _ _ ga 31 (idC id0) (0,0) _ rfl j1.out underlying31 rfl (by rw[xQ];exact xU)) rfl ?_;exact⟨by rw[HI.out,HE.out];rfl,⟨F,HF.out.1,λ_ h=>.inl h⟩,HF.out.2⟩
theorem sto_new(w:World)(q:Int):Calls prog 24 #[.int .i64 q] w λe w'=>if 0<=q/\q<=4096 then ∃g F,e=.returned (.tuple #[.pointer (some ⟨g,0,none⟩),.int .i64 0])/\v4 w' g F q []/\(∀x∈F,w.heap.size<=x)/\Below w.heap.size w w' else e=.returned (.tuple #[.pointer none,.int .i64 1])/\Below w.heap.size w w':=by
 have c1:=lru_new w;have j:=@run_makeMap prog;by_cases h:0<=q/\q<=4096
 ·simp only[if_pos h];have h1:decide (q<0)=false:=sO;have h2:decide (4096<q)=false:=sO;have H:=dH h;go_enter func24,ntmps24
  (go_wp2_with fail);refine c1.mono ?_;rintro e w1 ⟨l,Fl,rfl,hl,hs,hb⟩;have hm:=yL.new (kv:=idV) (vv:=fD) (ok:=vN) w1 w1.heap.size rfl;have HL:=dH hl;have HS:=dH hs;have HB:=dH hb;have Hm:=dH hm;clear c1 hl hs hb hm;(go_wp2_with fail);go_ret2;have hg:=heap_alloc_new (w1.alloc (.map #[] 0)) (.cells (qb l q 0 0 w1.heap.size) 97 (0,0));rw[(sI:(w1.alloc (.map #[] 0)).heap.size=w1.heap.size+1)]at hg;have hk:=z9.trans (z9.alloc w1 (.map #[] 0)) (z9.alloc (w1.alloc (.map #[] 0)) (.cells (qb l q 0 0 w1.heap.size) 97 (0,0))) sI;have f:=HL.out.lt;have d:=HB.out.size;refine⟨w1.heap.size+1,_,rfl,⟨l,w1.heap.size,Fl,[],rfl,rfl,hg,HL.out.kept hk sI,⟨_,_,_,Hm.out.kept (z9.alloc _ _) sI,Perm.refl _⟩,sI,λx hx=>?_,sI⟩,λx hx=>?_,?_⟩
  ·have:=f x hx;exact⟨oM,oM,sI⟩
  ·simp at hx;rcases hx with h | h | h
   ·omega
   ·omega
   ·exact HS.out x h
  ·exact(HB.out.alloc d _).alloc sO _
 ·simp only[if_neg h];have h1:(decide (q<0)||decide (4096<q))=true:=sO;have H:=dH h;by_cases hq:q<0
  ·have h2:decide (q<0)=true:=by simpa using hq
   clear h1 hq h c1;go_enter func24,ntmps24
   (go_wp2_with fail);go_ret2;exact⟨rfl,Below.refl _ _⟩
  ·have h2:decide (q<0)=false:=by simpa using hq
   have h3:decide (4096<q)=true:=sO;clear h1 hq h c1;go_enter func24,ntmps24
   (go_wp2_with fail);go_ret2;exact⟨rfl,Below.refl _ _⟩
section
section
variable {D D':List HdX}
theorem XV(d:(qT D').Nodup)(sub:∀x∈D,x∈D')(hr:VK D):Ris (dR (htX D')) (qT D):=by
 unfold VK Ris qT at *;rw[pairwise_map];refine hr.imp_of_mem fun {a b} ha hb hab=>?_;unfold dR;rw[X6 (D:=D') d (sub a ha),X6 (D:=D') d (sub b hb)];exact hab
theorem YW(t:ByteArray):(jC D t).Sublist (qT D):=Sublist.map _ filter_sublist
theorem yo(c:zB):(vD D c).Sublist (qT D):=Sublist.map _ filter_sublist
theorem tps_nodup(h:(qT D).Nodup)(t:ByteArray):(jC D t).Nodup:=h.sublist (YW t)
end
section
variable {n:Nat} {X:StX} {y:HdV}
theorem addX_new(hv:gD X.D y=0)(hi:hdI y∉qT X.D):kA X.D y=VB X.D ⟨hdI y,y⟩:=if_pos ⟨hv,hi⟩
theorem tps_add(h:vP n X)(hv:gD X.D y=0)(hi:hdI y∉qT X.D)(t:ByteArray) :
  Ris (dR (htX (kA X.D y))) (jC X.D t)/\jC (kA X.D y) t=if y.tp=t then jO (dR (htX (kA X.D y))) (jC X.D t) (hdI y)else jC X.D t:=by
 obtain⟨a1,a2,_⟩:=rJ h hv;have d:∀x∈X.D,x∈kA X.D y:=λx hx=>fB.2 (.inl hx);have r1:=(XV a1 d h.ris).sub (YW t);have r2:=(qu a1 a2).sub (YW t);refine⟨r1,?_⟩;have hm:∀z,z∈jC (kA X.D y) t↔z∈jC X.D t\/(y.tp=t/\z=hdI y):=λz=>by
  rw[lK,lK];constructor
  ·rintro⟨x,hx,h1,h2⟩;rcases fB.1 hx with hx | ⟨_,_,e⟩
   ·exact .inl ⟨x,hx,h1,h2⟩
   ·subst e;exact .inr ⟨h1,h2.symm⟩
  ·rintro(⟨x,hx,h1,h2⟩ | ⟨h1,h2⟩)
   ·exact⟨x,d x hx,h1,h2⟩
   ·exact⟨⟨hdI y,y⟩,fB.2 (.inr ⟨hv,hi,rfl⟩),h1,h2.symm⟩
 split
 ·rename_i ht
  refine gS (XI _) r2 (dA (XI _) r1) λz=>?_;rw[hm,jG (XI _)];constructor
  ·rintro(h1 | ⟨_,h1⟩)
   ·exact .inr h1
   ·exact .inl h1
  ·rintro(h1 | h1)
   ·exact .inr ⟨ht,h1⟩
   ·exact .inl h1
 ·rename_i ht
  refine gS (XI _) r2 r1 λz=>?_;rw[hm];exact⟨λh1=>h1.elim id λh1=>absurd h1.1 ht,.inl⟩
theorem cms_add(h:vP n X)(hv:gD X.D y=0)(hi:hdI y∉qT X.D)(c:zB) :
  Ris (dR (htX (kA X.D y))) (vD X.D c)/\vD (kA X.D y) c=if y.cm=c then jO (dR (htX (kA X.D y))) (vD X.D c) (hdI y)else vD X.D c:=by
 obtain⟨a1,a2,_⟩:=rJ h hv;have d:∀x∈X.D,x∈kA X.D y:=λx hx=>fB.2 (.inl hx);have r1:=(XV a1 d h.ris).sub (yo c);have r2:=(qu a1 a2).sub (yo c);refine⟨r1,?_⟩;have hm:∀z,z∈vD (kA X.D y) c↔z∈vD X.D c\/(y.cm=c/\z=hdI y):=λz=>by
  rw[JE,JE];constructor
  ·rintro⟨x,hx,h1,h2⟩;rcases fB.1 hx with hx | ⟨_,_,e⟩
   ·exact .inl ⟨x,hx,h1,h2⟩
   ·subst e;exact .inr ⟨h1,h2.symm⟩
  ·rintro(⟨x,hx,h1,h2⟩ | ⟨h1,h2⟩)
   ·exact⟨x,d x hx,h1,h2⟩
   ·exact⟨⟨hdI y,y⟩,fB.2 (.inr ⟨hv,hi,rfl⟩),h1,h2.symm⟩
 split
 ·rename_i ht
  refine gS (XI _) r2 (dA (XI _) r1) λz=>?_;rw[hm,jG (XI _)];constructor
  ·rintro(h1 | ⟨_,h1⟩)
   ·exact .inr h1
   ·exact .inl h1
  ·rintro(h1 | h1)
   ·exact .inr ⟨ht,h1⟩
   ·exact .inl h1
 ·rename_i ht
  refine gS (XI _) r2 r1 λz=>?_;rw[hm];exact⟨λh1=>h1.elim id λh1=>absurd h1.1 ht,.inl⟩
theorem par_add(hv:gD X.D y=0)(hi:hdI y∉qT X.D)(z:zB):z∈V7 (kA X.D y)↔z∈V7 X.D\/z∈y.ps:=by
 rw[addX_new hv hi];unfold V7;simp only[mem_flatMap];constructor
 ·rintro⟨x,hx,hz⟩;rcases m0.1 hx with e | hx
  ·subst e;exact .inr hz
  ·exact .inl ⟨x,hx,hz⟩
 ·rintro(⟨x,hx,hz⟩ | hz)
  ·exact⟨x,m0.2 (.inr hx),hz⟩
  ·exact⟨⟨hdI y,y⟩,m0.2 (.inl rfl),hz⟩
end
end
section
theorem Z0:∀(L:List (Array Value)) (k m:Nat),(∀c∈L,c.size=k)->m<=L.length->(L.take m).flatMap Array.toList=(L.flatMap Array.toList).take (m*k)/\(L.drop m).flatMap Array.toList=(L.flatMap Array.toList).drop (m*k)
 | L,k,0,_,_=>by simp
 | c :: L,k,m+1,hs,hm=>by
  have hc:c.toList.length=k:=by simpa using hs c sI
  obtain⟨h1,h2⟩:=Z0 L k m (λc h=>hs c (by simp[h])) (by simpa using hm);have e:(m+1)*k=c.toList.length+m*k:=by rw[hc,Nat.add_mul];omega
  simp only[take_succ_cons,drop_succ_cons,flatMap_cons];rw[h1,h2,e];exact⟨(take_length_add_append _).symm,(drop_length_add_append _).symm⟩
 | [],k,m+1,_,hm=>by simp at hm
theorem addr_add(q o j:Nat):(⟨q,o,none⟩:Addr).add j=⟨q,o+j,none⟩:=by unfold Addr.add;split <;> simp_all
section
variable {P:Program} {T E:TypeId} {k bytes:Nat} {w:World} {B g n cap:Nat} {R:List (Array Value)}
theorem Own.drop_slr(h:Own w B E k (some ⟨g,0,none⟩) n cap R)(hi:i<=n):SlR w (some ⟨g,i*k,none⟩) (n-i) k (R.drop i):=by
 have hs:=h.slr;refine⟨by rw[length_drop,h.len],λh0=>⟨g,i*k,rfl,λj hj=>?_⟩⟩;have d:i+j<R.length:=by rw[length_drop]at hj;omega
 obtain⟨g',o',e,hr⟩:=hs.2 oM;injection e with e;injection e with e1 e2
 subst e1;subst e2;have:=hr (i+j) d;rw[Nat.zero_add,Nat.add_mul]at this;rw[this,getElem_drop]
theorem V5{dT sT elem:TypeId}{o dLen dCap:Nat}{q off sCap:Nat}(hu:P.underlying dT=some (.slice elem))(hs:(P.info? elem).map (·.size)=some k)
  (hg:w.heap[g]?=some (.cells f t (0,0)))(hn:Nat.min sLen dLen=m)(hX:SlR w (some ⟨q,off,none⟩) m k X)(D:∀c∈X,c.size=k)(y:o+m*k<=f.size)(h1:∀c∈X,∀v∈c.toList,v.oneCell'=true) :
  (Builtin.copy_ #[dT,sT] ty #[.slice (some ⟨g,o,none⟩) dLen dCap,.slice (some ⟨q,off,none⟩) sLen sCap]).run P w =
   .ok (goInt m) (w.setRow g (f.toList.take o++X.flatMap Array.toList++f.toList.drop (o+m*k)).toArray):=by
 have d:=j6 X k D;rw[hX.1]at d;have hl:=run_loadCells_list (P:=P) w ⟨q,off,none⟩ (X.flatMap Array.toList) (λj v hj=>by
  have B:j<m*k:=by rw[<-d];exact(List.getElem?_eq_some_iff.1 hj).1
  have F:0<k:=by rcases Nat.eq_zero_or_pos k with h | h;· subst h;simp at B
                 · exact h
  have hi:j / k<m:=Nat.div_lt_of_lt_mul (by rw[Nat.mul_comm];exact B);have hr:j % k<k:=Nat.mod_lt _ F;have he:j=j / k*k+j % k:=by rw[Nat.mul_comm];exact(Nat.div_add_mod j k).symm
  obtain⟨g',o',e,s⟩:=hX.2 (Nat.lt_of_le_of_lt zL hi);injection e with e;injection e with e1 e2
  subst e1;subst e2;have E:=s (j / k) (by rw[hX.1];exact hi);have A:=addr_add q off j;have h2:=dG X k D (j / k) (j % k) (by rw[hX.1];exact hi) hr;rw[<-he,hj]at h2;rw[A,show off+j=off+j / k*k+j % k by rw[Nat.add_assoc,<-he],zC E hr];exact h2.symm)
 have r:=run_storeCells_at P g o t (X.flatMap Array.toList) 0 f w hg (by rw[d,Nat.add_zero];exact y) (λv hv=>by
  obtain⟨c,hc,hv⟩:=mem_flatMap.1 hv;exact h1 c hc v hv)
 rw[d]at hl r;simp only[Nat.add_zero]at r;cases hq:P.info? elem with
 | none=>simp[hq]at hs
 | some i =>
  have hi:i.size=k:=by simpa[hq]using hs
  simp[Builtin.copy_,run_underlying hu,Builtin.lenOf,Builtin.firstCells,sizeOf,typeInfo,hq,hi,hn,hl,r]
theorem i9(I:yR P T E k bytes)(h:Own w B E k (some ⟨g,0,none⟩) n cap R){d q off:Nat}(hX:SlR w (some ⟨q,off,none⟩) m k X)(F:∀c∈X,c.size=k)(L:∀c∈X,∀v∈c.toList,v.oneCell'=true)(J:d+m<=n)(hn:Nat.min sLen (n-d)=m) :
  ∃w',(∀(ty:TypeId) (dc sCap:Nat),(Builtin.copy_ #[T,T] ty #[.slice (some ⟨g,d*k,none⟩) (n-d) dc,.slice (some ⟨q,off,none⟩) sLen sCap]).run P w=.ok (goInt m) w')/\Own w' B E k (some ⟨g,0,none⟩) n cap (R.take d++X++R.drop (d+m))/\z9 [g] w w':=by
 have hL:=h.len;have s:=h.size;obtain⟨M,z,D,hz,A,V,N⟩:=I.info;obtain⟨⟨h1,h2⟩,_,_⟩:=h;rcases h2 with⟨h2,_⟩ | ⟨g',c,cur,hv,hb,hg,hnc,hcm,hcsz,htake⟩
 ·cases h2
 injection hv with r _ hc
 injection r with r
 injection r with r
 subst r;subst hc;have O:n*k<=cur.size:=by rw[hcsz];exact Nat.mul_le_mul_right k hnc
 have j:(d+m)*k<=n*k:=Nat.mul_le_mul_right k J;have G:=j6 X k F;rw[hX.1]at G;have t:=fun (ty:TypeId) (dc sCap:Nat)=>V5 (P:=P) (dT:=T) (sT:=T) (ty:=ty) (elem:=E) (o:=d*k) (dLen:=n-d) (dCap:=dc) (sCap:=sCap) I.und (by rw[D];simp[A]) hg hn hX F (by rw[Nat.add_mul]at j;omega) L;have H:∀c∈R.take d++X++R.drop (d+m),c.size=k:=λc hc=>by
  rcases mem_append.1 hc with hc | hc
  ·rcases mem_append.1 hc with hc | hc
   ·exact s c (mem_of_mem_take hc)
   ·exact F c hc
  ·exact s c (mem_of_mem_drop hc)
 have f:(R.take d++X++R.drop (d+m)).length=n:=by
  simp only[length_append,length_take,length_drop,hX.1];omega
 refine⟨_,t,⟨⟨?_,.inr ⟨g,cap,_,rfl,hb,setRow_heap w g _ _ _ _ hg,hnc,hcm,?_,?_⟩⟩,f,H⟩,⟨rfl,rfl,rfl,by simp[setRow],λy _ hy=>setRow_other w g y _ (by simpa using hy)⟩⟩
 ·rw[j6 _ k H,f]
 ·have e1:(cur.toList.take (d*k)).length=d*k:=by rw[length_take,Array.length_toList];rw[Nat.add_mul]at j;omega
  have e2:(cur.toList.drop (d*k+m*k)).length=cap*k-(d*k+m*k):=by rw[length_drop,Array.length_toList,hcsz]
  simp only[size_toArray,length_append,e1,e2,G];rw[Nat.add_mul]at j;omega
 ·have e0:cur.toList.take (d*k)=(R.flatMap Array.toList).take (d*k):=by
   rw[<-htake,take_take,Nat.min_eq_left (by rw[Nat.add_mul]at j;omega)]
  obtain⟨f1,_⟩:=Z0 R k d s oM;obtain⟨_,f2⟩:=Z0 R k (d+m) s oM;rw[flatMap_append,flatMap_append,f1,f2,<-e0];show List.take (n*k) ((cur.toList.take (d*k)++X.flatMap Array.toList)++cur.toList.drop (d*k+m*k))=_;have e1:(cur.toList.take (d*k)++X.flatMap Array.toList).length=(d+m)*k:=by
   rw[length_append,G,length_take,Array.length_toList];rw[Nat.add_mul]at j |-;omega
  rw[take_append,e1,take_of_length_le oM];congr 1
  rw[<-htake,drop_take,Nat.add_mul]
theorem aK{tn e:TypeId}{i:TypeInfo}{z:Value}{kn kk:IntKind}(ht:P.underlying t=some (.slice e))(s:P.underlying tn=some (.int kn))(hi:P.info? e=some i)(hz:i.zero=some z){base:Option Addr}{sCap:Nat}{d:List Value}
  (f:(Builtin.firstCells i.size sLen (.slice base sLen sCap)).run P w.drew=.ok d.toArray w.drew)(h0:0<m)(hs:0<i.size)(hg:sCap<sLen+m)(B:((sLen+m:Nat):Int)<=9223372036854775807)(A:Builtin.nextslicecap (sLen+m) sCap*i.bytes<=281474976710656)(D:m*i.bytes<=281474976710656) :
  (Builtin.append_ #[t,tn] ty #[.slice base sLen sCap,.int kk m]).run P w =
   .ok (.slice (some ⟨w.heap.size,0,none⟩) (sLen+m) (grownCap w (sLen+m) sCap e))
    (w.drew.alloc (.cells (d.toArray++Builtin.zeroCells z.cells m++Builtin.zeroCells z.cells (grownCap w (sLen+m) sCap e-(sLen+m))) e)):=by
 have hw:IntKind.i64.wrap (m:Int)=m:=by rw[IntKind.wrap_i64];omega
 have hn:¬(sLen+m<=sCap):=oM;have j:¬(9223372036854775807<((sLen:Int)+(m:Int))):=oM;have r:¬(281474976710656<Builtin.nextslicecap (sLen+m) sCap*i.bytes):=oM;have k:¬(281474976710656<(m:Int)*(i.bytes:Int)):=by rw[<-Int.natCast_mul];omega
 have g:¬((m:Int)<0):=oM;have y:¬(m*i.size=0):=Nat.mul_ne_zero oM oM;simp[Builtin.append_,run_underlying ht,run_underlying s,sizeOf,typeInfo,zeroValue,hi,hz,asInt,asIntOf,hw,hn,g,y,j,r,k,Question.forced,f,newRow,grownCap]
end
end
end Go.Proofs.YtdjiaickicgdlaaGreatDoor
