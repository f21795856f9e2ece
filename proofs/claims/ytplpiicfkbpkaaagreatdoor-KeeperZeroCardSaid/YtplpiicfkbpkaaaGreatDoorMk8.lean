/- Part 8 of the texts that lead to this claim: the walks of the functions and the plain law, in order. -/
import Derived.Test.YtplpiicfkbpkaaaGreatDoorMk7
import Derived.ChangeKeysEq
import Derived.Deep.AppendSrc
import Derived.Laws.CopyRow
namespace Go.Proofs.YtplpiicfkbpkaaaGreatDoor
open Go.RowKit
open List hiding and get max min or set
open Go.Proofs.Tryz
open World
set_option maxRecDepth 100000
set_option maxHeartbeats 8000000
variable {w:World}{A base:Option Addr}{g i k m n sLen:Nat}{bs:List UInt8}{S:World->Prop}{L M:List UInt32}{s:StU}{T t ty:TypeId}{R cs f:Array Value}{r:Value}{P:Program}{ops:Array Oper}{Q:Act->World->Prop}{X:List (Array Value)}
theorem rot_left(x:UInt32)(n:Nat)(h0:0<n)(h1:n<32)(w:World) :
  Calls prog 254 #[.int .u32 (nU x),.int .i64 (-(n:Int))] w λe w'=>e=.returned (.int .u32 (nU (rotU x n)))/\w=w':=by
 have hw:IntKind.u64.wrap (-(n:Int))=18446744073709551616-(n:Int):=by simp[IntKind.wrap,IntKind.bits,IntKind.signed];omega
 have hs:bits .and .u64 (18446744073709551616-(n:Int)) 31=((32-n:Nat):Int):=by
  rw[u64_and _ _ oM oM oM oM,show(31:Int).toNat=31 from rfl,nat_mask5];omega
 have g:IntKind.u64.wrap (32-((32-n:Nat):Int))=(n:Int):=by simp[IntKind.wrap,IntKind.bits,IntKind.signed];omega
 have hl:nU x*2 ^ (32-n) % 4294967296=nU (x <<< UInt32.ofNat (32-n)):=by
  rw[<-u_shl _ _ oM,IntKind.wrap_u32']
 have hr:Op.shift .shr .u32 (nU x) .u64 (n:Int)=pure (.int .u32 (nU (x >>> UInt32.ofNat n))):=by
  rw[shift_shr _ _ _ _ oM (by show _<=((32:Nat):Int);omega),Int.toNat_natCast,u_shr _ _ h1]
 have d:x <<< UInt32.ofNat (32-n) ||| x >>> UInt32.ofNat n=rotU x n:=UInt32.or_comm _ _
 have f:=dH d;clear d h0 h1;go_enter func254,ntmps254
 (go_wp2_with fail);go_ret;exact⟨by rw[f.out];rfl,rfl⟩
theorem down_any(x:UInt32)(n:Nat)(h0:0<n)(h1:n<32)(w:World) :
  Calls prog 221 #[.int .u32 (nU x),.int .i64 n] w λe w'=>e=.returned (.int .u32 (nU (rotU x n)))/\w=w':=by
 have c:=rot_left x n h0 h1 w;have hw:IntKind.i64.wrap (-(n:Int)) = -(n:Int):=by simp[IntKind.wrap,IntKind.bits,IntKind.signed];omega
 clear h0 h1;go_enter func221,ntmps221
 (go_wp2_with fail);refine c.mono ?_;rintro e w1 ⟨rfl,rfl⟩;(go_wp2_with fail);go_ret;exact⟨rfl,rfl⟩
@[go_sem] theorem u8_word(b:UInt8):IntKind.u32.wrap ((b.toNat:Nat):Int)=nU b.toUInt32:=by
 have:=b.toNat_lt;rw[IntKind.wrap_u32'];unfold nU;rw[UInt8.toNat_toUInt32];omega
theorem sh24(x:UInt32):IntKind.u32.wrap (nU x*(16777216:Int))=nU (x <<< 24):=u_shl x 24 oM
theorem sh16(x:UInt32):IntKind.u32.wrap (nU x*(65536:Int))=nU (x <<< 16):=u_shl x 16 oM
theorem sh8(x:UInt32):IntKind.u32.wrap (nU x*(256:Int))=nU (x <<< 8):=u_shl x 8 oM
theorem sh24m(x:UInt32):nU x*(16777216:Int) % (4294967296:Int)=nU (x <<< 24):=by have h:=sh24 x;rwa [IntKind.wrap_u32']at h
theorem sh16m(x:UInt32):nU x*(65536:Int) % (4294967296:Int)=nU (x <<< 16):=by have h:=sh16 x;rwa [IntKind.wrap_u32']at h
theorem sh8m(x:UInt32):nU x*(256:Int) % (4294967296:Int)=nU (x <<< 8):=by have h:=sh8 x;rwa [IntKind.wrap_u32']at h
attribute [go_sem] sh24 sh16 sh8 sh24m sh16m sh8m
@[go_sem] theorem dn3(x:UInt32):nU x / (8:Int)=nU (x >>> 3):=u_shr x 3 oM
@[go_sem] theorem dn10(x:UInt32):nU x / (1024:Int)=nU (x >>> 10):=u_shr x 10 oM
abbrev BytesIn(w:World)(A:Option Addr)(n:Nat)(bs:List UInt8):Prop:=SlR w A n 1 (bytesR bs)
theorem BytesIn.get(h:BytesIn w A n bs)(hi:i<n):∃g o,A=some ⟨g,o,none⟩/\∀j,j<n->w.cell? ⟨g,o+j,none⟩=some (.int .u8 ((bs.getD j 0).toNat:Int)):=by
 obtain⟨g,o,e,hr⟩:=h.at_ hi;have k:bs.length=n:=by simpa[bytesR]using h.1
 refine⟨g,o,e,λj hj=>?_⟩;obtain⟨g',o',e',f⟩:=h.at_ hj;rw[e]at e';injection e' with e';injection e' with e1 e2;subst e1 e2
 have d:rowAt w g (o+j*1) 1=some #[byteC (bs[j]'oM)]:=by rw[f];simp[bytesR,byteR]
 have hc:=rowAt_cell d (j:=0) oM;rw[(oM:o+j*1+0=o+j)]at hc;rw[hc];have m:j<bs.length:=oM;simp[byteC,getD,m]
theorem sched_any(w:World)(A:Option Addr)(cap:Nat)(bs:List UInt8)(h:BytesIn w A 64 bs) :
  Calls prog 220 #[.slice A 64 cap] w λe w'=>e=.returned (.agg (wsC (schedU bs 64)))/\Below w.heap.size w w':=by
 have F:Below w.heap.size w ((w.alloc (.cells (wsC (zU 64)) 277)).alloc (.cells (wsC (zU 64)) 277)):=(bA).alloc sI _;have J:((w.alloc (.cells (wsC (zU 64)) 277)).alloc (.cells (wsC (zU 64)) 277)).heap[w.heap.size]?=some (.cells (wsC (zU 64)) 277 (0,0)):=by
  rw[Below.heap_alloc _ _ _ sI];exact heap_alloc_new w _
 have I:((w.alloc (.cells (wsC (zU 64)) 277)).alloc (.cells (wsC (zU 64)) 277)).heap[w.heap.size+1]?=some (.cells (wsC (zU 64)) 277 (0,0)):=by
  have:=heap_alloc_new (w.alloc (.cells (wsC (zU 64)) 277)) (.cells (wsC (zU 64)) 277);simpa using this
 obtain⟨q,o,rfl,y⟩:=BytesIn.get h (i:=0) oM;have X:q<w.heap.size:=block_lt_of_cell? _ _ (y 0 oM);have T:∀j,j<64->_:=λj hj=>(F.cell (p:=⟨q,o+j,none⟩) X).trans (y j hj);clear h y;go_enter func220,ntmps220
 (go_wp2_with fail);obtain⟨g,hg⟩:=eX w.heap.size
 have Hg:=dH hg;obtain⟨W,hW⟩:=eR ((w.alloc (.cells (wsC (zU 64)) 277)).alloc (.cells (wsC (zU 64)) 277))
 rw[<-hW]at F J I T |-;have c7:g+2=W.heap.size:=by rw[hW,<-hg];simp
 rw[hg]at F J I X |-;clear hg hW;go_loopw [4,5,6,7,8,9] (λ_ _ _ _ _ n wr=>∃k:Nat,k<=64/\n=.int .i64 k/\wr.heap[g+1]?=some (.cells (wsC (wsU bs k)) 277 (0,0))/\Keep [g+1] W wr) (λ_ _ _ _ _ n _=>64-(intOf n).toNat)
 case atStart=>exact⟨0,zL,rfl,I,Keep.refl _ _⟩
 case round =>
  obtain⟨k,hk,rfl,hc,s⟩:=hrel;by_cases H:k<64
  ·by_cases a1:k<16
   ·obtain⟨m,hm⟩:∃m:Nat,4*k=m:=⟨_,rfl⟩
    have em:4*(k:Int)=(m:Int):=oM;have l0:(m:Int)<64:=oM;have t2:((m:Int)+2).toNat=m+2:=oM;have t3:((m:Int)+3).toNat=m+3:=oM;have w0:IntKind.i64.wrap (m:Int)=m:=by simp[IntKind.wrap,IntKind.bits,IntKind.signed];omega
    have w1:IntKind.i64.wrap ((m:Int)+1)=(m:Int)+1:=by simp[IntKind.wrap,IntKind.bits,IntKind.signed];omega
    have w2:IntKind.i64.wrap ((m:Int)+2)=(m:Int)+2:=by simp[IntKind.wrap,IntKind.bits,IntKind.signed];omega
    have w3:IntKind.i64.wrap ((m:Int)+3)=(m:Int)+3:=by simp[IntKind.wrap,IntKind.bits,IntKind.signed];omega
    have l1:0<=(m:Int)+1/\(m:Int)+1<64:=oM;have l2:0<=(m:Int)+2/\(m:Int)+2<64:=oM;have l3:0<=(m:Int)+3/\(m:Int)+3<64:=oM;have D:=λj (hj:j<64)=>(s.cell (p:=⟨q,o+j,none⟩) (by show q<_;omega) sO).trans (T j hj);have x0:=D m oM;have x1:=D (m+1) oM;have x2:=D (m+2) oM;have x3:=D (m+3) oM;have Y:=dH hm;clear D hm;go_upto_region 6 with fail
    refine kF ([]:List Nat) wr ?_;intro B hS;have d:q∉([]:List Nat):=sI;have b0:=ksub_cell x0 d;have b1:=ksub_cell x1 d;have b2:=ksub_cell x2 d;have b3:=ksub_cell x3 d;refine lZ ?_;have f:(bs.getD m 0).toUInt32 <<< 24 ||| (bs.getD (m+1) 0).toUInt32 <<< 16 ||| (bs.getD (m+2) 0).toUInt32 <<< 8 ||| (bs.getD (m+3) 0).toUInt32=nextU bs (schedU bs k) k:=by
     unfold nextU wordU byU;rw[if_pos a1,Y.out]
    have r:wr.drew.heap[g+1]?=some (.cells (wsC (wsU bs k)) 277 (0,0)):=hc;have x9:wr.drew.cell? ⟨g+1,k,none⟩=some (.int .u32 (nU ((wsU bs k).getD k 0))):=by
     rw[cell_of_row wr.drew _ k _ _ _ r,wsC_get _ (by rw[wsU_length _ hk];exact H)]
    have f9:wr.drew.frozen? ⟨g+1,k,none⟩=false:=by simp[frozen?,r]
    simp only[getD_eq_getElem?_getD]at f;have G:=dH f;clear f em Y b0 b1 b2 b3 x0 x1 x2 x3;refine wpLx_end ?_ ?_;(focus(simp only[chainOp];done));intro K hK;go_simp;rw[G.out];refine hK _ _ ?_;clear hK K;have E:=heap_setCell_same r k (.int .u32 (nU (nextU bs (schedU bs k) k)));rw[wsC_set,wsU_set bs H]at E;have R:Keep [g+1] W (wr.drew.setCell ⟨g+1,k,none⟩ (.int .u32 (nU (nextU bs (schedU bs k) k)))):=Keep.trans (Keep.trans s (Keep.drew wr) sI) (Keep.setCell wr.drew ⟨g+1,k,none⟩ _) sI;clear B hS d x9 f9 hc r s G;(go_wp2_with fail);go_roundw
    case rel=>exact⟨k+1,oM,by go_num,E,R⟩
    case measure=>exact sZ
   ·have gt:∀j:Nat,j<k->wr.drew.cell? ⟨g+1,j,none⟩=some (.int .u32 (nU ((schedU bs k).getD j 0)))/\wr.cell? ⟨g+1,j,none⟩=some (.int .u32 (nU ((schedU bs k).getD j 0))):=λj hj=>by
     have r:wr.drew.heap[g+1]?=some (.cells (wsC (wsU bs k)) 277 (0,0)):=hc;rw[cell_of_row wr.drew _ j _ _ _ r,cell_of_row wr _ j _ _ _ hc,wsC_get _ (by rw[wsU_length _ hk];omega),wsU_get bs hj];exact⟨rfl,rfl⟩
    obtain⟨a,ha⟩:∃a:Nat,k=a+16:=⟨k-16,oM⟩
    obtain⟨a5,a9⟩:∃a5:Nat,a+1=a5:=⟨_,rfl⟩
    obtain⟨a2,b4⟩:∃a2:Nat,a+14=a2:=⟨_,rfl⟩
    obtain⟨a7,a8⟩:∃a7:Nat,a+9=a7:=⟨_,rfl⟩
    have b9:(k:Int)-15=(a5:Int):=oM;have b7:IntKind.i64.wrap (a5:Int)=(a5:Int):=by simp[IntKind.wrap,IntKind.bits,IntKind.signed];omega
    have c6:(a5:Int)<64:=oM;have N:=(gt a5 oM).2;have s2:(k:Int)-2=(a2:Int):=oM;have w2:IntKind.i64.wrap (a2:Int)=(a2:Int):=by simp[IntKind.wrap,IntKind.bits,IntKind.signed];omega
    have l2:(a2:Int)<64:=oM;have x2:=(gt a2 oM).2;have b8:(k:Int)-16=(a:Int):=oM;have w16:IntKind.i64.wrap (a:Int)=(a:Int):=by simp[IntKind.wrap,IntKind.bits,IntKind.signed];omega
    have c5:(a:Int)<64:=oM;have M:=(gt a oM).1;have s7:(k:Int)-7=(a7:Int):=oM;have w7:IntKind.i64.wrap (a7:Int)=(a7:Int):=by simp[IntKind.wrap,IntKind.bits,IntKind.signed];omega
    have l7:(a7:Int)<64:=oM;have x7:=(gt a7 oM).1;have f:(schedU bs k).getD a 0+sg0 ((schedU bs k).getD a5 0)+(schedU bs k).getD a7 0+sg1 ((schedU bs k).getD a2 0)=nextU bs (schedU bs k) k:=by
     unfold nextU;rw[if_neg a1,(oM:k-16=a),(oM:k-15=a5),(oM:k-7=a7),(oM:k-2=a2)]
    obtain⟨L,a3⟩:=eX ((schedU bs k).getD a5 0)
    obtain⟨z2,h2⟩:=eX ((schedU bs k).getD a2 0)
    obtain⟨b6,h3⟩:=eX ((schedU bs k).getD a 0)
    obtain⟨z7,h4⟩:=eX ((schedU bs k).getD a7 0)
    rw[a3]at N f;rw[h2]at x2 f;rw[h3]at M f;rw[h4]at x7 f;unfold sg0 sg1 at f;have G:=dH f;clear gt f a3 h2 h3 h4 ha a9 b4 a8;go_upto_region 7 with fail
    have d:g+1∉([]:List Nat):=sI;refine kX ([]:List Nat) wr ?_;intro B hS;have b0:=ksub_cell N d;have b1:=ksub_cell x2 d;refine lZ ?_;refine wpLx_nil ?_;intro hS;clear B hS b0 b1 N x2;have q3:=dn3 L;have c0:=dn10 z2;have c1:=λw=>down_any L 7 oM oM w;have c2:=λw=>down_any L 18 oM oM w;have c3:=λw=>down_any z2 17 oM oM w;have c4:=λw=>down_any z2 19 oM oM w;(go_wp2_with fail);refine(c1 _).mono ?_;rintro e w1 ⟨rfl,rfl⟩;(go_wp2_with fail);refine(c2 _).mono ?_;rintro e w1 ⟨rfl,rfl⟩;(go_wp2_with fail);refine(c3 _).mono ?_;rintro e w1 ⟨rfl,rfl⟩;(go_wp2_with fail);refine(c4 _).mono ?_;rintro e w1 ⟨rfl,rfl⟩;clear c1 c2 c3 c4;go_upto_region 10 with fail
    refine kF ([]:List Nat) wr.drew ?_;intro B hS;have b0:=ksub_cell M d;have b1:=ksub_cell x7 d;have r:wr.drew.drew.heap[g+1]?=some (.cells (wsC (wsU bs k)) 277 (0,0)):=hc;have x9:wr.drew.drew.cell? ⟨g+1,k,none⟩=some (.int .u32 (nU ((wsU bs k).getD k 0))):=by
     rw[cell_of_row wr.drew.drew _ k _ _ _ r,wsC_get _ (by rw[wsU_length _ hk];exact H)]
    have f9:wr.drew.drew.frozen? ⟨g+1,k,none⟩=false:=by simp[frozen?,r]
    refine lZ ?_;refine wpLx_end ?_ ?_;(focus(simp only[chainOp];done));intro K hK;go_simp;rw[G.out];refine hK _ _ ?_;clear hK K;have E:=heap_setCell_same r k (.int .u32 (nU (nextU bs (schedU bs k) k)));rw[wsC_set,wsU_set bs H]at E;have R:Keep [g+1] W (wr.drew.drew.setCell ⟨g+1,k,none⟩ (.int .u32 (nU (nextU bs (schedU bs k) k)))):=Keep.trans (Keep.trans s ((Keep.drew wr).trans (Keep.drew wr.drew) sI) sI) (Keep.setCell wr.drew.drew ⟨g+1,k,none⟩ _) sI;clear B hS d x9 f9 hc r s G b0 b1 M x7;(go_wp2_with fail);go_roundw
    case rel=>exact⟨k+1,oM,by go_num,E,R⟩
    case measure=>exact sZ
  ·have O:k=64:=oM;subst O;rw[wsU_all]at hc;have a6:rowAt wr (g+1) 0 64=some (wsC (schedU bs 64)):=by unfold rowAt;rw[hc];simp[go_sem,schedU_length]
   have t:=(s.block g oM sI).trans J;have a4:=run_stS_at (P:=prog) infoW64 wr g (wsC (zU 64)) (wsC (schedU bs 64)) _ t (by simp[zU_length]) (by simp[schedU_length]) (wsC_one _);have V:=dH (setRow_heap wr g _ (wsC (schedU bs 64)) _ _ t);have U:Keep [g] wr (wr.setRow g (wsC (schedU bs 64))):=⟨rfl,rfl,rfl,by simp[setRow],λx _ hx=>setRow_other wr g x _ (by simpa using hx)⟩
   have Z:=Keep.trans (s.mono (S':=[g,g+1]) sI) (U.mono (S':=[g,g+1]) sI) iL;have a0:Below g w (wr.setRow g (wsC (schedU bs 64))):=F.trans (Z.below oM sI);have b5:=dH a0;clear U Z a0 t J I T F s;(go_wp2_with fail);exact bodyPost_ret (results_cell_row results220 _ _ g 277 (wsC (schedU bs 64)) (0,0) _ rfl V.out underlying277 rfl (by rw[wsC_size,schedU_length];exact infoW64)) rfl ⟨rfl,by rw[Hg.out];exact b5.out⟩
@[go_sem] theorem notU(x:UInt32):bits .xor .u32 (if IntKind.u32.signed=true then -1 else IntKind.u32.max) (nU x)=nU (~~~x):=u_not x
structure ShaVars(w:World):Prop where
 first:∀k,k<8->w.cell? ⟨0,k,none⟩=some (.int .u32 (nU (hU.getD k 0)))
 k:∀k,k<64->w.cell? ⟨2,k,none⟩=some (.int .u32 (nU (kU.getD k 0)))
theorem ShaVars.ltF(h:ShaVars w):0<w.heap.size:=block_lt_of_cell? w _ (h.first 0 oM)
theorem ShaVars.ltK(h:ShaVars w):2<w.heap.size:=block_lt_of_cell? w _ (h.k 0 oM)
theorem ShaVars.kept{w':World}{S:List Nat}(h:ShaVars w)(k:Keep S w w')(h0:0∉S)(h1:2∉S):ShaVars w' :=
 ⟨λi hi=>(k.cell (p:=⟨0,i,none⟩) h.ltF h0).trans (h.first i hi),λi hi=>(k.cell (p:=⟨2,i,none⟩) h.ltK h1).trans (h.k i hi)⟩
theorem ShaVars.below{w':World}(h:ShaVars w)(hb:Below w.heap.size w w'):ShaVars w':=h.kept (Keep.of_below hb) sI sI
def StU.l(s:StU):List UInt32:=[s.a,s.b,s.c,s.d,s.e,s.f,s.g,s.h]
theorem StU.l_len(s:StU):s.l.length=8:=rfl
theorem mix_get(h:L.length=M.length)(hk:k<M.length):(L.take k++M.drop k).getD k 0=M.getD k 0:=by
 rw[getD_eq_getElem?_getD,getD_eq_getElem?_getD,getElem?_append_right sO,length_take,(oM:min k L.length=k),Nat.sub_self,getElem?_drop,Nat.add_zero]
theorem mix_set(h:L.length=M.length)(hk:k<M.length):(L.take k++M.drop k).set k (L.getD k 0)=L.take (k+1)++M.drop (k+1):=by
 have hL:k<L.length:=oM;have e1:L.take (k+1)=L.take k ++ [L[k]]:=by rw[take_add_one,getElem?_eq_getElem hL];rfl
 have e2:L.getD k 0=L[k]:=by rw[getD_eq_getElem?_getD,getElem?_eq_getElem hL];rfl
 rw[set_append_right _ _ sO,length_take,(oM:min k L.length=k),Nat.sub_self,drop_eq_getElem_cons hk,set_cons_zero,e1,e2,append_assoc];rfl
theorem zip_get{t:StU}(hk:k<8):s.l.getD k 0+t.l.getD k 0=(addU s t).l.getD k 0:=by
 have h8:k=0\/k=1\/k=2\/k=3\/k=4\/k=5\/k=6\/k=7:=oM;rcases h8 with rfl | rfl | rfl | rfl | rfl | rfl | rfl | rfl <;> rfl
theorem app_cell{g T}(hb:w.heap[g]?=some (.cells (wsC L++R) T (0,0)))(hk:k<L.length):w.cell? ⟨g,k,none⟩=some (.int .u32 (nU (L.getD k 0))):=by
 rw[cell_of_row w g k _ _ _ hb,Array.getElem?_append_left (by rw[wsC_size];exact hk),wsC_get L hk]
theorem app_set(L:List UInt32)(R:Array Value)(k:Nat)(hk:k<L.length)(x:UInt32):(wsC L++R).setIfInBounds k (.int .u32 (nU x))=wsC (L.set k x)++R:=by
 rw[<-wsC_set,Array.setIfInBounds_append_left (by rw[wsC_size];exact hk)]
theorem sizeU32(w:World):(sizeOf 188).run prog w=.ok 1 w:=by
 have h:(prog.info? 188).map (·.size)=some 1:=kR;cases hi:prog.info? 188 with
 | none=>rw[hi]at h;cases h
 | some i =>
  rw[hi]at h;have hk:i.size=1:=by simpa using h
  simp[sizeOf,typeInfo,hi,hk]
theorem index_w(h:prog.underlying t=some (.array n 188))(hk:k<n){v:Value}(hc:cs[k]?=some v)(w:World) :
  (Instr.index t (.agg cs) (.int .i64 k)).run prog w=.ok v w:=by
 have h1:(part 188 cs k).run prog w=.ok v w:=run_part_plain w kR hc;have h2:(0:Int)<=(k:Int)/\(k:Int)<(n:Int):=⟨oM,oM⟩
 simp[Instr.index,asIntOf,run_underlying h,hk,sizeU32,h1]
theorem turn_any(w:World)(g:Nat)(T:TypeId)(s:StU)(R:Array Value)(A:Option Addr)(cap:Nat)(bs:List UInt8)(hv:ShaVars w)(hg:w.heap[g]?=some (.cells (wsC s.l++R) T (0,0)))(h:BytesIn w A 64 bs)(f1:g≠0)(f0:g≠2) :
  Calls prog 146 #[.pointer (some ⟨g,0,none⟩),.slice A 64 cap] w λe w'=>e=.returned (.tuple #[])/\w'.heap[g]?=some (.cells (wsC (turnU s bs).l++R) T (0,0))/\Keep [g] w w':=by
 have e6:g<w.heap.size:=(aG hg).1;have c0:=sched_any w A cap bs h;have a0:=schedU_length bs 64;obtain⟨ws,D⟩:=eX (schedU bs 64)
 have c3:turnU s bs=addU s (rndsU ws s 64):=by rw[<-D];rfl
 rw[D]at c0 a0;rw[c3];have d6:=dH a0;clear D c3 h a0;go_enter func146,ntmps146
 (go_wp2_with fail);refine c0.mono ?_;rintro e w1 ⟨rfl,F⟩;have a2:=hv.below (F.alloc (oH F.size) (.cells (wsC ws) 277));have Z:Below w.heap.size w (w1.alloc (.cells (wsC ws) 277)):=F.alloc F.size _;have hn:=heap_alloc_new w1 (.cells (wsC ws) 277);have d9:=storeW64_run w1 w1.heap.size rfl (wsC (zU 64)) (by simp[zU_length]) ws d6.out 277;have d8:=F.size;have X:=(Z.block g e6).trans hg;clear c0 hv;go_upto_region 1 with fail
 obtain⟨ga,c9⟩:=eX w1.heap.size
 obtain⟨W,hW⟩:=eR (w1.alloc (.cells (wsC ws) 277))
 rw[c9]at hn d8 |-;rw[<-hW]at hn Z a2 X |-;have N:ga<W.heap.size:=(aG hn).1;clear d9 hW c9 F hg;have xs:=λk (hk:k<8)=>app_cell X (k:=k) hk;have x0:=xs 0 oM;have x1:=xs 1 oM;have x2:=xs 2 oM;have x3:=xs 3 oM;have x4:=xs 4 oM;have x5:=xs 5 oM;have x6:=xs 6 oM;have x7:=xs 7 oM;simp only[StU.l,getD_cons_zero,getD_cons_succ]at x0 x1 x2 x3 x4 x5 x6 x7;have B:g∉([]:List Nat):=sI;refine kX ([]:List Nat) W ?_;intro I hS;have b0:=ksub_cell x0 B;have b1:=ksub_cell x1 B;have b2:=ksub_cell x2 B;have b3:=ksub_cell x3 B;have b4:=ksub_cell x4 B;have b5:=ksub_cell x5 B;have b6:=ksub_cell x6 B;have b7:=ksub_cell x7 B;refine lZ ?_;refine wpLx_nil ?_;intro hS;clear I b0 b1 b2 b3 b4 b5 b6 b7 x0 x1 x2 x3 x4 x5 x6 x7 xs;have a1:ShaVars W.drew:=a2.kept hS sI sI;have a3:W.drew.heap[ga]?=some (.cells (wsC ws) 277 (0,0)):=hn;have E:W.drew.heap[g]?=some (.cells (wsC s.l++R) T (0,0)):=X;have Y:Below w.heap.size w W.drew:=Z.drew;clear hS a2 hn X Z;obtain⟨V,hV⟩:=eR W.drew
 have a5:ga<V.heap.size:=by rw[hV];exact N
 rw[<-hV]at a1 a3 E Y |-;clear hV N;(go_wp2_with fail);go_loopw [5,6,7,8,9,10,11,12,13,14,15,52] (λra rb rc rd re rf rg rh _ _ _ n wr=>∃(k:Nat) (z:StU),k<=64/\n=.int .i64 k/\Hid (rndsU ws s k=z)/\ra=.int .u32 (nU z.a)/\rb=.int .u32 (nU z.b)/\rc=.int .u32 (nU z.c)/\rd=.int .u32 (nU z.d)/\re=.int .u32 (nU z.e)/\rf=.int .u32 (nU z.f)/\rg=.int .u32 (nU z.g)/\rh=.int .u32 (nU z.h)/\Keep [] V wr) (λ_ _ _ _ _ _ _ _ _ _ _ n _=>64-(intOf n).toNat)
 case atStart=>exact⟨0,s,oM,rfl,(show _=_ from rfl),rfl,rfl,rfl,rfl,rfl,rfl,rfl,rfl,Keep.refl _ _⟩
 case round =>
  obtain⟨k,z,hk,rfl,hz,rfl,rfl,rfl,rfl,rfl,rfl,rfl,rfl,j⟩:=hrel;by_cases m:k<64
  ·have G:rndsU ws s (k+1)=rndU z (kU.getD k 0) (ws.getD k 0):=by rw[rndsU,hz.out]
   have d5:=dH G;obtain⟨za,zb,zc,zd,ze,zf,zg,zh⟩:=z;have b9:=a1.kept j sI sI;have c4:=(j.block ga a5 sI).trans a3;have y0:=b9.k k m;have y1:wr.cell? ⟨ga,k,none⟩=some (.int .u32 (nU (ws.getD k 0))):=by rw[cell_of_row wr ga k _ _ _ c4,wsC_get ws (by rw[d6.out];exact m)]
   obtain⟨kv,c5⟩:=eX (kU.getD k 0)
   obtain⟨wv,a9⟩:=eX (ws.getD k 0)
   rw[c5]at y0 G;rw[a9]at y1 G;have d5:=dH G;have c6:=λw=>down_any ze 6 oM oM w;have d4:=λw=>down_any ze 11 oM oM w;have d1:=λw=>down_any ze 25 oM oM w;have c2:=λw=>down_any za 2 oM oM w;have d3:=λw=>down_any za 13 oM oM w;have d2:=λw=>down_any za 22 oM oM w;clear G c5 a9 b9 c4;go_upto_region 5 with fail
   have e1:2∉([]:List Nat):=sI;have e0:ga∉([]:List Nat):=sI;refine kX ([]:List Nat) wr ?_;intro I hS;have b0:=ksub_cell y0 e1;have b1:=ksub_cell y1 e0;refine lQ ?_;intro K hK;refine(c6 _).mono ?_;rintro e w' ⟨rfl,rfl⟩;refine⟨_,rfl,hS,hK _ _ ?_⟩;clear hK K;refine lQ ?_;intro K hK;refine(d4 _).mono ?_;rintro e w' ⟨rfl,rfl⟩;refine⟨_,rfl,hS,hK _ _ ?_⟩;clear hK K;refine lQ ?_;intro K hK;refine(d1 _).mono ?_;rintro e w' ⟨rfl,rfl⟩;refine⟨_,rfl,hS,hK _ _ ?_⟩;clear hK K;refine lZ ?_;refine wpLx_nil ?_;intro hS;clear I b0 b1 y0 y1 c6 d4 d1;have c7:Keep [] V wr.drew:=Keep.trans j hS sI;obtain⟨wd,b8⟩:=eR wr.drew
   rw[<-b8]at c7 |-;clear hS b8 j;(go_wp2_with fail);refine(c2 _).mono ?_;rintro e w2 ⟨rfl,rfl⟩;(go_wp2_with fail);refine(d3 _).mono ?_;rintro e w2 ⟨rfl,rfl⟩;(go_wp2_with fail);refine(d2 _).mono ?_;rintro e w2 ⟨rfl,rfl⟩;clear c2 d3 d2;(go_wp2_with fail);go_roundw
   case rel=>exact⟨k+1,_,oM,by go_num,(show _=_ from d5.out),rfl,rfl,rfl,rfl,rfl,rfl,rfl,rfl,c7⟩
   case measure=>exact sZ
  ·have J:k=64:=oM;have H:rndsU ws s 64=z:=J ▸ hz.out;have Hz:=dH H;clear H J;have r:=(j.block g oM sI).trans E;have e7:Below w.heap.size w wr:=Y.trans (j.below Y.size sI);clear hz hk a1 a3 E;have d7:Below w.heap.size w wr:=e7;clear j Y;go_upto_region 10 with fail
   have e5:g<wr.heap.size:=(aG r).1;obtain⟨V2,a8⟩:∃V2,V2=wr:=⟨wr,rfl⟩
   have f2:=dH (show[z.a,z.b,z.c,z.d,z.e,z.f,z.g,z.h]=z.l from rfl);go_loopw [16,17,124] (λ_ _ n wr=>∃k:Nat,k<=8/\n=.int .i64 k/\wr.heap[g]?=some (.cells (wsC ((addU s z).l.take k++s.l.drop k)++R) T (0,0))/\Keep [g] V2 wr) (λ_ _ n _=>8-(intOf n).toNat)
   case atStart=>exact⟨0,oM,rfl,(by rw[r];rfl),by rw[a8];exact Keep.refl _ _⟩
   case round =>
    clear r;obtain⟨k,hk,rfl,r,j⟩:=hrel;by_cases m:k<8
    ·have a4:((addU s z).l.take k++s.l.drop k).length=8:=by simp[StU.l_len];omega
     have y0:=app_cell r (k:=k) (by rw[a4];exact m);rw[mix_get (L:=(addU s z).l) (M:=s.l) rfl m]at y0;have y1:(wsC [z.a,z.b,z.c,z.d,z.e,z.f,z.g,z.h])[k]?=some (.int .u32 (nU (z.l.getD k 0))):=wsC_get z.l m;have y:=app_set ((addU s z).l.take k++s.l.drop k) R k (by rw[a4];exact m) ((addU s z).l.getD k 0);rw[mix_set (L:=(addU s z).l) (M:=s.l) rfl m]at y;have U:=zip_get (s:=s) (t:=z) m;obtain⟨c1,a7⟩:=eX (s.l.getD k 0)
     obtain⟨c2,a6⟩:=eX (z.l.getD k 0)
     rw[a7,a6]at U;rw[a7]at y0;rw[a6]at y1;rw[<-U]at y;have O:=dH y;have e4:(Instr.index 189 (.agg #[.int .u32 (nU z.a),.int .u32 (nU z.b),.int .u32 (nU z.c),.int .u32 (nU z.d),.int .u32 (nU z.e),.int .u32 (nU z.f),.int .u32 (nU z.g),.int .u32 (nU z.h)]) (.int .i64 k)).run prog wr=.ok (.int .u32 (nU c2)) wr:=index_w (t:=189) underlying189 m y1 wr;clear y U a7 a6 a4;go_upto_region 12 with fail
     refine kF ([]:List Nat) wr ?_;intro I hS;have b0:=ksub_cell y0 B;have E:wr.drew.heap[g]?=some (.cells (wsC ((addU s z).l.take k++s.l.drop k)++R) T (0,0)):=r;have x9:wr.drew.cell? ⟨g,k,none⟩=some (.int .u32 (nU c1)):=y0;have f9:wr.drew.frozen? ⟨g,k,none⟩=false:=by simp[frozen?,E]
     refine lZ ?_;refine wpLx_end ?_ ?_;(focus(simp only[chainOp];done));intro K hK;go_simp;refine hK _ _ ?_;clear hK K;have d0:=heap_setCell_same E k (.int .u32 (nU (c1+c2)));rw[O.out]at d0;have e3:Keep [g] V2 (wr.drew.setCell ⟨g,k,none⟩ (.int .u32 (nU (c1+c2)))):=Keep.trans (Keep.trans j (Keep.drew wr) sI) (Keep.setCell wr.drew ⟨g,k,none⟩ _) sI;clear I hS x9 f9 r E j b0 y0 y1 e4 O;(go_wp2_with fail);go_roundw
     case rel=>exact⟨k+1,oM,by go_num,d0,e3⟩
     case measure=>exact sZ
    ·have c8:k=8:=oM;have e8:(addU s z).l.take k++s.l.drop k=(addU s z).l:=by rw[c8];rfl
     rw[e8,<-Hz.out]at r;have e9:=dH r;have e2:Keep [g] w wr:=Keep.trans ((Keep.of_below d7).mono (S':=[g]) sI) (by rw[<-a8];exact j) sI;clear r j e8 c8 a8;(go_wp2_with fail);go_end0;exact⟨rfl,e9.out,e2⟩
theorem bytesR_len(a:List UInt8):(bytesR a).length=a.length:=length_map _
theorem bytesR_one(a:List UInt8):∀r∈bytesR a,∀u∈r.toList,u.oneCell'=true:=by
 intro r hr u hu;simp[bytesR]at hr;obtain⟨c,_,rfl⟩:=hr;simp[byteR]at hu;subst hu;rfl
theorem bs0_u8(w:World):(Instr.buildSlice 103 0 #[]).run prog w=.ok (.slice (some ⟨w.heap.size,0,none⟩) 0 0) (w.alloc (.cells #[] 5)):=kR
theorem bs1_b(w:World)(c:Int):(Instr.buildSlice 103 1 #[(0,.int .u8 c)]).run prog w=.ok (.slice (some ⟨w.heap.size,0,none⟩) 1 1) (w.alloc (.cells #[.int .u8 c] 5)):=kR
theorem lenU_take(hn:n<=1000000)(hi:i<8):(lenU n).take (i+1)=(lenU n).take i ++ [UInt8.ofNat (n*8 / 2 ^ (8*(7-i)))]:=by
 have hl:i<(lenU n).length:=by rw[lenU_length];exact hi
 rw[take_add_one,getElem?_eq_getElem hl];congr 1
 simp[lenU];rw[Nat.mod_eq_of_lt oM]
def slLen:Value->Nat | .slice _ n _=>n | _=>0
theorem sha_end(w:World)(A:Option Addr)(m cap:Nat)(d:List UInt8)(h:SlW w A m cap 1 (bytesR d))(N:Nat)(hN:N<=1000000)(hm:m=N % 64) :
  Calls prog 147 #[.slice A m cap,.int .i64 N] w λe w'=>∃A' cap',e=.returned (.slice A' (m+(padU N).length) cap')/\Own w' w.heap.size 5 1 A' (m+(padU N).length) cap' (bytesR (d++padU N))/\Below w.heap.size w w':=by
 have I:d.length=m:=by have:=h.len;rwa [bytesR_len]at this
 have c3:m<64:=oM;have c8:=dH I;have Hm:=dH hm;have q0:=bs0_u8 w;have U:Below w.heap.size w (w.alloc (.cells #[] 5)):=bA;have a9:=Own.empty w w.heap.size 5 1 lR;have a5:=h.rd.below U;clear I hm;go_enter func147,ntmps147
 go_wp2_with (at_builtin;first | (refine L_appends einfoByte rfl a9 rfl a5 h.nil (bytesR_one _) oM oM sI ?_;intro A1 c6 w1 L b7 G;have q1:=bs1_b w1 128;simp only[Nat.zero_add,nil_append]at L;have t:=L.kept (Keep.alloc w1 (.cells #[.int .u8 128] 5)) sI;have s:rowAt (w1.alloc (.cells #[.int .u8 128] 5)) w1.heap.size 0 1=some (byteR 128):=(by simp[go_sem,byteR,byteC]);have Z:Below w.heap.size w w1:=U.trans (b7.below sI (by simp[blk]));have f:=Z.size;clear a9) | (refine L_append einfoByte rfl t rfl s (by simp[byteR,byteC];rfl) oM oM sO ?_;intro A2 a2 w2 a8 b6 F))
 have b8:Below w.heap.size w w2:=Z.trans ((Keep.trans ((Keep.alloc w1 _).mono (S':=blk A1) sI) b6 iL).below f (λx hx=>(L.at_base hx).1));have b3:bytesR d ++ [byteR 128]=bytesR (d ++ [128]):=by simp[bytesR]
 rw[b3]at a8;have c2:=b8.size;clear L b7 G q1 t s Z f b6 F b3 q0 U a5;obtain⟨z,hz⟩:=eX ((119-N % 64) % 64)
 have Hz:=dH hz;have c1:z<64:=oM;have b0:m+1+z=56\/m+1+z=120:=oH Hm.out;have c0:=dH b0;clear hz b0;go_upto_region 2 with fail
 go_loopw [5] (λsv wr=>∃(j:Nat) (A3:Option Addr) (k:Nat),j<=z/\sv=.slice A3 (m+1+j) k/\Own wr w.heap.size 5 1 A3 (m+1+j) k (bytesR (d++128 :: replicate j 0))/\Below w.heap.size w wr) (λsv _=>200-slLen sv)
 case atStart=>exact⟨0,A2,a2,oM,rfl,a8,b8⟩
 case round =>
  obtain⟨j,A3,k,hj,rfl,ho,hb⟩:=hrel;obtain⟨ln,R⟩:=eX (m+1+j)
  rw[R]at ho |-;have J:=dH R;have d0:ln<=128:=oM;clear R;by_cases O:j<z
  ·have e1:((ln:Int) % (64:Int) != 56)=true:=by
    rw[bne_iff_ne];have:=c0.out;have:=J.out;omega
   have q1:=bs1_b wr 0;have t:=ho.kept (Keep.alloc wr (.cells #[.int .u8 0] 5)) sI;have s:rowAt (wr.alloc (.cells #[.int .u8 0] 5)) wr.heap.size 0 1=some (byteR 0):=(by simp[go_sem,byteR,byteC])
   have f:=hb.size;go_wp2_with (at_builtin;refine L_append einfoByte rfl t rfl s (by simp[byteR,byteC];rfl) oM oM sO ?_;intro A4 a1 w4 a7 b5 E)
   have c5:Below w.heap.size w w4:=hb.trans ((Keep.trans ((Keep.alloc wr _).mono (S':=blk A3) sI) b5 iL).below f (λx hx=>(ho.at_base hx).1));have b2:bytesR (d++128 :: replicate j 0) ++ [byteR 0]=bytesR (d++128 :: replicate (j+1) 0):=by
    rw[replicate_succ'];simp[bytesR]
   rw[b2]at a7;clear b2 b5 E t s q1 ho f hb;go_roundw
   case rel=>exact⟨j+1,A4,a1,oM,(by rw[<-J.out,Nat.add_assoc]),(by rw[show m+1+(j+1)=ln+1 by have:=J.out;omega];exact a7),c5⟩
   case measure=>simp[slLen];omega
  ·have X:j=z:=oM;have e1:((ln:Int) % (64:Int) != 56)=false:=by
    rw[bne_eq_false_iff_eq];have:=c0.out;have:=J.out;omega
   have a4:d++128 :: replicate j 0=d++128 :: replicate z 0:=by rw[X]
   rw[a4]at ho;have H:m+1+z=ln:=by rw[<-J.out,X]
   have a3:=dH H;obtain⟨D,hD⟩:=eX (d++128 :: replicate z 0)
   rw[hD]at ho;have HD:=dH hD;obtain⟨V,hV⟩:∃V,V=wr:=⟨wr,rfl⟩
   clear X H a4 hD hj O;go_upto_region 6 with fail
   go_loopw [5,7,23] (λsv _ iv wr=>∃(i:Nat) (A5:Option Addr) (g:Nat),i<=8/\iv=.int .i64 i/\sv=.slice A5 (ln+i) g/\Own wr w.heap.size 5 1 A5 (ln+i) g (bytesR (D++(lenU N).take i))/\Below w.heap.size w wr) (λ_ _ iv _=>8-(intOf iv).toNat)
   case atStart=>exact⟨0,A3,k,oM,rfl,rfl,(by rw[take_zero,append_nil];exact ho),hb⟩
   case round =>
    clear ho hb;obtain⟨i,A5,g,hi,rfl,rfl,ho,hb⟩:=hrel;by_cases O:i<8
    ·obtain⟨c,hc⟩:=eX (UInt8.ofNat (N*8 / 2 ^ (8*(7-i))))
     have M:=lenU_take hN O;rw[hc]at M;obtain⟨r,hr⟩:∃r:Nat,7-i=r:=⟨_,rfl⟩
     have er:7-(i:Int)=(r:Int):=oM;have c9:r<8:=oM;have eb:(N:Int)*(8:Int) / 2 ^ (8*r) % (256:Int)=((c.toNat:Nat):Int):=by
      rw[<-hc,hr];have h3:((N*8 / 2 ^ (8*r):Nat):Int)=(N:Int)*(8:Int) / 2 ^ (8*r):=sI;rw[<-h3]
      simp
     have q1:=bs1_b wr ((c.toNat:Nat):Int);have s:rowAt (wr.alloc (.cells #[.int .u8 ((c.toNat:Nat):Int)] 5)) wr.heap.size 0 1=some (byteR c):=(by simp[go_sem,byteR,byteC])
     have t:=ho.kept (Keep.alloc wr (.cells #[.int .u8 ((c.toNat:Nat):Int)] 5)) sI;have f:=hb.size;have b9:=dH M;clear hc hr M;go_wp2_with (at_builtin;refine L_append einfoByte rfl t rfl s (by simp[byteR,byteC];rfl) oM oM sO ?_;intro A6 a0 w6 a6 b4 B)
     have c4:Below w.heap.size w w6:=hb.trans ((Keep.trans ((Keep.alloc wr _).mono (S':=blk A5) sI) b4 iL).below f (λx hx=>(ho.at_base hx).1));have b1:bytesR (D++(lenU N).take i) ++ [byteR c]=bytesR (D++(lenU N).take (i+1)):=by rw[b9.out];simp[bytesR]
     rw[b1]at a6;clear b1 b4 B t s q1 ho f hb b9 eb er;(go_wp2_with fail);go_roundw
     case rel=>exact⟨i+1,A6,a0,oM,by go_num,rfl,a6,c4⟩
     case measure=>exact sZ
    ·have Y:i=8:=oM;have y:D++(lenU N).take i=d++padU N:=by
      rw[Y,take_of_length_le (by rw[lenU_length];omega),<-HD.out];unfold padU;rw[Hz.out];simp
     rw[y]at ho;have T:ln+i=m+(padU N).length:=by rw[padU_length,Hz.out,Y];have:=a3.out;omega
     rw[T]at ho;have Ho:=dH ho;have c7:=dH T;clear T y ho Y;(go_wp2_with fail);go_ret;exact⟨A5,g,by rw[c7.out];rfl,Ho.out,hb⟩
theorem infoA8:(prog.info? 189).map (·.size)=some 8:=kR
@[go_sem ↓] theorem loadA8_rw(a:Addr):loadVar 189 a=ldS 189 a:=rfl
@[go_sem ↓] theorem storeA8_rw(a:Addr)(v:Value):storeVar 189 a v=stS 189 a v:=rfl
@[go_sem] theorem loadA8_run(w:World)(g o:Nat):(ldS 189 ⟨g,o,none⟩).run prog w=match rowAt w g o 8 with | some cs=>.ok (.agg cs) w | none=>(loadVar 189 ⟨g,o,none⟩).run prog w :=
 run_ldS underlying189 rfl infoA8 w g o
theorem row_of_cells(hk:0<k)(hs:cs.size=k)(h:∀j,j<k->w.cell? ⟨g,j,none⟩=cs[j]?):rowAt w g 0 k=some cs:=by
 have h0:=h (k-1) oM;rw[Array.getElem?_eq_getElem oM]at h0;unfold rowAt;cases hg:w.heap[g]? with
 | none=>simp[cell?,hg]at h0
 | some ob =>
  cases ob with
  | cells c T fr =>
   have hc:∀j,j<k->c[j]?=cs[j]?:=λj hj=>(by rw[<-h j hj,cell_of_row w g j _ _ _ hg]);have h1:=hc (k-1) oM;rw[Array.getElem?_eq_getElem (xs:=cs) oM]at h1;have d:k<=c.size:=oH ((aG h1).1);simp only[Nat.zero_add];rw[if_pos d];congr 1
   apply Array.ext
   ·simp;omega
   ·intro j h2 h3;have:=hc j oM;rw[Array.getElem?_eq_getElem oM,Array.getElem?_eq_getElem oM]at this;simpa using Option.some.inj this
  | _=>simp[cell?,hg]at h0
theorem ShaVars.row(h:ShaVars w):rowAt w 0 0 8=some (wsC hU):=by
 refine row_of_cells oM (by simp[hU]) λj hj=>?_;rw[h.first j hj,wsC_get hU (by simpa[hU]using hj)]
theorem buildHash(w:World):(Instr.build 192 #[(0,.agg (wsC hU)),(3,.bool true)]).run prog w=.ok (.agg (wsC firstU.l ++ #[.slice none 0 0,.int .i64 0,.bool true])) w:=kR
abbrev haC(s:StU)(r:Value)(n:Int):Array Value:=wsC s.l ++ #[r,.int .i64 n,.bool true]
theorem haC_c{n:Int}(h:w.heap[g]?=some (.cells (haC s r n) T (0,0))) :
  w.cell? ⟨g,8,none⟩=some r/\w.cell? ⟨g,9,none⟩=some (.int .i64 n)/\w.cell? ⟨g,10,none⟩=some (.bool true)/\∀j,w.frozen? ⟨g,j,none⟩=false:=by
 have e:(wsC s.l).size=8:=by rw[wsC_size];rfl
 refine⟨?_,?_,?_,λj=>by simp[frozen?,h]⟩ <;> rw[cell_of_row w g _ _ _ _ h,Array.getElem?_append_right oM,e] <;> rfl
theorem haC_set8(s:StU)(r r':Value)(n:Int):(haC s r n).setIfInBounds 8 r'=haC s r' n:=by
 apply Array.ext';simp[StU.l,wsC]
theorem haC_set9(s:StU)(r:Value)(n n':Int):(haC s r n).setIfInBounds 9 (.int .i64 n')=haC s r n':=by
 apply Array.ext';simp[StU.l,wsC]
theorem sha_new(w:World)(hv:ShaVars w):Calls prog 83 #[] w λe w'=>e=.returned (.pointer (some ⟨w.heap.size,0,none⟩))/\w'=w.alloc (.cells (haC firstU (.slice none 0 0) 0) 192):=by
 have hr:=hv.row;have hb:=buildHash w;go_enter func83,ntmps83
 (go_wp2_with fail);go_ret;exact⟨rfl,rfl⟩
theorem sha_none(w:World)(g:Nat)(h:w.cell? ⟨g,10,none⟩=some (.bool true)):Calls prog 145 #[.pointer (some ⟨g,0,none⟩)] w λe w'=>e=.returned (.bool false)/\w=w':=by
 go_enter func145,ntmps145
 (go_wp2_with fail);go_ret;exact⟨rfl,rfl⟩
theorem Lx_append_str{cv fb:Bool}{a:Act}{f:List Oper}{dst:Option Tmp}{sl x:Operand}{pos:String}{after:Array Edge}{U E:TypeId}{i:TypeInfo}(ht:P.underlying T=some (.slice E))(hu:P.underlying U=some .string)(hi:P.info? E=some i)(hz:i.zero=some (.int .u8 0))(g:i.size=1)(k:i.bytes=1)
  {B:Nat}{cap:Nat}{s:ByteArray}(hs:a.eval sl=.slice A n cap)(j:Own w B E 1 A n cap (bytesR bs))(hx:a.eval x=.string s)(d:n+s.size<=140737488355328)(hB:B<=w.heap.size)
  (h:∀A' cap' w',Own w' B E 1 A' (n+s.size) cap' (bytesR (bs++s.data.toList))->Keep (blk A) w w'->(∀x∈blk A',x∈blk A\/w.heap.size<=x)->S w'/\wpLx P ops S cv fb Q f (a.put dst (.slice A' (n+s.size) cap')) w') :
  wpLx P ops S cv fb Q ({ dst:=dst,op:=.call { callee:=.builtin .append,args:=#[sl,x],argTypes:=#[T,U] },type:=ty,pos:=pos,after:=after,guard:=none } :: f) a w:=by
 obtain⟨A',cap',w',hr,h1,h2,h3⟩:=append_str ht hu hi hz g k j s d hB ty;obtain⟨k1,k2⟩:=h A' cap' w' h1 h2 h3;exact wpLx_append hs hx hr k1 k2
theorem SlW.hi2{E:TypeId}{bytes:Nat}{cap:Nat}{L:List (Array Value)}(I:ElemInfo P T E k bytes)(h:SlW w A n cap k L)(hm:m<=n) :
  ∃A2 c2,(∀w0:World,(slS T (.slice A n cap) (some (.int .i64 m)) none none).run P w0=.ok (.slice A2 (n-m) c2) w0)/\(∀w':World,SlR w' A n k L->SlW w' A2 (n-m) c2 k (L.drop m)):=by
 have f:=h.le;refine⟨if cap=m then A else A.map λa=>a.add (m*k),cap-m,λw0=>?_,λw' hL=>⟨?_,oM,?_,?_⟩⟩
 ·rw[run_slS I];unfold Instr.slice Instr.sliceBounds;simp only[Sem.run_bind,run_underlying I.und,Result.andThen_ok,Sem.run_pure,run_bound w0 m n hm,I.sizeOf_run w0,Option.isSome_none,Bool.false_eq_true,if_false]
 ·by_cases d:cap=m
  ·have:n-m=0:=oM;rw[this];exact⟨by rw[length_drop,hL.1];omega,λh=>absurd h oM⟩
  ·rw[if_neg d];cases A with
   | none=>exact absurd (h.nil rfl) oM
   | some a =>
    obtain⟨g,o,sp⟩:=a;have:sp=none:=h.plain _ rfl;subst this;have e:(⟨g,o,none⟩:Addr).add (m*k)=⟨g,o+m*k,none⟩:=by unfold Addr.add;split <;> simp_all
    simp only[Option.map_some,e];exact hL.drop_ hm
 ·intro e;by_cases d:cap=m
  ·omega
  ·rw[if_neg d]at e;cases A with
   | none=>have:=h.nil rfl;omega
   | some a=>cases e
 ·intro a e;by_cases d:cap=m
  ·rw[if_pos d]at e;exact h.plain _ e
  ·rw[if_neg d]at e;cases A with
   | none=>cases e
   | some a' =>
    have hp:=h.plain _ rfl;obtain⟨g,o,sp⟩:=a';simp only at hp;subst hp;simp only[Option.map_some]at e;injection e with e
    rw[<-e];unfold Addr.add;split <;> rfl
def cellLen(w:World)(p:Addr):Nat:=match w.cell? p with | some (.slice _ n _)=>n | _=>0
@[go_sem ↓] theorem slU8_rw(x:Value)(lo hi mx:Option Value):Instr.sliceAt 103 x lo hi mx=slS 103 x lo hi mx:=rfl
@[go_sem] theorem slU8_nil(w:World):(slS 103 (.slice none 0 0) none (some (.int .i64 0)) (some (.int .i64 0))).run prog w=.ok (.slice none 0 0) w:=kR
theorem sha_write(w:World)(g:Nat)(T:TypeId)(st:StU)(s:ByteArray)(hv:ShaVars w)(hg:w.heap[g]?=some (.cells (haC st (.slice none 0 0) 0) T (0,0)))(hs:s.size<=1000000)(d0:g≠0)(c7:g≠2) :
  Calls prog 84 #[.pointer (some ⟨g,0,none⟩),.string s] w λe w'=>e=.returned (.int .i64 s.size)/\∃A cap,w'.heap[g]?=some (.cells (haC (blkU (s.size / 64) st s.data.toList) (.slice A (s.size % 64) cap) s.size) T (0,0))/\SlW w' A (s.size % 64) cap 1 (bytesR (s.data.toList.drop (64*(s.size / 64))))/\Keep [g] w w':=by
 have d6:g<w.heap.size:=(aG hg).1;obtain⟨c8,c9,B,cf⟩:=haC_c hg;have f9:=cf 9;have cn:=sha_none w g B;obtain⟨l,hl⟩:=eX s.data.toList
 have b6:l.length=s.size:=by rw[<-hl];rfl
 rw[hl];have d9:=dH b6;have Hl:=dH hl;clear hl b6;go_enter func84,ntmps84
 (go_wp2_with fail);refine cn.mono ?_;rintro e w1 ⟨rfl,rfl⟩;clear cn;go_upto_region 4 with fail
 have D:=heap_setCell_same hg 9 (.int .i64 s.size);rw[haC_set9]at D;have R:=Keep.setCell w ⟨g,9,none⟩ (.int .i64 s.size);obtain⟨W,hW⟩:=eR (w.setCell ⟨g,9,none⟩ (.int .i64 s.size))
 rw[<-hW]at D R |-;have a9:ShaVars W:=hv.kept R sO sO;have d1:g<W.heap.size:=(aG D).1;clear hW hg c8 c9 B cf f9 hv;obtain⟨c8,c9,B,cf⟩:=haC_c D;obtain⟨i,i1,i2,i3,i4⟩:=byteInfo;have H:g∉([]:List Nat):=sI;refine kF ([]:List Nat) W ?_;intro a0 hS;have b0:=ksub_cell c8 H;refine lZ ?_;have ho:Own W.drew W.drew.heap.size 5 1 none 0 0 (bytesR []):=Own.nil _ _ _ _;refine Lx_append_str underlying103 underlying9 i1 i2 i3 i4 rfl ho rfl oM lR ?_;intro A' cap' w2 M c3 E;have J:Keep [] W w2:=Keep.trans (Keep.drew W) c3 (by simp[blk]);refine step_keep J (λd2=>?_);refine lZ ?_;have a5:=(J.block g d1 H).trans D;obtain⟨d8,_,_,df⟩:=haC_c a5;have f8:=df 8;refine wpLx_end ?_ ?_;(focus(simp only[chainOp];done));intro K hK;go_simp;refine hK _ _ ?_;clear hK K;simp only[Nat.zero_add,nil_append]at M |-;have X:=heap_setCell_same a5 8 (.slice A' s.size cap');rw[haC_set8]at X;have V:=Keep.setCell w2 ⟨g,8,none⟩ (.slice A' s.size cap');have c5:∀x∈blk A',x≠g:=λx hx=>(by have:=(M.at_base hx).1;have:W.heap.size<=W.drew.heap.size:=lR;omega);have b8:Keep [g] w (w2.setCell ⟨g,8,none⟩ (.slice A' s.size cap')):=Keep.trans (Keep.trans R (J.mono (S':=[g]) sI) iL) V iL;have L:=(M.kept V (λx hx=>by simpa using c5 x hx)).slw;have b1:ShaVars (w2.setCell ⟨g,8,none⟩ (.slice A' s.size cap')):=(a9.kept J sI sI).kept V sO sO;clear M ho c3 E hS a0 d2 b0 c8 c9 B cf d8 df f8 a5 V D R a9 H;obtain⟨Z,hZ⟩:=eR (w2.setCell ⟨g,8,none⟩ (.slice A' s.size cap'))
 rw[<-hZ]at X b8 L b1 |-;have d7:g<Z.heap.size:=(aG X).1;clear hZ J;rw[Hl.out]at L;go_upto_region 5 with fail
 go_loopw [] (λwr=>∃(k:Nat) (A3:Option Addr) (d:Nat),64*k<=s.size/\wr.heap[g]?=some (.cells (haC (blkU k st l) (.slice A3 (s.size-64*k) d) s.size) T (0,0))/\SlW wr A3 (s.size-64*k) d 1 (bytesR (l.drop (64*k)))/\Hid (∀w',SlR w' A' s.size 1 (bytesR l)->SlR w' A3 (s.size-64*k) 1 (bytesR (l.drop (64*k))))/\Keep [g] Z wr) (λwr=>cellLen wr ⟨g,8,none⟩)
 case atStart=>exact⟨0,A',cap',oM,X,L,(show ∀w',_ from λw' h=>h),Keep.refl _ _⟩
 case round =>
  obtain⟨k,A3,d,hk,j,f,G,N⟩:=hrel;obtain⟨c8,c9,B,cf⟩:=haC_c j;obtain⟨n,hn⟩:=eX (s.size-64*k)
  rw[hn]at j f c8 G;have Hn:=dH hn;have Hm:=dH (show cellLen wr ⟨g,8,none⟩=n by unfold cellLen;rw[c8]);have Y:ShaVars wr:=b1.kept N sO sO;clear hn;by_cases a1:64<=n
  ·obtain⟨A4,c4,F,t⟩:=f.hi2 einfoByte (m:=64) a1;have c6:∀w0:World,(slS 103 (.slice A3 n d) none (some (.int .i64 64)) none).run prog w0=.ok (.slice A3 64 d) w0:=λw0=>f.lo einfoByte (m:=64) a1 w0;have b3:∀w0:World,(slS 103 (.slice A3 n d) (some (.int .i64 64)) none none).run prog w0=.ok (.slice A4 (n-64) c4) w0:=F;have I:BytesIn wr A3 64 ((l.drop (64*k)).take 64):=by
    have h1:=f.rd.take_ (m:=64) a1;unfold bytesR at h1;rw[<-map_take]at h1;exact h1
   have H:g∉([]:List Nat):=sI;have ct:=turn_any wr.drew g T (blkU k st l) #[.slice A3 n d,.int .i64 s.size,.bool true] A3 d ((l.drop (64*k)).take 64) (Y.kept (Keep.drew wr) sI sI) j (I.kept (Keep.drew wr) sI) d0 c7;clear F I;go_upto_region 6 with fail
   refine kF ([]:List Nat) wr ?_;intro a0 hS;have b0:=ksub_cell c8 H;refine lZ ?_;refine wpLx_end ?_ ?_;(focus(simp only[chainOp];done));intro K hK;go_simp;refine ct.mono ?_;rintro e w5 ⟨rfl,a4,c2⟩;refine⟨_,rfl,hK _ _ ?_⟩;clear hK K ct a0 hS b0 c9 B cf j c6;have b2:turnU (blkU k st l) ((l.drop (64*k)).take 64)=blkU (k+1) st l:=(blkU_snoc k st l).symm;rw[b2]at a4;have y:w5.heap[g]?=some (.cells (haC (blkU (k+1) st l) (.slice A3 n d) s.size) T (0,0)):=a4;have c0:Keep [g] wr w5:=Keep.trans ((Keep.drew wr).mono (S':=[g]) sI) c2 iL;obtain⟨c8,_,_,cf⟩:=haC_c y;have f8:=cf 8;have a3:=heap_setCell_same y 8 (.slice A4 (n-64) c4);rw[haC_set8]at a3;have c1:=Keep.setCell w5 ⟨g,8,none⟩ (.slice A4 (n-64) c4);have O:Keep [g] Z (w5.setCell ⟨g,8,none⟩ (.slice A4 (n-64) c4)):=Keep.trans (Keep.trans N c0 iL) c1 iL;have b7:=L.rd.kept O (λx hx=>by simpa using c5 x hx);have r:=t _ (G.out _ b7);have a6:(bytesR (l.drop (64*k))).drop 64=bytesR (l.drop (64*(k+1))):=by
    unfold bytesR;rw[<-map_drop,drop_drop,(oM:64*k+64=64*(k+1))]
   rw[a6]at r;have U:Hid (∀w',SlR w' A' s.size 1 (bytesR l)->SlR w' A4 (n-64) 1 (bytesR (l.drop (64*(k+1))))):=(show ∀w',_->_ from λw' h=>by
    have:=(t w' (G.out w' h)).rd;rwa [a6]at this)
   have a7:=dH r;have d4:Hid (cellLen (w5.setCell ⟨g,8,none⟩ (.slice A4 (n-64) c4)) ⟨g,8,none⟩=n-64):=by
    show _=_;obtain⟨e8,_⟩:=haC_c a3;unfold cellLen;rw[e8]
   have b5:s.size-64*(k+1)=n-64:=oH Hn.out;have a8:=dH b5;have a2:64*(k+1)<=s.size:=oH Hn.out;clear b2 a4 y c0 c1 b7 r a6 b5 t f Y N G c2;(go_wp2_with fail);go_roundw
   case rel=>exact⟨k+1,A4,c4,a2,(by rw[a8.out];exact a3),(by rw[a8.out];exact a7.out),(by rw[a8.out];exact U),O⟩
   case measure=>rw[Hm.out,d4.out];omega
  ·have b9:k=s.size / 64:=oH Hn.out;have b4:n=s.size % 64:=oH Hn.out;have O:Keep [g] w wr:=Keep.trans b8 N iL;rw[b4]at f j;rw[b9]at j f;have d5:=dH j;have d3:=dH f;clear b9 b4 j f G Y c9 B cf;(go_wp2_with fail);go_ret;exact⟨rfl,A3,d,d5.out,d3.out,O⟩
theorem id_congr{a b:List UInt8}{ha:a.length=32}{hb:b.length=32}(h:a=b):(⟨a,ha⟩:Id32)=⟨b,hb⟩:=Id32.ext' h
def outA(s:StU)(k:Nat):Array Value:=(((s.l.take k).flatMap b4U).map byteC++replicate (32-4*k) (Value.int .u8 0)).toArray
theorem outA_zero(s:StU):outA s 0=idC id0:=by unfold outA idC id0;simp[byteC]
theorem outU_flat(s:StU):s.l.flatMap b4U=outU s:=by simp[StU.l,outU]
theorem outA_full(s:StU):outA s 8=idC ⟨outU s,outU_length s⟩:=by
 unfold outA idC;rw[show s.l.take 8=s.l from rfl,outU_flat];simp
theorem flat4(L:List UInt32):(L.flatMap b4U).length=4*L.length:=by
 induction L with
 | nil=>rfl
 | cons a L ih=>rw[flatMap_cons,length_append,ih,b4U_length,length_cons];omega
theorem outA_size(s:StU)(hk:k<=8):(outA s k).size=32:=by
 have h:=flat4 (s.l.take k);have h8:=s.l_len;simp only[outA,size_toArray,length_append,length_map,length_replicate,h,length_take];omega
theorem outA_set(s:StU)(hk:k<8)(x:UInt32)(hx:s.l.getD k 0=x) :
  ((((outA s k).setIfInBounds (4*k) (byteC (x >>> 24).toUInt8)).setIfInBounds (4*k+1) (byteC (x >>> 16).toUInt8)).setIfInBounds (4*k+2) (byteC (x >>> 8).toUInt8)).setIfInBounds (4*k+3) (byteC x.toUInt8)=outA s (k+1):=by
 have hL:k<s.l.length:=hk;have e1:s.l.take (k+1)=s.l.take k ++ [x]:=by
  rw[take_add_one,getElem?_eq_getElem hL,<-hx,getD_eq_getElem?_getD,getElem?_eq_getElem hL];rfl
 obtain⟨P,hP⟩:=eX (((s.l.take k).flatMap b4U).map byteC)
 have d:P.length=4*k:=by rw[<-hP,length_map,flat4,length_take];have:=s.l_len;omega
 apply Array.ext';unfold outA;rw[e1,flatMap_append,map_append,hP];simp only[Array.toList_setIfInBounds];rw[(oM:32-4*k=(28-4*k)+1+1+1+1),(oM:32-4*(k+1)=28-4*k)];simp only[replicate_succ,flatMap_cons,flatMap_nil,append_nil,b4U,map_cons,map_nil,append_assoc];rw[<-d];simp[set_append]
theorem w24(x:UInt32):nU x / (16777216:Int) % (256:Int)=(((x >>> 24).toUInt8.toNat:Nat):Int):=by
 have h:=u_shr x 24 oM;rw[show((2:Int) ^ 24)=16777216 from rfl]at h;rw[h];simp[nU]
theorem w16(x:UInt32):nU x / (65536:Int) % (256:Int)=(((x >>> 16).toUInt8.toNat:Nat):Int):=by
 have h:=u_shr x 16 oM;rw[show((2:Int) ^ 16)=65536 from rfl]at h;rw[h];simp[nU]
theorem w8(x:UInt32):nU x / (256:Int) % (256:Int)=(((x >>> 8).toUInt8.toNat:Nat):Int):=by
 have h:=u_shr x 8 oM;rw[show((2:Int) ^ 8)=256 from rfl]at h;rw[h];simp[nU]
theorem w0(x:UInt32):nU x % (256:Int)=((x.toUInt8.toNat:Nat):Int):=by
 simp[nU]
theorem haC_row{n:Int}(h:w.heap[g]?=some (.cells (haC s r n) T (0,0))):rowAt w g 0 8=some (wsC s.l):=by
 unfold rowAt;rw[h];have e:(wsC s.l).size=8:=by rw[wsC_size];rfl
 simp only[Nat.zero_add];rw[if_pos (by simp[e])];rw[<-e];simp
theorem sha_sumH(w:World)(g:Nat)(T:TypeId)(s:StU)(A:Option Addr)(m cap N:Nat)(B:List UInt8)(hv:ShaVars w)(hg:w.heap[g]?=some (.cells (haC s (.slice A m cap) N) T (0,0)))(h:SlW w A m cap 1 (bytesR B))(hN:N<=1000000)(hm:m=N % 64) :
  Calls prog 85 #[.pointer (some ⟨g,0,none⟩)] w λe w'=>e=.returned (.agg (idC ⟨outU (blkU ((m+(padU N).length) / 64) s (B++padU N)),outU_length _⟩))/\Below w.heap.size w w':=by
 have e1:g<w.heap.size:=(aG hg).1;have G:Below w.heap.size w (w.alloc (.cells (idC id0) 23)):=bA;have e6:=(G.block g e1).trans hg;obtain⟨c8,c9,d1,cf⟩:=haC_c e6;have r:=haC_row e6;have cn:=sha_none _ g d1;have hid:=heap_alloc_new w (.cells (idC id0) 23);have h0:=hv.below G;have d4:=h.below G;have c6:=storeSt8_run (w.alloc (.cells (idC id0) 23)) (w.heap.size+1) sI (wsC (zU 8)) (by simp[zU_length]) s.l s.l_len 190;have y:Below w.heap.size w ((w.alloc (.cells (idC id0) 23)).alloc (.cells (wsC s.l) 190)):=G.alloc sI _;have U:=heap_alloc_new (w.alloc (.cells (idC id0) 23)) (.cells (wsC s.l) 190);rw[(sI:(w.alloc (.cells (idC id0) 23)).heap.size=w.heap.size+1)]at U;have E:((w.alloc (.cells (idC id0) 23)).alloc (.cells (wsC s.l) 190)).heap[w.heap.size]?=some (.cells (idC id0) 23 (0,0)):=by
  rw[Below.heap_alloc _ _ _ sI];exact hid
 have d3:=hv.below y;have L:=h.below y;have e5:=(y.block g e1).trans hg;have d8:=hv.ltF;have d7:=hv.ltK;obtain⟨M,hM⟩:=eX (m+(padU N).length)
 have b9:M % 64=0:=by rw[<-hM,hm];have:=padU_whole N;omega
 obtain⟨l,hl⟩:=eX (B++padU N)
 rw[hM,hl];clear h hv hg h0 d4;go_enter func85,ntmps85
 (go_wp2_with fail);refine cn.mono ?_;rintro e w1 ⟨rfl,rfl⟩;clear cn;go_upto_region 4 with fail
 obtain⟨ga,e3⟩:=eX w.heap.size
 have g9:=dH e3;obtain⟨W,hW⟩:=eR ((w.alloc (.cells (idC id0) 23)).alloc (.cells (wsC s.l) 190))
 rw[<-hW]at y U E d3 L e5 |-;rw[e3]at e1 U E d8 d7 |-;have e2:ga+1<W.heap.size:=(aG U).1;clear G e6 c8 c9 d1 cf r hid c6 hW e3;obtain⟨c8,c9,d1,cf⟩:=haC_c e5;have ce:=sha_end W.drew A m cap B (L.kept (Keep.drew W) sI) N hN hm;rw[hM,hl]at ce;have c5:=dH b9;have d6:g∉([]:List Nat):=sI;have Hm:=dH hm;clear hM hl b9 hm;refine kX ([]:List Nat) W ?_;intro h6 hS;have b0:=ksub_cell c8 d6;have b1:=ksub_cell c9 d6;refine lQ ?_;intro K hK;refine ce.mono ?_;rintro e w2 ⟨A',cap',rfl,ho,a0⟩;replace hS:=kp_below hS a0;refine⟨_,rfl,hS,hK _ _ ?_⟩;clear hK K;refine lZ ?_;refine wpLx_nil ?_;intro hS;have a1:Keep [] W w2:=hS;have i0:∀x∈blk A',x≠ga+1:=λx hx=>(by have:=(ho.at_base hx).1;have:W.heap.size<=W.drew.heap.size:=lR;omega);have J:=ho.slw;have a5:w2.heap[ga+1]?=some (.cells (wsC s.l ++ #[]) 190 (0,0)):=by rw[a1.block (ga+1) e2 sI,U];simp
 have a8:=(a1.block ga oM sI).trans E;have f9:=d3.kept a1 sI sI;have Y:Below w.heap.size w w2:=y.trans (a1.below y.size sI);have e4:ga+1<w2.heap.size:=oH a1.size;clear ho ce h6 hS a0 b0 b1 c8 c9 d1 cf e5 L d3 E U y d6 a1;go_upto_region 5 with fail
 go_loopw [4] (λsv wr=>∃(k:Nat) (A3:Option Addr) (d:Nat),64*k<=M/\sv=.slice A3 (M-64*k) d/\wr.heap[ga+1]?=some (.cells (wsC (blkU k s l).l ++ #[]) 190 (0,0))/\SlW wr A3 (M-64*k) d 1 (bytesR (l.drop (64*k)))/\Hid (∀w',SlR w' A' M 1 (bytesR l)->SlR w' A3 (M-64*k) 1 (bytesR (l.drop (64*k))))/\Keep [ga+1] w2 wr) (λsv _=>slLen sv)
 case atStart=>exact⟨0,A',cap',oM,rfl,a5,J,(show ∀w',_ from λw' h=>h),Keep.refl _ _⟩
 case round =>
  obtain⟨k,A3,d,hk,rfl,b4,Z,a4,f⟩:=hrel;obtain⟨n,hn⟩:=eX (M-64*k)
  rw[hn]at Z a4 |-;have Hn:=dH hn;have d2:ShaVars wr:=f9.kept f sI sO;clear hn;by_cases c7:0<n
  ·have f5:64<=n:=by have:=Hn.out;have:=c5.out;omega
   obtain⟨A4,c4,a3,O⟩:=Z.hi2 einfoByte (m:=64) f5;have h7:∀w0:World,(slS 103 (.slice A3 n d) none (some (.int .i64 64)) none).run prog w0=.ok (.slice A3 64 d) w0:=λw0=>Z.lo einfoByte (m:=64) f5 w0;have g0:∀w0:World,(slS 103 (.slice A3 n d) (some (.int .i64 64)) none none).run prog w0=.ok (.slice A4 (n-64) c4) w0:=a3;have b7:BytesIn wr A3 64 ((l.drop (64*k)).take 64):=by
    have h1:=Z.rd.take_ (m:=64) f5;unfold bytesR at h1;rw[<-map_take]at h1;exact h1
   have ct:=turn_any wr (ga+1) 190 (blkU k s l) #[] A3 d ((l.drop (64*k)).take 64) d2 b4 b7 (by show ga+1≠_;omega) (by show ga+1≠_;omega);have c6:turnU (blkU k s l) ((l.drop (64*k)).take 64)=blkU (k+1) s l:=(blkU_snoc k s l).symm;rw[c6]at ct;clear a3 b7 c6 b4;(go_wp2_with fail);refine ct.mono ?_;rintro e w5 ⟨rfl,h9,g5⟩;have a6:Keep [ga+1] w2 w5:=Keep.trans f g5 iL;have g2:=J.rd.kept a6 (λx hx=>by simpa using i0 x hx);have I:=O _ (a4.out _ g2);have e7:(bytesR (l.drop (64*k))).drop 64=bytesR (l.drop (64*(k+1))):=by
    unfold bytesR;rw[<-map_drop,drop_drop,(oM:64*k+64=64*(k+1))]
   rw[e7]at I;have d5:Hid (∀w',SlR w' A' M 1 (bytesR l)->SlR w' A4 (n-64) 1 (bytesR (l.drop (64*(k+1))))):=(show ∀w',_->_ from λw' h=>by
    have:=(O w' (a4.out w' h)).rd;rwa [e7]at this)
   have a5:M-64*(k+1)=n-64:=oH Hn.out;have f7:=dH a5;have d9:64*(k+1)<=M:=oH Hn.out;have f6:=dH I;clear ct h7 g2 I e7 a5 O Z d2 f a4 g5;(go_wp2_with fail);go_roundw
   case rel=>exact⟨k+1,A4,c4,d9,(by rw[f7.out]),h9,(by rw[f7.out];exact f6.out),(by rw[f7.out];exact d5),a6⟩
   case measure=>simp[slLen];omega
  ·have g4:k=M / 64:=by have:=Hn.out;have:=c5.out;omega
   obtain⟨F,hF⟩:=eX (blkU (M / 64) s l)
   rw[g4,hF]at b4;have HF:=dH hF;have a9:wr.heap[ga+1]?=some (.cells (wsC F.l) 190 (0,0)):=by rw[b4];simp
   have r:rowAt wr (ga+1) 0 8=some (wsC F.l):=by unfold rowAt;rw[a9];simp[F.l_len]
   have a7:=(f.block ga oM sI).trans a8;have e9:Below w.heap.size w wr:=Y.trans (f.below Y.size (by simp;have:=g9.out;omega));have b6:ga+1<wr.heap.size:=oH f.size;have b5:=heap_alloc_new wr (.cells (idC id0) 23);have d0:Below w.heap.size w (wr.alloc (.cells (idC id0) 23)):=e9.alloc e9.size _;have R:=(Below.heap_alloc wr (.cells (idC id0) 23) ga oM).trans a7;have H:rowAt (wr.alloc (.cells (idC id0) 23)) (ga+1) 0 8=some (wsC F.l):=(rowAt_of_block (Below.heap_alloc wr (.cells (idC id0) 23) (ga+1) b6) _ _).trans r;clear hF b4 a9 Z a4 d2 f g4 r a7 e9 a5 J f9 a8 Y e4;go_upto_region 10 with fail
   obtain⟨gb,g7⟩:=eX wr.heap.size
   obtain⟨V,hV⟩:=eR (wr.alloc (.cells (idC id0) 23))
   rw[<-hV]at b5 d0 R H |-;rw[g7]at b5 b6 |-;have h8:gb<V.heap.size:=(aG b5).1;clear hV g7;go_loopw [6,7,34] (λ_ _ iv wr=>∃i:Nat,i<=8/\iv=.int .i64 i/\wr.heap[gb]?=some (.cells (outA F i) 23 (0,0))/\Keep [gb] V wr) (λ_ _ iv _=>8-(intOf iv).toNat)
   case atStart=>exact⟨0,oM,rfl,(by rw[outA_zero];exact b5),Keep.refl _ _⟩
   case round =>
    clear b5;obtain⟨i,hi,rfl,hc,f⟩:=hrel;by_cases c7:i<8
    ·obtain⟨m4,g1⟩:∃m4:Nat,4*i=m4:=⟨_,rfl⟩
     have em:4*(i:Int)=(m4:Int):=oM;have l0:(m4:Int)<32:=oM;have l1:0<=(m4:Int)+1/\(m4:Int)+1<32:=oM;have l2:0<=(m4:Int)+2/\(m4:Int)+2<32:=oM;have l3:0<=(m4:Int)+3/\(m4:Int)+3<32:=oM;have t2:((m4:Int)+2).toNat=m4+2:=oM;have t3:((m4:Int)+3).toNat=m4+3:=oM;obtain⟨x,hx⟩:=eX (F.l.getD i 0)
     have D:=outA_set F c7 x hx;have i1:=w24 x;have i2:=w16 x;have e8:=w8 x;have e0:=w0 x;rw[g1]at D;obtain⟨b0,G⟩:=eX ((x >>> 24).toUInt8)
     obtain⟨b1,y⟩:=eX ((x >>> 16).toUInt8)
     obtain⟨b2,a0⟩:=eX ((x >>> 8).toUInt8)
     obtain⟨b3,f4⟩:=eX x.toUInt8
     rw[G,y,a0,f4]at D;rw[G]at i1;rw[y]at i2;rw[a0]at e8;rw[f4]at e0;clear G y a0 f4;have y1:(wsC F.l)[i]?=some (.int .u32 (nU x)):=by rw[wsC_get F.l c7,hx]
     have i4:=index_w (t:=190) underlying190 c7 y1 wr;have a2:=outA_size F hi;have h1:=heap_setCell_same hc m4 (byteC b0);have h2:=heap_setCell_same h1 (m4+1) (byteC b1);have h3:=heap_setCell_same h2 (m4+2) (byteC b2);have h4:=heap_setCell_same h3 (m4+3) (byteC b3);rw[D]at h4;have k1:=Keep.setCell wr ⟨gb,m4,none⟩ (byteC b0);have k2:=Keep.setCell (wr.setCell ⟨gb,m4,none⟩ (byteC b0)) ⟨gb,m4+1,none⟩ (byteC b1);have k3:=Keep.setCell ((wr.setCell ⟨gb,m4,none⟩ (byteC b0)).setCell ⟨gb,m4+1,none⟩ (byteC b1)) ⟨gb,m4+2,none⟩ (byteC b2);have k4:=Keep.setCell (((wr.setCell ⟨gb,m4,none⟩ (byteC b0)).setCell ⟨gb,m4+1,none⟩ (byteC b1)).setCell ⟨gb,m4+2,none⟩ (byteC b2)) ⟨gb,m4+3,none⟩ (byteC b3);have kk:=Keep.trans (Keep.trans (Keep.trans (Keep.trans f k1 iL) k2 iL) k3 iL) k4 iL;have b8:∀ {w':World} {c:Array Value} (_:w'.heap[gb]?=some (.cells c 23 (0,0))) (_:c.size=32) (j:Nat) (_:j<32),(∃v,w'.cell? ⟨gb,j,none⟩=some v)/\w'.frozen? ⟨gb,j,none⟩=false:=fun {w' c} h hs j hj=>⟨⟨c[j]'oM,by rw[cell_of_row w' gb j _ _ _ h,Array.getElem?_eq_getElem]⟩,by simp[frozen?,h]⟩;obtain⟨⟨v0,c0⟩,f0⟩:=b8 hc a2 m4 oM;obtain⟨⟨v1,c1⟩,f1⟩:=b8 h1 (by simp[a2]) (m4+1) oM;obtain⟨⟨v2,c2⟩,f2⟩:=b8 h2 (by simp[a2]) (m4+2) oM;obtain⟨⟨v3,c3⟩,f3⟩:=b8 h3 (by simp[a2]) (m4+3) oM;have H4:=dH h4;have Kk:=dH kk;clear D hx h1 h2 h3 h4 k1 k2 k3 k4 kk b8 a2 g1 f hc y1;unfold byteC at c1 c2 c3 f1 f2 f3;(go_wp2_with fail);go_roundw
     case rel=>exact⟨i+1,oM,by go_num,H4.out,Kk.out⟩
     case measure=>exact sZ
    ·have g6:i=8:=oM;rw[g6,outA_full]at hc;have r:rowAt wr gb 0 32=some (idC ⟨outU F,outU_length F⟩):=by unfold rowAt;rw[hc];simp
     have X:=(f.block ga oM sO).trans R;have h5:=run_stS_at (P:=prog) infoId wr ga (idC id0) (idC ⟨outU F,outU_length F⟩) _ X sI sI (idC_one _);have f8:=dH (setRow_heap wr ga _ (idC ⟨outU F,outU_length F⟩) _ _ X);have a6:Keep [ga] wr (wr.setRow ga (idC ⟨outU F,outU_length F⟩)):=⟨rfl,rfl,rfl,by simp[setRow],λx _ hx=>setRow_other wr ga x _ (by simpa using hx)⟩
     have g3:=Keep.trans (f.mono (S':=[ga,gb]) sI) (a6.mono (S':=[ga,gb]) sI) iL;have g8:Below w.heap.size w (wr.setRow ga (idC ⟨outU F,outU_length F⟩)):=d0.trans (g3.below d0.size (by simp;have:=g9.out;omega));have i3:=dH g8;clear a6 g3 g8 X hc g6 f R d0 H;(go_wp2_with fail);exact bodyPost_ret (results_cell_row results85 _ _ ga 23 (idC ⟨outU F,outU_length F⟩) (0,0) _ rfl f8.out underlying23 rfl (by rw[idC_size];exact infoId)) rfl ⟨by rw[HF.out],i3.out⟩
theorem sha_sum(w:World)(s:ByteArray)(hv:ShaVars w)(hs:s.size<=1000000) :
  Calls prog 35 #[.string s] w λe w'=>e=.returned (.agg (idC (shaI s.data.toList)))/\Below w.heap.size w w':=by
 have J:Below w.heap.size w (w.alloc (.cells (idC id0) 23)):=bA;have hid:=heap_alloc_new w (.cells (idC id0) 23);have E:=hv.below J;have c1:=sha_new _ E;have G:=hv.ltF;have F:=hv.ltK;have H:s.data.toList.length=s.size:=rfl;have t:(⟨outU (blkU ((s.size % 64+(padU s.size).length) / 64) (blkU (s.size / 64) firstU s.data.toList) (s.data.toList.drop (64*(s.size / 64))++padU s.size)),outU_length _⟩:Id32)=shaI s.data.toList:=by
  unfold shaI;apply id_congr;rw[shaU_parts,H,length_append,length_drop,H,(oM:s.size-64*(s.size / 64)=s.size % 64)]
 have f:=dH t;clear t H hv;obtain⟨ga,I⟩:=eX w.heap.size
 have X:=dH I;rw[(sI:(w.alloc (.cells (idC id0) 23)).heap.size=w.heap.size+1)]at c1;go_enter func35,ntmps35
 (go_wp2_with fail);refine c1.mono ?_;rintro e w1 ⟨rfl,rfl⟩;have j:=heap_alloc_new (w.alloc (.cells (idC id0) 23)) (.cells (haC firstU (.slice none 0 0) 0) 192);rw[(sI:(w.alloc (.cells (idC id0) 23)).heap.size=w.heap.size+1)]at j;have D:=J.alloc sI (.cells (haC firstU (.slice none 0 0) 0) 192);have d:=(Below.heap_alloc (w.alloc (.cells (idC id0) 23)) (.cells (haC firstU (.slice none 0 0) 0) 192) w.heap.size sI).trans hid;have y:ShaVars ((w.alloc (.cells (idC id0) 23)).alloc (.cells (haC firstU (.slice none 0 0) 0) 192)):=E.kept (Keep.alloc _ _) sI sI;obtain⟨W,hW⟩:=eR ((w.alloc (.cells (idC id0) 23)).alloc (.cells (haC firstU (.slice none 0 0) 0) 192))
 rw[<-hW]at j D d y |-;rw[I]at j D d G F |-;have U:ga+1<W.heap.size:=(aG j).1;have c2:=sha_write W (ga+1) 192 firstU s y j hs (by show ga+1≠_;omega) (by show ga+1≠_;omega);clear hW J hid E c1 I;(go_wp2_with fail);refine c2.mono ?_;rintro e w2 ⟨rfl,A,cap,N,k,m⟩;have r:=(m.block ga oM sI).trans d;have L:=y.kept m sI sO;have R:Below ga w w2:=D.trans (m.below oM sI);have c3:=sha_sumH w2 (ga+1) 192 _ A _ cap s.size _ L N k hs rfl;rw[f.out]at c3;have Z:=m.size;clear c2 j D d y N k m L f;(go_wp2_with fail);refine c3.mono ?_;rintro e w3 ⟨rfl,B⟩;have g:=(B.block ga oM).trans r;have T:=run_stS_at (P:=prog) infoId w3 ga (idC id0) (idC (shaI s.data.toList)) _ g sI sI (idC_one _);have f:=dH (setRow_heap w3 ga _ (idC (shaI s.data.toList)) _ _ g);have M:Keep [ga] w3 (w3.setRow ga (idC (shaI s.data.toList))):=⟨rfl,rfl,rfl,by simp[setRow],λx _ hx=>setRow_other w3 ga x _ (by simpa using hx)⟩
 have V:=B.size;have O:Below ga w (w3.setRow ga (idC (shaI s.data.toList))):=(R.trans (B.mono oM)).trans (M.below oM sI);have Y:=dH O;clear M O g r B R c3;(go_wp2_with fail);exact bodyPost_ret (results_cell_row results35 _ _ ga 23 (idC (shaI s.data.toList)) (0,0) _ rfl f.out underlying23 rfl (by rw[idC_size];exact infoId)) rfl ⟨rfl,by rw[X.out];exact Y.out⟩
theorem idbox{d:Id32}(h:w.heap[g]?=some (.cells (idC d) 23 (0,0)))(x:Id32):∃w',(stS 23 ⟨g,0,none⟩ (.agg (idC x))).run prog w=.ok () w'/\w'.heap[g]?=some (.cells (idC x) 23 (0,0))/\Keep [g] w w' :=
 ⟨_,run_stS_at (P:=prog) infoId w g (idC d) (idC x) _ h sI sI (idC_one _),setRow_heap w g _ (idC x) _ _ h,⟨rfl,rfl,rfl,by simp[setRow],λy _ hy=>setRow_other w g y _ (by simpa using hy)⟩⟩
theorem empty_size(s:ByteArray):s.toList.isEmpty=decide (s.size=0):=by
 rw[ByteArray.toList_eq];show s.data.toList.isEmpty=decide (s.data.size=0);rw[<-Array.length_toList];cases s.data.toList <;> simp
theorem sto_check(s:ByteArray)(w:World)(hs:s.size<=9223372036854775807):Calls prog 197 #[.string s] w λe w'=>e=.returned (.int .i64 (bodyE s))/\w=w':=by
 obtain⟨E,hE⟩:=eX (bodyE s)
 rw[hE];have he:=empty_size s;have HE:=dH (show E=if s.size=0 then 4 else if 512<s.size then 3 else 0 from hE.symm);clear hE;by_cases h0:s.size=0
 ·rw[decide_eq_true h0]at he;have HX:Hid (E=4):=(show _=_ by rw[HE.out,if_pos h0])
  clear h0;go_enter func197,ntmps197
  (go_wp2_with fail);go_ret;exact⟨ret_int HX.out.symm,rfl⟩
 ·rw[decide_eq_false h0]at he;by_cases h1:512<s.size
  ·have hl:(512:Int)<(s.size:Int):=oM;have HX:Hid (E=3):=(show _=_ by rw[HE.out,if_neg h0,if_pos h1])
   clear h0 h1;go_enter func197,ntmps197
   (go_wp2_with fail);go_ret;exact⟨ret_int HX.out.symm,rfl⟩
  ·have hl:¬(512:Int)<(s.size:Int):=oM;have HX:Hid (E=0):=(show _=_ by rw[HE.out,if_neg h0,if_neg h1])
   clear h0 h1;go_enter func197,ntmps197
   (go_wp2_with fail);go_ret;exact⟨ret_int HX.out.symm,rfl⟩
theorem sto_fits(w:World)(g:Nat)(q b n:Int)(h:w.cell? ⟨g,1,none⟩=some (.int .i64 q))(hr:IntKind.i64.wrap (q-b)=q-b):Calls prog 149 #[.pointer (some ⟨g,0,none⟩),.int .i64 b,.int .i64 n] w λe w'=>e=.returned (.bool (decide (n<=q-b)))/\Below w.heap.size w w':=by
 obtain⟨bb,d⟩:=eX (decide (n<=q-b))
 rw[d];have Hb:=dH d;go_enter func149,ntmps149
 (go_wp2_with fail);go_ret;exact⟨rfl,Below.refl _ _⟩
theorem sto_put(w:World)(g:Nat)(F:List Nat)(q:Int)(S:List Pay)(s:ByteArray)(h:StoAt w g F q S)(hv:ShaVars w)(hs:s.size<=1000000)(hq:0<=q/\q<=1000000)(n0:bytesX S<=1000000) :
  Calls prog 124 #[.pointer (some ⟨g,0,none⟩),.string s] w λe w'=>e=.returned (.tuple #[.agg (idC (if putE S q s=0 then shaI s.data.toList else id0)),.int .i64 (putE S q s)])/\(∃F',StoAt w' g F' q (putX S q s)/\∀x∈F',x∈F\/w.heap.size<=x)/\Keep F w w':=by
 obtain⟨E,hE⟩:=eX (putE S q s)
 obtain⟨I,hI⟩:∃I,(if E=0 then shaI s.data.toList else id0)=I:=⟨_,rfl⟩
 obtain⟨T,hT⟩:=eX (putX S q s)
 rw[hE,hI,hT];obtain⟨C,hC⟩:=eX (shaI s.data.toList)
 have D:E=if bodyE s≠0 then bodyE s else if C∈S.map (·.c)then 0 else if q-bytesX S<s.size then 14 else 0:=by rw[<-hE,<-hC];rfl
 have d0:T=if E=0/\C∉S.map (·.c)then S ++ [⟨C,s,false⟩]else S:=by rw[<-hT,<-hC,<-hE];rfl
 rw[hC]at hI;have hB:Below w.heap.size w (w.alloc (.cells (idC id0) 23)):=bA;have hid:=heap_alloc_new w (.cells (idC id0) 23);obtain⟨W,hW⟩:=eR (w.alloc (.cells (idC id0) 23))
 obtain⟨ga,c8⟩:=eX w.heap.size
 rw[<-hW]at hB hid;have f0:ga<W.heap.size:=by rw[hW,<-c8];simp
 have f5:=h.lt;have i7:=h.kept (Keep.of_below hB) sI;have m4:=hv.below hB;obtain⟨l,b,Fl,N,e1,e2,e3,e4,⟨M,es,n2,hm,d7⟩,e6,e7,e8⟩:=h;have g6:g<w.heap.size:=(aG e3).1;have c9:=(hB.block g g6).trans e3;have c4:W.cell? ⟨g,4,none⟩=some (.map (some b)):=by rw[cell_of_row W g 4 _ _ _ c9];rfl
 have cn:=sto_none W g b c4;have cc:=sto_check s W oM;rw[c8]at hid hB g6 f5 |-;obtain⟨E1,g9⟩:=eX (bodyE s)
 rw[g9]at D cc;have HW:=dH hW;have G:=dH c8;have H0:=dH (show StoAt w g F q S from⟨l,b,Fl,N,e1,e2,e3,e4,⟨M,es,n2,hm,d7⟩,e6,e7,e8⟩);by_cases a8:E1=0
 ·rw[if_neg (by simpa using a8)]at D;have m9:(E1 != 0)=false:=by rw[bne_eq_false_iff_eq];exact a8
  have cs:=sha_sum W s m4 hs;rw[hC]at cs;by_cases b5:C∈S.map (·.c)
  ·rw[if_pos b5]at D;have O:T=S:=by rw[d0,if_neg (λh=>h.2 b5)]
   have a3:I=C:=by rw[<-hI,if_pos D]
   have a9:(payX S C).isSome=true:=by
    cases e:payX S C with
    | none=>exact absurd b5 (payX_none.1 e)
    | some p=>rfl
   have HI:=dH a3;have HE:=dH D;have HT:=dH O;have g0:=dH a9;clear hE hI hT D d0 hC i7 c9 e1 e2 e3 e4 hm d7 e6 e7 e8 a8 O a3 g9 f5 hW c8 b5 a9;go_enter func124,ntmps124
   (go_wp2_with fail);rw[<-HW.out,G.out];refine cn.mono ?_;rintro e w1 ⟨rfl,rfl⟩;(go_wp2_with fail);refine cc.mono ?_;rintro e w1 ⟨rfl,rfl⟩;(go_wp2_with fail);refine cs.mono ?_;rintro e w2 ⟨rfl,a7⟩;have a2:=(a7.block ga f0).trans hid;have f7:Below ga w w2:=hB.trans (a7.mono oM);have f4:ga<w2.heap.size:=oH a7.size;have V:Below w2.heap.size w2 (w2.alloc (.cells (idC C) 23)):=bA;have d:rowAt (w2.alloc (.cells (idC C) 23)) w2.heap.size 0 32=some (idC C):=by simp[go_sem]
   obtain⟨W3,b6⟩:=eR (w2.alloc (.cells (idC C) 23))
   rw[<-b6]at V d;have f6:Below ga w W3:=f7.trans (V.mono oM);have B:Keep [] w W3:=Keep.of_below (by rw[G.out];exact f6);have A:=(V.block ga f4).trans a2;have ch:=sto_has W3 g F q S C (H0.out.kept B sI);have j5:=dH b6;have i6:ga<W3.heap.size:=oH V.size;clear cs cn cc a7 a2 f7 hid hB b6 c4;(go_wp2_with fail);rw[<-j5.out];obtain⟨gc,c7⟩:=eX w2.heap.size
   rw[c7]at V d f4 |-;clear c7;refine ch.mono ?_;rintro e w4 ⟨rfl,a6⟩;rw[g0.out];have R:=(a6.block ga i6).trans A;have J:rowAt w4 gc 0 32=some (idC C):=((Keep.of_below a6).row (rowAt_lt d) sI _ _).trans d;obtain⟨w5,h5,t,a4⟩:=idbox R C;have Y:Keep [] w w5:=(Keep.trans (Keep.trans (B.mono (S':=[ga]) sI) ((Keep.of_below a6).mono (S':=[ga]) sI) (λy hy=>.inl hy)) a4 (λy hy=>.inl hy)).narrow (λy hy=>by simp at hy;rw[G.out];omega);have HF:=dH (And.intro (show StoAt w5 g F q T by rw[HT.out];exact H0.out.kept Y sI) (Y.mono (S':=F) sI));have j0:=dH t;clear Y t a4 R A a6 V f6 B ch d;(go_wp2_with fail);refine bodyPost_ret (results_ct results124 _ _ ga 23 (idC C) (0,0) _ rfl j0.out underlying23 rfl (by rw[idC_size];exact infoId)) rfl ?_;exact⟨by rw[HI.out,HE.out];rfl,⟨F,HF.out.1,λ_ h=>.inl h⟩,HF.out.2⟩
  ·rw[if_neg b5]at D;have b0:(payX S C).isSome=false:=by rw[payX_none.2 b5];rfl
   obtain⟨B0,h0⟩:=eX (bytesX S)
   obtain⟨Z,hZ⟩:=eX s.size
   rw[h0,hZ]at D;rw[h0]at n0 c9;rw[hZ]at hs;have m3:IntKind.i64.wrap (q-(B0:Int))=q-(B0:Int):=IntWalk.i64_in _ oM;obtain⟨fb,k8⟩:=eX (decide ((Z:Int)<=q-(B0:Int)))
   have j2:=dH k8;have g1:=dH b0;have HZ:=dH hZ;have j8:=dH h0;have l9:=dH D;have l8:=dH d0;have HI:=dH hI;have j4:=dH b5;have H7:=dH e7;have H3:=dH e3;have Hm:=dH hm;have h3:=dH f5;have n8:=dH c9;have l5:=dH d7;have j3:=dH e6;have n4:=dH e4;have l6:=dH e1;have d6:=dH e2;have n3:=dH e8;clear hE hI hT D d0 hC i7 c9 e1 e2 e3 e4 hm d7 e6 e7 e8 a8 g9 f5 hW c8 b5 b0 h0 k8;go_enter func124,ntmps124
   (go_wp2_with fail);rw[<-HW.out,G.out];refine cn.mono ?_;rintro e w1 ⟨rfl,rfl⟩;(go_wp2_with fail);refine cc.mono ?_;rintro e w1 ⟨rfl,rfl⟩;(go_wp2_with fail);refine cs.mono ?_;rintro e w2 ⟨rfl,a7⟩;have a2:=(a7.block ga f0).trans hid;have f7:Below ga w w2:=hB.trans (a7.mono oM);have f4:ga<w2.heap.size:=oH a7.size;have V:Below w2.heap.size w2 (w2.alloc (.cells (idC C) 23)):=bA;have d:rowAt (w2.alloc (.cells (idC C) 23)) w2.heap.size 0 32=some (idC C):=by simp[go_sem]
   obtain⟨W3,b6⟩:=eR (w2.alloc (.cells (idC C) 23))
   rw[<-b6]at V d;have f6:Below ga w W3:=f7.trans (V.mono oM);have B:Keep [] w W3:=Keep.of_below (by rw[G.out];exact f6);have A:=(V.block ga f4).trans a2;have ch:=sto_has W3 g F q S C (H0.out.kept B sI);have j5:=dH b6;have i6:ga<W3.heap.size:=oH V.size;have i2:w2.heap.size<W3.heap.size:=by rw[b6];simp
   clear cs cn cc a7 a2 f7 hid hB b6 c4;(go_wp2_with fail);rw[<-j5.out];obtain⟨gc,c7⟩:=eX w2.heap.size
   rw[c7]at d i2 |-;have m8:ga<gc:=by rw[<-c7];exact f4
   clear c7;refine ch.mono ?_;rintro e w4 ⟨rfl,a6⟩;rw[g1.out];have R:=(a6.block ga i6).trans A;have J:rowAt w4 gc 0 32=some (idC C):=((Keep.of_below a6).row (rowAt_lt d) sI _ _).trans d;have i1:Keep [] w w4:=Keep.trans B (Keep.of_below a6) sI;have f3:ga<w4.heap.size:=(aG R).1;have h2:=(i1.block g (by rw[G.out];exact g6) sI).trans H3.out;rw[j8.out]at h2;have d2:w4.cell? ⟨g,2,none⟩=some (.int .i64 B0):=by rw[cell_of_row w4 g 2 _ _ _ h2];rfl
   have d1:w4.cell? ⟨g,1,none⟩=some (.int .i64 q):=by rw[cell_of_row w4 g 1 _ _ _ h2];rfl
   have cf:=sto_fits w4 g q B0 Z d1 m3;rw[j2.out]at cf;clear A a6 V f6 B ch d d1;(go_wp2_with fail);refine cf.mono ?_;rintro e w5 ⟨rfl,g7⟩;have t:=(g7.block ga f3).trans R;have j:rowAt w5 gc 0 32=some (idC C):=((Keep.of_below g7).row (rowAt_lt J) sI _ _).trans J;have a4:Keep [] w w5:=Keep.trans i1 (Keep.of_below g7) sI;have d5:=(a4.block g (by rw[G.out];exact g6) sI).trans H3.out;rw[j8.out]at d5;clear R J i1 h2 d2 cf g7 f3;cases fb with
   | false =>
    have g5:q-(B0:Int)<(Z:Int):=by have:=j2.out;simpa using this
    have m:E=14:=by rw[l9.out,if_pos g5]
    have a3:I=id0:=by rw[<-HI.out,if_neg (by rw[m];decide)]
    have O:T=S:=by rw[l8.out,if_neg (λh=>by rw[m]at h;exact absurd h.1 (by decide))]
    obtain⟨w6,h5,e5,c6⟩:=idbox t id0;have Y:Keep [] w w6:=(Keep.trans (a4.mono (S':=[ga]) sI) c6 (λy hy=>.inl hy)).narrow (λy hy=>by simp at hy;rw[G.out];omega);have HF:=dH (And.intro (show StoAt w6 g F q T by rw[O];exact H0.out.kept Y sI) (Y.mono (S':=F) sI));have i9:=dH e5;have j6:=dH a3;have j7:=dH m;clear g5 Y e5 c6 O a3 m t j a4 d5;(go_wp2_with fail);refine bodyPost_ret (results_ct results124 _ _ ga 23 (idC id0) (0,0) _ rfl i9.out underlying23 rfl (by rw[idC_size];exact infoId)) rfl ?_;exact⟨by rw[j6.out,j7.out];rfl,⟨F,HF.out.1,λ_ h=>.inl h⟩,HF.out.2⟩
   | true =>
    have g5:(Z:Int)<=q-(B0:Int):=by have:=j2.out;simpa using this
    have m:E=0:=by rw[l9.out,if_neg oM]
    have a3:I=C:=by rw[<-HI.out,if_pos m]
    have O:T=S ++ [⟨C,s,false⟩]:=by rw[l8.out,if_pos ⟨m,j4.out⟩]
    have d4:w5.cell? ⟨g,4,none⟩=some (.map (some b)):=by rw[cell_of_row w5 g 4 _ _ _ d5];rfl
    have i3:g≠b:=λe=>(by have:=H3.out;rw[e,Hm.out.heap]at this;cases this);have n6:b<ga:=by rw[<-G.out];exact Hm.out.lt
    have i5:g∉[b]:=by simpa using i3
    have c0:gc∉[b]:=sO;obtain⟨x,hx⟩:=eX w5.heap.size
    have m2:w5.drew.heap.size=x:=hx;have k1:=Hm.out.kept a4 sI;obtain⟨W6,g8⟩:=eR ((w5.alloc (.cells (heldOC ⟨s,false⟩) 201)).drew)
    have c6:Keep [] w5 W6:=by rw[g8];exact Keep.trans (Keep.alloc w5 _) (Keep.drew _) sI
    obtain⟨w7,l4,f9,h6,k3,i0⟩:=(k1.kept c6 sI).update idKey underlying185 (k:=C) (v:=x) trivial;go_upto_region 11 with fail
    refine kX [b] w5 ?_;intro h7 hS;have b1:=ksub_cell d4 i5;have b2:=ksub_row j c0;refine lQ ?_;intro K hK;rw[<-g8];have l7:=dH g8;clear g8;have i8:Kp [b] w5 W6:=c6.mono sI;refine⟨i8,hK _ _ ?_⟩;clear hK K hS;have hS:=i8;refine lQ ?_;intro K hK;refine step_keep (kp_next hS i0 sI) (λhS=>?_);refine hK _ _ ?_;clear hK K;refine wpLx_nil ?_;intro hS;have a0:Keep [b] w5 w7:=hS;have i4:ga<w5.heap.size:=(aG t).1;have m1:ga<x:=oM;have m7:gc<x:=oH (rowAt_lt j);have k7:g≠x:=oM;have k9:x≠b:=oM;have h4:w7.heap[x]?=some (.cells #[.string s,.bool false] 201 (0,0)):=by
     refine(i0.block x (by rw[l7.out];show x<(w5.alloc _).heap.size;simp;omega) (by simpa using k9)).trans ?_;rw[l7.out,<-hx];exact heap_alloc_new w5 _
    have b9:=(a0.block ga i4 sO).trans t;have X:rowAt w7 gc 0 32=some (idC C):=(a0.row (rowAt_lt j) c0 _ _).trans j;have h1:=(a0.block g (aG d5).1 i5).trans d5;have d2:w7.cell? ⟨g,2,none⟩=some (.int .i64 B0):=by rw[cell_of_row w7 g 2 _ _ _ h1];rfl
    have f2:w7.frozen? ⟨g,2,none⟩=false:=by simp[frozen?,h1]
    have n5:IntKind.i64.wrap ((B0:Int)+(Z:Int))=(B0:Int)+(Z:Int):=IntWalk.i64_in _ oM;have b8:=Keep.setCell w7 ⟨g,2,none⟩ (.int .i64 ((B0:Int)+(Z:Int)));have f8:=heap_set_at h1 2 (.int .i64 ((B0:Int)+(Z:Int)));have d8:MapAt w7 b idV ptrVal okId (putL M C x) l4 f9:=k3;clear c6 k1 m2 hx h6 i0 i8 hS h7 b1 b2 d4 k3 d5 j t;go_upto_region 13 with fail
    obtain⟨W8,l2⟩:=eX (w7.setCell ⟨g,2,none⟩ (.int .i64 ((B0:Int)+(Z:Int))))
    rw[l2]at b8 f8 |-;clear l2 d2 f2;have b7:Keep [b,g] w W8:=Keep.trans (Keep.trans (a4.mono sI) (a0.mono (S':=[b,g]) sI) (λy hy=>.inl hy)) (b8.mono (S':=[b,g]) sI) (λy hy=>.inl hy);have l0:b∉[g]:=by simpa using λe:b=g=>i3 e.symm
    have k2:=d8.kept b8 l0;have g3:=(b8.block x (aG h4).1 (by simpa using λe:x=g=>k7 e.symm)).trans h4;have a1:=(b8.block ga (aG b9).1 sO).trans b9;have H:rowAt W8 gc 0 32=some (idC C):=(b8.row (rowAt_lt X) sO _ _).trans X;have e0:W8.cell? ⟨g,0,none⟩=some (.pointer (some ⟨l,0,none⟩)):=by rw[cell_of_row W8 g 0 _ _ _ f8];rfl
    have d3:∀y∈Fl,y<ga:=λy hy=>h3.out y (by rw[d6.out];exact mem_cons_of_mem _ (mem_cons_of_mem _ (mem_append_left _ hy)));have c3:g∉Fl:=λh=>(H7.out g h).1 rfl;have c1:gc∉Fl:=λh=>(oH (d3 gc h));have f1:ga∉Fl:=λh=>(oH (d3 ga h));have j9:x∉Fl:=λh=>(oH (d3 x h));have l1:b∉Fl:=λh=>(H7.out b h).2.1 rfl;have c2:=lru_use W8.drew l Fl _ C ((n4.out.kept b7 (λy hy hm=>by
     rcases mem_cons.1 hm with e | hm
     ·exact(H7.out y hy).2.1 e
     ·exact(H7.out y hy).1 (by simpa using hm))).kept (Keep.drew W8) (S:=[]) sI)
    clear a0 b8 d8 h4 b9 X h1;refine kX Fl W8 ?_;intro h7 hS;have b1:=ksub_cell e0 c3;have b2:=ksub_row H c1;refine lQ ?_;intro K hK;refine c2.mono ?_;rintro e w9 ⟨rfl,⟨m0,k4,g4⟩,k5⟩;replace hS:=kp_next hS k5 (λy hy=>.inl hy);refine⟨_,rfl,hS,hK _ _ ?_⟩;clear hK K;refine lZ ?_;refine wpLx_nil ?_;intro hS;have U:Keep Fl W8 w9:=hS;have d9:=(U.block ga (aG a1).1 f1).trans a1;have k0:rowAt w9 gc 0 32=some (idC C):=(U.row (rowAt_lt H) c1 _ _).trans H;obtain⟨g2,h5,b3,a5⟩:=idbox d9 C;have h8:Keep ([b,g]++Fl ++ [ga]) w g2:=Keep.trans (Keep.trans (b7.mono λy hy=>.inl (by simp at hy |-;omega)) (U.mono λy hy=>.inl (by simp[hy])) (λy hy=>.inl hy)) (a5.mono λy hy=>.inl (by simp at hy |-;omega)) (λy hy=>.inl hy);have b4:∀y∈F,y≠ga:=λy hy=>(oH (h3.out y hy));have L:Keep (Fl ++ [ga]) W8 g2:=Keep.trans (U.mono λy hy=>.inl (by simp[hy])) (a5.mono λy hy=>.inl (by simp at hy |-;omega)) (λy hy=>.inl hy);have c5:(∃F',StoAt g2 g F' q T/\∀y∈F',y∈F\/w.heap.size<=y)/\Keep F w g2:=by
     refine⟨⟨g :: b :: (m0++(N ++ [((⟨C,s,false⟩:Pay),x)]).map (·.2)),⟨l,b,m0,N ++ [((⟨C,s,false⟩:Pay),x)],?_,rfl,?_,?_,⟨_,l4,f9,k2.kept L ?_,?_⟩,?_,?_,?_⟩,?_⟩,?_⟩
     ·rw[O,map_append,l6.out];rfl
     ·have h9:=(L.block g (aG f8).1 (by simp;exact⟨c3,oM⟩)).trans f8;have e9:((B0:Int)+(Z:Int))=((bytesX T:Nat):Int):=by rw[O,bytesX_put,j8.out,<-HZ.out];push_cast;rfl
      have e8:pinnedX T=pinnedX S:=by rw[O];unfold pinnedX;rw[filter_append];simp
      rw[h9,e9,e8];rfl
     ·have e9:T.map (·.c)=offL (S.map (·.c)) C ++ [C]:=by rw[O,map_append,offL_no j4.out];rfl
      rw[e9];exact k4.kept a5 λy hy hm=>by
       have e:y=ga:=by simpa using hm
       rcases g4 y hy with h | h
       ·have:=d3 y h;omega
       ·have n7:=(aG a1).1;have l3:W8.heap.size<=y:=h;omega
     ·simp;exact⟨l1,oM⟩
     ·have hn:C∉M.map (·.1):=by
       intro h;have h9:=(l5.out.map (·.1)).mem_iff.1 h;rw[map_map]at h9;exact j4.out (by rw[<-l6.out,map_map];exact h9)
      unfold putL;rw[if_neg hn,map_append];exact Perm.append_right _ l5.out
     ·intro r hr;rcases mem_append.1 hr with hr | hr
      ·have m5:r.2∈F:=by rw[d6.out];exact mem_cons_of_mem _ (mem_cons_of_mem _ (mem_append_right _ (mem_map_of_mem (f:=(·.2)) hr)))
       refine(j3.out r hr).kept h8 λhm=>?_;simp only[mem_append,mem_cons,not_mem_nil,or_false]at hm;rcases hm with((h | h) | h) | h
       ·have h9:=(j3.out r hr).heap;rw[h,Hm.out.heap]at h9;cases h9
       ·have h9:=(j3.out r hr).heap;rw[h,H3.out]at h9;injection h9 with h9;injection h9 with h9 _ _
        have:=congrArg Array.size h9;simp at this
       ·exact(H7.out _ h).2.2 (mem_map_of_mem (f:=(·.2)) hr)
       ·exact b4 _ m5 h
      ·have e:r=(⟨C,s,false⟩,x):=by simpa using hr
       subst e;exact⟨(L.block x (aG g3).1 (by simp;exact⟨j9,oM⟩)).trans g3⟩
     ·intro y hy;rcases g4 y hy with h | h
      ·have:=d3 y h;refine⟨(H7.out y h).1,(H7.out y h).2.1,λhm=>?_⟩;rw[map_append]at hm;rcases mem_append.1 hm with hm | hm
       ·exact(H7.out y h).2.2 hm
       ·have e:y=x:=by simpa using hm
        omega
      ·have l3:W8.heap.size<=y:=h;have n1:=(aG g3).1;refine⟨oM,oM,λhm=>?_⟩;rw[map_append]at hm;rcases mem_append.1 hm with hm | hm
       ·have:=h3.out y (by rw[d6.out];exact mem_cons_of_mem _ (mem_cons_of_mem _ (mem_append_right _ hm)));omega
       ·have e:y=x:=by simpa using hm
        omega
     ·rw[map_append];refine nodup_append.2 ⟨n3.out,sI,λy hy z hz e=>?_⟩;have ez:z=x:=by simpa using hz
      have:=h3.out y (by rw[d6.out];exact mem_cons_of_mem _ (mem_cons_of_mem _ (mem_append_right _ hy)));omega
     ·intro y hy;rw[d6.out,G.out];rcases mem_cons.1 hy with h | hy
      ·left;rw[h];simp
      rcases mem_cons.1 hy with h | hy
      ·left;rw[h];simp
      rcases mem_append.1 hy with h | h
      ·rcases g4 y h with h | h
       ·left;exact mem_cons_of_mem _ (mem_cons_of_mem _ (mem_append_left _ h))
       ·right
        have l3:W8.heap.size<=y:=h;have n1:=(aG a1).1;omega
      ·rw[map_append]at h;rcases mem_append.1 h with h | h
       ·left;exact mem_cons_of_mem _ (mem_cons_of_mem _ (mem_append_right _ h))
       ·right
        have e:y=x:=by simpa using h
        omega
     ·refine h8.mono λy hy=>?_;simp only[mem_append,mem_cons,not_mem_nil,or_false]at hy;rw[d6.out,G.out];rcases hy with((h | h) | h) | h
      ·left;rw[h];simp
      ·left;rw[h];simp
      ·left;exact mem_cons_of_mem _ (mem_cons_of_mem _ (mem_append_left _ h))
      ·right;omega
    rw[G.out]at c5;have HF:=dH c5;have Hid:=dH b3;have j6:=dH a3;have j7:=dH m;clear c5 h8 L b3 a5 d9 U k4 g4 k5 hS h7 b1 b2 c2 a1 H g3 k2 b7 f8 e0 O a3 m a4 b4 d3 g5 c3 c1 f1 j9 l1 l0 k7 k9 i3 i5 c0;(go_wp2_with fail);refine bodyPost_ret (results_ct results124 _ _ ga 23 (idC C) (0,0) _ rfl Hid.out underlying23 rfl (by rw[idC_size];exact infoId)) rfl ?_;exact⟨by rw[j6.out,j7.out];rfl,HF.out⟩
 ·rw[if_pos a8]at D;have m9:(E1 != 0)=true:=by rw[bne_iff_ne];exact a8
  have O:T=S:=by rw[d0,if_neg (λh=>a8 (by rw[<-D];exact h.1))]
  have a3:I=id0:=by rw[<-hI,if_neg (by rw[D];exact a8)]
  obtain⟨w3,h5,A,k6⟩:=idbox hid id0;have m6:Keep [] w W:=Keep.of_below (by rw[G.out];exact hB);have Y:Keep [] w w3:=(Keep.trans (m6.mono (S':=[ga]) sI) k6 (λy hy=>.inl hy)).narrow (λy hy=>by simp at hy;rw[G.out];omega);have HF:=dH (And.intro (show StoAt w3 g F q T by rw[O];exact H0.out.kept Y sI) (Y.mono (S':=F) sI));have j1:=dH A;have HI:=dH a3;have HE:=dH D;clear hE hI hT D d0 hC i7 c9 e1 e2 e3 e4 hm d7 e6 e7 e8 hB hid a8 Y A k6 O a3 g9 f5 hW c8;go_enter func124,ntmps124
  (go_wp2_with fail);rw[<-HW.out,G.out];refine cn.mono ?_;rintro e w1 ⟨rfl,rfl⟩;(go_wp2_with fail);refine cc.mono ?_;rintro e w1 ⟨rfl,rfl⟩;clear cn cc;(go_wp2_with fail);refine bodyPost_ret (results_ct results124 _ _ ga 23 (idC id0) (0,0) _ rfl j1.out underlying23 rfl (by rw[idC_size];exact infoId)) rfl ?_;exact⟨by rw[HI.out,HE.out];rfl,⟨F,HF.out.1,λ_ h=>.inl h⟩,HF.out.2⟩
theorem sto_new(w:World)(q:Int):Calls prog 151 #[.int .i64 q] w λe w'=>if 0<=q/\q<=4096 then ∃g F,e=.returned (.tuple #[.pointer (some ⟨g,0,none⟩),.int .i64 0])/\StoAt w' g F q []/\(∀x∈F,w.heap.size<=x)/\Below w.heap.size w w' else e=.returned (.tuple #[.pointer none,.int .i64 1])/\Below w.heap.size w w':=by
 have c1:=lru_new w;have j:=@run_makeMap prog;by_cases h:0<=q/\q<=4096
 ·simp only[if_pos h];have h1:decide (q<0)=false:=sO;have h2:decide (4096<q)=false:=sO;have H:=dH h;go_enter func151,ntmps151
  (go_wp2_with fail);refine c1.mono ?_;rintro e w1 ⟨l,Fl,rfl,hl,hs,hb⟩;have hm:=MapAt.new (kv:=idV) (vv:=ptrVal) (ok:=okId) w1 w1.heap.size rfl;have HL:=dH hl;have HS:=dH hs;have HB:=dH hb;have Hm:=dH hm;clear c1 hl hs hb hm;(go_wp2_with fail);go_ret2;have hg:=heap_alloc_new (w1.alloc (.map #[] 0)) (.cells (stoC l q 0 0 w1.heap.size) 187 (0,0));rw[(sI:(w1.alloc (.map #[] 0)).heap.size=w1.heap.size+1)]at hg;have hk:=Keep.trans (Keep.alloc w1 (.map #[] 0)) (Keep.alloc (w1.alloc (.map #[] 0)) (.cells (stoC l q 0 0 w1.heap.size) 187 (0,0))) sI;have f:=HL.out.lt;have d:=HB.out.size;refine⟨w1.heap.size+1,_,rfl,⟨l,w1.heap.size,Fl,[],rfl,rfl,hg,HL.out.kept hk sI,⟨_,_,_,Hm.out.kept (Keep.alloc _ _) sI,Perm.refl _⟩,sI,λx hx=>?_,sI⟩,λx hx=>?_,?_⟩
  ·have:=f x hx;exact⟨oM,oM,sI⟩
  ·simp at hx;rcases hx with h | h | h
   ·omega
   ·omega
   ·exact HS.out x h
  ·exact(HB.out.alloc d _).alloc sO _
 ·simp only[if_neg h];have h1:(decide (q<0)||decide (4096<q))=true:=sO;have H:=dH h;by_cases hq:q<0
  ·have h2:decide (q<0)=true:=by simpa using hq
   clear h1 hq h c1;go_enter func151,ntmps151
   (go_wp2_with fail);go_ret2;exact⟨rfl,Below.refl _ _⟩
  ·have h2:decide (q<0)=false:=by simpa using hq
   have h3:decide (4096<q)=true:=sO;clear h1 hq h c1;go_enter func151,ntmps151
   (go_wp2_with fail);go_ret2;exact⟨rfl,Below.refl _ _⟩
section
section
variable {D D':List HdX}
theorem ris_ids_of(d:(idsX D').Nodup)(sub:∀x∈D,x∈D')(hr:RisX D):Ris (ordX (htX D')) (idsX D):=by
 unfold RisX Ris idsX at *;rw[pairwise_map];refine hr.imp_of_mem fun {a b} ha hb hab=>?_;unfold ordX;rw[htX_mem (D:=D') d (sub a ha),htX_mem (D:=D') d (sub b hb)];exact hab
theorem tps_sub(t:ByteArray):(tpsX D t).Sublist (idsX D):=Sublist.map _ filter_sublist
theorem cms_sub(c:Id32):(cmsX D c).Sublist (idsX D):=Sublist.map _ filter_sublist
end
section
variable {n:Nat} {X:StX} {y:HdV}
theorem addX_new(hv:verX X.D y=0)(hi:hdI y∉idsX X.D):addX X.D y=insX X.D ⟨hdI y,y⟩:=if_pos ⟨hv,hi⟩
theorem tps_add(h:StOk n X)(hv:verX X.D y=0)(hi:hdI y∉idsX X.D)(t:ByteArray) :
  Ris (ordX (htX (addX X.D y))) (tpsX X.D t)/\tpsX (addX X.D y) t=if y.tp=t then insC (ordX (htX (addX X.D y))) (tpsX X.D t) (hdI y)else tpsX X.D t:=by
 obtain⟨a1,a2,_⟩:=addX_ok h hv;have d:∀x∈X.D,x∈addX X.D y:=λx hx=>addX_mem.2 (.inl hx);have r1:=(ris_ids_of a1 d h.ris).sub (tps_sub t);have r2:=(risX_ids a1 a2).sub (tps_sub t);refine⟨r1,?_⟩;have hm:∀z,z∈tpsX (addX X.D y) t↔z∈tpsX X.D t\/(y.tp=t/\z=hdI y):=λz=>by
  rw[tpsX_mem,tpsX_mem];constructor
  ·rintro⟨x,hx,h1,h2⟩;rcases addX_mem.1 hx with hx | ⟨_,_,e⟩
   ·exact .inl ⟨x,hx,h1,h2⟩
   ·subst e;exact .inr ⟨h1,h2.symm⟩
  ·rintro(⟨x,hx,h1,h2⟩ | ⟨h1,h2⟩)
   ·exact⟨x,d x hx,h1,h2⟩
   ·exact⟨⟨hdI y,y⟩,addX_mem.2 (.inr ⟨hv,hi,rfl⟩),h1,h2.symm⟩
 split
 ·rename_i ht
  refine ris_ext (totX _) r2 (ris_insC (totX _) r1) λz=>?_;rw[hm,mem_insC (totX _)];constructor
  ·rintro(h1 | ⟨_,h1⟩)
   ·exact .inr h1
   ·exact .inl h1
  ·rintro(h1 | h1)
   ·exact .inr ⟨ht,h1⟩
   ·exact .inl h1
 ·rename_i ht
  refine ris_ext (totX _) r2 r1 λz=>?_;rw[hm];exact⟨λh1=>h1.elim id λh1=>absurd h1.1 ht,.inl⟩
theorem cms_add(h:StOk n X)(hv:verX X.D y=0)(hi:hdI y∉idsX X.D)(c:Id32) :
  Ris (ordX (htX (addX X.D y))) (cmsX X.D c)/\cmsX (addX X.D y) c=if y.cm=c then insC (ordX (htX (addX X.D y))) (cmsX X.D c) (hdI y)else cmsX X.D c:=by
 obtain⟨a1,a2,_⟩:=addX_ok h hv;have d:∀x∈X.D,x∈addX X.D y:=λx hx=>addX_mem.2 (.inl hx);have r1:=(ris_ids_of a1 d h.ris).sub (cms_sub c);have r2:=(risX_ids a1 a2).sub (cms_sub c);refine⟨r1,?_⟩;have hm:∀z,z∈cmsX (addX X.D y) c↔z∈cmsX X.D c\/(y.cm=c/\z=hdI y):=λz=>by
  rw[cmsX_mem,cmsX_mem];constructor
  ·rintro⟨x,hx,h1,h2⟩;rcases addX_mem.1 hx with hx | ⟨_,_,e⟩
   ·exact .inl ⟨x,hx,h1,h2⟩
   ·subst e;exact .inr ⟨h1,h2.symm⟩
  ·rintro(⟨x,hx,h1,h2⟩ | ⟨h1,h2⟩)
   ·exact⟨x,d x hx,h1,h2⟩
   ·exact⟨⟨hdI y,y⟩,addX_mem.2 (.inr ⟨hv,hi,rfl⟩),h1,h2.symm⟩
 split
 ·rename_i ht
  refine ris_ext (totX _) r2 (ris_insC (totX _) r1) λz=>?_;rw[hm,mem_insC (totX _)];constructor
  ·rintro(h1 | ⟨_,h1⟩)
   ·exact .inr h1
   ·exact .inl h1
  ·rintro(h1 | h1)
   ·exact .inr ⟨ht,h1⟩
   ·exact .inl h1
 ·rename_i ht
  refine ris_ext (totX _) r2 r1 λz=>?_;rw[hm];exact⟨λh1=>h1.elim id λh1=>absurd h1.1 ht,.inl⟩
theorem par_add(hv:verX X.D y=0)(hi:hdI y∉idsX X.D)(z:Id32):z∈parX (addX X.D y)↔z∈parX X.D\/z∈y.ps:=by
 rw[addX_new hv hi];unfold parX;simp only[mem_flatMap];constructor
 ·rintro⟨x,hx,hz⟩;rcases mem_insX.1 hx with e | hx
  ·subst e;exact .inr hz
  ·exact .inl ⟨x,hx,hz⟩
 ·rintro(⟨x,hx,hz⟩ | hz)
  ·exact⟨x,mem_insX.2 (.inr hx),hz⟩
  ·exact⟨⟨hdI y,y⟩,mem_insX.2 (.inl rfl),hz⟩
end
end
section
theorem flat_take:∀(L:List (Array Value)) (k m:Nat),(∀c∈L,c.size=k)->m<=L.length->(L.take m).flatMap Array.toList=(L.flatMap Array.toList).take (m*k)/\(L.drop m).flatMap Array.toList=(L.flatMap Array.toList).drop (m*k)
 | L,k,0,_,_=>by simp
 | c :: L,k,m+1,hs,hm=>by
  have hc:c.toList.length=k:=by simpa using hs c sI
  obtain⟨h1,h2⟩:=flat_take L k m (λc h=>hs c (by simp[h])) (by simpa using hm);have e:(m+1)*k=c.toList.length+m*k:=by rw[hc,Nat.add_mul];omega
  simp only[take_succ_cons,drop_succ_cons,flatMap_cons];rw[h1,h2,e];exact⟨(take_length_add_append _).symm,(drop_length_add_append _).symm⟩
 | [],k,m+1,_,hm=>by simp at hm
theorem addr_add(q o j:Nat):(⟨q,o,none⟩:Addr).add j=⟨q,o+j,none⟩:=by unfold Addr.add;split <;> simp_all
section
variable {P:Program} {T E:TypeId} {k bytes:Nat} {w:World} {B g n cap:Nat} {R:List (Array Value)}
theorem Own.drop_slr(h:Own w B E k (some ⟨g,0,none⟩) n cap R)(hi:i<=n):SlR w (some ⟨g,i*k,none⟩) (n-i) k (R.drop i):=by
 have hs:=h.slr;refine⟨by rw[length_drop,h.len],λh0=>⟨g,i*k,rfl,λj hj=>?_⟩⟩;have d:i+j<R.length:=by rw[length_drop]at hj;omega
 obtain⟨g',o',e,hr⟩:=hs.2 oM;injection e with e;injection e with e1 e2
 subst e1;subst e2;have:=hr (i+j) d;rw[Nat.zero_add,Nat.add_mul]at this;rw[this,getElem_drop]
theorem run_copy_rows{dT sT elem:TypeId}{o dLen dCap:Nat}{q off sCap:Nat}(hu:P.underlying dT=some (.slice elem))(hs:(P.info? elem).map (·.size)=some k)
  (hg:w.heap[g]?=some (.cells f t (0,0)))(hn:Nat.min sLen dLen=m)(hX:SlR w (some ⟨q,off,none⟩) m k X)(D:∀c∈X,c.size=k)(y:o+m*k<=f.size)(h1:∀c∈X,∀v∈c.toList,v.oneCell'=true) :
  (Builtin.copy_ #[dT,sT] ty #[.slice (some ⟨g,o,none⟩) dLen dCap,.slice (some ⟨q,off,none⟩) sLen sCap]).run P w =
   .ok (goInt m) (w.setRow g (f.toList.take o++X.flatMap Array.toList++f.toList.drop (o+m*k)).toArray):=by
 have d:=flat_len X k D;rw[hX.1]at d;have hl:=run_loadCells_list (P:=P) w ⟨q,off,none⟩ (X.flatMap Array.toList) (λj v hj=>by
  have B:j<m*k:=by rw[<-d];exact(List.getElem?_eq_some_iff.1 hj).1
  have F:0<k:=by rcases Nat.eq_zero_or_pos k with h | h;· subst h;simp at B
                 · exact h
  have hi:j / k<m:=Nat.div_lt_of_lt_mul (by rw[Nat.mul_comm];exact B);have hr:j % k<k:=Nat.mod_lt _ F;have he:j=j / k*k+j % k:=by rw[Nat.mul_comm];exact(Nat.div_add_mod j k).symm
  obtain⟨g',o',e,s⟩:=hX.2 (Nat.lt_of_le_of_lt zL hi);injection e with e;injection e with e1 e2
  subst e1;subst e2;have E:=s (j / k) (by rw[hX.1];exact hi);have A:=addr_add q off j;have h2:=flat_get X k D (j / k) (j % k) (by rw[hX.1];exact hi) hr;rw[<-he,hj]at h2;rw[A,show off+j=off+j / k*k+j % k by rw[Nat.add_assoc,<-he],rowAt_cell E hr];exact h2.symm)
 have r:=run_storeCells_at P g o t (X.flatMap Array.toList) 0 f w hg (by rw[d,Nat.add_zero];exact y) (λv hv=>by
  obtain⟨c,hc,hv⟩:=mem_flatMap.1 hv;exact h1 c hc v hv)
 rw[d]at hl r;simp only[Nat.add_zero]at r;cases hq:P.info? elem with
 | none=>simp[hq]at hs
 | some i =>
  have hi:i.size=k:=by simpa[hq]using hs
  simp[Builtin.copy_,run_underlying hu,Builtin.lenOf,Builtin.firstCells,sizeOf,typeInfo,hq,hi,hn,hl,r]
theorem own_copy(I:ElemInfo P T E k bytes)(h:Own w B E k (some ⟨g,0,none⟩) n cap R){d q off:Nat}(hX:SlR w (some ⟨q,off,none⟩) m k X)(F:∀c∈X,c.size=k)(L:∀c∈X,∀v∈c.toList,v.oneCell'=true)(J:d+m<=n)(hn:Nat.min sLen (n-d)=m) :
  ∃w',(∀(ty:TypeId) (dc sCap:Nat),(Builtin.copy_ #[T,T] ty #[.slice (some ⟨g,d*k,none⟩) (n-d) dc,.slice (some ⟨q,off,none⟩) sLen sCap]).run P w=.ok (goInt m) w')/\Own w' B E k (some ⟨g,0,none⟩) n cap (R.take d++X++R.drop (d+m))/\Keep [g] w w':=by
 have hL:=h.len;have s:=h.size;obtain⟨M,z,D,hz,A,V,N⟩:=I.info;obtain⟨⟨h1,h2⟩,_,_⟩:=h;rcases h2 with⟨h2,_⟩ | ⟨g',c,cur,hv,hb,hg,hnc,hcm,hcsz,htake⟩
 ·cases h2
 injection hv with r _ hc
 injection r with r
 injection r with r
 subst r;subst hc;have O:n*k<=cur.size:=by rw[hcsz];exact Nat.mul_le_mul_right k hnc
 have j:(d+m)*k<=n*k:=Nat.mul_le_mul_right k J;have G:=flat_len X k F;rw[hX.1]at G;have t:=fun (ty:TypeId) (dc sCap:Nat)=>run_copy_rows (P:=P) (dT:=T) (sT:=T) (ty:=ty) (elem:=E) (o:=d*k) (dLen:=n-d) (dCap:=dc) (sCap:=sCap) I.und (by rw[D];simp[A]) hg hn hX F (by rw[Nat.add_mul]at j;omega) L;have H:∀c∈R.take d++X++R.drop (d+m),c.size=k:=λc hc=>by
  rcases mem_append.1 hc with hc | hc
  ·rcases mem_append.1 hc with hc | hc
   ·exact s c (mem_of_mem_take hc)
   ·exact F c hc
  ·exact s c (mem_of_mem_drop hc)
 have f:(R.take d++X++R.drop (d+m)).length=n:=by
  simp only[length_append,length_take,length_drop,hX.1];omega
 refine⟨_,t,⟨⟨?_,.inr ⟨g,cap,_,rfl,hb,setRow_heap w g _ _ _ _ hg,hnc,hcm,?_,?_⟩⟩,f,H⟩,⟨rfl,rfl,rfl,by simp[setRow],λy _ hy=>setRow_other w g y _ (by simpa using hy)⟩⟩
 ·rw[flat_len _ k H,f]
 ·have e1:(cur.toList.take (d*k)).length=d*k:=by rw[length_take,Array.length_toList];rw[Nat.add_mul]at j;omega
  have e2:(cur.toList.drop (d*k+m*k)).length=cap*k-(d*k+m*k):=by rw[length_drop,Array.length_toList,hcsz]
  simp only[size_toArray,length_append,e1,e2,G];rw[Nat.add_mul]at j;omega
 ·have e0:cur.toList.take (d*k)=(R.flatMap Array.toList).take (d*k):=by
   rw[<-htake,take_take,Nat.min_eq_left (by rw[Nat.add_mul]at j;omega)]
  obtain⟨f1,_⟩:=flat_take R k d s oM;obtain⟨_,f2⟩:=flat_take R k (d+m) s oM;rw[flatMap_append,flatMap_append,f1,f2,<-e0];show List.take (n*k) ((cur.toList.take (d*k)++X.flatMap Array.toList)++cur.toList.drop (d*k+m*k))=_;have e1:(cur.toList.take (d*k)++X.flatMap Array.toList).length=(d+m)*k:=by
   rw[length_append,G,length_take,Array.length_toList];rw[Nat.add_mul]at j |-;omega
  rw[take_append,e1,take_of_length_le oM];congr 1
  rw[<-htake,drop_take,Nat.add_mul]
theorem run_append_zeros{tn e:TypeId}{i:TypeInfo}{z:Value}{kn kk:IntKind}(ht:P.underlying t=some (.slice e))(s:P.underlying tn=some (.int kn))(hi:P.info? e=some i)(hz:i.zero=some z){sCap:Nat}{d:List Value}
  (f:(Builtin.firstCells i.size sLen (.slice base sLen sCap)).run P w.drew=.ok d.toArray w.drew)(h0:0<m)(hs:0<i.size)(hg:sCap<sLen+m)(B:((sLen+m:Nat):Int)<=9223372036854775807)(A:Builtin.nextslicecap (sLen+m) sCap*i.bytes<=281474976710656)(D:m*i.bytes<=281474976710656) :
  (Builtin.append_ #[t,tn] ty #[.slice base sLen sCap,.int kk m]).run P w =
   .ok (.slice (some ⟨w.heap.size,0,none⟩) (sLen+m) (grownCap w (sLen+m) sCap e))
    (w.drew.alloc (.cells (d.toArray++Builtin.zeroCells z.cells m++Builtin.zeroCells z.cells (grownCap w (sLen+m) sCap e-(sLen+m))) e)):=by
 have hw:IntKind.i64.wrap (m:Int)=m:=by rw[IntKind.wrap_i64];omega
 have hn:¬(sLen+m<=sCap):=oM;have j:¬(9223372036854775807<((sLen:Int)+(m:Int))):=oM;have r:¬(281474976710656<Builtin.nextslicecap (sLen+m) sCap*i.bytes):=oM;have k:¬(281474976710656<(m:Int)*(i.bytes:Int)):=by rw[<-Int.natCast_mul];omega
 have g:¬((m:Int)<0):=oM;have y:¬(m*i.size=0):=Nat.mul_ne_zero oM oM;simp[Builtin.append_,run_underlying ht,run_underlying s,sizeOf,typeInfo,zeroValue,hi,hz,asInt,asIntOf,hw,hn,g,y,j,r,k,Question.forced,f,newRow,grownCap]
end
end
end Go.Proofs.YtplpiicfkbpkaaaGreatDoor
