/- Part 12 of the texts that lead to this claim: the walks of the functions and the plain law, in order. -/
import Derived.Test.YtplpiicfkbpkaaaGreatDoorMk11
import Derived.Lib.BufferWrite
import Derived.RangeFuncNested
import Derived.RangeFuncBound
import Derived.RangeFuncCalls
import Derived.RangeFuncLeaves
import Derived.Shelf.Abstract
import Derived.Shelf.RegionOpen
import Derived.WalkKit
import Derived.OwnWalkIn
import Derived.TacticsInMore
import Derived.LoopNIn
import Derived.LoopIn
namespace Go.Proofs.YtplpiicfkbpkaaaGreatDoor
open Go.RowKit
open List hiding and get max min or set
open Go.Proofs.Tryz
open World
set_option maxRecDepth 100000
set_option maxHeartbeats 8000000
variable {W w w':World}{F S:List Nat}{B cap g j n v:Nat}{A P:Option Addr}{c f s:Int}{T:TypeId}{cs:Array Value}
def crcU:List UInt32:=[0x00000000,0x1db71064,0x3b6e20c8,0x26d930ac,0x76dc4190,0x6b6b51f4,0x4db26158,0x5005713c,0xedb88320,0xf00f9344,0xd6d6a3e8,0xcb61b38c,0x9b64c2b0,0x86d3d2d4,0xa00ae278,0xbdbdf21c]
def CrcVar(w:World):Prop:=∀k,k<16->w.cell? ⟨4,k,none⟩=some (.int .u32 (nU (crcU.getD k 0)))
theorem CrcVar.lt(h:CrcVar w):4<w.heap.size:=block_lt_of_cell? w _ (h 0 oM)
theorem CrcVar.kept(h:CrcVar w)(k:Keep S w w')(h0:4∉S):CrcVar w' :=
 λi hi=>(k.cell (p:=⟨4,i,none⟩) h.lt h0).trans (h i hi)
theorem CrcVar.below(h:CrcVar w)(hb:Below w.heap.size w w'):CrcVar w':=h.kept (Keep.of_below hb) sI
theorem crc_dn4(x:UInt32):nU x / (16:Int)=nU (x >>> 4):=u_shr x 4 oM
theorem crc_lo(x:UInt32):∃k:Nat,k<16/\bits .and .u32 (nU x) 15=(k:Int):=by
 have h:=u_and x 15;refine⟨(x &&& 15).toNat,?_,h⟩;rw[UInt32.toNat_and];exact Nat.lt_of_le_of_lt Nat.and_le_right (by decide)
theorem nib_any(a:UInt32)(c:UInt8)(w:World)(hv:CrcVar w):Calls prog 290 #[.int .u32 (nU a),.int .u8 ((c.toNat:Nat):Int)] w λe w'=>∃r:UInt32,e=.returned (.int .u32 (nU r))/\w=w':=by
 obtain⟨k,hk,he⟩:=crc_lo (a ^^^ c.toUInt32);have hc:=hv k hk;have h4:=crc_dn4 a;have Hv:=dH hv;clear hv;go_enter func290,ntmps290
 (go_wp2_with fail);go_ret;exact⟨_,rfl,rfl⟩
theorem u8_hi(c:UInt8):((c.toNat:Nat):Int) / (16:Int)=(((c >>> 4).toNat:Nat):Int):=by
 rw[UInt8.toNat_shiftRight];show((c.toNat:Nat):Int) / (16:Int)=((c.toNat >>> 4:Nat):Int)
 rw[Nat.shiftRight_eq_div_pow];omega
theorem crc_add(a:UInt32)(s:ByteArray)(w:World)(hv:CrcVar w)(hs:s.size<=9223372036854775807):Calls prog 253 #[.int .u32 (nU a),.string s] w λe w'=>∃r:UInt32,e=.returned (.int .u32 (nU r))/\Below w.heap.size w w':=by
 have Hv:=dH hv;clear hv;go_enter func253,ntmps253
 (go_wp2_with fail);go_loopw [5,11] (λcv iv wr=>∃(i:Nat) (c:UInt32),i<=s.size/\iv=.int .i64 i/\cv=.int .u32 (nU c)/\Below w.heap.size w wr) (λ_ iv _=>s.size-(intOf iv).toNat)
 case atStart=>exact⟨0,_,zL,rfl,rfl,Below.refl _ _⟩
 case round =>
  obtain⟨i,c,hi,rfl,rfl,d⟩:=hrel;by_cases g:i<s.size
  ·go_upto_region 5 with fail
   have hv:=Hv.out.below d;obtain⟨b,hb⟩:=eX (s[i]'g)
   refine lX wr ?_;intro f hS;refine lQ ?_;intro K hK;refine(nib_any c b _ (hv.below hS)).mono ?_;rintro e w' ⟨r,rfl,rfl⟩;refine⟨_,rfl,hS,hK _ _ ?_⟩;clear hK K;refine lQ ?_;intro K hK;rw[u8_hi b];refine(nib_any r (b >>> 4) _ (hv.below hS)).mono ?_;rintro e w' ⟨r2,rfl,rfl⟩;refine⟨_,rfl,hS,hK _ _ ?_⟩;clear hK K;refine lZ ?_;refine wpLx_nil ?_;intro hS;have j:=bel2 d hS;clear f hS hv d hb;(go_wp2_with fail);go_roundw
   case rel=>exact⟨i+1,r2,oM,by go_num,rfl,j⟩
   case measure=>exact sZ
  ·(go_wp2_with fail);go_ret;exact⟨_,rfl,d⟩
theorem crc_sum(s:ByteArray)(w:World)(hv:CrcVar w)(hs:s.size<=9223372036854775807):Calls prog 218 #[.string s] w λe w'=>∃r:UInt32,e=.returned (.int .u32 (nU r))/\Below w.heap.size w w':=by
 have h:=crc_add 0 s w hv hs;change Calls prog _ #[.int .u32 0,.string s] w _ at h;go_enter func218,ntmps218
 (go_wp2_with fail);refine h.mono ?_;rintro e w1 ⟨r,rfl,hb⟩;(go_wp2_with fail);go_ret;exact⟨_,rfl,hb⟩
section
open Go.ChangeShapes Go.WideShapes Go.ChangeAt Go.RowKit Go.WideMaps Go.WideElems
open Go.ChangeMaps (setBlock shut_map_nil open_string shut_string)
def laid4:List (String×DataW Unit):=("petrel/crc.table",Rows.laid_petrel_crc_table) :: laid3
theorem laid_crc:(Rows.laid_petrel_crc_table:DataW Unit)=Lib.tabData .u32 (crcU.map nU):=kR
theorem crcVar_of_laid(h:laidMetH prog laid4 W):CrcVar W:=by
 have h':laidMet prog laid4 W:=h;unfold laid4 at h';rw[laid_crc]at h';have hT:=Lib.tabIs_of_head (P:=prog) (g:=4) (t:=402) (e:=188) (n:=16) kR kR underlying402 underlying188 kR kR h';intro k hk;rw[hT.cell (g:=4) kR k (by rw[length_map];exact hk),nU_getD _ _ (by exact hk)]
theorem laid3_of_laid4(h:laidMetH prog laid4 W):laidMetH prog laid3 W:=by
 have h':laidMet prog laid4 W:=h;unfold laid4 at h';exact laidMet_tail h'
def laidWorld4(P:Program)(os:Os):World:=(laidWorld3 P os).setRow 4 ((crcU.map λu=>Value.int .u32 (nU u)).toArray)
theorem laidWorld4_met(os:Os)(args:Array Value):laidMetH prog laid4 ((laidWorld4 prog os).forCall (λ_ _=>0) ⟨#[],args,[]⟩).memory:=by
 show laidMet prog laid4 _;exact laidMet_of_run' 8 kR kR
theorem opensOp:Opens prog w 28 (λx:Int×Int×ByteArray×ByteArray×Id32×Option Addr×Nat×Nat=>opPC ⟨x.1,x.2.1,x.2.2.1,x.2.2.2.1,x.2.2.2.2.1,.slice x.2.2.2.2.2.1 x.2.2.2.2.2.2.1 x.2.2.2.2.2.2.2⟩) (λ_=>True):=by
 intro H enc base j r s cs x h;obtain⟨xs,n,rfl,_,g,d,f⟩:=DataW.trod_struct underlying28 h;have hc:prog.cellsOf 28=37:=kR;rw[hc]at g;obtain⟨a0,h0,_⟩:=opens_field d f (opens_int underlying3) 0 0 1 _ rfl rfl rfl kR;obtain⟨a1,h1,_⟩:=opens_field d f (opens_int underlying3) 1 1 1 _ rfl rfl rfl kR;obtain⟨a2,h2,_⟩:=opens_field d f (opens_string underlying9) 2 2 1 _ rfl rfl rfl kR;obtain⟨a3,h3,_⟩:=opens_field d f (opens_string underlying9) 3 3 1 _ rfl rfl rfl kR;obtain⟨a4,h4,_⟩:=opens_field d f opensId 4 4 32 _ rfl rfl rfl kR;obtain⟨a5,h5,_⟩:=opens_field d f (opens_slice (k:=32) underlying26 opensId kR oM) 5 36 1 _ rfl rfl rfl kR;obtain⟨A,m,c,Y⟩:=a5;refine⟨(a0,a1,a2,a3,a4,A,m,c),?_,trivial⟩;have e0:cs.drop 0=(cs.drop 0).take 1++cs.drop 1:=take_seg;have e1:cs.drop 1=(cs.drop 1).take 1++cs.drop 2:=take_seg;have e2:cs.drop 2=(cs.drop 2).take 1++cs.drop 3:=take_seg;have e3:cs.drop 3=(cs.drop 3).take 1++cs.drop 4:=take_seg;have e4:cs.drop 4=(cs.drop 4).take 32++cs.drop 36:=take_seg;have e5:cs.drop 36=(cs.drop 36).take 1++cs.drop 37:=take_seg;have en:cs.drop 37 = []:=drop_eq_nil_of_le oM;refine e0.trans ?_;rw[h0,e1,h1,e2,h2,e3,h3,e4,h4,e5,h5,en];simp[opPC]
end
theorem kSet(w:World)(g:Nat)(c:Array Value):Keep [g] w (w.setRow g c):=⟨rfl,rfl,rfl,by simp[setRow],λx _ hx=>setRow_other w g x _ (by simpa using hx)⟩
structure Bk where
 b:Value
 safe:Int
 made:Bool
def bkC(x:Bk):Array Value:=#[x.b] ++ #[.int .i64 x.safe] ++ #[.bool x.made]
@[simp] theorem bkC_size(x:Bk):(bkC x).size=3:=by simp[bkC]
@[go_sem] theorem bkC_g0(x:Bk):(bkC x)[0]?=some (x.b):=by first | (simp[bkC,Array.getElem?_append];done) | (rw[show bkC x=((#[]:Array Value)) ++ #[x.b]++(#[.int .i64 x.safe] ++ #[.bool x.made])from by apply Array.ext';simp[bkC]];exact arr_at _ _ _ _ sI)
@[go_sem] theorem bkC_gg0(x:Bk)(h:0<(bkC x).size):(bkC x)[0]'h=x.b:=Option.some.inj ((Array.getElem?_eq_getElem h).symm.trans (bkC_g0 x))
@[go_sem] theorem bkC_g1(x:Bk):(bkC x)[1]?=some (.int .i64 x.safe):=by first | (simp[bkC,Array.getElem?_append];done) | (rw[show bkC x=(#[x.b]) ++ #[.int .i64 x.safe]++(#[.bool x.made])from by apply Array.ext';simp[bkC]];exact arr_at _ _ _ _ sI)
@[go_sem] theorem bkC_gg1(x:Bk)(h:1<(bkC x).size):(bkC x)[1]'h=.int .i64 x.safe:=Option.some.inj ((Array.getElem?_eq_getElem h).symm.trans (bkC_g1 x))
@[go_sem] theorem bkC_g2(x:Bk):(bkC x)[2]?=some (.bool x.made):=by first | (simp[bkC,Array.getElem?_append];done) | (rw[show bkC x=(#[x.b] ++ #[.int .i64 x.safe]) ++ #[.bool x.made]++((#[]:Array Value))from by apply Array.ext';simp[bkC]];exact arr_at _ _ _ _ sI)
@[go_sem] theorem bkC_gg2(x:Bk)(h:2<(bkC x).size):(bkC x)[2]'h=.bool x.made:=Option.some.inj ((Array.getElem?_eq_getElem h).symm.trans (bkC_g2 x))
def bk0:Bk:=⟨(.slice none 0 0),0,false⟩
@[go_sem ↓] theorem zeroBk_run(w:World):(zeroValue 164).run prog w=.ok (.agg (bkC bk0)) w:=by
 have h:(prog.info? 164).bind (·.zero)=some (.agg (bkC bk0)):=kR;cases hi:prog.info? 164 with
 | none=>rw[hi]at h;cases h
 | some i =>
  rw[hi]at h;have hz:i.zero=some (.agg (bkC bk0)):=h;simp[zeroValue,typeInfo,hi,hz]
@[go_sem ↓] theorem loadBk_rw(a:Addr):loadVar 164 a=ldS 164 a:=rfl
@[go_sem ↓] theorem storeBk_rw(a:Addr)(v:Value):storeVar 164 a v=stS 164 a v:=rfl
theorem fieldsBk:prog.underlying 164=some (.struct (prog.fieldsOf 164)):=kR
theorem placesBk(w:World):((prog.fieldsOf 164).mapM fun (f:Field)=>do pure (f.offset,<-sizeOf f.type)).run prog w=.ok #[(0,1),(1,1),(2,1)] w:=kR
@[go_sem ↓] theorem buildBk_rw(parts:Array (Nat×Value)):Instr.build 164 parts=bdS 164 parts:=rfl
@[go_sem] theorem buildBk_2(a2:Bool)(w:World):(bdS 164 #[(2,.bool a2)]).run prog w=.ok (.agg (bkC ⟨(.slice none 0 0),0,a2⟩)) w:=by
 refine run_build w fieldsBk _ (zeroBk_run w) _ (placesBk w) [(2,.bool a2)] _ ?_;rw[show bkC bk0=(#[(.slice none 0 0)]++(#[.int .i64 0])) ++ #[.bool false]++(#[]:Array Value)from by first | (simp[bkC,bk0,Array.append_assoc];done) | (apply Array.ext';simp[bkC,bk0])];rw[fill_step (off:=2) (size:=1) rfl sI sI (by simp[Value.cells])];first | (simp[Instr.fill,bkC,Array.append_assoc,Value.cells];done) | (simp only[Instr.fill,bkC];congr 1;apply Array.ext';simp[Value.cells];done) | (simp only[Instr.fill,bkC];congr 1;done) | (simp only[Instr.fill,bkC];done)
def Arr(w:World)(B:Nat)(A:Option Addr)(n cap:Nat):Prop :=
 (A=none/\n=0/\cap=0)\/∃q cur,A=some ⟨q,0,none⟩/\w.heap[q]?=some (.cells cur 5 (0,0))/\n<=cap/\cur.size=cap/\cap<=maxLen/\B<=q
theorem Arr.kept(h:Arr w B A n cap)(k:Keep S w w')(hn:∀x∈blk A,x∉S):Arr w' B A n cap:=by
 rcases h with h | ⟨q,d,rfl,hq,h2⟩
 ·exact .inl h
 ·exact .inr ⟨q,d,rfl,(k.block q (aG hq).1 (hn q (by simp[blk]))).trans hq,h2⟩
theorem Arr.at_(h:Arr w B A n cap){x:Nat}(hx:x∈blk A):B<=x/\x<w.heap.size:=by
 rcases h with⟨rfl,_⟩ | ⟨q,cur,rfl,hq,_,_,_,hB⟩
 ·simp[blk]at hx
 ·have:x=q:=by simpa[blk]using hx
  subst this;exact⟨hB,(aG hq).1⟩
theorem Arr.up{B':Nat}(h:Arr w B A n cap)(hy:∀y∈blk A,B'<=y):Arr w B' A n cap:=by
 rcases h with h | ⟨q,d,rfl,h1,h2,h3,h4,_⟩
 ·exact .inl h
 ·exact .inr ⟨q,d,rfl,h1,h2,h3,h4,hy q (by simp[blk])⟩
structure BlkAt(w:World)(B g:Nat)(A:Option Addr)(n cap:Nat)(s:Int):Prop where
 heap:w.heap[g]?=some (.cells (bkC ⟨.slice A n cap,s,true⟩) 164 (0,0))
 arr:Arr w B A n cap
 ne:g∉blk A
theorem BlkAt.lt(h:BlkAt w B g A n cap s):g<w.heap.size:=(aG h.heap).1
theorem BlkAt.kept{S:List Nat}{w w':World}{B g n cap:Nat}{A:Option Addr}{s:Int}(h:BlkAt w B g A n cap s)(k:Keep S w w')(hg:g∉S)(hn:∀x∈blk A,x∉S):BlkAt w' B g A n cap s :=
 ⟨(k.block g h.lt hg).trans h.heap,h.arr.kept k hn,h.ne⟩
theorem BlkAt.below(h:BlkAt w B g A n cap s)(hb:Below w.heap.size w w'):BlkAt w' B g A n cap s:=h.kept (Keep.of_below hb) sI sI
theorem bk_cell(h:w.heap[g]?=some (.cells (bkC ⟨.slice A n cap,s,true⟩) T (0,0))) :
  w.cell? ⟨g,0,none⟩=some (.slice A n cap)/\w.cell? ⟨g,1,none⟩=some (.int .i64 s)/\w.cell? ⟨g,2,none⟩=some (.bool true):=by
 refine⟨?_,?_,?_⟩ <;> rw[cell_of_row w g _ _ _ _ h] <;> simp[go_sem]
theorem byteInf:∃i,prog.info? 5=some i/\i.zero=some (.int .u8 0)/\i.size=1/\i.bytes=1:=byteInfo
theorem arr_zeros{m:Nat}(h:Arr w B A n cap)(h0:0<m)(hm:n+m<=1000000000) :
  ∃NC W1,(∀ty,(Builtin.append_ #[103,3] ty #[.slice A n n,.int .i64 m]).run prog w=.ok (.slice (some ⟨w.heap.size,0,none⟩) (n+m) NC) W1)/\Arr W1 w.heap.size (some ⟨w.heap.size,0,none⟩) (n+m) NC/\Below w.heap.size w W1:=by
 obtain⟨F,s,hz,r,g⟩:=byteInf;obtain⟨d,H,k⟩:∃d:List Value,d.length=n/\(Builtin.firstCells F.size n (.slice A n n)).run prog w.drew=.ok d.toArray w.drew:=by
  rcases h with⟨rfl,rfl,rfl⟩ | ⟨q,cur,rfl,hq,I,hcs,_,_⟩
  ·exact⟨[],rfl,run_firstCells_none _ _ _ _ _⟩
  ·have hl:(cur.toList.take n).length=n:=by rw[length_take,Array.length_toList];omega
   refine⟨cur.toList.take n,hl,run_firstCells_some w.drew F.size n ⟨q,0,none⟩ n n _ (by rw[hl,r,Nat.mul_one]) λj v hj=>?_⟩;have G:w.drew.heap[q]?=some (.cells cur 5 (0,0)):=hq;have J:j<n:=by rw[<-hl];exact(List.getElem?_eq_some_iff.1 hj).1
   rw[addr_add,Nat.zero_add,cell_of_row w.drew q j _ _ _ G];rw[getElem?_take,if_pos J]at hj;simpa using hj
 have I:=nextslicecap_le (need:=n+m) (old:=n) oM;have f:=λty=>run_append_zeros (P:=prog) (w:=w) (t:=103) (tn:=3) (ty:=ty) (kk:=.i64) underlying103 underlying3 s hz k (m:=m) h0 oM oM oM (by rw[g];omega) (by rw[g];omega);obtain⟨NC,E⟩:=eX (grownCap w (n+m) n 5)
 have D:n+m<=NC:=by rw[<-E];exact grownCap_ge _ _ _ _
 have y:NC<=maxLen:=by rw[<-E];exact grownCap_le_maxLen _ _ _ _ (by simp only[maxLen];omega)
 rw[E]at f;have hZ:∀j,(Builtin.zeroCells (Value.int .u8 0).cells j).size=j:=λj=>(by rw[size_zeroCells];simp[Value.cells]);refine⟨NC,_,f,.inr ⟨w.heap.size,_,rfl,heap_alloc_new w.drew _,D,?_,y,lR⟩,?_⟩
 ·simp only[Array.size_append,hZ,size_toArray,H];omega
 ·exact(Below.refl _ w).drew.alloc lR _
theorem arr_copy{m q:Nat}(h:Arr w B (some ⟨q,0,none⟩) (n+m) cap)(s:ByteArray)(hs:s.size=m) :
  ∃W1,(∀ty c,(Builtin.copy_ #[103,9] ty #[.slice (some ⟨q,n,none⟩) m c,.string s]).run prog w=.ok (goInt m) W1)/\Arr W1 B (some ⟨q,0,none⟩) (n+m) cap/\Keep [q] w W1:=by
 rcases h with⟨e,_⟩ | ⟨q',cur,e,hq,hnc,hcs,hcm,hB⟩
 ·cases e
 injection e with e;injection e with e1 _
 subst e1;have h1:=fun (ty:TypeId) (c:Nat)=>Go.Lib.run_copy_row_string (P:=prog) w 103 9 ty 5 q n m c s cur 5 underlying103 kR hq oM oM;rw[hs]at h1;refine⟨_,h1,.inr ⟨q,_,rfl,setRow_heap w q cur _ _ _ hq,hnc,?_,hcm,hB⟩,kSet w q _⟩;have:s.data.toList.length=m:=hs;simp[Go.Lib.byteCells_length,this];omega
theorem arr_hi{m q:Nat}(h:Arr w B (some ⟨q,0,none⟩) (n+m) cap)(h0:0<m)(w0:World) :
  (slS 103 (.slice (some ⟨q,0,none⟩) (n+m) cap) (some (.int .i64 n)) none none).run prog w0=.ok (.slice (some ⟨q,n,none⟩) m (cap-n)) w0:=by
 have hc:n+m<=cap:=by
  rcases h with⟨e,_⟩ | ⟨_,_,_,_,h2,_⟩
  ·cases e
  ·exact h2
 rw[run_slS einfoByte];unfold Instr.slice Instr.sliceBounds;simp only[Sem.run_bind,run_underlying einfoByte.und,Result.andThen_ok,Sem.run_pure,run_bound w0 n (n+m) (Nat.le_add_right _ _),einfoByte.sizeOf_run w0,Option.isSome_none,Bool.false_eq_true,if_false];rw[if_neg oM];congr 2
 ·show some ((⟨q,0,none⟩:Addr).add (n*1))=_;unfold Addr.add;split <;> simp_all
 ·omega
theorem blk_none(w:World)(g:Nat)(h:w.cell? ⟨g,2,none⟩=some (.bool true)):Calls prog 119 #[.pointer (some ⟨g,0,none⟩)] w λe w'=>e=.returned (.bool false)/\w=w':=by
 go_enter func119,ntmps119
 (go_wp2_with fail);go_ret;exact⟨rfl,rfl⟩
theorem blk_new(w:World):Calls prog 169 #[] w λe w'=>e=.returned (.pointer (some ⟨w.heap.size,0,none⟩))/\BlkAt w' w.heap.size w.heap.size none 0 0 0/\Below w.heap.size w w':=by
 go_enter func169,ntmps169
 (go_wp2_with fail);go_ret;exact⟨rfl,⟨heap_alloc_new w _,.inl ⟨rfl,rfl,rfl⟩,by simp[blk]⟩,bA⟩
theorem bk_set0{n' cap':Nat}{A':Option Addr}(hg:w.heap[g]?=some (.cells (bkC ⟨.slice A n cap,s,true⟩) 164 (0,0)))(ha:Arr w B A' n' cap')(d:g∉blk A') :
  BlkAt (w.setCell ⟨g,0,none⟩ (.slice A' n' cap')) B g A' n' cap' s :=
 ⟨by rw[heap_setCell_same hg];simp[bkC],ha.kept (Keep.setCell w ⟨g,0,none⟩ _) (λx hx e=>d (by simp at e;rw[<-e];exact hx)),d⟩
theorem bk_set1{s':Int}(h:BlkAt w B g A n cap s):BlkAt (w.setCell ⟨g,1,none⟩ (.int .i64 s')) B g A n cap s' :=
 ⟨by rw[heap_setCell_same h.heap];simp[bkC],h.arr.kept (Keep.setCell w ⟨g,1,none⟩ _) (λx hx e=>h.ne (by simp at e;rw[<-e];exact hx)),h.ne⟩
theorem bk_frozen(h:w.heap[g]?=some (.cells (bkC ⟨.slice A n cap,s,true⟩) T (0,0)))(j:Nat):w.frozen? ⟨g,j,none⟩=false:=by simp[frozen?,h]
theorem blk_write0(w:World)(B g:Nat)(s:Int)(h:BlkAt w B g none 0 0 s):Calls prog 142 #[.pointer (some ⟨g,0,none⟩),.string ⟨#[]⟩] w λe w'=>e=.returned (.int .i64 0)/\BlkAt w' B g none 0 0 s/\Keep [g] w w':=by
 obtain⟨c0,c1,c2⟩:=bk_cell h.heap;have H:=dH h;have f0:=bk_frozen h.heap 0;have f:=λw0=>Go.Lib.run_copy_empty_string (P:=prog) w0 103 9 3 5 none 0 0 ⟨#[]⟩ underlying103 kR rfl;have d:∀w0:World,(slS 103 (.slice none 0 0) (some (.int .i64 0)) none none).run prog w0=.ok (.slice none 0 0) w0:=λ_=>kR;clear h;go_enter func142,ntmps142
 (go_wp2_with fail);refine(blk_none w g c2).mono ?_;rintro e w1 ⟨rfl,rfl⟩;(go_wp2_with fail);go_ret;exact⟨rfl,bk_set0 H.out.heap (.inl ⟨rfl,rfl,rfl⟩) (by simp[blk]),Keep.setCell _ ⟨g,0,none⟩ _⟩
theorem Arr.le(h:Arr w B A n cap):n<=cap:=by
 rcases h with⟨_,rfl,rfl⟩ | ⟨_,_,_,_,h,_⟩
 ·exact lR
 ·exact h
theorem slBk_rw(x:Value)(lo hi mx:Option Value):Instr.sliceAt 103 x lo hi mx=slS 103 x lo hi mx:=rfl
section
attribute [local go_sem ↓] slBk_rw
theorem blk_write(w:World)(B g n cap:Nat)(A:Option Addr)(s:Int)(h:BlkAt w B g A n cap s)(x:ByteArray)(h0:0<x.size)(hx:n+x.size<=1000000000)(hB:B<=w.heap.size) :
  Calls prog 142 #[.pointer (some ⟨g,0,none⟩),.string x] w λe w'=>e=.returned (.int .i64 0)/\∃A' cap',BlkAt w' B g A' (n+x.size) cap' s/\Keep [g] w w'/\∀y∈blk A',w.heap.size<=y:=by
 obtain⟨c0,c1,c2⟩:=bk_cell h.heap;have I:=λw0=>run_slS_max (P:=prog) einfoByte w0 A n cap n h.arr.le;obtain⟨m,hm⟩:=eX x.size
 rw[hm]at h0 hx |-;obtain⟨NC,W1,d,E,k⟩:=arr_zeros h.arr h0 hx;obtain⟨q,hq⟩:=eX w.heap.size
 rw[hq]at d E k |-;have J:=h.lt;have j:=(k.block g oM).trans h.heap;have f1:=bk_frozen j 0;have e0:=(bk_cell j).1;have t:g∉blk (some ⟨q,0,none⟩:Option Addr):=by simp[blk];omega
 have f:=bk_set0 (n':=n+m) (cap':=NC) (A':=some ⟨q,0,none⟩) j E t;obtain⟨W2,r⟩:=eX (W1.setCell ⟨g,0,none⟩ (.slice (some ⟨q,0,none⟩) (n+m) NC))
 have G:Keep [g] W1 W2:=by rw[<-r];exact Keep.setCell _ ⟨g,0,none⟩ _
 rw[r]at f;have d0:=(bk_cell f.heap).1;obtain⟨W3,L,H,D⟩:=arr_copy f.arr x hm;have hi:=λw0=>arr_hi f.arr h0 w0;have hF:BlkAt W3 q g (some ⟨q,0,none⟩) (n+m) NC s:=⟨(D.block g f.lt sO).trans f.heap,H,t⟩
 have F:Keep [g] w W3:=by
  have k1:Keep [g] w W1:=by
   have:=Keep.of_below (show Below w.heap.size w W1 by rw[hq];exact k);exact this.mono sI
  have k3:Keep [g,q] w W3:=Keep.trans ((Keep.trans k1 G (λy hy=>.inl hy)).mono sI) D (λy hy=>.inl (by simp at hy;simp[hy]));exact k3.narrow (λy hy=>by simp at hy;rcases hy with rfl | rfl <;> simp;omega)
 have HF:=dH (And.intro hF F);have N:B<=q:=oM;have Hq:=dH hq;have O:=dH r;clear hF F D H G f E k j h J t hB hq hx;go_enter func142,ntmps142
 (go_wp2_with fail);refine(blk_none w g c2).mono ?_;rintro e w1 ⟨rfl,rfl⟩;go_upto_region 5 with(at_builtin;refine Lib.wpList_append_run _ rfl _ _ _ _ rfl _ _ rfl rfl _ _ (d _) ?_)
 clear d I e0 f1 c0 c1 c2 r;go_wp2_with (at_builtin;refine wpList_copy_runI _ rfl _ _ 103 9 rfl _ _ rfl rfl (L _ _) ?_)
 (go_wp2_with fail);go_ret;exact⟨rfl,_,_,⟨HF.out.1.heap,by rcases HF.out.1.arr with h | ⟨q',M,h1,h2,h3,h4,h5,h6⟩;exact .inl h;exact .inr ⟨q',M,h1,h2,h3,h4,h5,oM⟩,HF.out.1.ne⟩,HF.out.2,by simp[blk]⟩
end
theorem blk_tail(w:World)(B g n cap:Nat)(A:Option Addr)(k:Nat)(h:BlkAt w B g A n cap k)(hk:k<=n)(hn:n<=1000000000) :
  Calls prog 155 #[.pointer (some ⟨g,0,none⟩)] w λe w'=>e=.returned (.int .i64 ((n:Int)-k))/\Below w.heap.size w w':=by
 obtain⟨c0,c1,c2⟩:=bk_cell h.heap;have hw:IntKind.i64.wrap ((n:Int)-(k:Int))=(n:Int)-k:=by rw[IntKind.wrap_i64];omega
 clear h;go_enter func155,ntmps155
 (go_wp2_with fail);refine(blk_none w g c2).mono ?_;rintro e w1 ⟨rfl,rfl⟩;go_upto_region 3 with fail
 refine lX w ?_;intro d hS;have d0:=sub_cell c0;have d1:=sub_cell c1;refine lZ ?_;refine wpLx_nil ?_;intro hS;have HS:=dH hS;clear hS d d0 d1;(go_wp2_with fail);go_ret;exact⟨rfl,HS.out⟩
theorem blk_sync(w:World)(B g n cap:Nat)(A:Option Addr)(k:Nat)(h:BlkAt w B g A n cap k)(hk:k<=n)(hn:n<=1000000000) :
  Calls prog 167 #[.pointer (some ⟨g,0,none⟩)] w λe w'=>e=.returned (.int .i64 ((n:Int)-k))/\BlkAt w' B g A n cap n/\Keep [g] w w':=by
 have c:=blk_tail w B g n cap A k h hk hn;have H:=dH h;go_enter func167,ntmps167
 (go_wp2_with fail);refine c.mono ?_;rintro e w1 ⟨rfl,hb⟩;have h1:=H.out.below hb;obtain⟨c0,c1,c2⟩:=bk_cell h1.heap;have f1:=bk_frozen h1.heap 1;have HF:=dH (And.intro (bk_set1 (s':=(n:Int)) h1) (Keep.trans ((Keep.of_below hb).mono (S':=[g]) sI) (Keep.setCell w1 ⟨g,1,none⟩ (.int .i64 n)) (λy hy=>.inl hy)));have HH:=dH h1;have Hb:=dH hb;clear c h h1 hb;by_cases he:k=n
 ·subst he;have d:((k:Int)-k)=0:=oM;rw[d];have f:=dH d;(go_wp2_with fail);go_ret;exact⟨congrArg (λz=>Ending.returned (.int .i64 z)) f.out.symm,HH.out,(Keep.of_below Hb.out).mono sI⟩
 ·have j:(0:Int)<(n:Int)-k:=oM;(go_wp2_with fail);go_ret;exact⟨rfl,HF.out⟩
theorem blk_cut0(w:World)(B g:Nat)(s:Int)(h:BlkAt w B g none 0 0 s):Calls prog 156 #[.pointer (some ⟨g,0,none⟩),.int .i64 0] w λe w'=>e=.returned (.int .i64 0)/\BlkAt w' B g none 0 0 0/\Keep [g] w w':=by
 obtain⟨c0,c1,c2⟩:=bk_cell h.heap;have f0:=bk_frozen h.heap 0;have f1:=bk_frozen h.heap 1;have h1:=bk_set0 (B:=B) (A':=none) (n':=0) (cap':=0) h.heap (.inl ⟨rfl,rfl,rfl⟩) (by simp[blk]);have f:=(bk_cell h1.heap).2.1;have d:=bk_frozen h1.heap 1;have HF:=dH (And.intro (bk_set1 (s':=0) h1) (Keep.trans (Keep.setCell w ⟨g,0,none⟩ (.slice none 0 0)) (Keep.setCell _ ⟨g,1,none⟩ (.int .i64 0)) (λy hy=>.inl hy)));clear h h1;go_enter func156,ntmps156
 (go_wp2_with fail);refine(blk_none w g c2).mono ?_;rintro e w1 ⟨rfl,rfl⟩;(go_wp2_with fail);go_ret;exact⟨rfl,HF.out⟩
theorem blk_data0(w:World)(B g:Nat)(s:Int)(h:BlkAt w B g none 0 0 s):Calls prog 68 #[.pointer (some ⟨g,0,none⟩)] w λe w'=>e=.returned (.string ⟨#[]⟩)/\w=w':=by
 obtain⟨c0,c1,c2⟩:=bk_cell h.heap;have hs:=own_string (w:=w) (show Own w 0 5 1 none ([]:List UInt8).length 0 (bytesR [])from Own.nil _ _ _ _) rfl;change (convert 103 9 (.slice none 0 0)).run prog w=.ok (.string ⟨#[]⟩) w at hs;clear h;go_enter func68,ntmps68
 (go_wp2_with fail);refine(blk_none w g c2).mono ?_;rintro e w1 ⟨rfl,rfl⟩;(go_wp2_with fail);go_ret;exact⟨rfl,rfl⟩
def WB(W:World)(g:Nat)(bs:List UInt8)(w:World):Prop:=Below W.heap.size W w/\W.heap.size<=g/\∃A cap,WrAt w (g+1) g A cap bs
theorem WB.step{bs bs':List UInt8}(hb:Below W.heap.size W w)(hg:W.heap.size<=g)(h:WrAt w (g+1) g A cap bs)(hs:WStep w (g+1) g A bs' w'):WB W g bs' w':=by
 obtain⟨A',cap',h1,h2,_⟩:=hs;refine⟨hb.trans (h2.below (B:=W.heap.size) hb.size λx hx=>?_),hg,A',cap',h1⟩;rcases mem_cons.1 hx with rfl | hx
 ·exact hg
 ·have:=(h.own.at_base hx).1;omega
theorem WB.kept{W w w':World}{g:Nat}{bs:List UInt8}(h:WB W g bs w)(hb:Below w.heap.size w w'):WB W g bs w':=by
 obtain⟨h1,h2,A,cap,h3⟩:=h;exact⟨bel2 h1 hb,h2,A,cap,h3.kept (Keep.of_below hb) sI sI⟩
theorem wbnew(W w:World)(hb:Below W.heap.size W w):Calls prog 55 #[] w λe w'=>e=.returned (.pointer (some ⟨w.heap.size,0,none⟩))/\WB W w.heap.size [] w' :=
 (wnew w).mono λ_ _ ⟨h1,h2,h3⟩=>⟨h1,bel2 hb h3,hb.size,none,0,h2⟩
theorem wbnum(W w:World)(g:Nat)(bs:List UInt8)(h:WB W g bs w)(n M:Nat)(hM:M=1\/M=2\/M=4)(hn:n<256 ^ M)(hs:bs.length+M<=1000000000) :
  Calls prog 56 #[.pointer (some ⟨g,0,none⟩),.int .i64 n,.int .i64 M] w λe w'=>e=.returned (.pointer (some ⟨g,0,none⟩))/\WB W g (bs++beL M n) w':=by
 obtain⟨h1,h2,A,cap,h3⟩:=h;exact(wnum w _ g A cap bs h3 n M hM hn hs).mono λ_ _ ⟨e,hw⟩=>⟨e,.step h1 h2 h3 hw⟩
theorem wbraw(W w:World)(g:Nat)(bs:List UInt8)(h:WB W g bs w)(s:ByteArray)(hs:bs.length+s.size<=1000000000) :
  Calls prog 66 #[.pointer (some ⟨g,0,none⟩),.string s] w λe w'=>e=.returned (.pointer (some ⟨g,0,none⟩))/\WB W g (bs++s.data.toList) w':=by
 obtain⟨h1,h2,A,cap,h3⟩:=h;exact(wraw w _ g A cap bs h3 s hs).mono λ_ _ ⟨e,hw⟩=>⟨e,.step h1 h2 h3 hw⟩
theorem wbdone(W w:World)(g:Nat)(bs:List UInt8)(h:WB W g bs w) :
  Calls prog 58 #[.pointer (some ⟨g,0,none⟩)] w λe w'=>e=.returned (.tuple #[.string ⟨bs.toArray⟩,.int .i64 0])/\WB W g bs w':=by
 obtain⟨h1,h2,A,cap,h3⟩:=h;exact(wdone w _ g A cap bs h3).mono λ_ _ ⟨e,hw⟩=>⟨e,hw ▸ ⟨h1,h2,A,cap,h3⟩⟩

structure Rcd where
 k:Int
 b:ByteArray
def rcdC(x:Rcd):Array Value:=#[.int .i64 x.k] ++ #[.string x.b]
@[simp] theorem rcdC_size(x:Rcd):(rcdC x).size=2:=by simp[rcdC]
@[go_sem] theorem rcdC_g0(x:Rcd):(rcdC x)[0]?=some (.int .i64 x.k):=by first | (simp[rcdC,Array.getElem?_append];done) | (rw[show rcdC x=((#[]:Array Value)) ++ #[.int .i64 x.k]++(#[.string x.b])from by apply Array.ext';simp[rcdC]];exact arr_at _ _ _ _ sI)
@[go_sem] theorem rcdC_gg0(x:Rcd)(h:0<(rcdC x).size):(rcdC x)[0]'h=.int .i64 x.k:=Option.some.inj ((Array.getElem?_eq_getElem h).symm.trans (rcdC_g0 x))
@[go_sem] theorem rcdC_g1(x:Rcd):(rcdC x)[1]?=some (.string x.b):=by first | (simp[rcdC,Array.getElem?_append];done) | (rw[show rcdC x=(#[.int .i64 x.k]) ++ #[.string x.b]++((#[]:Array Value))from by apply Array.ext';simp[rcdC]];exact arr_at _ _ _ _ sI)
@[go_sem] theorem rcdC_gg1(x:Rcd)(h:1<(rcdC x).size):(rcdC x)[1]'h=.string x.b:=Option.some.inj ((Array.getElem?_eq_getElem h).symm.trans (rcdC_g1 x))
@[go_sem] theorem rcdC_all(x:Rcd):(rcdC x).extract 0 2=rcdC x:=by have:=Array.extract_size (xs:=rcdC x);rwa [rcdC_size]at this
theorem rcdC_one(x:Rcd):∀u∈(rcdC x).toList,u.oneCell'=true:=by
 intro u hu;simp only[rcdC,Array.toList_append,mem_append]at hu;rcases hu with hu | hu
 ·simp at hu;subst hu;rfl
 ·simp at hu;subst hu;rfl
def rcd0:Rcd:=⟨0,⟨#[]⟩⟩
theorem Rcd_ext{x y:Rcd}(h:x.k=y.k/\x.b=y.b):x=y:=by cases x;cases y;simp_all
instance:DecidableEq Rcd:=λx y=>if h:x.k=y.k/\x.b=y.b then isTrue (Rcd_ext h)else isFalse (λe=>h (by subst e;simp))
theorem infoRcd:(prog.info? 124).map (·.size)=some 2:=kR
@[go_sem ↓] theorem zeroRcd_run(w:World):(zeroValue 124).run prog w=.ok (.agg (rcdC rcd0)) w:=by
 have h:(prog.info? 124).bind (·.zero)=some (.agg (rcdC rcd0)):=kR;cases hi:prog.info? 124 with
 | none=>rw[hi]at h;cases h
 | some i =>
  rw[hi]at h;have hz:i.zero=some (.agg (rcdC rcd0)):=h;simp[zeroValue,typeInfo,hi,hz]
@[go_sem ↓] theorem loadRcd_rw(a:Addr):loadVar 124 a=ldS 124 a:=rfl
@[go_sem ↓] theorem storeRcd_rw(a:Addr)(v:Value):storeVar 124 a v=stS 124 a v:=rfl
@[go_sem] theorem loadRcd_run(w:World)(g o:Nat):(ldS 124 ⟨g,o,none⟩).run prog w=match rowAt w g o 2 with | some cs=>.ok (.agg cs) w | none=>(loadVar 124 ⟨g,o,none⟩).run prog w :=
 run_ldS underlying124 rfl infoRcd w g o
theorem fieldsRcd:prog.underlying 124=some (.struct (prog.fieldsOf 124)):=kR
theorem placesRcd(w:World):((prog.fieldsOf 124).mapM fun (f:Field)=>do pure (f.offset,<-sizeOf f.type)).run prog w=.ok #[(0,1),(1,1)] w:=kR
@[go_sem ↓] theorem buildRcd_rw(parts:Array (Nat×Value)):Instr.build 124 parts=bdS 124 parts:=rfl
@[go_sem] theorem buildRcd(a0:Int)(a1:ByteArray)(w:World):(bdS 124 #[(0,.int .i64 a0),(1,.string a1)]).run prog w=.ok (.agg (rcdC ⟨a0,a1⟩)) w:=by
 refine run_build w fieldsRcd _ (zeroRcd_run w) _ (placesRcd w) [(0,.int .i64 a0),(1,.string a1)] _ ?_;rw[show rcdC rcd0=(#[]:Array Value) ++ #[.int .i64 0]++(#[.string ⟨#[]⟩])from by first | (simp[rcdC,rcd0,Array.append_assoc];done) | (apply Array.ext';simp[rcdC,rcd0])];rw[fill_step (off:=0) (size:=1) rfl sI sI (by simp[Value.cells])];rw[show(#[]:Array Value)++(Value.int .i64 a0).cells++(#[.string ⟨#[]⟩])=(#[.int .i64 a0]) ++ #[.string ⟨#[]⟩]++(#[]:Array Value)from by first | (simp[Value.cells,Array.append_assoc];done) | (apply Array.ext';simp[Value.cells];done) | (apply Array.ext';simp only[Array.toList_append];simp[Value.cells])];rw[fill_step (off:=1) (size:=1) rfl sI sI (by simp[Value.cells])];first | (simp[Instr.fill,rcdC,Array.append_assoc,Value.cells];done) | (simp only[Instr.fill,rcdC];congr 1;apply Array.ext';simp[Value.cells];done) | (simp only[Instr.fill,rcdC];congr 1;done) | (simp only[Instr.fill,rcdC];done)
@[go_sem] theorem buildRcd_0(a0:Int)(w:World):(bdS 124 #[(0,.int .i64 a0)]).run prog w=.ok (.agg (rcdC ⟨a0,⟨#[]⟩⟩)) w:=by
 refine run_build w fieldsRcd _ (zeroRcd_run w) _ (placesRcd w) [(0,.int .i64 a0)] _ ?_;rw[show rcdC rcd0=(#[]:Array Value) ++ #[.int .i64 0]++(#[.string ⟨#[]⟩])from by first | (simp[rcdC,rcd0,Array.append_assoc];done) | (apply Array.ext';simp[rcdC,rcd0])];rw[fill_step (off:=0) (size:=1) rfl sI sI (by simp[Value.cells])];first | (simp[Instr.fill,rcdC,Array.append_assoc,Value.cells];done) | (simp only[Instr.fill,rcdC];congr 1;apply Array.ext';simp[Value.cells];done) | (simp only[Instr.fill,rcdC];congr 1;done) | (simp only[Instr.fill,rcdC];done)
theorem rec_inner(w:World)(k:Int)(hk:k=1\/k=2\/k=3)(b:ByteArray)(hb:b.size<=1048576) :
  Calls prog 217 #[.agg (rcdC ⟨k,b⟩)] w λe w'=>∃s:ByteArray,e=.returned (.string s)/\s.size=b.size+1/\Below w.heap.size w w':=by
 have hB:Below w.heap.size w ((w.alloc (.cells (rcdC ⟨k,b⟩) 124)).alloc (.cells #[.int .u8 k] 5)):=(bA).alloc sI _;have j:=run_convert_bytes_arg (P:=prog) ((w.alloc (.cells (rcdC ⟨k,b⟩) 124)).alloc (.cells #[.int .u8 k] 5)) 103 5 underlying103 underlying5 (w.heap.size+1) 0 1 1 [k] rfl
  (by
   intro i hi;obtain rfl:i=0:=oM
   simp)
 have f:IntKind.u8.wrap k=k:=by rcases hk with rfl | rfl | rfl <;> rfl
 have d:(strOfNums [k]++b).size=b.size+1:=by rw[ByteArray.size_append,strOfNums_size];simp;omega
 have Hs:=dH d;have HB:=dH hB;have g:(strOfNums [k]).size+b.size<=9223372036854775807:=by rw[strOfNums_size];simp;omega
 clear hk d hB;go_enter func217,ntmps217
 (go_wp2_with fail);go_ret;exact⟨_,rfl,Hs.out,HB.out⟩
theorem rec_known(w:World)(k:Int)(hk:k=1\/k=2\/k=3):Calls prog 216 #[.int .i64 k] w λe w'=>e=.returned (.bool true)/\w=w':=by
 rcases hk with rfl | rfl | rfl
 all_goals
  go_enter func216,ntmps216
  (go_wp2_with fail);go_ret;exact⟨rfl,rfl⟩
theorem rec_put(w:World)(hv:CrcVar w)(k:Int)(hk:k=1\/k=2\/k=3)(b:ByteArray)(hb:b.size<=1048576) :
  Calls prog 141 #[.agg (rcdC ⟨k,b⟩)] w λe w'=>∃s:ByteArray,e=.returned (.tuple #[.string s,.int .i64 0])/\s.size=b.size+9/\Below w.heap.size w w':=by
 have hB:Below w.heap.size w (w.alloc (.cells (rcdC ⟨k,b⟩) 124)):=bA;have hr:rowAt (w.alloc (.cells (rcdC ⟨k,b⟩) 124)) w.heap.size 0 2=some (rcdC ⟨k,b⟩):=by simp[go_sem]
 obtain⟨W,hW⟩:=eR (w.alloc (.cells (rcdC ⟨k,b⟩) 124))
 obtain⟨ga,t⟩:=eX w.heap.size
 rw[<-hW]at hB hr;rw[t]at hr;have c0:W.cell? ⟨ga,0,none⟩=some (.int .i64 k):=by have:=rowAt_cell hr (j:=0) oM;rw[Nat.zero_add]at this;rw[this];simp[rcdC]
 have c1:W.cell? ⟨ga,1,none⟩=some (.string b):=by have:=rowAt_cell hr (j:=1) oM;rw[Nat.zero_add]at this;rw[this];simp[rcdC]
 have cK:=rec_known W k hk;have cI:=rec_inner W k hk b hb;have H:((b.size:Int)>1048576)=False:=sO;have I:(decide ((1048576:Int)<(b.size:Int)))=false:=sO;have Hv:=dH (hv.below hB);have HB:=dH hB;have HW:=dH hW;have L:=dH t;have Hb:=dH hb;clear hk hv hW t hB hb H;go_enter func141,ntmps141
 (go_wp2_with fail);rw[<-HW.out,L.out];refine cK.mono ?_;rintro e w1 ⟨rfl,rfl⟩;clear cK;(go_wp2_with fail);refine cI.mono ?_;rintro e w2 ⟨s,rfl,hs,g⟩;have F:=((Keep.of_below g).row (rowAt_lt hr) sI _ _).trans hr;have J:w2.cell? ⟨ga,1,none⟩=some (.string b):=(g.cell (block_lt_of_cell? W _ c1)).trans c1;have Hs:=dH hs;have E:=dH g;clear cI hs g hr c0 c1 F;go_upto_region 6 with fail
 refine lX w2 ?_;intro G hS;have c:=sub_cell J;refine lQ ?_;intro K hK;refine(wbnew w2 _ hS).mono ?_;rintro e w' ⟨rfl,d⟩;replace hS:=d.1;refine⟨_,rfl,hS,hK _ _ ?_⟩;clear hK K;refine lQ ?_;intro K hK;refine(wbnum w2 _ _ _ d b.size 4 oM (oH Hb.out) sI).mono ?_;rintro e w' ⟨rfl,d⟩;replace hS:=d.1;refine⟨_,rfl,hS,hK _ _ ?_⟩;clear hK K;refine lQ ?_;intro K hK;refine(wbraw w2 _ _ _ d s (by have:=Hb.out;have:=Hs.out;simp[beL_length];omega)).mono ?_;rintro e w' ⟨rfl,d⟩;replace hS:=d.1;refine⟨_,rfl,hS,hK _ _ ?_⟩;clear hK K;refine lQ ?_;intro K hK;refine(crc_sum s _ ((Hv.out.below E.out).below hS) (by have:=Hs.out;have:=Hb.out;omega)).mono ?_;rintro e w' ⟨r,rfl,B⟩;have f:=d.kept B;have A:Bel w2 w':=f.1;refine⟨_,rfl,A,hK _ _ ?_⟩;clear hK K d B;replace hS:=A;have m:IntKind.i64.wrap (nU r)=((r.toNat:Nat):Int):=by
  have h1:=r.toNat_lt;show IntKind.i64.wrap ((r.toNat:Nat):Int)=_;rw[IntKind.wrap_i64];omega
 refine lQ ?_;intro K hK;refine(wbnum w2 _ _ _ f r.toNat 4 oM (oH r.toNat_lt) (by have:=Hb.out;have:=Hs.out;have e1:s.data.toList.length=s.size:=Array.length_toList;simp[beL_length,-Array.length_toList];omega)).mono ?_;rintro e w' ⟨rfl,d⟩;replace hS:=d.1;refine⟨_,rfl,hS,hK _ _ ?_⟩;clear hK K;refine lQ ?_;intro K hK;refine(wbdone w2 _ _ _ d).mono ?_;rintro e w' ⟨rfl,d⟩;replace hS:=d.1;refine⟨_,rfl,hS,hK _ _ ?_⟩;clear hK K;refine lZ ?_;refine wpLx_nil ?_;intro hS;obtain⟨S,y⟩:∃S:ByteArray,(⟨(beL 4 b.size++(s.data.toList++beL 4 r.toNat)).toArray⟩:ByteArray)=S:=⟨_,rfl⟩
 have D:S.size=b.size+9:=by
  rw[<-y];show((beL 4 b.size++(s.data.toList++beL 4 r.toNat)).toArray).size=_;have e1:s.data.toList.length=s.size:=Array.length_toList;have:=Hs.out;simp only[size_toArray,length_append,length_nil,beL_length,e1];omega
 rw[y];have HF:=dH (And.intro D (bel2 HB.out (bel2 E.out hS)));clear y D d f hS A c G m I;(go_wp2_with fail);go_ret2;exact⟨S,rfl,HF.out.1,HF.out.2⟩
section
open Go.RowKit Go.Shelf
attribute [local go_sem] Oper.semAt_some
structure Jr where
 b:Option Addr
 n:Int
 s:Int
def jrC(x:Jr):Array Value:=#[.pointer x.b] ++ #[.int .i64 x.n] ++ #[.int .i64 x.s]
@[simp] theorem jrC_size(x:Jr):(jrC x).size=3:=by simp[jrC]
@[go_sem] theorem jrC_g0(x:Jr):(jrC x)[0]?=some (.pointer x.b):=by first | (simp[jrC,Array.getElem?_append];done) | (rw[show jrC x=((#[]:Array Value)) ++ #[.pointer x.b]++(#[.int .i64 x.n] ++ #[.int .i64 x.s])from by apply Array.ext';simp[jrC]];exact arr_at _ _ _ _ sI)
@[go_sem] theorem jrC_gg0(x:Jr)(h:0<(jrC x).size):(jrC x)[0]'h=.pointer x.b:=Option.some.inj ((Array.getElem?_eq_getElem h).symm.trans (jrC_g0 x))
@[go_sem] theorem jrC_g1(x:Jr):(jrC x)[1]?=some (.int .i64 x.n):=by first | (simp[jrC,Array.getElem?_append];done) | (rw[show jrC x=(#[.pointer x.b]) ++ #[.int .i64 x.n]++(#[.int .i64 x.s])from by apply Array.ext';simp[jrC]];exact arr_at _ _ _ _ sI)
@[go_sem] theorem jrC_gg1(x:Jr)(h:1<(jrC x).size):(jrC x)[1]'h=.int .i64 x.n:=Option.some.inj ((Array.getElem?_eq_getElem h).symm.trans (jrC_g1 x))
@[go_sem] theorem jrC_g2(x:Jr):(jrC x)[2]?=some (.int .i64 x.s):=by first | (simp[jrC,Array.getElem?_append];done) | (rw[show jrC x=(#[.pointer x.b] ++ #[.int .i64 x.n]) ++ #[.int .i64 x.s]++((#[]:Array Value))from by apply Array.ext';simp[jrC]];exact arr_at _ _ _ _ sI)
@[go_sem] theorem jrC_gg2(x:Jr)(h:2<(jrC x).size):(jrC x)[2]'h=.int .i64 x.s:=Option.some.inj ((Array.getElem?_eq_getElem h).symm.trans (jrC_g2 x))
def jr0:Jr:=⟨none,0,0⟩
theorem Jr_ext{x y:Jr}(h:x.b=y.b/\x.n=y.n/\x.s=y.s):x=y:=by cases x;cases y;simp_all
instance:DecidableEq Jr:=λx y=>if h:x.b=y.b/\x.n=y.n/\x.s=y.s then isTrue (Jr_ext h)else isFalse (λe=>h (by subst e;simp))
@[go_sem ↓] theorem zeroJr_run(w:World):(zeroValue 183).run prog w=.ok (.agg (jrC jr0)) w:=by
 have h:(prog.info? 183).bind (·.zero)=some (.agg (jrC jr0)):=kR;cases hi:prog.info? 183 with
 | none=>rw[hi]at h;cases h
 | some i =>
  rw[hi]at h;have hz:i.zero=some (.agg (jrC jr0)):=h;simp[zeroValue,typeInfo,hi,hz]
@[go_sem ↓] theorem loadJr_rw(a:Addr):loadVar 183 a=ldS 183 a:=rfl
@[go_sem ↓] theorem storeJr_rw(a:Addr)(v:Value):storeVar 183 a v=stS 183 a v:=rfl
theorem fieldsJr:prog.underlying 183=some (.struct (prog.fieldsOf 183)):=kR
theorem placesJr(w:World):((prog.fieldsOf 183).mapM fun (f:Field)=>do pure (f.offset,<-sizeOf f.type)).run prog w=.ok #[(0,1),(1,1),(2,1)] w:=kR
@[go_sem ↓] theorem buildJr_rw(parts:Array (Nat×Value)):Instr.build 183 parts=bdS 183 parts:=rfl
@[go_sem] theorem buildJr(a0:Option Addr)(a1:Int)(a2:Int)(w:World):(bdS 183 #[(0,.pointer a0),(1,.int .i64 a1),(2,.int .i64 a2)]).run prog w=.ok (.agg (jrC ⟨a0,a1,a2⟩)) w:=by
 refine run_build w fieldsJr _ (zeroJr_run w) _ (placesJr w) [(0,.pointer a0),(1,.int .i64 a1),(2,.int .i64 a2)] _ ?_;rw[show jrC jr0=(#[]:Array Value) ++ #[.pointer none]++(#[.int .i64 0]++(#[.int .i64 0]))from by first | (simp[jrC,jr0,Array.append_assoc];done) | (apply Array.ext';simp[jrC,jr0])];rw[fill_step (off:=0) (size:=1) rfl sI sI (by simp[Value.cells])];rw[show(#[]:Array Value)++(Value.pointer a0).cells++(#[.int .i64 0]++(#[.int .i64 0]))=(#[.pointer a0]) ++ #[.int .i64 0]++(#[.int .i64 0])from by first | (simp[Value.cells,Array.append_assoc];done) | (apply Array.ext';simp[Value.cells];done) | (apply Array.ext';simp only[Array.toList_append];simp[Value.cells])];rw[fill_step (off:=1) (size:=1) rfl sI sI (by simp[Value.cells])];rw[show(#[.pointer a0])++(Value.int .i64 a1).cells++(#[.int .i64 0])=(#[.pointer a0]++(#[.int .i64 a1])) ++ #[.int .i64 0]++(#[]:Array Value)from by first | (simp[Value.cells,Array.append_assoc];done) | (apply Array.ext';simp[Value.cells];done) | (apply Array.ext';simp only[Array.toList_append];simp[Value.cells])];rw[fill_step (off:=2) (size:=1) rfl sI sI (by simp[Value.cells])];first | (simp[Instr.fill,jrC,Array.append_assoc,Value.cells];done) | (simp only[Instr.fill,jrC];congr 1;apply Array.ext';simp[Value.cells];done) | (simp only[Instr.fill,jrC];congr 1;done) | (simp only[Instr.fill,jrC];done)
theorem rec_each(w:World)(s:ByteArray):Calls prog 255 #[.string s] w λe w'=>e=.returned (.func (.func 291) #[] #[.pointer (some ⟨w.heap.size,0,none⟩)])/\w'=w.alloc (.cells #[.string s] 9):=by
 go_enter func255,ntmps255
 (go_wp2_with fail);go_ret;exact⟨rfl,rfl⟩
theorem each_none(n:Nat)(l b:Nat)(w:World)(h:w.cell? ⟨b,0,none⟩=some (.string ⟨#[]⟩)) :
  CallsIn Fence.wide n prog 291 #[.func (.yield l) #[] #[],.pointer (some ⟨b,0,none⟩)] w λe w'=>(∃v,e=.returned v)/\w'=w:=by
 refine callsIn_of_wp func291 rfl trivial ?_ rfl;simp only[ntmps291,size_toArray,length_cons,length_nil,Nat.reduceAdd,Nat.reduceSub,Array.replicate_succ,Array.replicate_zero,push_toArray,append_toArray,nil_append,cons_append]
 gi_wp2
 gi_loopw [3] (λi wr=>i=.int .i64 0/\wr=w) (λ_ _=>0)
 case atStart=>exact⟨rfl,rfl⟩
 case round =>
  obtain⟨rfl,rfl⟩:=hrel
  gi_wp2
  go_end0;exact⟨⟨_,rfl⟩,rfl⟩
theorem each_stops(n b:Nat)(w:World)(h:w.cell? ⟨b,0,none⟩=some (.string ⟨#[]⟩)) :
  SeqStopsK Fence.wide n prog 291 #[.pointer (some ⟨b,0,none⟩)] (λx:Empty=>x.elim) (λ_ _=>True) (λys=>ys = []) (λ_=>False) 0 w:=λl J Jx W hW _ _ _ h0 =>
 (each_none n l b W ((hW.cell (block_lt_of_cell? w _ h)).trans h)).mono λe W' ⟨h1,h2⟩=>⟨h1,.inl ⟨[],rfl,h2 ▸ h0⟩⟩
theorem rec_all0(w:World):Calls prog 224 #[.string ⟨#[]⟩] w λe w'=>e=.returned (.tuple #[.slice none 0 0,.int .i64 0,.int .i64 0])/\Below w.heap.size w w':=by
 refine(callsIn_wide (n:=6)).1 ?_;refine callsIn_of_wp_marks func224 rfl trivial ?_ rfl;simp only[ntmps224,size_toArray,length_cons,length_nil,Nat.reduceAdd,Nat.reduceSub,Array.replicate_succ,Array.replicate_zero,push_toArray,append_toArray,nil_append,cons_append]
 gi_wp2_with fail
 refine⟨trivial,(callsIn_wide.2 (rec_each _ _)).mono ?_⟩;rintro e w1 ⟨rfl,d⟩;obtain⟨q,hq⟩:=eX w.heap.size
 have hz:(((((w.alloc (.cells #[.slice none 0 0] 207)).alloc (.cells #[.int .i64 0] 3)).alloc (.cells #[.int .i64 0] 35)).alloc (.cells #[.slice none 0 0] 207)).alloc (.cells #[.int .i64 0] 3)).heap.size=q+5:=by simp[hq]
 have t:w1.heap.size=q+6:=by rw[d];simp[hq]
 have k:Below q w w1:=by
  rw[d];have h0:=Below.refl w.heap.size w;rw[hq]at h0;exact(((((h0.alloc oM _).alloc sO _).alloc sO _).alloc sO _).alloc sO _).alloc sO _
 have d5:w1.cell? ⟨q+5,0,none⟩=some (.string ⟨#[]⟩):=by rw[d];simp[go_sem,hq]
 have d4:w1.cell? ⟨q+4,0,none⟩=some (.int .i64 0):=by rw[d];simp[go_sem,hq]
 have d3:w1.cell? ⟨q+3,0,none⟩=some (.slice none 0 0):=by rw[d];simp[go_sem,hq]
 have d2:w1.cell? ⟨q+2,0,none⟩=some (.int .i64 0)/\w1.frozen? ⟨q+2,0,none⟩=false:=by rw[d];simp[go_sem,hq]
 have d1:w1.cell? ⟨q+1,0,none⟩=some (.int .i64 0)/\w1.frozen? ⟨q+1,0,none⟩=false:=by rw[d];simp[go_sem,hq]
 have d0:w1.cell? ⟨q,0,none⟩=some (.slice none 0 0)/\w1.frozen? ⟨q,0,none⟩=false:=by rw[d];simp[go_sem,hq]
 have Hq:=dH hq;rw[hz,hq];clear d hz hq
 gi_wp2_with fail
 refine wpIn_rangeFunc_ownH rfl oM (gf:=291) (lb:=#[.pointer (some ⟨q+5,0,none⟩)]) rfl trivial (enters_of func291 kR rfl)
  (each_stops 5 (q+5) w1 d5) (λ_ _=>trivial) (λ_ _ _ _ _ _ _ _=>trivial) (Below.refl _ _) (λx=>x.elim)
  (fun (_:List Empty) (W:World)=>Below w1.heap.size w1 W)
  (λ_ _ _=>False)
  (ownFrom_below lR lR)
  (λ_ _ _ _ _ hs _ _=>hs)
  (Below.refl _ _)
  (λx=>x.elim)
  (λx=>x.elim)
  ?assign ?body ?done ?stop
 case assign=>exact λ_ _ x=>x.elim
 case body=>exact λ_ _ x=>x.elim
 case stop=>rintro D c pre W _ _ h _;exact h.elim
 case done =>
  rintro D ys W hD rfl hb hK;have k3:=(hb.cell (p:=⟨q+3,0,none⟩) (by show q+3<_;omega)).trans d3;have k4:=(hb.cell (p:=⟨q+4,0,none⟩) (by show q+4<_;omega)).trans d4;have k0:=(hb.cell (p:=⟨q,0,none⟩) (by show q<_;omega)).trans d0.1;have k1:=(hb.cell (p:=⟨q+1,0,none⟩) (by show q+1<_;omega)).trans d1.1;have k2:=(hb.cell (p:=⟨q+2,0,none⟩) (by show q+2<_;omega)).trans d2.1;have f0:W.frozen? ⟨q,0,none⟩=false:=(frozen?_of_block (w:=w1) (hb.block q oM)).trans d0.2;have f1:W.frozen? ⟨q+1,0,none⟩=false:=(frozen?_of_block (w:=w1) (hb.block (q+1) oM)).trans d1.2;have f2:W.frozen? ⟨q+2,0,none⟩=false:=(frozen?_of_block (w:=w1) (hb.block (q+2) oM)).trans d2.2
  gi_wp2
  gi_region
  obtain⟨W5,f⟩:=eX ((((W.setCell ⟨q,0,none⟩ (.slice none 0 0)).setCell ⟨q+1,0,none⟩ (.int .i64 0)).setCell ⟨q+1+1,0,none⟩ (.int .i64 0)).drew)
  rw[f];have g:W5.heap[D]?=some (.deferred (some [])):=by
   rw[<-f];show(((W.setCell ⟨q,0,none⟩ (.slice none 0 0)).setCell ⟨q+1,0,none⟩ (.int .i64 0)).setCell ⟨q+1+1,0,none⟩ (.int .i64 0)).heap[D]?=_;rw[heap_setCell_other _ ⟨q+1+1,0,none⟩ D _ (by show D≠q+1+1;omega),heap_setCell_other _ ⟨q+1,0,none⟩ D _ (by show D≠q+1;omega),heap_setCell_other _ ⟨q,0,none⟩ D _ (by show D≠q;omega)];exact hK
  have e0:W5.cell? ⟨q,0,none⟩=some (.slice none 0 0):=by
   rw[<-f];show(((W.setCell ⟨q,0,none⟩ (.slice none 0 0)).setCell ⟨q+1,0,none⟩ (.int .i64 0)).setCell ⟨q+1+1,0,none⟩ (.int .i64 0)).cell? ⟨q,0,none⟩=_;rw[cell?_setCell_other _ _ _ _ sI,cell?_setCell_other _ _ _ _ sI,cell?_setCell_same' _ _ _ (by rw[k0];rfl)]
  have e1:W5.cell? ⟨q+1,0,none⟩=some (.int .i64 0):=by
   rw[<-f];show(((W.setCell ⟨q,0,none⟩ (.slice none 0 0)).setCell ⟨q+1,0,none⟩ (.int .i64 0)).setCell ⟨q+1+1,0,none⟩ (.int .i64 0)).cell? ⟨q+1,0,none⟩=_;rw[cell?_setCell_other _ _ _ _ sI,cell?_setCell_same' _ _ _ (by rw[cell?_setCell_other _ _ _ _ sI,k1];rfl)]
  have e2:W5.cell? ⟨q+1+1,0,none⟩=some (.int .i64 0):=by
   rw[<-f];show(((W.setCell ⟨q,0,none⟩ (.slice none 0 0)).setCell ⟨q+1,0,none⟩ (.int .i64 0)).setCell ⟨q+1+1,0,none⟩ (.int .i64 0)).cell? ⟨q+1+1,0,none⟩=_;rw[cell?_setCell_same' _ _ _ (by rw[cell?_setCell_other _ _ _ _ sI,cell?_setCell_other _ _ _ _ sI,k2];rfl)]
  have j:Below q w W5:=by
   rw[<-f];have h1:Below q w W:=k.trans (hb.mono oM);have t0:=h1.trans ((Keep.setCell W ⟨q,0,none⟩ (.slice none 0 0)).below (B:=q) (Nat.le_trans (Nat.le_of_eq Hq.out.symm) h1.size) sI);have t1:=t0.trans ((Keep.setCell _ ⟨q+1,0,none⟩ (.int .i64 0)).below (B:=q) (Nat.le_trans (Nat.le_of_eq Hq.out.symm) t0.size) sI);have t2:=t1.trans ((Keep.setCell _ ⟨q+1+1,0,none⟩ (.int .i64 0)).below (B:=q) (Nat.le_trans (Nat.le_of_eq Hq.out.symm) t1.size) sO);exact t2.drew
  clear hK k0 k1 k2 f0 f1 f2 d0 d1 d2 k3 k4
  gi_wp2
  refine⟨sI,.inl ⟨_,_,rfl,run_takeDeferred g,?_⟩⟩;have s:(W5.putObj D (.deferred none)).cell? ⟨q,0,none⟩=some (.slice none 0 0):=(cell?_of_block (putObj_heap_other (by show q≠D;omega))).trans e0;have r:(W5.putObj D (.deferred none)).cell? ⟨q+1,0,none⟩=some (.int .i64 0):=(cell?_of_block (putObj_heap_other (by show q+1≠D;omega))).trans e1;have m:(W5.putObj D (.deferred none)).cell? ⟨q+1+1,0,none⟩=some (.int .i64 0):=(cell?_of_block (putObj_heap_other (by show q+1+1≠D;omega))).trans e2;refine⟨.tuple #[.slice none 0 0,.int .i64 0,.int .i64 0],?_,rfl,?_⟩
  ·simp[results,results224,asAddr,go_sem,s,r,m]
  ·rw[Hq.out];exact j.trans (belowK_b (w:=w) (by rw[Hq.out];exact lR) W5 D _ _ (oH Hq.out) g rfl rfl)
end
structure JAt(w:World)(B j g n k c f:Nat):Prop where
 jb:w.heap[j]?=some (.cells (jrC ⟨some ⟨g,0,none⟩,c,f⟩) 183 (0,0))
 bk:∃A cap,BlkAt w B g A n cap k
 lt:j<B/\g<B/\j≠g/\B<=w.heap.size
theorem JAt.kept{S:List Nat}{w w':World}{B j g n k c f:Nat}(h:JAt w B j g n k c f)(hk:Keep S w w')(hs:∀x∈S,x≠j/\x≠g/\x<B):JAt w' B j g n k c f:=by
 obtain⟨A,cap,hb⟩:=h.bk;refine⟨(hk.block j (oH h.lt) (λhm=>(hs j hm).1 rfl)).trans h.jb,⟨A,cap,hb.kept hk (λhm=>(hs g hm).2.1 rfl) (λx hx hm=>?_)⟩,h.lt.1,h.lt.2.1,h.lt.2.2.1,Nat.le_trans h.lt.2.2.2 hk.size⟩;have h1:=(hb.arr.at_ hx).1;have h2:=(hs x hm).2.2;omega
theorem JAt.below{k c f:Nat}(h:JAt w B j g n k c f)(hb:Below w.heap.size w w'):JAt w' B j g n k c f:=h.kept (Keep.of_below hb) sI
theorem jr_cell(h:w.heap[j]?=some (.cells (jrC ⟨P,c,f⟩) T (0,0))) :
  w.cell? ⟨j,0,none⟩=some (.pointer P)/\w.cell? ⟨j,1,none⟩=some (.int .i64 c)/\w.cell? ⟨j,2,none⟩=some (.int .i64 f):=by
 refine⟨?_,?_,?_⟩ <;> rw[cell_of_row w j _ _ _ _ h] <;> simp[go_sem]
theorem jr_frozen(h:w.heap[j]?=some (.cells (jrC ⟨P,c,f⟩) T (0,0)))(i:Nat):w.frozen? ⟨j,i,none⟩=false:=by simp[frozen?,h]
theorem jr_set1{c':Int}(h:w.heap[j]?=some (.cells (jrC ⟨P,c,f⟩) T (0,0))):(w.setCell ⟨j,1,none⟩ (.int .i64 c')).heap[j]?=some (.cells (jrC ⟨P,c',f⟩) T (0,0)):=by
 rw[heap_setCell_same h];simp[jrC]
theorem jr_set2{f':Int}(h:w.heap[j]?=some (.cells (jrC ⟨P,c,f⟩) T (0,0))):(w.setCell ⟨j,2,none⟩ (.int .i64 f')).heap[j]?=some (.cells (jrC ⟨P,c,f'⟩) T (0,0)):=by
 rw[heap_setCell_same h];simp[jrC]
theorem jr_none(w:World)(j g:Nat)(h:w.cell? ⟨j,0,none⟩=some (.pointer (some ⟨g,0,none⟩))):Calls prog 140 #[.pointer (some ⟨j,0,none⟩)] w λe w'=>e=.returned (.bool false)/\w=w':=by
 go_enter func140,ntmps140
 (go_wp2_with fail);go_ret;exact⟨rfl,rfl⟩
theorem jr_open(w:World)(B g:Nat)(h:BlkAt w B g none 0 0 0):Calls prog 157 #[.pointer (some ⟨g,0,none⟩)] w λe w' =>
  ∃j,e=.returned (.tuple #[.pointer (some ⟨j,0,none⟩),.slice none 0 0])/\w.heap.size<=j/\w'.heap[j]?=some (.cells (jrC ⟨some ⟨g,0,none⟩,0,0⟩) 183 (0,0))/\BlkAt w' B g none 0 0 0/\Keep [g] w w':=by
 have c1:=blk_write0 w B g 0 h;have k:=h.lt;go_enter func157,ntmps157
 (go_wp2_with fail);refine c1.mono ?_;rintro e w1 ⟨rfl,h1,k1⟩;have c2:=blk_data0 w1 B g 0 h1;clear c1 h;(go_wp2_with fail);refine c2.mono ?_;rintro e w2 ⟨rfl,rfl⟩;have c3:=rec_all0 w1;clear c2;(go_wp2_with fail);refine c3.mono ?_;rintro e w2 ⟨rfl,f⟩;have h2:=h1.below f;have k2:=Keep.trans k1 ((Keep.of_below f).mono (S':=[g]) sI) (λy hy=>.inl hy);have c4:=blk_cut0 w2 B g 0 h2;clear c3 h1 k1 f h2;(go_wp2_with fail);refine c4.mono ?_;rintro e w3 ⟨rfl,h3,k3⟩;have d:Below w3.heap.size w3 (w3.alloc (.cells (jrC ⟨some ⟨g,0,none⟩,0,0⟩) 183)):=bA;have HF:=dH (And.intro (h3.below d) (Keep.trans (Keep.trans k2 k3 (λy hy=>.inl hy)) ((Keep.of_below d).mono (S':=[g]) sI) (λy hy=>.inl hy)));have Hz:=dH (Nat.le_trans k2.size k3.size);clear c4 h3 k2 k3 d;(go_wp2_with fail);go_ret2;exact⟨w3.heap.size,rfl,Hz.out,heap_alloc_new w3 _,HF.out.1,HF.out.2⟩
theorem jr_append(w:World)(hv:CrcVar w)(B j g n k c f:Nat)(h:JAt w B j g n k c f)(hj:4≠j/\4≠g)(K:Int)(hK:K=1\/K=2\/K=3)(b:ByteArray)(hb:b.size<=1048576)(hn:n<=100000000)(hc:c<=1000000) :
  Calls prog 79 #[.pointer (some ⟨j,0,none⟩),.agg (rcdC ⟨K,b⟩)] w λe w'=>e=.returned (.int .i64 0)/\JAt w' w.heap.size j g (n+(b.size+9)) k (c+1) f/\Keep [j,g] w w':=by
 have hB:Below w.heap.size w (w.alloc (.cells (rcdC ⟨K,b⟩) 124)):=bA;have hr:rowAt (w.alloc (.cells (rcdC ⟨K,b⟩) 124)) w.heap.size 0 2=some (rcdC ⟨K,b⟩):=by simp[go_sem]
 obtain⟨W,hW⟩:=eR (w.alloc (.cells (rcdC ⟨K,b⟩) 124))
 obtain⟨ga,F⟩:=eX w.heap.size
 rw[<-hW]at hB hr;rw[F]at hr;have h1:=h.below hB;obtain⟨c0,c1,c2⟩:=jr_cell h1.jb;have cN:=jr_none W j g c0;have cP:=rec_put W (hv.below hB) K hK b hb;have V:IntKind.i64.wrap ((c:Int)+1)=(c:Int)+1:=by rw[IntKind.wrap_i64];omega
 have O:=dH h.lt.2.2.2;have Hj:=dH h1;have HB:=dH hB;have HW:=dH hW;have T:=dH F;have Hv:=dH (hv.below hB);have X:=dH hj;clear h h1 hB hW F hv hK hj;go_enter func79,ntmps79
 (go_wp2_with fail);rw[<-HW.out,T.out];refine cN.mono ?_;rintro e w1 ⟨rfl,rfl⟩;clear cN;(go_wp2_with fail);refine cP.mono ?_;rintro e w2 ⟨s,rfl,hs,H⟩;have h2:=Hj.out.below H;obtain⟨d0,d1,d2⟩:=jr_cell h2.jb;have f1:=jr_frozen h2.jb 1;have d:=jr_set1 (c':=(c:Int)+1) h2.jb;obtain⟨W3,I⟩:=eX (w2.setCell ⟨j,1,none⟩ (.int .i64 ((c:Int)+1)))
 have E:Keep [j] w2 W3:=by rw[<-I];exact Keep.setCell _ ⟨j,1,none⟩ _
 rw[I]at d;have e0:=(jr_cell d).1;obtain⟨A,cap,G⟩:=h2.bk;have r:BlkAt W3 B g A n cap k:=G.kept E (by simp;exact λe=>h2.lt.2.2.1 e.symm) (λx hx=>by have:=(G.arr.at_ hx).1;have:=h2.lt.1;simp;omega);have cW:=blk_write W3 B g n cap A k r s oM oM (Nat.le_trans h2.lt.2.2.2 E.size);have H2:=dH h2;have J:=dH E;have t:=dH d;have Hs:=dH hs;have R:=dH H;have Y:=dH I;clear cP h2 d G r E hs H c0 c1 c2 d2 hb;(go_wp2_with fail);refine cW.mono ?_;rintro e w4 ⟨rfl,A',cap',h4,D,N⟩;have L:Keep [j,g] w w4:=by
  have q1:=(Keep.of_below HB.out).mono (S':=[j,g]) sI;have q2:=Keep.trans q1 ((Keep.of_below R.out).mono (S':=[j,g]) sI) (λy hy=>.inl hy);have q3:=Keep.trans q2 (J.out.mono (S':=[j,g]) sI) (λy hy=>.inl hy);exact Keep.trans q3 (D.mono (S':=[j,g]) sI) (λy hy=>.inl hy)
 have M:W3.heap.size>j:=(aG t.out).1;have m:JAt w4 w.heap.size j g (n+(b.size+9)) k (c+1) f:=by
  have hl:=H2.out.lt;have hu:w.heap.size<=W3.heap.size:=by have z1:=HB.out.size;have z2:=R.out.size;have z3:=J.out.size;omega
  refine⟨?_,⟨A',cap',by rw[<-Hs.out];exact⟨h4.heap,h4.arr.up (λy hy=>Nat.le_trans hu (N y hy)),h4.ne⟩⟩,Nat.lt_of_lt_of_le hl.1 O.out,Nat.lt_of_lt_of_le hl.2.1 O.out,hl.2.2.1,?_⟩
  ·rw[(D.block j M (by simp;exact hl.2.2.1)),t.out];rfl
  ·have z1:=J.out.size;have z2:=D.size;omega
 have HF:=dH (And.intro m L);clear cW h4 D N L M m;(go_wp2_with fail);go_ret;exact⟨rfl,HF.out⟩
theorem jr_sync(w:World)(B j g n k c f:Nat)(h:JAt w B j g n k c f)(hk:k<=n)(hn:n<=1000000000)(hc:f<=c/\c<=1000000) :
  Calls prog 93 #[.pointer (some ⟨j,0,none⟩)] w λe w'=>e=.returned (.int .i64 ((c:Int)-f))/\JAt w' B j g n n c c/\Keep [j,g] w w':=by
 obtain⟨c0,c1,c2⟩:=jr_cell h.jb;have cN:=jr_none w j g c0;have F:IntKind.i64.wrap ((c:Int)-(f:Int))=(c:Int)-f:=by rw[IntKind.wrap_i64];omega
 have H:=dH h;clear h;go_enter func93,ntmps93
 (go_wp2_with fail);refine cN.mono ?_;rintro e w1 ⟨rfl,rfl⟩;clear cN;go_upto_region 3 with fail
 refine lX w ?_;intro E hS;have d1:=sub_cell c1;have d2:=sub_cell c2;refine lZ ?_;refine wpLx_nil ?_;intro hS;have hb:Below w.heap.size w w.drew:=hS;obtain⟨W,hW⟩:=eX w.drew
 rw[hW]at hb |-;have h1:=H.out.below hb;obtain⟨A,cap,t⟩:=h1.bk;have cS:=blk_sync W B g n cap A k t hk hn;have x0:=(jr_cell h1.jb).1;have H1:=dH h1;have Hb:=dH hb;have G:=dH t;clear E hS d1 d2 hW hb h1 t c0 c1 c2;(go_wp2_with fail);refine cS.mono ?_;rintro e w2 ⟨rfl,h2,k2⟩;have hl:=H1.out.lt;have s:=(k2.block j (Nat.lt_of_lt_of_le hl.1 hl.2.2.2) (by simp;exact hl.2.2.1)).trans H1.out.jb;obtain⟨y0,y1,y2⟩:=jr_cell s;have f2:=jr_frozen s 2;have d:=jr_set2 (f':=(c:Int)) s;have r:Keep [j] w2 (w2.setCell ⟨j,2,none⟩ (.int .i64 c)):=Keep.setCell _ ⟨j,2,none⟩ _;have m:JAt (w2.setCell ⟨j,2,none⟩ (.int .i64 c)) B j g n n c c:=by
  refine⟨d,⟨A,cap,h2.kept r (by simp;exact λe=>hl.2.2.1 e.symm) (λx hx=>?_)⟩,hl.1,hl.2.1,hl.2.2.1,?_⟩
  ·have:=(h2.arr.at_ hx).1;simp;omega
  ·have:=k2.size;have:=r.size;omega
 have D:Keep [j,g] w (w2.setCell ⟨j,2,none⟩ (.int .i64 c)):=by
  have q1:=(Keep.of_below Hb.out).mono (S':=[j,g]) sI;have q2:=Keep.trans q1 (k2.mono (S':=[j,g]) sI) (λy hy=>.inl hy);exact Keep.trans q2 (r.mono (S':=[j,g]) sI) (λy hy=>.inl hy)
 have HF:=dH (And.intro m D);clear cS h2 k2 s d r m D y0 hl;(go_wp2_with fail);go_ret;exact⟨rfl,HF.out⟩
section
def vaC(a b c d:Option Addr)(u n:Int):Array Value:=#[.pointer a,.pointer b,.pointer c,.pointer d,.int .i64 u,.int .i64 n]
theorem va_cell{a b c d:Option Addr}{u n:Int}(h:w.heap[v]?=some (.cells (vaC a b c d u n) T (0,0))) :
  w.cell? ⟨v,0,none⟩=some (.pointer a)/\w.cell? ⟨v,1,none⟩=some (.pointer b)/\w.cell? ⟨v,2,none⟩=some (.pointer c)/\w.cell? ⟨v,3,none⟩=some (.pointer d)/\w.cell? ⟨v,4,none⟩=some (.int .i64 u)/\w.cell? ⟨v,5,none⟩=some (.int .i64 n):=by
 refine⟨?_,?_,?_,?_,?_,?_⟩ <;> rw[cell_of_row w v _ _ _ _ h] <;> rfl
theorem va_frozen(h:w.heap[v]?=some (.cells cs T (0,0)))(i:Nat):w.frozen? ⟨v,i,none⟩=false:=by simp[frozen?,h]
section
variable {w:World} {v:Nat} {a b c d:Option Addr} {u n:Int} {T:TypeId}
theorem va_set0(h:w.heap[v]?=some (.cells (vaC a b c d u n) T (0,0)))(x:Option Addr):(w.setCell ⟨v,0,none⟩ (.pointer x)).heap[v]?=some (.cells (vaC x b c d u n) T (0,0)):=by rw[heap_setCell_same h];rfl
theorem va_set1(h:w.heap[v]?=some (.cells (vaC a b c d u n) T (0,0)))(x:Option Addr):(w.setCell ⟨v,1,none⟩ (.pointer x)).heap[v]?=some (.cells (vaC a x c d u n) T (0,0)):=by rw[heap_setCell_same h];rfl
theorem va_set2(h:w.heap[v]?=some (.cells (vaC a b c d u n) T (0,0)))(x:Option Addr):(w.setCell ⟨v,2,none⟩ (.pointer x)).heap[v]?=some (.cells (vaC a b x d u n) T (0,0)):=by rw[heap_setCell_same h];rfl
theorem va_set3(h:w.heap[v]?=some (.cells (vaC a b c d u n) T (0,0)))(x:Option Addr):(w.setCell ⟨v,3,none⟩ (.pointer x)).heap[v]?=some (.cells (vaC a b c x u n) T (0,0)):=by rw[heap_setCell_same h];rfl
theorem va_set4(h:w.heap[v]?=some (.cells (vaC a b c d u n) T (0,0)))(x:Int):(w.setCell ⟨v,4,none⟩ (.int .i64 x)).heap[v]?=some (.cells (vaC a b c d x n) T (0,0)):=by rw[heap_setCell_same h];rfl
theorem va_set5(h:w.heap[v]?=some (.cells (vaC a b c d u n) T (0,0)))(x:Int):(w.setCell ⟨v,5,none⟩ (.int .i64 x)).heap[v]?=some (.cells (vaC a b c d u x) T (0,0)):=by rw[heap_setCell_same h];rfl
end
@[go_sem ↓] theorem buildVa_run(w:World):(Instr.build 109 #[]).run prog w=.ok (.agg (vaC none none none none 0 0)) w:=kR
@[go_sem ↓] theorem buildSs_run(w:World):(Instr.build 217 #[(0,.string ⟨#[]⟩),(1,.string ⟨#[]⟩)]).run prog w=.ok (.agg #[.string ⟨#[]⟩,.string ⟨#[]⟩]) w:=kR
@[go_sem ↓] theorem idxSs0(w:World):(Instr.index 217 (.agg #[.string ⟨#[]⟩,.string ⟨#[]⟩]) (.int .i64 0)).run prog w=.ok (.string ⟨#[]⟩) w:=kR
@[go_sem ↓] theorem idxSs1(w:World):(Instr.index 217 (.agg #[.string ⟨#[]⟩,.string ⟨#[]⟩]) (.int .i64 1)).run prog w=.ok (.string ⟨#[]⟩) w:=kR
theorem vl_of(w:World):Calls prog 98 #[.string ⟨#[]⟩,.string ⟨#[]⟩] w λe w'=>∃v g0 g1,e=.returned (.pointer (some ⟨v,0,none⟩))/\w'.heap[v]?=some (.cells (vaC (some ⟨g0,0,none⟩) (some ⟨g1,0,none⟩) none none 0 0) 109 (0,0))/\(∀B,BlkAt w' B g0 none 0 0 0/\BlkAt w' B g1 none 0 0 0)/\w.heap.size<=v/\v<g0/\g0<g1/\Below w.heap.size w w':=by
 go_enter func98,ntmps98
 (go_wp2_with fail);have H:Below w.heap.size w (w.alloc (.cells (vaC none none none none 0 0) 109)):=bA;have k:(w.alloc (.cells (vaC none none none none 0 0) 109)).heap[w.heap.size]?=some (.cells (vaC none none none none 0 0) 109 (0,0)):=heap_alloc_new w _;obtain⟨v,hv⟩:=eX w.heap.size
 obtain⟨W,hW⟩:=eX (w.alloc (.cells (vaC none none none none 0 0) 109))
 rw[hv,hW]at k;rw[hW]at H;change Code.wp _ _ _ _ (w.alloc (.cells (vaC none none none none 0 0) 109));rw[hW,hv];have Hv:=dH hv;have Hb:=dH H;clear hv hW H;refine wp_loop_rounds 3 ?_;rw[rounds_succ];go_upto_region 5 with fail
 refine kF [v] W ?_;intro G hS;refine lQ ?_;intro K hK;refine(blk_new _).mono ?_;rintro e w1 ⟨rfl,s,r⟩;have F:Kp [v] W w1:=kp_below hS r;have f:(W.drew).heap[v]?=some (.cells (vaC none none none none 0 0) 109 (0,0)):=k;have j:=(r.block v (aG f).1).trans f;have A:=(aG f).1;have D:Below W.heap.size W w1:=bel2 (Below.refl _ W).drew r;clear f;obtain⟨g0,hg⟩:=eX W.drew.heap.size
 rw[hg]at s A |-;refine⟨_,rfl,F,hK _ _ ?_⟩;have c0:=va_cell j;have f0:=va_frozen j;have f0:=f0 0;have c0:=c0.1;clear hK K r;refine lZ ?_;refine wpLx_end ?_ ?_;(focus(simp only[chainOp];done));intro K hK;go_simp;refine hK _ _ ?_;have d:=va_set0 j (some ⟨g0,0,none⟩);have m:Keep [v] w1 (w1.setCell ⟨v,0,none⟩ (.pointer (some ⟨g0,0,none⟩))):=Keep.setCell w1 ⟨v,0,none⟩ _;obtain⟨X,hX⟩:=eX (w1.setCell ⟨v,0,none⟩ (.pointer (some ⟨g0,0,none⟩)))
 rw[hX]at d m |-;have E:=s.kept m sO (by simp[blk]);have c0:=(va_cell d).1;clear hK K f0 G hS F hX s j k;(go_wp2_with fail);refine(blk_write0 X g0 g0 0 E).mono ?_;rintro e w2 ⟨rfl,h2,k2⟩;have g:=(k2.block v (aG d).1 sO).trans d;have c0:=(va_cell g).1;clear d E;(go_wp2_with fail);refine(blk_sync w2 g0 g0 0 0 none 0 h2 lR oM).mono ?_;rintro e w3 ⟨rfl,h3,k3⟩;have k:=(k3.block v (aG g).1 sO).trans g;have t:Keep [v,g0] w1 w3:=Keep.trans (Keep.trans (m.mono (S':=[v,g0]) sI) (k2.mono (S':=[v,g0]) sI) (λy hy=>.inl hy)) (k3.mono (S':=[v,g0]) sI) (λy hy=>.inl hy);clear c0 g h2 k2 k3 m;have L:Below v w w3:=by
  have t0:=Hb.out.trans (D.mono Hb.out.size);rw[Hv.out]at t0;exact t0.trans (t.below (B:=v) (by rw[<-Hv.out];exact t0.size) sO)
 have O:=dH L;have H3:=dH h3;have N:=dH A;clear L h3 A D hg t;(go_wp2_with fail);rw[rounds_succ];go_upto_region 5 with fail
 refine kF [v] w3 ?_;intro G hS;refine lQ ?_;intro K hK;refine(blk_new _).mono ?_;rintro e w1 ⟨rfl,s,r⟩;have F:Kp [v] w3 w1:=kp_below hS r;have f:(w3.drew).heap[v]?=some (.cells (vaC (some ⟨g0,0,none⟩) none none none 0 0) 109 (0,0)):=k;have j:=(r.block v (aG f).1).trans f;have A:=(aG f).1;have D:Below w3.heap.size w3 w1:=bel2 (Below.refl _ w3).drew r;clear f;obtain⟨g1,hg⟩:=eX w3.drew.heap.size
 rw[hg]at s A |-;refine⟨_,rfl,F,hK _ _ ?_⟩;have c0:=va_cell j;have f0:=va_frozen j;have f0:=f0 1;have c0:=c0.2.1;clear hK K r;refine lZ ?_;refine wpLx_end ?_ ?_;(focus(simp only[chainOp];done));intro K hK;go_simp;refine hK _ _ ?_;have d:=va_set1 j (some ⟨g1,0,none⟩);have m:Keep [v] w1 (w1.setCell ⟨v,1,none⟩ (.pointer (some ⟨g1,0,none⟩))):=Keep.setCell w1 ⟨v,1,none⟩ _;obtain⟨X,hX⟩:=eX (w1.setCell ⟨v,1,none⟩ (.pointer (some ⟨g1,0,none⟩)))
 rw[hX]at d m |-;have E:=s.kept m sO (by simp[blk]);have c0:=(va_cell d).2.1;clear hK K f0 G hS F hX s j k;(go_wp2_with fail);refine(blk_write0 X g1 g1 0 E).mono ?_;rintro e w2 ⟨rfl,h2,k2⟩;have g:=(k2.block v (aG d).1 sO).trans d;have c0:=(va_cell g).2.1;clear d E;(go_wp2_with fail);refine(blk_sync w2 g1 g1 0 0 none 0 h2 lR oM).mono ?_;rintro e w6 ⟨rfl,h6,k3⟩;have k:=(k3.block v (aG g).1 sO).trans g;have t:Keep [v,g1] w1 w6:=Keep.trans (Keep.trans (m.mono (S':=[v,g1]) sI) (k2.mono (S':=[v,g1]) sI) (λy hy=>.inl hy)) (k3.mono (S':=[v,g1]) sI) (λy hy=>.inl hy);clear c0 g h2 k2 k3 m;have I:g0<g1:=by rw[<-hg];exact H3.out.lt
 have M:=(H3.out.below D).kept t (by simp;have:=N.out;omega) (by simp[blk]);have J:Below v w w6:=by
  have t0:=O.out.trans (D.mono (by rw[<-Hv.out];exact O.out.size));exact t0.trans (t.below (B:=v) (by rw[<-Hv.out];exact t0.size) sO)
 have HF:=dH (And.intro k (And.intro M (And.intro h6 (And.intro I J))));clear h6 M I J A D hg t k;(go_wp2_with fail);rw[rounds_succ];(go_wp2_with fail);go_ret;exact⟨v,g0,g1,rfl,HF.out.1,λB=>⟨⟨HF.out.2.1.heap,.inl ⟨rfl,rfl,rfl⟩,by simp[blk]⟩,⟨HF.out.2.2.1.heap,.inl ⟨rfl,rfl,rfl⟩,by simp[blk]⟩⟩,Nat.le_of_eq Hv.out,N.out,HF.out.2.2.2.1,by rw[Hv.out];exact HF.out.2.2.2.2⟩
end
theorem infoBk2:(prog.info? 105).map (·.size)=some 2:=kR
@[go_sem ↓] theorem loadBk2_rw(a:Addr):loadVar 105 a=ldS 105 a:=rfl
@[go_sem] theorem loadBk2_run(w:World)(g o:Nat):(ldS 105 ⟨g,o,none⟩).run prog w=match rowAt w g o 2 with | some cs=>.ok (.agg cs) w | none=>(loadVar 105 ⟨g,o,none⟩).run prog w :=
 run_ldS underlying105 rfl infoBk2 w g o
@[go_sem ↓] theorem idxBk0(a b:Option Addr)(w:World):(Instr.index 105 (.agg #[.pointer a,.pointer b]) (.int .i64 0)).run prog w=.ok (.pointer a) w:=kR
@[go_sem ↓] theorem idxBk1(a b:Option Addr)(w:World):(Instr.index 105 (.agg #[.pointer a,.pointer b]) (.int .i64 1)).run prog w=.ok (.pointer b) w:=kR
theorem vl_number0(w:World):Calls prog 158 #[.slice none 0 0] w λe w'=>e=.returned (.int .i64 (-1))/\w=w':=by
 go_enter func158,ntmps158
 (go_wp2_with fail);go_ret;exact⟨rfl,rfl⟩
theorem vl_load(w:World)(v g0 g1:Nat)(hv:w.heap[v]?=some (.cells (vaC (some ⟨g0,0,none⟩) (some ⟨g1,0,none⟩) none none 0 0) 109 (0,0)))(h0:BlkAt w 0 g0 none 0 0 0)(h1:BlkAt w 0 g1 none 0 0 0)(J:v<g0/\g0<g1) :
  Calls prog 90 #[.pointer (some ⟨v,0,none⟩)] w λe w'=>∃j0 j1,e=.returned (.tuple #[.slice none 0 0,.bool false])/\w'.heap[v]?=some (.cells (vaC (some ⟨g0,0,none⟩) (some ⟨g1,0,none⟩) (some ⟨j0,0,none⟩) (some ⟨j1,0,none⟩) 0 0) 109 (0,0)) /\
   w'.heap[j0]?=some (.cells (jrC ⟨some ⟨g0,0,none⟩,0,0⟩) 183 (0,0))/\BlkAt w' 0 g0 none 0 0 0/\w.heap.size<=j0/\Keep [v,g0,g1] w w':=by
 have m:rowAt w v 0 2=some #[.pointer (some ⟨g0,0,none⟩),.pointer (some ⟨g1,0,none⟩)]:=by
  unfold rowAt;rw[hv];rfl
 have Hv:=dH hv;have H0:=dH h0;have H1:=dH h1;clear hv h0 h1;go_enter func90,ntmps90
 (go_wp2_with fail);refine wp_loop_rounds 3 ?_;rw[rounds_succ];(go_wp2_with fail);refine(jr_open w 0 g0 H0.out).mono ?_;rintro e w2 ⟨j0,rfl,hj,f,hb,k2⟩;have l0:=H0.out.lt;have l1:=H1.out.lt;have lv:v<w.heap.size:=(aG Hv.out).1;have j:=(k2.block v lv sO).trans Hv.out;have c2:=(va_cell j).2.2.1;have f2:=va_frozen j 2;have k:=va_set2 j (some ⟨j0,0,none⟩);have d:Keep [v] w2 (w2.setCell ⟨v,2,none⟩ (.pointer (some ⟨j0,0,none⟩))):=Keep.setCell w2 ⟨v,2,none⟩ _;obtain⟨X,hX⟩:=eX (w2.setCell ⟨v,2,none⟩ (.pointer (some ⟨j0,0,none⟩)))
 rw[hX]at k d;have r:=(aG f).1;have B:=(d.block j0 r sO).trans f;have E:=hb.kept d sO (by simp[blk]);have F:=(H1.out.kept k2 sO (by simp[blk])).kept d sO (by simp[blk]);have kA:Keep [v,g0,g1] w X:=Keep.trans (k2.mono (S':=[v,g0,g1]) sI) (d.mono (S':=[v,g0,g1]) sI) (λy hy=>.inl hy);have HA:=dH (And.intro k (And.intro B (And.intro E (And.intro kA hj))));have I:=dH (Nat.lt_of_lt_of_le r d.size);have HX:=dH hX;have H:=dH l1;have G:=dH (Nat.lt_of_lt_of_le lv kA.size);clear j k B E kA hj r f hb d k2 l0 l1 lv m;(go_wp2_with fail);refine(vl_number0 X).mono ?_;rintro e w' ⟨rfl,rfl⟩;clear hX c2 f2;(go_wp2_with fail);rw[rounds_succ];(go_wp2_with fail);refine(jr_open X 0 g1 F).mono ?_;rintro e w4 ⟨j1,rfl,hj,f,hb,k2⟩;have g:=(k2.block v G.out sO).trans HA.out.1;have c3:=(va_cell g).2.2.2.1;have f3:=va_frozen g 3;have s:=va_set3 g (some ⟨j1,0,none⟩);have t:Keep [v] w4 (w4.setCell ⟨v,3,none⟩ (.pointer (some ⟨j1,0,none⟩))):=Keep.setCell w4 ⟨v,3,none⟩ _;have kB:Keep [v,g1] X (w4.setCell ⟨v,3,none⟩ (.pointer (some ⟨j1,0,none⟩))):=Keep.trans (k2.mono (S':=[v,g1]) sI) (t.mono (S':=[v,g1]) sI) (λy hy=>.inl hy);have A:=(kB.block j0 I.out (by have:=HA.out.2.2.2.2;have:=H.out;simp;omega)).trans HA.out.2.1;have D:=HA.out.2.2.1.kept kB sO (by simp[blk]);have HB:=dH (And.intro s (And.intro A (And.intro D (Keep.trans HA.out.2.2.2.1 (kB.mono (S':=[v,g0,g1]) sI) (λy hy=>.inl hy)))));clear g s t kB A D hj f hb k2 F;obtain⟨Y,hY⟩:=eX (w4.setCell ⟨v,3,none⟩ (.pointer (some ⟨j1,0,none⟩)))
 rw[hY]at HB;have HY:=dH hY;(go_wp2_with fail);refine(vl_number0 Y).mono ?_;rintro e w' ⟨rfl,rfl⟩;clear hY c3 f3;(go_wp2_with fail);rw[rounds_succ];(go_wp2_with fail);go_ret2;exact⟨j0,j1,rfl,HB.out.1,HB.out.2.1,HB.out.2.2.1,HA.out.2.2.2.2,HB.out.2.2.2⟩
theorem vl_gen(w:World):Calls prog 99 #[.int .i64 0] w λe w'=>∃s:ByteArray,e=.returned (.agg (rcdC ⟨1,s⟩))/\s.size=4/\Below w.heap.size w w':=by
 obtain⟨W,hW⟩:=eR (w.alloc (.cells (rcdC rcd0) 124))
 obtain⟨ga,d⟩:=eX w.heap.size
 have hg:W.heap[ga]?=some (.cells (rcdC rcd0) 124 (0,0)):=by rw[hW,<-d];exact heap_alloc_new w _
 have hB:Below w.heap.size w W:=by rw[hW];exact bA
 have c1:=wbnew W W (Below.refl _ _);have HW:=dH hW;have m:=dH d;have HB:=dH hB;clear hW d hB;go_enter func99,ntmps99
 (go_wp2_with fail);rw[<-HW.out,m.out];refine c1.mono ?_;rintro e w1 ⟨rfl,h1⟩;have c2:=wbnum W w1 _ _ h1 0 4 oM oM sI;clear c1 h1;(go_wp2_with fail);refine c2.mono ?_;rintro e w2 ⟨rfl,h2⟩;have c3:=wbdone W w2 _ _ h2;clear c2 h2;(go_wp2_with fail);refine c3.mono ?_;rintro e w3 ⟨rfl,h3⟩;obtain⟨s,hs⟩:∃s:ByteArray,(⟨([]++beL 4 0).toArray⟩:ByteArray)=s:=⟨_,rfl⟩
 rw[hs];have k:s.size=4:=by rw[<-hs];decide
 have f:=(h3.1.block ga (aG hg).1).trans hg;have r:=run_stS_at (P:=prog) infoRcd w3 ga (rcdC rcd0) (rcdC ⟨1,s⟩) _ f sI sI (rcdC_one _);have j:=dH (setRow_heap w3 ga _ (rcdC ⟨1,s⟩) _ _ f);have hk:=kSet w3 ga (rcdC ⟨1,s⟩);have g:=bel2 HB.out h3.1;have HF:=dH (And.intro k (g.trans (hk.below (B:=w.heap.size) g.size (by simp[m.out]))));clear hk g h3 f c3 k hs hg;(go_wp2_with fail);refine bodyPost_ret (results_cell_row results99 _ _ ga 124 (rcdC ⟨1,s⟩) (0,0) _ rfl j.out underlying124 rfl (by rw[rcdC_size];exact infoRcd)) rfl ?_;exact⟨s,rfl,HF.out.1,HF.out.2⟩
theorem JAt.down{B1 k c f:Nat}(h:JAt w B1 j g n k c f)(hB:B<=B1)(hj:j<B)(hg:g<B):JAt w B j g n k c f:=by
 obtain⟨A,cap,hb⟩:=h.bk;exact⟨h.jb,⟨A,cap,hb.heap,hb.arr.up (λy hy=>Nat.le_trans hB (hb.arr.at_ hy).1),hb.ne⟩,hj,hg,h.lt.2.2.1,Nat.le_trans hB h.lt.2.2.2⟩
def VlAt(w:World)(F:List Nat)(B v n c f:Nat):Prop :=
 ∃g0 g1 j0 j1 k,F = [v,j0,g0]/\w.heap[v]?=some (.cells (vaC (some ⟨g0,0,none⟩) (some ⟨g1,0,none⟩) (some ⟨j0,0,none⟩) (some ⟨j1,0,none⟩) 0 0) 109 (0,0))/\JAt w B j0 g0 n k c f/\v<B/\v≠j0/\v≠g0/\k<=n
theorem VlAt.kept{S:List Nat}{w w':World}{F:List Nat}{B v n c f:Nat}(h:VlAt w F B v n c f)(hk:Keep S w w')(hs:∀x∈S,x∉F/\x<B):VlAt w' F B v n c f:=by
 obtain⟨g0,g1,j0,j1,k,rfl,h1,h2,h3,h4,h5,h6⟩:=h;refine⟨g0,g1,j0,j1,k,rfl,(hk.block v (aG h1).1 (λhm=>(hs v hm).1 sI)).trans h1,h2.kept hk (λx hx=>?_),h3,h4,h5,h6⟩;have:=hs x hx;simp at this;exact⟨this.1.2.1,this.1.2.2,this.2⟩
theorem VlAt.below{c f:Nat}(h:VlAt w F B v n c f)(hb:Below w.heap.size w w'):VlAt w' F B v n c f:=h.kept (Keep.of_below hb) sI
theorem vl_none(w:World)(v g:Nat)(h:w.cell? ⟨v,0,none⟩=some (.pointer (some ⟨g,0,none⟩))):Calls prog 67 #[.pointer (some ⟨v,0,none⟩)] w λe w'=>e=.returned (.bool false)/\Below w.heap.size w w':=by
 go_enter func67,ntmps67
 (go_wp2_with fail);go_ret;exact⟨rfl,Below.refl _ _⟩
theorem vl_append(w:World)(hv:CrcVar w)(F:List Nat)(B v n c f:Nat)(h:VlAt w F B v n c f)(hF:4∉F)(s:ByteArray)(hs:s.size<=1048576)(hn:n<=100000000)(hc:c<=1000000) :
  Calls prog 31 #[.pointer (some ⟨v,0,none⟩),.string s] w λe w'=>e=.returned (.int .i64 0)/\VlAt w' F w.heap.size v (n+(s.size+9)) (c+1) f/\Keep F w w':=by
 obtain⟨g0,g1,j0,j1,k,rfl,hh,hj,I,G,H,hk⟩:=h;obtain⟨c0,_,c2,_,c4,_⟩:=va_cell hh;have cN:=vl_none w v g0 c0;have g:4≠j0/\4≠g0:=by simp at hF;exact⟨λe=>hF.2.1 e,λe=>hF.2.2 e⟩
 have cA:=fun (W:World) (hb:Below w.heap.size w W)=>jr_append W (hv.below hb) B j0 g0 n k c f (hj.below hb) g 3 (.inr (.inr rfl)) s hs hn hc;have Hh:=dH hh;have r:=dH hj.lt;clear hv hj g hF hh c0;go_enter func31,ntmps31
 (go_wp2_with fail);refine cN.mono ?_;rintro e w1 ⟨rfl,j⟩;have d2:=(j.cell (p:=⟨v,2,none⟩) (block_lt_of_cell? w _ c2)).trans c2;have d4:=(j.cell (p:=⟨v,4,none⟩) (block_lt_of_cell? w _ c4)).trans c4;have d:=dH j;clear cN j c2 c4;go_upto_region 3 with fail
 refine kX [j0,g0] w1 ?_;intro g hS;have e2:=ksub_cell d2 (S:=[j0,g0]) sO;have e4:=ksub_cell d4 (S:=[j0,g0]) sO;refine lQ ?_;intro K hK;refine(cA _ (d.out.trans ((Below.refl _ w1).drew.mono d.out.size))).mono ?_;rintro e w2 ⟨rfl,E,D⟩;have m:Kp [j0,g0] w1 w2:=Keep.trans ((Keep.drew w1).mono (S':=[j0,g0]) sI) D (λy hy=>.inl hy);refine⟨_,rfl,m,hK _ _ ?_⟩;clear hK K;refine lZ ?_;refine wpLx_nil ?_;intro hS;have A:Keep [v,j0,g0] w w2:=Keep.trans ((Keep.of_below d.out).mono (S':=[v,j0,g0]) sI) (m.mono (S':=[v,j0,g0]) sI) (λy hy=>.inl hy);have t:=(m.block v (Nat.lt_of_lt_of_le (aG Hh.out).1 d.out.size) sO).trans ((d.out.block v (aG Hh.out).1).trans Hh.out);have HF:=dH (show VlAt w2 [v,j0,g0] w.heap.size v (n+(s.size+9)) (c+1) f/\Keep [v,j0,g0] w w2 from⟨⟨g0,g1,j0,j1,k,rfl,t,E.down (by have:=d.out.size;simpa using this) (oH r.out) (oH r.out),oH r.out,G,H,oM⟩,A⟩);clear g hS e2 e4 E D m A t cA d2 d4;(go_wp2_with fail);go_ret;exact⟨rfl,HF.out⟩
theorem vl_sync(w:World)(F:List Nat)(B v n c f:Nat)(h:VlAt w F B v n c f)(hn:n<=1000000000)(hc:f<=c/\c<=1000000) :
  Calls prog 42 #[.pointer (some ⟨v,0,none⟩)] w λe w'=>e=.returned (.int .i64 ((c:Int)-f))/\VlAt w' F B v n c c/\Keep F w w':=by
 obtain⟨g0,g1,j0,j1,k,rfl,hh,hj,E,A,D,hk⟩:=h;obtain⟨c0,_,c2,_,c4,_⟩:=va_cell hh;have cN:=vl_none w v g0 c0;have cA:=fun (W:World) (hb:Below w.heap.size w W)=>jr_sync W B j0 g0 n k c f (hj.below hb) hk hn hc;have Hh:=dH hh;clear hj hh c0;go_enter func42,ntmps42
 (go_wp2_with fail);refine cN.mono ?_;rintro e w1 ⟨rfl,g⟩;have d2:=(g.cell (p:=⟨v,2,none⟩) (block_lt_of_cell? w _ c2)).trans c2;have d4:=(g.cell (p:=⟨v,4,none⟩) (block_lt_of_cell? w _ c4)).trans c4;have d:=dH g;clear cN g c2 c4;go_upto_region 3 with fail
 refine kX [j0,g0] w1 ?_;intro G hS;have e2:=ksub_cell d2 (S:=[j0,g0]) sO;have e4:=ksub_cell d4 (S:=[j0,g0]) sO;refine lQ ?_;intro K hK;refine(cA _ (d.out.trans ((Below.refl _ w1).drew.mono d.out.size))).mono ?_;rintro e w2 ⟨rfl,t,s⟩;have j:Kp [j0,g0] w1 w2:=Keep.trans ((Keep.drew w1).mono (S':=[j0,g0]) sI) s (λy hy=>.inl hy);refine⟨_,rfl,j,hK _ _ ?_⟩;clear hK K;refine lZ ?_;refine wpLx_nil ?_;intro hS;have r:Keep [v,j0,g0] w w2:=Keep.trans ((Keep.of_below d.out).mono (S':=[v,j0,g0]) sI) (j.mono (S':=[v,j0,g0]) sI) (λy hy=>.inl hy);have m:=(j.block v (Nat.lt_of_lt_of_le (aG Hh.out).1 d.out.size) sO).trans ((d.out.block v (aG Hh.out).1).trans Hh.out);have HF:=dH (show VlAt w2 [v,j0,g0] B v n c c/\Keep [v,j0,g0] w w2 from⟨⟨g0,g1,j0,j1,n,rfl,m,t,E,A,D,lR⟩,r⟩);clear G hS e2 e4 t s j r m cA d2 d4;(go_wp2_with fail);go_ret;exact⟨rfl,HF.out⟩
theorem vl_new(w:World)(hv:CrcVar w):Calls prog 50 #[] w λe w'=>∃v F B,e=.returned (.pointer (some ⟨v,0,none⟩))/\VlAt w' F B v 22 2 2/\(∀x∈F,w.heap.size<=x)/\w.heap.size<=B/\Below w.heap.size w w':=by
 have Hv:=dH hv;clear hv;go_enter func50,ntmps50
 (go_wp2_with fail);refine(vl_of w).mono ?_;rintro e w1 ⟨v,g0,g1,rfl,h1,r,V,U,a5,a7⟩;have cL:=vl_load w1 v g0 g1 h1 (r 0).1 (r 0).2 ⟨U,a5⟩;have b5:=(r 0).1.lt;have Z:=(aG h1).1;have R:=dH a7;have N:=dH V;clear h1 r a7 V;(go_wp2_with fail);refine cL.mono ?_;rintro e w2 ⟨j0,j1,rfl,h2,hj,hb,b4,k2⟩;clear cL;have c4:=(va_cell h2).2.2.2.2.1;have f4:=va_frozen h2 4;have h3:=va_set4 h2 0;obtain⟨X,hX⟩:=eX (w2.setCell ⟨v,4,none⟩ (.int .i64 0))
 have kX:Keep [v] w2 X:=by rw[<-hX];exact Keep.setCell _ ⟨v,4,none⟩ _
 rw[hX]at h3;have c5:=(va_cell h3).2.2.2.2.2;have f5:=va_frozen h3 5;have h4:=va_set5 h3 0;obtain⟨Y,hY⟩:=eX (X.setCell ⟨v,5,none⟩ (.int .i64 0))
 have kY:Keep [v] X Y:=by rw[<-hY];exact Keep.setCell _ ⟨v,5,none⟩ _
 rw[hY]at h4;have d:Keep [v] w2 Y:=Keep.trans kX kY (λy hy=>.inl hy);have f:=(aG hj).1;have H:=hb.lt;have hJ:JAt Y Y.heap.size j0 g0 0 0 0 0:=by
  refine⟨(d.block j0 f sO).trans hj,⟨none,0,(d.block g0 H sO).trans hb.heap,.inl ⟨rfl,rfl,rfl⟩,by simp[blk]⟩,?_,?_,oM,lR⟩
  ·exact Nat.lt_of_lt_of_le f d.size
  ·exact Nat.lt_of_lt_of_le H d.size
 have hV:VlAt Y [v,j0,g0] Y.heap.size v 0 0 0:=⟨g0,g1,j0,j1,0,rfl,h4,hJ,Nat.lt_of_lt_of_le (aG h3).1 kY.size,oM,oM,lR⟩
 have G:Below w.heap.size w Y:=by
  have t1:=R.out.trans (k2.below (B:=w.heap.size) R.out.size (oS N.out));exact t1.trans (d.below (B:=w.heap.size) t1.size (oS N.out))
 have A:∀x∈[v,j0,g0],w.heap.size<=x:=by
  have h1:=R.out.size;have h2:=N.out;intro x hx;simp at hx;rcases hx with rfl | rfl | rfl <;> omega
 have d2:=(va_cell h4).2.2.1;have D2:=dH d2;have HJ:=dH hJ;have HV:=dH hV;have O:=dH G;have a9:=dH A;have HX:=dH hX;have HY:=dH hY;have Hn:=dH (show v≠j0/\v≠g0 from⟨oM,oM⟩);have a6:=Hv.out.below G;have Hc:4≠j0/\4≠g0:=by
  have hl:=Hv.out.lt;exact⟨λe=>oH (A j0 sI),λe=>oH (A g0 sI)⟩
 have D:=dH (Nat.lt_of_lt_of_le Z (Nat.le_trans k2.size d.size));clear h2 hj hb b4 k2 h3 h4 kX kY d f H hJ hV G A b5 Z U a5;go_upto_region 4 with fail
 clear c4 f4 c5 f5 hX hY;refine kX [j0,g0] Y ?_;intro b3 hS;have e2:=ksub_cell d2 (S:=[j0,g0]) (oS Hn.out);refine lQ ?_;intro K hK;refine(vl_gen _).mono ?_;rintro e w3 ⟨s,rfl,hs,I⟩;have M:Below Y.heap.size Y w3:=bel2 (Below.refl _ Y).drew I;have t:Kp [j0,g0] Y w3:=kp_below hS I;have a2:s.size<=1048576:=oM;refine⟨_,rfl,t,hK _ _ ?_⟩;clear hK K hS;have hS:=t;refine lQ ?_;intro K hK;refine(jr_append w3 (a6.below M) _ j0 g0 0 0 0 0 (HJ.out.below M) Hc 1 (.inl rfl) s a2 oM oM).mono ?_;rintro e w4 ⟨rfl,E,k4⟩;have g:Kp [j0,g0] Y w4:=Keep.trans t k4 (λy hy=>.inl hy);refine⟨_,rfl,g,hK _ _ ?_⟩;clear hK K;refine lZ ?_;refine wpLx_nil ?_;intro hS;rw[hs]at E;have b2:=(g.block v D.out (oS Hn.out)).trans (HV.out.choose_spec.choose_spec.choose_spec.choose_spec.choose_spec.2.1);have m:CrcVar w4:=a6.kept g (oS Hc);have d4:=(g.cell (p:=⟨v,2,none⟩) D.out (oS Hn.out)).trans d2;have b8:=dH E;have T:=dH g;clear hS b3 t g k4 E b2 M I hs a2 e2 d2;(go_wp2_with fail);refine(jr_append w4 m _ j0 g0 _ 0 _ 0 b8.out Hc 2 (.inr (.inl rfl)) ⟨#[]⟩ (by decide) oM oM).mono ?_;rintro e w5 ⟨rfl,a4,k5⟩;have L:Keep [j0,g0] Y w5:=Keep.trans T.out k5 (λy hy=>.inl hy);have d5:=(L.cell (p:=⟨v,2,none⟩) D.out (oS Hn.out)).trans D2.out;have b7:=dH a4;have b6:=dH L;clear a4 L k5 d4 m;(go_wp2_with fail);refine(jr_sync w5 _ j0 g0 _ 0 _ 0 b7.out zL (by show(0+(4+9))+(0+9)<=_;omega) ⟨zL,oM⟩).mono ?_;rintro e w6 ⟨rfl,a3,k6⟩;have J:Keep [j0,g0] Y w6:=Keep.trans b6.out k6 (λy hy=>.inl hy);have j:VlAt w6 [v,j0,g0] w4.heap.size v 22 2 2:=by
  obtain⟨a0,a1,b0,b1,k,e1,e2,e3,e4,e5,e6,_⟩:=HV.out;simp at e1;obtain⟨rfl,rfl⟩:=e1;exact⟨g0,a1,j0,b1,22,rfl,(J.block v D.out (oS Hn.out)).trans e2,a3,Nat.lt_of_lt_of_le e4 T.out.size,e5,e6,lR⟩
 have a8:Below w.heap.size w w6:=O.out.trans (J.below (B:=w.heap.size) O.out.size (λx hx=>a9.out x (by simp at hx;simp;omega)));have HF:=dH (And.intro j a8);clear a3 k6 J j a8 d5;(go_wp2_with fail);go_ret;exact⟨v,[v,j0,g0],w4.heap.size,rfl,HF.out.1,a9.out,Nat.le_trans O.out.size T.out.size,HF.out.2⟩
theorem st_applyK(w:World)(g:Nat)(F M:List Nat)(n:Nat)(X:StX)(h:StateAt w g F M X)(hv:Vars w)(hX:StOk n X)(hn:n<=700)(k:Int)(hk:k=1\/k=3)(b:ByteArray)(hb:b.size<=3000)(y:entE ⟨k,⟨#[]⟩,b,id0⟩=0) :
  Calls prog 29 #[.pointer (some ⟨g,0,none⟩),.agg (entC ⟨k,⟨#[]⟩,b,id0⟩)] w λe w'=>∃E Y F' M',e=.returned (.int .i64 E)/\AppS X ⟨k,⟨#[]⟩,b,id0⟩ E Y/\StNx w g F M Y w' F' M':=by
 have hB:Below w.heap.size w (w.alloc (.cells (entC ⟨k,⟨#[]⟩,b,id0⟩) 25)):=bA;have hr:rowAt (w.alloc (.cells (entC ⟨k,⟨#[]⟩,b,id0⟩) 25)) w.heap.size 0 35=some (entC ⟨k,⟨#[]⟩,b,id0⟩):=by simp[go_sem]
 obtain⟨W,hW⟩:=eR (w.alloc (.cells (entC ⟨k,⟨#[]⟩,b,id0⟩) 25))
 obtain⟨ga,s⟩:=eX w.heap.size
 rw[<-hW]at hB hr;rw[s]at hr;have f:=h.below hB;have c0:∃gd,W.cell? ⟨g,0,none⟩=some (.pointer (some ⟨gd,0,none⟩)):=by
  obtain⟨gd,gs,bo,bv,Fd,Fs,N,I⟩:=f.sp;exact⟨gd,by rw[cell_of_row W g 0 _ _ _ I.st.heap];rfl⟩
 obtain⟨gd,c0⟩:=c0;have cN:=st_none W g gd c0;have cE:=ent_check ⟨k,⟨#[]⟩,b,id0⟩ W (by show b.size<=_;omega) zL;rw[y]at cE;have G:=dH y;have HW:=dH hW;have J:=dH s;have HB:=dH hB;have H:=dH h;have HX:=dH hX;have Hv:=dH hv;clear y hW s hB f c0 h hX hv;go_enter func29,ntmps29
 (go_wp2_with fail);rw[<-HW.out,J.out];refine cN.mono ?_;rintro e w1 ⟨rfl,rfl⟩;clear cN;(go_wp2_with fail);refine cE.mono ?_;rintro e w2 ⟨rfl,t⟩;have r:=((Keep.of_below t).row (rowAt_lt hr) sI _ _).trans hr;have B:=dH (bel2 HB.out t);clear cE hr t;have f0:w2.cell? ⟨ga,0,none⟩=some (.int .i64 k):=by have:=rowAt_cell r (j:=0) oM;rw[Nat.zero_add]at this;rw[this];simp[entC]
 have f2:w2.cell? ⟨ga,2,none⟩=some (.string b):=by have:=rowAt_cell r (j:=2) oM;rw[Nat.zero_add]at this;rw[this];simp[entC]
 have m:=dH (H.out.below B.out);have D:=dH (Hv.out.below B.out);have Hn:=dH (StNx.below H.out B.out);clear r;rcases hk with rfl | rfl
 ·have c1:=st_header w2 g F M n X m.out D.out HX.out hn b oM true;(go_wp2_with fail);refine(c1).mono ?_;rintro e w4 ⟨rfl,F4,M4,d⟩;have A:=dH (Hn.out.trans d);clear d;(go_wp2_with fail);go_ret;refine⟨_,_,F4,M4,rfl,?_,A.out⟩;exact appS_1 G.out
 ·have c1:=st_pay w2 g F M n X m.out D.out HX.out oM b oM;(go_wp2_with fail);refine(c1).mono ?_;rintro e w4 ⟨rfl,F4,M4,d⟩;have A:=dH (Hn.out.trans d);clear d;(go_wp2_with fail);go_ret;refine⟨_,_,F4,M4,rfl,?_,A.out⟩;exact appS_3 G.out
section
open Go.RowKit Go.Sort Go.Shelf
theorem ins01(p:Option Addr)(cap n:Nat)(hn:n<=1)(fv:Value)(w:World):Calls prog 259 #[.slice p n cap,.int .i64 0,.int .i64 n,fv] w λe w'=>e=.returned (.tuple #[])/\w'=w:=by
 have h:n=0\/n=1:=oM;rcases h with rfl | rfl
 all_goals
  go_enter func259,ntmps259
  (go_wp2_with fail);refine wp_loop_rounds 1 ?_;rw[rounds_succ];(go_wp2_with fail);go_end0;exact⟨rfl,rfl⟩
theorem pdq01(p:Option Addr)(cap n:Nat)(hn:n<=1)(d:Int)(fv:Value)(w:World):Calls prog 229 #[.slice p n cap,.int .i64 0,.int .i64 n,.int .i64 d,fv] w λe w'=>e=.returned (.tuple #[])/\w'=w:=by
 have hi:=ins01 p cap n hn fv;have h:n=0\/n=1:=oM;rcases h with rfl | rfl
 all_goals
  go_enter func229,ntmps229
  (go_wp2_with fail);refine wp_loop_rounds 1 ?_;rw[rounds_succ];(go_wp2_with fail);refine(hi _).mono ?_;rintro e w1 ⟨rfl,rfl⟩;go_wp2_with fail
  (try simp only[Exit.inBlock,Exit.then]);refine bodyPost_ret (results_none rfl _ _ _) rfl ?_
  exact⟨rfl,rfl⟩
theorem sort01(p:Option Addr)(cap n:Nat)(hn:n<=1)(fv:Value)(w:World):Calls prog 171 #[.slice p n cap,fv] w λe w'=>e=.returned (.tuple #[])/\w'=w:=by
 have hp:=pdq01 p cap n hn;have hl:Calls prog 230 #[.int .u64 (n:Int)] w λe w'=>e=.returned (.int .i64 (Lib.bitLen n:Nat))/\w'=w:=by
  have L:=laySortId;have h:=Any.bits_Len (SlLaysF0.n15.bits (P:=prog) { L with }) (n:Int) w oM oM;rw[Int.toNat_natCast]at h;exact h
 have wr:IntKind.u64.wrap (n:Int)=n:=by simp[IntKind.wrap,IntKind.bits,IntKind.signed];omega
 go_enter func171,ntmps171
 (go_wp2_with fail);refine hl.mono ?_;rintro e w1 ⟨rfl,rfl⟩;(go_wp2_with fail);refine(hp _ _ _).mono ?_;rintro e w1 ⟨rfl,rfl⟩;(go_wp2_with fail);go_end0;exact⟨rfl,rfl⟩
theorem dag_all01(wS:World)(g:Nat)(F:List Nat)(D:List HdX)(h:DagAt wS g F D)(hD:D.length<=1) :
  Calls prog 101 #[.pointer (some ⟨g,0,none⟩)] wS λe w'=>∃A cap,e=.returned (.slice A D.length cap)/\Own w' wS.heap.size 23 32 A D.length cap ((idsX D).map idC)/\Below wS.heap.size wS w':=by
 obtain⟨bh,bp,bt,bc,N,Tm,Cm,h,_⟩:=h;obtain⟨es,a5,hm⟩:=h.hs;have a3:=hm.lt;have hc:wS.cell? ⟨g,0,none⟩=some (.map (some bh)):=by rw[cell_of_row wS g 0 _ _ _ h.heap];rfl
 have a1:N.length=D.length:=by have:=h.perm.length_eq;simpa using this
 have E:=dH h.perm;have HD:=dH hD;obtain⟨w0,f,hR,Z,V⟩:=hm.range (P:=prog) underlying219;have a0:=dH V;have cN:=dag_none wS g bh hc;clear hm h;go_enter func101,ntmps101
 (go_wp2_with fail);refine cN.mono ?_;rintro e w1 ⟨rfl,rfl⟩;(go_wp2_with fail);clear f hc cN;go_loopw [3] (λout wr=>∃S A cap,out=.slice A S.length cap/\RangeAt wr bh wS.heap.size idV hdVA okId N S/\Own wr w0.heap.size 23 32 A S.length cap (S.map λp=>idC p.1)/\Below wS.heap.size wS wr/\w0.heap.size<=wr.heap.size) (λ_ wr=>wr.rangeLeft bh wS.heap.size)
 case atStart=>exact⟨[],none,0,rfl,hR,Own.nil _ _ _ _,Z,lR⟩
 case round =>
  obtain⟨S,A,cap,rfl,hR,d,hb,T⟩:=hrel;rcases hR.next (P:=prog) 0 with⟨hperm,f⟩ | ⟨p,w1,hxL,hxS,f,hR1,hk1,hs1,hl1,hen⟩
  focus
   have J:(S.map (·.1))=idsX D:=by
    have h1:(S.map (·.1)).Perm (N.map (·.1)):=hperm.map _;have h2:((N.map λp=>(⟨p.1,p.2.h⟩:HdX)).map (·.id)).Perm (idsX D):=E.out.map _;rw[map_map]at h2;have h3:(S.map (·.1)).Perm (idsX D):=h1.trans h2;have h4:(idsX D).length<=1:=by unfold idsX;rw[length_map];exact HD.out
    match hI:idsX D with
    | []=>rw[hI]at h3;exact h3.eq_nil
    | [a]=>rw[hI]at h3;exact perm_singleton.1 h3
    | a :: b :: l=>rw[hI]at h4;simp at h4
   have L:S.length=D.length:=by
    have:=congrArg List.length J;simpa[idsX]using this
   have e:(S.map λp=>idC p.1)=(idsX D).map idC:=by rw[<-J,map_map];rfl
   rw[L,e]at d;rw[L];have cS:=sort01 A cap D.length HD.out;have HF:=dH (And.intro d hb);clear J L e d hb hR hperm T;(go_wp2_with fail);refine(cS _ _).mono ?_;rintro e w2 ⟨rfl,rfl⟩;clear cS f;(go_wp2_with fail);go_ret;exact⟨A,cap,rfl,HF.out.1.mono (oH a0.out),HF.out.2⟩
  have a4:S.length+1<=1000000:=by
   have h1:=hR1.length;simp at h1;omega
  have m:Own w1 w0.heap.size 23 32 A S.length cap (S.map λp=>idC p.1):=d.kept hk1 (λy hy=>oS ((d.at_base hy).1));have Y:Below wS.heap.size wS w1:=hb.trans (hk1.below (B:=wS.heap.size) oM sI);have t:Below w1.heap.size w1 ((w1.alloc (.cells (idC p.1) 23)).alloc (.cells (idC p.1) 23)):=(bA).alloc sI _;have s:=m.below t;have k:rowAt ((w1.alloc (.cells (idC p.1) 23)).alloc (.cells (idC p.1) 23)) (w1.heap.size+1) 0 32=some (idC p.1):=by simp[go_sem]
  change (Instr.next _ _ _).run prog wr=.ok (.tuple #[.bool true,.agg (idC p.1),hdVA p.2]) w1 at f;change (Instr.entry _).run prog w1=.ok (.tuple #[.agg (idC p.1),hdVA p.2]) w1 at hen;have H:=dH hs1;clear hs1;go_wp2_with (at_builtin;refine L_append einfoId rfl s rfl k (idC_one _) oM oM (by simp;have:=H.out;omega) ?_;intro A' cap' w2 r G M)
  have R:bh∉blk A:=λhx=>(oH ((d.at_base hx).1));have O:wS.heap.size∉blk A:=λhx=>(oH ((d.at_base hx).1));have j:=hR1.kept (Keep.of_below t) sI sI;have U:=j.kept G R O;have a2:w2.rangeLeft bh wS.heap.size=w1.rangeLeft bh wS.heap.size :=
   (rangeLeft_kept G R O j.lt.2 j.lt.1).trans (rangeLeft_kept (Keep.of_below t) sI sI hR1.lt.2 hR1.lt.1)
  have I:w0.heap.size<=w2.heap.size:=by
   have e1:=t.size;have e2:=G.size;have e3:=H.out;omega
  have X:Below wS.heap.size wS w2:=Y.trans ((t.mono (oH H.out)).trans (G.below (B:=wS.heap.size) (by simp;have:=H.out;omega) λy hy=>oH ((d.at_base hy).1)));clear f hen;(go_wp2_with fail);go_roundw
  case rel=>exact⟨S ++ [p],A',cap',sI,U,by simpa using r,X,I⟩
  case measure=>omega
end
theorem idx_of0(v:Value)(A:Option Addr)(cap:Nat)(w:World):Calls prog 100 #[.slice A 0 cap,v] w λe w'=>e=.returned (.int .i64 (-1))/\w=w':=by
 go_enter func100,ntmps100
 (go_wp2_with fail);go_loopw [8] (λiv wr=>iv=.int .i64 0/\wr=w) (λ_ _=>0)
 case atStart=>exact⟨rfl,rfl⟩
 case round =>
  obtain⟨rfl,rfl⟩:=hrel;(go_wp2_with fail);go_ret;exact⟨rfl,rfl⟩
theorem del_of0(v:Value)(A:Option Addr)(cap:Nat)(w:World):Calls prog 51 #[.slice A 0 cap,v] w λe w'=>e=.returned (.slice A 0 cap)/\w=w':=by
 go_enter func51,ntmps51
 (go_wp2_with fail);refine(idx_of0 _ _ _ _).mono ?_;rintro e w1 ⟨rfl,rfl⟩;(go_wp2_with fail);go_ret;exact⟨rfl,rfl⟩
theorem dag_heads0(w:World)(g:Nat)(F:List Nat)(h:DagAt w g F []):Calls prog 174 #[.pointer (some ⟨g,0,none⟩)] w λe w'=>∃A cap,e=.returned (.slice A 0 cap)/\Below w.heap.size w w':=by
 have hB:Below w.heap.size w (w.alloc (.cells #[.pointer (some ⟨g,0,none⟩)] 80)):=bA;have cA:=dag_all01 _ g F [] (h.below hB) sI;go_enter func174,ntmps174
 (go_wp2_with fail);refine cA.mono ?_;rintro e w1 ⟨A,cap,rfl,_,hb⟩;change Below _ _ _ at hb;have Hb:=dH (bel2 hB hb);clear cA hb hB h;(go_wp2_with fail);refine(del_of0 _ _ _ _).mono ?_;rintro e w2 ⟨rfl,rfl⟩;(go_wp2_with fail);go_ret;exact⟨A,cap,rfl,Hb.out⟩
theorem st_gd{M:List Nat}{X:StX}(h:StateAt w g F M X):∃gd Fd,w.cell? ⟨g,0,none⟩=some (.pointer (some ⟨gd,0,none⟩))/\DagAt w gd Fd X.D:=by
 obtain⟨gd,gs,bo,bv,Fd,Fs,N,h⟩:=h.sp;exact⟨gd,Fd,by rw[cell_of_row w g 0 _ _ _ h.st.heap];rfl,h.st.dag⟩
theorem st_heads0(w:World)(g:Nat)(F M:List Nat)(X:StX)(h:StateAt w g F M X)(hD:X.D = []):Calls prog 113 #[.pointer (some ⟨g,0,none⟩)] w λe w'=>∃A cap,e=.returned (.slice A 0 cap)/\Below w.heap.size w w':=by
 obtain⟨gd,Fd,c0,hd⟩:=st_gd h;rw[hD]at hd;have cN:=st_none w g gd c0;have cA:=dag_heads0 w gd Fd hd;clear h hd;go_enter func113,ntmps113
 (go_wp2_with fail);refine cN.mono ?_;rintro e w1 ⟨rfl,rfl⟩;(go_wp2_with fail);refine cA.mono ?_;rintro e w1 ⟨A,cap,rfl,hb⟩;(go_wp2_with fail);go_ret;exact⟨A,cap,rfl,hb⟩
theorem st_ids01(w:World)(g:Nat)(F M:List Nat)(X:StX)(h:StateAt w g F M X)(hD:X.D.length<=1):Calls prog 52 #[.pointer (some ⟨g,0,none⟩)] w λe w'=>∃A cap,e=.returned (.slice A X.D.length cap)/\Own w' w.heap.size 23 32 A X.D.length cap ((idsX X.D).map idC)/\Below w.heap.size w w':=by
 obtain⟨gd,Fd,c0,hd⟩:=st_gd h;have cN:=st_none w g gd c0;have cA:=dag_all01 w gd Fd X.D hd hD;clear h hd;go_enter func52,ntmps52
 (go_wp2_with fail);refine cN.mono ?_;rintro e w1 ⟨rfl,rfl⟩;(go_wp2_with fail);refine cA.mono ?_;rintro e w1 ⟨A,cap,rfl,ho,hb⟩;(go_wp2_with fail);go_ret;exact⟨A,cap,rfl,ho,hb⟩
theorem isFn_own1:IsFn 53:=λargs w=>by kernel_rfl
theorem own1(w:World)(gb g bo:Nat)(O:List Id32)(hb:w.cell? ⟨gb,0,none⟩=some (.pointer (some ⟨g,0,none⟩)))(h2:w.cell? ⟨g,2,none⟩=some (.map (some bo)))(ho:IdSet w bo O)(x:Id32) :
  Calls prog 53 #[.agg (idC x),.pointer (some ⟨gb,0,none⟩)] w λe w'=>e=.returned (.bool (!decide (x∈O)))/\Below w.heap.size w w':=by
 have hB:Below w.heap.size w (w.alloc (.cells (idC x) 23)):=bA;have hr:rowAt (w.alloc (.cells (idC x) 23)) w.heap.size 0 32=some (idC x):=by simp[go_sem]
 obtain⟨W,hW⟩:=eR (w.alloc (.cells (idC x) 23))
 obtain⟨ga,d⟩:=eX w.heap.size
 rw[<-hW]at hB hr;rw[d]at hr;have c0:=(hB.cell (p:=⟨gb,0,none⟩) (block_lt_of_cell? w _ hb)).trans hb;have c2:=(hB.cell (p:=⟨g,2,none⟩) (block_lt_of_cell? w _ h2)).trans h2;have hk:∀y:Subtype (Bel W),(Instr.lookup 82 (.map (some bo)) (.agg (idC x)) false).run prog y.1=.ok (.bool (decide (x∈O))) y.1:=λy=>ilook ((ho.below hB).below y.2);obtain⟨t,ht⟩:=eX (decide (x∈O))
 rw[ht]at hk |-;have HW:=dH hW;have j:=dH d;have HB:=dH hB;clear hW d hB ht hb h2;go_enter func53,ntmps53
 go_upto_region 1 with fail
 rw[<-HW.out,j.out];refine lX W ?_;intro k hS;have b1:=sub_cell c0;have b2:=sub_cell c2;have b3:=sub_row hr;refine lZ ?_;refine wpLx_nil ?_;intro hS;have f:=bel2 HB.out hS;(go_wp2_with fail);go_ret;exact⟨rfl,f⟩
theorem st_own01(w:World)(g:Nat)(F M:List Nat)(X:StX)(h:StateAt w g F M X)(hD:X.D.length<=1)(Z:List Id32)(hZ:((idsX X.D).filter λx=>decide (x∈X.O))=Z):Calls prog 18 #[.pointer (some ⟨g,0,none⟩)] w λe w'=>∃A cap,e=.returned (.slice A Z.length cap)/\Own w' w.heap.size 23 32 A Z.length cap (Z.map idC)/\Below w.heap.size w w':=by
 have hB:Below w.heap.size w (w.alloc (.cells #[.pointer (some ⟨g,0,none⟩)] 31)):=bA;have x0:(w.alloc (.cells #[.pointer (some ⟨g,0,none⟩)] 31)).cell? ⟨w.heap.size,0,none⟩=some (.pointer (some ⟨g,0,none⟩)):=by simp[go_sem]
 obtain⟨W,hW⟩:=eR (w.alloc (.cells #[.pointer (some ⟨g,0,none⟩)] 31))
 obtain⟨ga,k⟩:=eX w.heap.size
 rw[<-hW]at hB x0;rw[k]at x0;have r:=h.below hB;have cI:=st_ids01 W g F M X r hD;have s:=dH r;have HZ:=dH hZ;have HB:=dH hB;have R:=dH k;have HW:=dH hW;have J:X.D.length<=1000000:=oM;clear h r hZ hB k hW hD;go_enter func18,ntmps18
 (go_wp2_with fail);rw[<-HW.out,R.out];refine cI.mono ?_;rintro e w1 ⟨A,cap,rfl,ho,hb⟩;obtain⟨gd,gs,bo,bv,Fd,Fs,N,hs⟩:=(s.out.below hb).sp;have c2:w1.cell? ⟨g,2,none⟩=some (.map (some bo)):=by rw[cell_of_row w1 g 2 _ _ _ hs.st.heap];rfl
 have x1:=(hb.cell (p:=⟨ga,0,none⟩) (block_lt_of_cell? W _ x0)).trans x0;have d:∀y∈blk A,W.heap.size<=y:=λy hy=>(ho.at_base hy).1;have G:g<W.heap.size:=by
  obtain⟨gd,gs,bo,bv,Fd,Fs,N,h⟩:=s.out.sp;exact(aG h.st.heap).1
 have m:bo<W.heap.size:=by
  obtain⟨V,T,L,Y,a0,U,N',h⟩:=s.out.sp;have e:w1.cell? ⟨g,2,none⟩=some (.map (some L)):=(hb.cell (p:=⟨g,2,none⟩) G).trans (by rw[cell_of_row W g 2 _ _ _ h.st.heap];rfl);rw[c2]at e;injection e with e;injection e with e;injection e with e
  rw[e];exact h.st.own.lt
 have j:ga<W.heap.size:=block_lt_of_cell? W _ x0;have cD:=delete_any 53 #[] #[.pointer (some ⟨ga,0,none⟩)] isFn_own1 (λx=>!decide (x∈X.O)) w1 A (λx w' hk =>
  own1 w' ga g bo X.O ((hk.cell (p:=⟨ga,0,none⟩) (by have:=hb.size;show ga<_;omega) (λhy=>by have:W.heap.size<=ga:=d _ hy;omega)).trans x1) ((hk.cell (p:=⟨g,2,none⟩) (by have:=hb.size;show g<_;omega) (λhy=>by have:W.heap.size<=g:=d _ hy;omega)).trans c2) (hs.st.own.kept hk (λhy=>oH (d _ hy))) x) W.heap.size X.D.length cap (idsX X.D) ho J
 have I:((idsX X.D).filter λx=>!(!decide (x∈X.O)))=Z:=by rw[<-HZ.out];congr 1;funext x;simp
 rw[I]at cD;have Hb:=dH hb;have f:=dH d;clear cI ho hb hs c2 x1 d G m j I x0;(go_wp2_with fail);refine cD.mono ?_;rintro e w3 ⟨rfl,t,E⟩;have H:=HB.out.trans ((Hb.out.mono HB.out.size).trans (E.below (B:=w.heap.size) (Nat.le_trans HB.out.size Hb.out.size) (λy hy=>Nat.le_trans HB.out.size (f.out y hy))));have HF:=dH (And.intro (t.mono (B':=w.heap.size) HB.out.size) H);clear cD t E H;(go_wp2_with fail);go_ret;exact⟨A,cap,rfl,HF.out.1,HF.out.2⟩
end Go.Proofs.YtplpiicfkbpkaaaGreatDoor
