/- Part 12 of the texts that lead to this claim: the walks of the functions and the plain law, in order. -/
import Derived.Test.YtgedpfebepdcmaaGreatDoorMb11
import Derived.Laws.BitsAllLaws
import Derived.WalkMore
import Derived.ChangeKeysEq
namespace Go.Proofs.YtgedpfebepdcmaaGreatDoor
open Go.RowKit
set_option maxRecDepth 100000
set_option maxHeartbeats 8000000
def nU (x:UInt32):Int:=((x.toNat:Nat):Int)
@[go_sem] theorem u_xor (x y:UInt32):bits .xor .u32 (nU x) (nU y)=nU (x ^^^ y):=by
  unfold nU;rw[u32_xor_nat _ _ x.toNat_lt y.toNat_lt,UInt32.toNat_xor]
@[go_sem] theorem u_and (x y:UInt32):bits .and .u32 (nU x) (nU y)=nU (x &&& y):=by
  unfold nU;rw[u32_and_nat _ _ x.toNat_lt y.toNat_lt,UInt32.toNat_and]
@[go_sem] theorem u_or (x y:UInt32):bits .or .u32 (nU x) (nU y)=nU (x ||| y):=by
  unfold nU;rw[u32_or_nat _ _ x.toNat_lt y.toNat_lt,UInt32.toNat_or]
@[go_sem] theorem u_add (x y:UInt32):IntKind.u32.wrap (nU x+nU y)=nU (x+y):=by
  rw[IntKind.wrap_u32',nU,nU,nU,UInt32.toNat_add];omega
@[go_sem] theorem u_not (x:UInt32):bits .xor .u32 4294967295 (nU x)=nU (~~~x):=by
  have h:=u_xor 4294967295 x;rw[show nU 4294967295=4294967295 from rfl]at h;rw[h,show(4294967295:UInt32) = -1 from rfl,UInt32.neg_one_xor]
theorem sX (x:UInt32) (n:Nat) (hn:n<32):nU x / 2 ^ n=nU (x >>> UInt32.ofNat n):=by
  rw[nU,nU,UInt32.toNat_shiftRight,UInt32.toNat_ofNat',Nat.mod_eq_of_lt (a:=n) (by omega),Nat.mod_eq_of_lt (a:=n) hn,Nat.shiftRight_eq_div_pow]
  push_cast;rfl
theorem X7 (x:UInt32) (n:Nat) (hn:n<32):IntKind.u32.wrap (nU x*2 ^ n)=nU (x <<< UInt32.ofNat n):=by
  rw[nU,nU,UInt32.toNat_shiftLeft,UInt32.toNat_ofNat',Nat.mod_eq_of_lt (a:=n) (by omega),Nat.mod_eq_of_lt (a:=n) hn,Nat.shiftLeft_eq,IntKind.wrap_u32',Int.natCast_emod,Int.natCast_mul,Int.natCast_pow];rfl
def dP (x:UInt32) (n:Nat):UInt32:=(x >>> UInt32.ofNat n) ||| (x <<< UInt32.ofNat (32-n))
def sg0 (x:UInt32):UInt32:=dP x 7 ^^^ dP x 18 ^^^ (x >>> 3)
def sg1 (x:UInt32):UInt32:=dP x 17 ^^^ dP x 19 ^^^ (x >>> 10)
def up0 (x:UInt32):UInt32:=dP x 2 ^^^ dP x 13 ^^^ dP x 22
def up1 (x:UInt32):UInt32:=dP x 6 ^^^ dP x 11 ^^^ dP x 25
def kU:List UInt32:=[0x428a2f98,0x71374491,0xb5c0fbcf,0xe9b5dba5,0x3956c25b,0x59f111f1,0x923f82a4,0xab1c5ed5,
  0xd807aa98,0x12835b01,0x243185be,0x550c7dc3,0x72be5d74,0x80deb1fe,0x9bdc06a7,0xc19bf174,
  0xe49b69c1,0xefbe4786,0x0fc19dc6,0x240ca1cc,0x2de92c6f,0x4a7484aa,0x5cb0a9dc,0x76f988da,
  0x983e5152,0xa831c66d,0xb00327c8,0xbf597fc7,0xc6e00bf3,0xd5a79147,0x06ca6351,0x14292967,
  0x27b70a85,0x2e1b2138,0x4d2c6dfc,0x53380d13,0x650a7354,0x766a0abb,0x81c2c92e,0x92722c85,
  0xa2bfe8a1,0xa81a664b,0xc24b8b70,0xc76c51a3,0xd192e819,0xd6990624,0xf40e3585,0x106aa070,
  0x19a4c116,0x1e376c08,0x2748774c,0x34b0bcb5,0x391c0cb3,0x4ed8aa4a,0x5b9cca4f,0x682e6ff3,
  0x748f82ee,0x78a5636f,0x84c87814,0x8cc70208,0x90befffa,0xa4506ceb,0xbef9a3f7,0xc67178f2]
def hU:List UInt32:=[0x6a09e667,0xbb67ae85,0x3c6ef372,0xa54ff53a,0x510e527f,0x9b05688c,0x1f83d9ab,0x5be0cd19]
def byU (b:List UInt8) (i:Nat):UInt32:=(b.getD i 0).toUInt32
def X5 (b:List UInt8) (i:Nat):UInt32:=((byU b i <<< 24 ||| byU b (i+1) <<< 16) ||| byU b (i+2) <<< 8) ||| byU b (i+3)
def f6 (b:List UInt8) (l:List UInt32) (i:Nat):UInt32 :=
  if i<16 then X5 b (4*i)else l.getD (i-16) 0+sg0 (l.getD (i-15) 0)+l.getD (i-7) 0+sg1 (l.getD (i-2) 0)
def xC (b:List UInt8):Nat->List UInt32
  | 0=>[]
  | i+1=>xC b i ++ [f6 b (xC b i) i]
structure StU where
  a:UInt32
  b:UInt32
  c:UInt32
  d:UInt32
  e:UInt32
  f:UInt32
  g:UInt32
  h:UInt32
deriving DecidableEq
def rndU (s:StU) (k w:UInt32):StU :=
  let t:=s.h+up1 s.e+((s.e &&& s.f) ^^^ (~~~s.e &&& s.g))+k+w
  let u:=up0 s.a+(((s.a &&& s.b) ^^^ (s.a &&& s.c)) ^^^ (s.b &&& s.c))
  ⟨t+u,s.a,s.b,s.c,s.d+t,s.e,s.f,s.g⟩
def wB (ws:List UInt32) (s:StU):Nat->StU
  | 0=>s
  | i+1=>rndU (wB ws s i) (kU.getD i 0) (ws.getD i 0)
def bX (s t:StU):StU:=⟨s.a+t.a,s.b+t.b,s.c+t.c,s.d+t.d,s.e+t.e,s.f+t.f,s.g+t.g,s.h+t.h⟩
def m8 (s:StU) (b:List UInt8):StU:=bX s (wB (xC b 64) s 64)
def vO:Nat->StU->List UInt8->StU
  | 0,s,_=>s
  | n+1,s,l=>vO n (m8 s (l.take 64)) (l.drop 64)
def qE:StU:=⟨0x6a09e667,0xbb67ae85,0x3c6ef372,0xa54ff53a,0x510e527f,0x9b05688c,0x1f83d9ab,0x5be0cd19⟩
def mZ (n:Nat):List UInt8:=(List.range 8).map fun i=>UInt8.ofNat (n*8 % 18446744073709551616 / 2 ^ (8*(7-i)))
def gO (n:Nat):List UInt8:=128 :: (List.replicate ((119-n % 64) % 64) 0++mZ n)
def b4U (x:UInt32):List UInt8:=[(x >>> 24).toUInt8,(x >>> 16).toUInt8,(x >>> 8).toUInt8,x.toUInt8]
def bS (s:StU):List UInt8:=b4U s.a++b4U s.b++b4U s.c++b4U s.d++b4U s.e++b4U s.f++b4U s.g++b4U s.h
def shaU (l:List UInt8):List UInt8:=bS (vO ((l++gO l.length).length / 64) qE (l++gO l.length))
theorem j3 (b:List UInt8):∀n,(xC b n).length=n
  | 0=>rfl
  | n+1=>by rw[xC,List.length_append,j3 b n];rfl
theorem ZH {α:Type} (d:α) (l m:List α) {j:Nat} (h:j<l.length):(l++m).getD j d=l.getD j d:=by rw[List.getD_eq_getElem?_getD,List.getD_eq_getElem?_getD,List.getElem?_append_left h]
def wsU (b:List UInt8) (n:Nat):List UInt32:=xC b n++List.replicate (64-n) 0
theorem fC (b:List UInt8) {n:Nat} (h:n<=64):(wsU b n).length=64:=by rw[wsU,List.length_append,j3,List.length_replicate];omega
theorem KP (b:List UInt8) {n j:Nat} (h:j<n):(wsU b n).getD j 0=(xC b n).getD j 0:=ZH _ _ _ (by rw[j3];omega)
theorem sO (b:List UInt8) {n:Nat} (h:n<64):(wsU b n).set n (f6 b (xC b n) n)=wsU b (n+1):=by
  unfold wsU;rw[List.set_append_right _ _ (by rw[j3];omega),j3,Nat.sub_self,show 64-n=(64-(n+1))+1 by omega,List.replicate_succ,List.set_cons_zero,xC,List.append_assoc];rfl
theorem KQ (b:List UInt8):wsU b 64=xC b 64:=by simp[wsU]
theorem iJ (m:Nat):∀(n:Nat) (s:StU) (l:List UInt8),vO (n+m) s l=vO m (vO n s l) (l.drop (64*n))
  | 0,s,l=>by simp[vO]
  | n+1,s,l=>by
    rw[show n+1+m=(n+m)+1 by omega,vO,vO,iJ m n,List.drop_drop,show 64+64*n=64*(n+1) by omega]
theorem J6 (p:List UInt8):∀(n:Nat) (s:StU) (l:List UInt8),64*n<=l.length->vO n s (l++p)=vO n s l
  | 0,_,_,_=>rfl
  | n+1,s,l,h=>by
    rw[vO,vO,List.take_append_of_le_length (by omega),List.drop_append_of_le_length (by omega),J6 p n _ _ (by rw[List.length_drop];omega)]
theorem rL (n:Nat) (s:StU) (l:List UInt8):vO (n+1) s l=m8 (vO n s l) ((l.drop (64*n)).take 64):=by
  rw[iJ 1 n];rfl
theorem dH (n:Nat):(mZ n).length=8:=by simp[mZ]
theorem tJ (n:Nat):(gO n).length=9+(119-n % 64) % 64:=by simp[gO,dH];omega
theorem eF (n:Nat):(n+(gO n).length) % 64=0:=by rw[tJ];omega
theorem JW (l:List UInt8) :
    shaU l=bS (vO (((l.drop (64*(l.length / 64)))++gO l.length).length / 64) (vO (l.length / 64) qE l) ((l.drop (64*(l.length / 64)))++gO l.length)):=by
  unfold shaU;have h1:=eF l.length;have h2:(l++gO l.length).length / 64=l.length / 64+((l.drop (64*(l.length / 64)))++gO l.length).length / 64:=by
    simp only[List.length_append,List.length_drop]at *;omega
  rw[h2,iJ,J6 _ _ _ _ (by omega),List.drop_append_of_le_length (by omega)]
theorem gV (x:UInt32):(b4U x).length=4:=rfl
theorem qD (s:StU):(bS s).length=32:=by simp[bS,gV]
def bM (l:List UInt8):zJ:=⟨shaU l,qD _⟩
structure Hd where
  ps:Value
  ht:Int
  tp:ByteArray
  au:Int
  sq:Int
  sz:Int
  cm:zJ
def hdC (x:Hd):Array Value:=#[x.ps] ++ #[.int .i64 x.ht] ++ #[.string x.tp] ++ #[.int .i64 x.au] ++ #[.int .i64 x.sq] ++ #[.int .i64 x.sz]++idC x.cm
@[simp] theorem p7 (x:Hd):(hdC x).size=38:=by simp[hdC]
@[go_sem] theorem wX (x:Hd):(hdC x)[0]? = some (x.ps):=by first | (simp[hdC,Array.getElem?_append];done) | (rw[show hdC x=((#[]:Array Value)) ++ #[x.ps]++(#[.int .i64 x.ht] ++ #[.string x.tp] ++ #[.int .i64 x.au] ++ #[.int .i64 x.sq] ++ #[.int .i64 x.sz]++idC x.cm)from by apply Array.ext';simp[hdC]];exact xS _ _ _ _ (by simp))
@[go_sem] theorem hdC_gg0 (x:Hd) (h:0<(hdC x).size):(hdC x)[0]'h=x.ps:=Option.some.inj ((Array.getElem?_eq_getElem h).symm.trans (wX x))
@[go_sem] theorem tR (x:Hd):(hdC x)[1]? = some (.int .i64 x.ht):=by first | (simp[hdC,Array.getElem?_append];done) | (rw[show hdC x=(#[x.ps]) ++ #[.int .i64 x.ht]++(#[.string x.tp] ++ #[.int .i64 x.au] ++ #[.int .i64 x.sq] ++ #[.int .i64 x.sz]++idC x.cm)from by apply Array.ext';simp[hdC]];exact xS _ _ _ _ (by simp))
@[go_sem] theorem hdC_gg1 (x:Hd) (h:1<(hdC x).size):(hdC x)[1]'h = .int .i64 x.ht:=Option.some.inj ((Array.getElem?_eq_getElem h).symm.trans (tR x))
@[go_sem] theorem rA (x:Hd):(hdC x)[2]? = some (.string x.tp):=by first | (simp[hdC,Array.getElem?_append];done) | (rw[show hdC x=(#[x.ps] ++ #[.int .i64 x.ht]) ++ #[.string x.tp]++(#[.int .i64 x.au] ++ #[.int .i64 x.sq] ++ #[.int .i64 x.sz]++idC x.cm)from by apply Array.ext';simp[hdC]];exact xS _ _ _ _ (by simp))
@[go_sem] theorem eX (x:Hd):(hdC x)[3]? = some (.int .i64 x.au):=by first | (simp[hdC,Array.getElem?_append];done) | (rw[show hdC x=(#[x.ps] ++ #[.int .i64 x.ht] ++ #[.string x.tp]) ++ #[.int .i64 x.au]++(#[.int .i64 x.sq] ++ #[.int .i64 x.sz]++idC x.cm)from by apply Array.ext';simp[hdC]];exact xS _ _ _ _ (by simp))
@[go_sem] theorem eW (x:Hd):(hdC x)[4]? = some (.int .i64 x.sq):=by first | (simp[hdC,Array.getElem?_append];done) | (rw[show hdC x=(#[x.ps] ++ #[.int .i64 x.ht] ++ #[.string x.tp] ++ #[.int .i64 x.au]) ++ #[.int .i64 x.sq]++(#[.int .i64 x.sz]++idC x.cm)from by apply Array.ext';simp[hdC]];exact xS _ _ _ _ (by simp))
@[go_sem] theorem eV (x:Hd):(hdC x)[5]? = some (.int .i64 x.sz):=by first | (simp[hdC,Array.getElem?_append];done) | (rw[show hdC x=(#[x.ps] ++ #[.int .i64 x.ht] ++ #[.string x.tp] ++ #[.int .i64 x.au] ++ #[.int .i64 x.sq]) ++ #[.int .i64 x.sz]++(idC x.cm)from by apply Array.ext';simp[hdC]];exact xS _ _ _ _ (by simp))
@[go_sem] theorem hdC_e6 (x:Hd):(hdC x).extract 6 38=idC x.cm:=by
  have h:hdC x=(#[x.ps] ++ #[.int .i64 x.ht] ++ #[.string x.tp] ++ #[.int .i64 x.au] ++ #[.int .i64 x.sq] ++ #[.int .i64 x.sz])++idC x.cm++((#[]:Array Value)):=by first | (simp[hdC,Array.append_assoc];done) | (apply Array.ext';simp[hdC];done)
  rw[h];exact fM _ _ _ _ _ (by simp) (by simp)
@[go_sem] theorem hdC_all (x:Hd):(hdC x).extract 0 38=hdC x:=by have:=Array.extract_size (xs:=hdC x);rwa [p7]at this
theorem hdC_one (x:Hd) (hps:x.ps.oneCell'=true):∀u∈(hdC x).toList,u.oneCell'=true:=by
  intro u hu;simp only[hdC,Array.toList_append,List.mem_append]at hu;rcases hu with(((((hu | hu) | hu) | hu) | hu) | hu) | hu
  · simp at hu;subst hu;exact hps
  · simp at hu;subst hu;rfl
  · simp at hu;subst hu;rfl
  · simp at hu;subst hu;rfl
  · simp at hu;subst hu;rfl
  · simp at hu;subst hu;rfl
  · exact qJ _ u hu
def hd0:Hd:=⟨(.slice none 0 0),0,⟨#[]⟩,0,0,0,id0⟩
theorem infoHd:(Tryz.prog.info? 30).map (·.size)=some 38:=by kernel_rfl
@[go_sem ↓] theorem JP (w:World):(zeroValue 30).run Tryz.prog w = .ok (.agg (hdC hd0)) w:=by
  have h:(Tryz.prog.info? 30).bind (·.zero)=some (.agg (hdC hd0)):=by kernel_rfl
  cases hi:Tryz.prog.info? 30 with
  | none=>rw[hi]at h;cases h
  | some i =>
    rw[hi]at h;have hz:i.zero=some (.agg (hdC hd0)):=h;simp[zeroValue,typeInfo,hi,hz]
@[go_sem ↓] theorem loadHd_rw (a:Addr):loadVar 30 a=ldS 30 a:=rfl
@[go_sem ↓] theorem storeHd_rw (a:Addr) (v:Value):storeVar 30 a v=stS 30 a v:=rfl
@[go_sem] theorem loadHd_run (w:World) (g o:Nat):(ldS 30 ⟨g,o,none⟩).run Tryz.prog w=match z9 w g o 38 with | some cs=>.ok (.agg cs) w | none=>(loadVar 30 ⟨g,o,none⟩).run Tryz.prog w :=
  vD Tryz.underlying30 rfl infoHd w g o
@[go_sem] theorem storeHd_run (w:World) (g:Nat) (hg:g=w.heap.size) (z:Array Value) (hz:z.size=38) (x:Hd) (hps:x.ps.oneCell'=true) (e:TypeId):(stS 30 ⟨g,0,none⟩ (.agg (hdC x))).run Tryz.prog (w.alloc (.cells z e)) = .ok () (w.alloc (.cells (hdC x) e)) :=
  hg ▸ qB infoHd w z (hdC x) hz (p7 x) (hdC_one x hps)
@[go_sem ↓] theorem buildHd_rw (parts:Array (Nat×Value)):Instr.build 30 parts=bdS 30 parts:=rfl
@[go_sem ↓] theorem fieldHd_1 (x:Hd) (w:World):(Instr.field 30 (.agg (hdC x)) 1).run Tryz.prog w = .ok (.int .i64 x.ht) w:=by
  unfold Instr.field;simp only[Sem.run_bind,run_underlying Tryz.underlying30,Result.andThen_ok,part,asAgg,isAgg];simp[go_sem]
structure HdV where
  ps:List zJ
  ht:Int
  tp:ByteArray
  au:Int
  sq:Int
  sz:Int
  cm:zJ
def hdO (h:HdV) (A:Option Addr) (c:Nat):Hd:=⟨.slice A h.ps.length c,h.ht,h.tp,h.au,h.sq,h.sz,h.cm⟩
def hdE (h:HdV):Int :=
  if 4<h.ps.length then 6 else if bN h.ps=false then 4 else if h.ht<1\/1073741824<h.ht then 12
  else if(h.ps.length==0) != (h.ht==1)then 12 else if xN h.tp≠0 then 9
  else if h.au<0\/255<h.au then 5 else if h.sq<1\/1073741824<h.sq then 5 else if h.sz<1\/512<h.sz then 5 else 0
structure HdOk (h:HdV):Prop where
  ps:h.ps.length<=4
  ris:bN h.ps=true
  ht:1<=h.ht/\h.ht<=1073741824
  one:(h.ps.length==0)=(h.ht==1)
  tp:xN h.tp=0
  au:0<=h.au/\h.au<=255
  sq:1<=h.sq/\h.sq<=1073741824
  sz:1<=h.sz/\h.sz<=512
theorem hdE_ok {h:HdV} (e:hdE h=0):HdOk h:=by
  unfold hdE at e;split at e;· omega
  split at e;· omega
  split at e;· omega
  split at e;· omega
  split at e;· omega
  split at e;· omega
  split at e;· omega
  split at e;· omega
  rename_i h1 h2 h3 h4 h5 h6 h7 h8
  exact⟨by omega,by simpa using h2,by omega,by simpa using h4,by omega,by omega,by omega,by omega⟩
def hdB (h:HdV):List UInt8 :=
  beL 1 h.ps.length++h.ps.flatMap (·.l)++beL 4 h.ht.toNat++beL 1 h.tp.size++h.tp.data.toList++beL 1 h.au.toNat++beL 4 h.sq.toNat++beL 2 h.sz.toNat++h.cm.l
def hdI (h:HdV):zJ:=if hdE h=0 then bM (hdB h)else id0
structure rO (w:World) (b g:Nat) (h:HdV) (A:Option Addr) (c:Nat):Prop where
  box:w.cell? ⟨b,0,none⟩=some (.pointer (some ⟨g,0,none⟩))
  row:z9 w g 0 38=some (hdC (hdO h A c))
  ids:y8 w A h.ps.length h.ps
  len:h.ps.length<=1000000
  tps:h.tp.size<=9223372036854775807
theorem rO.below {w w':World} {b g:Nat} {h:HdV} {A:Option Addr} {c:Nat} (x:rO w b g h A c) (hb:Below w.heap.size w w'):rO w' b g h A c :=
  ⟨(hb.cell (p:=⟨b,0,none⟩) (World.block_lt_of_cell? w _ x.box)).trans x.box,(zB (hb.block g (zI x.row)) _ _).trans x.row,SlR.below x.ids hb,x.len,x.tps⟩
theorem hr_3 (w:World) (b g:Nat) (h:HdV) (A:Option Addr) (c:Nat) (hd:rO w b g h A c) :
    Calls Tryz.prog 167 #[.pointer (some ⟨b,0,none⟩)] w fun e w'=>e = .returned (.bool (decide (h.ht<1\/1073741824<h.ht)))/\Below w.heap.size w w':=by
  have xb:=hd.box;have x1:=z8 hd.row (j:=1) (by omega);simp only[wX,tR,rA,eX,eW,eV,Nat.zero_add,hdO]at x1;clear hd;by_cases a1:h.ht<1
  · have hb:=Lib.hid (decide_eq_true (Or.inl a1:h.ht<1\/1073741824<h.ht));go_enter Tryz.func167,Tryz.ntmps167
    (go_wp2_with fail);go_ret;exact⟨zS (by first | rfl | (rw[hb.out]) | (simp;omega)),Below.refl _ _⟩
  · by_cases a2:1073741824<h.ht
    · have hb:=Lib.hid (decide_eq_true (Or.inr a2:h.ht<1\/1073741824<h.ht));go_enter Tryz.func167,Tryz.ntmps167
      (go_wp2_with fail);go_ret;exact⟨zS (by first | rfl | (rw[hb.out]) | (simp;omega)),Below.refl _ _⟩
    · have hb:=Lib.hid (decide_eq_false (fun h=>h.elim a1 a2:¬(h.ht<1\/1073741824<h.ht)));go_enter Tryz.func167,Tryz.ntmps167
      (go_wp2_with fail);go_ret;exact⟨zS (by first | rfl | (rw[hb.out]) | (simp;omega)),Below.refl _ _⟩
theorem hr_6 (w:World) (b g:Nat) (h:HdV) (A:Option Addr) (c:Nat) (hd:rO w b g h A c) :
    Calls Tryz.prog 170 #[.pointer (some ⟨b,0,none⟩)] w fun e w'=>e = .returned (.bool (decide (h.au<0\/255<h.au)))/\Below w.heap.size w w':=by
  have xb:=hd.box;have x1:=z8 hd.row (j:=3) (by omega);simp only[wX,tR,rA,eX,eW,eV,Nat.zero_add,hdO]at x1;clear hd;by_cases a1:h.au<0
  · have hb:=Lib.hid (decide_eq_true (Or.inl a1:h.au<0\/255<h.au));go_enter Tryz.func170,Tryz.ntmps170
    (go_wp2_with fail);go_ret;exact⟨zS (by first | rfl | (rw[hb.out]) | (simp;omega)),Below.refl _ _⟩
  · by_cases a2:255<h.au
    · have hb:=Lib.hid (decide_eq_true (Or.inr a2:h.au<0\/255<h.au));go_enter Tryz.func170,Tryz.ntmps170
      (go_wp2_with fail);go_ret;exact⟨zS (by first | rfl | (rw[hb.out]) | (simp;omega)),Below.refl _ _⟩
    · have hb:=Lib.hid (decide_eq_false (fun h=>h.elim a1 a2:¬(h.au<0\/255<h.au)));go_enter Tryz.func170,Tryz.ntmps170
      (go_wp2_with fail);go_ret;exact⟨zS (by first | rfl | (rw[hb.out]) | (simp;omega)),Below.refl _ _⟩
theorem hr_7 (w:World) (b g:Nat) (h:HdV) (A:Option Addr) (c:Nat) (hd:rO w b g h A c) :
    Calls Tryz.prog 171 #[.pointer (some ⟨b,0,none⟩)] w fun e w'=>e = .returned (.bool (decide (h.sq<1\/1073741824<h.sq)))/\Below w.heap.size w w':=by
  have xb:=hd.box;have x1:=z8 hd.row (j:=4) (by omega);simp only[wX,tR,rA,eX,eW,eV,Nat.zero_add,hdO]at x1;clear hd;by_cases a1:h.sq<1
  · have hb:=Lib.hid (decide_eq_true (Or.inl a1:h.sq<1\/1073741824<h.sq));go_enter Tryz.func171,Tryz.ntmps171
    (go_wp2_with fail);go_ret;exact⟨zS (by first | rfl | (rw[hb.out]) | (simp;omega)),Below.refl _ _⟩
  · by_cases a2:1073741824<h.sq
    · have hb:=Lib.hid (decide_eq_true (Or.inr a2:h.sq<1\/1073741824<h.sq));go_enter Tryz.func171,Tryz.ntmps171
      (go_wp2_with fail);go_ret;exact⟨zS (by first | rfl | (rw[hb.out]) | (simp;omega)),Below.refl _ _⟩
    · have hb:=Lib.hid (decide_eq_false (fun h=>h.elim a1 a2:¬(h.sq<1\/1073741824<h.sq)));go_enter Tryz.func171,Tryz.ntmps171
      (go_wp2_with fail);go_ret;exact⟨zS (by first | rfl | (rw[hb.out]) | (simp;omega)),Below.refl _ _⟩
theorem hr_8 (w:World) (b g:Nat) (h:HdV) (A:Option Addr) (c:Nat) (hd:rO w b g h A c) :
    Calls Tryz.prog 172 #[.pointer (some ⟨b,0,none⟩)] w fun e w'=>e = .returned (.bool (decide (h.sz<1\/512<h.sz)))/\Below w.heap.size w w':=by
  have xb:=hd.box;have x1:=z8 hd.row (j:=5) (by omega);simp only[wX,tR,rA,eX,eW,eV,Nat.zero_add,hdO]at x1;clear hd;by_cases a1:h.sz<1
  · have hb:=Lib.hid (decide_eq_true (Or.inl a1:h.sz<1\/512<h.sz));go_enter Tryz.func172,Tryz.ntmps172
    (go_wp2_with fail);go_ret;exact⟨zS (by first | rfl | (rw[hb.out]) | (simp;omega)),Below.refl _ _⟩
  · by_cases a2:512<h.sz
    · have hb:=Lib.hid (decide_eq_true (Or.inr a2:h.sz<1\/512<h.sz));go_enter Tryz.func172,Tryz.ntmps172
      (go_wp2_with fail);go_ret;exact⟨zS (by first | rfl | (rw[hb.out]) | (simp;omega)),Below.refl _ _⟩
    · have hb:=Lib.hid (decide_eq_false (fun h=>h.elim a1 a2:¬(h.sz<1\/512<h.sz)));go_enter Tryz.func172,Tryz.ntmps172
      (go_wp2_with fail);go_ret;exact⟨zS (by first | rfl | (rw[hb.out]) | (simp;omega)),Below.refl _ _⟩
theorem hr_1 (w:World) (b g:Nat) (h:HdV) (A:Option Addr) (c:Nat) (hd:rO w b g h A c) :
    Calls Tryz.prog 165 #[.pointer (some ⟨b,0,none⟩)] w fun e w'=>e = .returned (.bool (decide (4<h.ps.length)))/\Below w.heap.size w w':=by
  have xb:=hd.box;have x0:=z8 hd.row (j:=0) (by omega);simp only[wX,Nat.zero_add,hdO]at x0;have e:decide ((4:Int)<(h.ps.length:Int))=decide (4<h.ps.length):=by rw[decide_eq_decide];omega
  have E:=Lib.hid e;clear hd e;go_enter Tryz.func165,Tryz.ntmps165
  (go_wp2_with fail);go_ret;exact⟨zS (by first | exact E.out | (rw[<-E.out];rfl)),Below.refl _ _⟩
theorem hr_2 (w:World) (b g:Nat) (h:HdV) (A:Option Addr) (c:Nat) (hd:rO w b g h A c) :
    Calls Tryz.prog 166 #[.pointer (some ⟨b,0,none⟩)] w fun e w'=>e = .returned (.bool (!bN h.ps))/\Below w.heap.size w w':=by
  have xb:=hd.box;have x0:=z8 hd.row (j:=0) (by omega);simp only[wX,Nat.zero_add,hdO]at x0;have ci:=is_ids w A h.ps.length c h.ps hd.ids (by have:=hd.len;omega);obtain⟨r,hr⟩:∃r,bN h.ps=r:=⟨_,rfl⟩
  rw[hr]at ci |-;clear hd hr;go_enter Tryz.func166,Tryz.ntmps166
  (go_wp2_with fail);refine ci.mono ?_;rintro e w2 ⟨rfl,hb⟩;(go_wp2_with fail);go_ret;exact⟨rfl,hb⟩
theorem hr_4 (w:World) (b g:Nat) (h:HdV) (A:Option Addr) (c:Nat) (hd:rO w b g h A c) :
    Calls Tryz.prog 168 #[.pointer (some ⟨b,0,none⟩)] w fun e w'=>e = .returned (.bool ((h.ps.length==0) != (h.ht==1)))/\Below w.heap.size w w':=by
  have xb:=hd.box;have x0:=z8 hd.row (j:=0) (by omega);have x1:=z8 hd.row (j:=1) (by omega);simp only[wX,tR,Nat.zero_add,hdO]at x0 x1;have e:((h.ps.length:Int)==0)=(h.ps.length==0):=by rw[Bool.eq_iff_iff];simp
  obtain⟨p,hp⟩:∃p:Bool,(h.ps.length==0)=p:=⟨_,rfl⟩
  obtain⟨q,hq⟩:∃q:Bool,(h.ht==1)=q:=⟨_,rfl⟩
  rw[hp]at e |-;rw[hq];clear hd hp;go_enter Tryz.func168,Tryz.ntmps168
  go_upto_region 1 with fail
  refine zA (Bel w) false (by kernel_rfl) (by kernel_rfl) (by kernel_rfl) (zC w) ?_;have hne:=zQ w;have hS:=zC w;have c0:=zP xb;have c1:=zP x0;have c2:=zP x1;repeat(refine z6 ?_ ?_;(focus(simp only[z3];done));intro K hK;go_simp;refine hK _ ?_;clear hK K)
  refine zK ?_;intro hS;have hS':Below w.heap.size w w.drew:=hS;clear hS hne c0 c1 c2;(go_wp2_with fail);go_ret;exact⟨zS (by cases p <;> cases q <;> rfl),hS'⟩
theorem hr_5 (w:World) (b g:Nat) (h:HdV) (A:Option Addr) (c:Nat) (hd:rO w b g h A c) :
    Calls Tryz.prog 169 #[.pointer (some ⟨b,0,none⟩)] w fun e w'=>e = .returned (.bool (decide (xN h.tp≠0)))/\Below w.heap.size w w':=by
  have xb:=hd.box;have x2:=z8 hd.row (j:=2) (by omega);simp only[rA,Nat.zero_add,hdO]at x2;have ci:=bK h.tp w hd.tps;obtain⟨r,hr⟩:∃r,xN h.tp=r:=⟨_,rfl⟩
  rw[hr]at ci |-;have e:(r != 0)=decide (r≠0):=by rw[Bool.eq_iff_iff];simp
  have E:=Lib.hid e;clear hd hr e;go_enter Tryz.func169,Tryz.ntmps169
  (go_wp2_with fail);refine ci.mono ?_;rintro e w2 ⟨rfl,hb⟩;(go_wp2_with fail);go_ret;exact⟨zS (by first | exact E.out | (rw[<-E.out];rfl)),hb⟩
def rW (k:Nat):FuncId:=[165,166,167,168,169,170,171,172].getD k 0
def XN (k:Nat):Int:=[6,4,12,12,9,5,5,5].getD k 0
def KV (h:HdV) (k:Nat):Bool:=[decide (4<h.ps.length),!bN h.ps,decide (h.ht<1\/1073741824<h.ht),(h.ps.length==0) != (h.ht==1),decide (xN h.tp≠0),decide (h.au<0\/255<h.au),decide (h.sq<1\/1073741824<h.sq),decide (h.sz<1\/512<h.sz)].getD k false
theorem vm (w:World) (b g:Nat) (h:HdV) (A:Option Addr) (c:Nat) (hd:rO w b g h A c) (k:Nat) (hk:k<8) :
    Calls Tryz.prog (rW k) #[.pointer (some ⟨b,0,none⟩)] w fun e w'=>e = .returned (.bool (KV h k))/\Below w.heap.size w w':=by
  have h8:k=0\/k=1\/k=2\/k=3\/k=4\/k=5\/k=6\/k=7:=by omega
  rcases h8 with rfl | rfl | rfl | rfl | rfl | rfl | rfl | rfl
  · exact hr_1 w b g h A c hd
  · exact hr_2 w b g h A c hd
  · exact hr_3 w b g h A c hd
  · exact hr_4 w b g h A c hd
  · exact hr_5 w b g h A c hd
  · exact hr_6 w b g h A c hd
  · exact hr_7 w b g h A c hd
  · exact hr_8 w b g h A c hd
def tW (h:HdV):Nat->Int
  | 0=>0
  | n+1=>if KV h (7-n)=true then XN (7-n)else tW h n
theorem K2 (h:HdV):tW h 8=hdE h:=by
  have e:tW h 8=if decide (4<h.ps.length)=true then(6:Int)else if(!bN h.ps)=true then 4 else if decide (h.ht<1\/1073741824<h.ht)=true then 12
    else if((h.ps.length==0) != (h.ht==1))=true then 12 else if decide (xN h.tp≠0)=true then 9 else if decide (h.au<0\/255<h.au)=true then 5
    else if decide (h.sq<1\/1073741824<h.sq)=true then 5 else if decide (h.sz<1\/512<h.sz)=true then 5 else 0:=rfl
  rw[e];unfold hdE;simp only[decide_eq_true_eq,Bool.not_eq_true']
theorem QU (h:HdV) {k:Nat} (hk:k<8):tW h (8-k)=if KV h k=true then XN k else tW h (8-(k+1)):=by
  obtain⟨n,hn⟩:∃n,8-k=n+1:=⟨7-k,by omega⟩
  rw[hn,tW,show 7-n=k by omega,show 8-(k+1)=n by omega]
def wA (b k:Nat):Array Value:=#[.func (.func (rW k)) #[] #[.pointer (some ⟨b,0,none⟩)],.int .i64 (XN k)]
def mJ (b:Nat):Array Value:=#[.func (.func 165) #[] #[.pointer (some ⟨b,0,none⟩)],.int .i64 6,.func (.func 166) #[] #[.pointer (some ⟨b,0,none⟩)],.int .i64 4,.func (.func 167) #[] #[.pointer (some ⟨b,0,none⟩)],.int .i64 12,.func (.func 168) #[] #[.pointer (some ⟨b,0,none⟩)],.int .i64 12,.func (.func 169) #[] #[.pointer (some ⟨b,0,none⟩)],.int .i64 9,.func (.func 170) #[] #[.pointer (some ⟨b,0,none⟩)],.int .i64 5,.func (.func 171) #[] #[.pointer (some ⟨b,0,none⟩)],.int .i64 5,.func (.func 172) #[] #[.pointer (some ⟨b,0,none⟩)],.int .i64 5]
theorem V0 (b k:Nat) (hk:k<8):(mJ b).extract (k*2) (k*2+2)=wA b k:=by
  have h8:k=0\/k=1\/k=2\/k=3\/k=4\/k=5\/k=6\/k=7:=by omega
  rcases h8 with rfl | rfl | rfl | rfl | rfl | rfl | rfl | rfl <;> (simp[mJ,wA,rW,XN])
theorem zv (w:World) (q:Addr) :
    Calls Tryz.prog 140 #[.pointer (some q)] w fun e w'=>e = .returned (.slice (some ⟨w.heap.size+1,0,none⟩) 8 8)/\w'=(w.alloc (.cells #[.pointer (some q)] 221)).alloc (.cells (mJ w.heap.size) 223):=by
  go_enter Tryz.func140,Tryz.ntmps140
  (go_wp2_with fail);go_ret;exact⟨rfl,by unfold mJ;rfl⟩
theorem KD (args:Array Value) (w:World):∀k,k<8->(callFunc (rW k) args).run Tryz.prog w = .ok (.enter (rW k) args) w
  | 0,_=>by kernel_rfl
  | 1,_=>by kernel_rfl
  | 2,_=>by kernel_rfl
  | 3,_=>by kernel_rfl
  | 4,_=>by kernel_rfl
  | 5,_=>by kernel_rfl
  | 6,_=>by kernel_rfl
  | 7,_=>by kernel_rfl
  | k+8,h=>absurd h (by omega)
theorem qt (k:Nat) (hk:k<8) (args:Array Value) (w:World):(callFunc (rW k) args).run Tryz.prog w = .ok (.enter (rW k) args) w:=KD args w k hk
theorem infoRu:(Tryz.prog.info? 223).map (·.size)=some 2:=by kernel_rfl
@[go_sem ↓] theorem loadRu_rw (a:Addr):loadVar 223 a=ldS 223 a:=rfl
@[go_sem ↓] theorem storeRu_rw (a:Addr) (v:Value):storeVar 223 a v=stS 223 a v:=rfl
@[go_sem] theorem loadRu_run (w:World) (g o:Nat):(ldS 223 ⟨g,o,none⟩).run Tryz.prog w=match z9 w g o 2 with | some cs=>.ok (.agg cs) w | none=>(loadVar 223 ⟨g,o,none⟩).run Tryz.prog w :=
  vD Tryz.underlying223 rfl infoRu w g o
@[go_sem] theorem storeRu_run (w:World) (g:Nat) (hg:g=w.heap.size) (z:Array Value) (hz:z.size=2) (b k:Nat) (e:TypeId):(stS 223 ⟨g,0,none⟩ (.agg (wA b k))).run Tryz.prog (w.alloc (.cells z e)) = .ok () (w.alloc (.cells (wA b k) e)) :=
  hg ▸ qB infoRu w z (wA b k) hz rfl (by intro u hu;simp[wA]at hu;rcases hu with rfl | rfl <;> rfl)
theorem hd_check (w:World) (h:HdV) (A:Option Addr) (c:Nat) (hT:y8 w A h.ps.length h.ps) (hn:h.ps.length<=1000000) (ht:h.tp.size<=9223372036854775807) :
    Calls Tryz.prog 102 #[.agg (hdC (hdO h A c))] w fun e w'=>e = .returned (.int .i64 (hdE h))/\Below w.heap.size w w':=by
  have hB:Below w.heap.size w (w.alloc (.cells (hdC (hdO h A c)) 30)):=(Below.refl _ _).alloc (Nat.le_refl _) _;have hr:z9 (w.alloc (.cells (hdC (hdO h A c)) 30)) w.heap.size 0 38=some (hdC (hdO h A c)):=by simp[go_sem]
  have hT0:=SlR.below hT hB;have cr:=zv (w.alloc (.cells (hdC (hdO h A c)) 30)) ⟨w.heap.size,0,none⟩;rw[show(w.alloc (.cells (hdC (hdO h A c)) 30)).heap.size=w.heap.size+1 by simp]at cr;go_enter Tryz.func102,Tryz.ntmps102
  go_wp2_with fail
  go_step3
  go_wp2_with fail
  go_step3
  (go_wp2_with fail);refine cr.mono ?_;rintro e w1 ⟨rfl,rfl⟩;clear cr;go_upto_region 3 with fail
  obtain⟨g,hg⟩:∃g,w.heap.size=g:=⟨_,rfl⟩
  have Hg:=Lib.hid hg;obtain⟨W,hW⟩:∃W,W=((w.alloc (.cells (hdC (hdO h A c)) 30)).alloc (.cells #[.pointer (some ⟨w.heap.size,0,none⟩)] 221)).alloc (.cells (mJ (w.heap.size+1)) 223):=⟨_,rfl⟩
  have hbW:Below (w.alloc (.cells (hdC (hdO h A c)) 30)).heap.size (w.alloc (.cells (hdC (hdO h A c)) 30)) W:=by rw[hW];exact((Below.refl _ _).alloc (Nat.le_refl _) _).alloc (by simp) _
  have hrow:∀k,k<8->z9 W (g+1+1) (k*2) 2=some (wA (g+1) k):=fun k hk=>by
    have hn:=heap_alloc_new ((w.alloc (.cells (hdC (hdO h A c)) 30)).alloc (.cells #[.pointer (some ⟨w.heap.size,0,none⟩)] 221)) (.cells (mJ (w.heap.size+1)) 223);rw[show((w.alloc (.cells (hdC (hdO h A c)) 30)).alloc (.cells #[.pointer (some ⟨w.heap.size,0,none⟩)] 221)).heap.size=w.heap.size+1+1 by simp,<-hW,hg]at hn;unfold z9;rw[hn];simp only;rw[if_pos (by show k*2+2<=16;omega),V0 _ _ hk]
  have hbox:W.cell? ⟨g+1,0,none⟩=some (.pointer (some ⟨g,0,none⟩)):=by
    have hn:=heap_alloc_new (w.alloc (.cells (hdC (hdO h A c)) 30)) (.cells #[.pointer (some ⟨w.heap.size,0,none⟩)] 221);rw[show(w.alloc (.cells (hdC (hdO h A c)) 30)).heap.size=w.heap.size+1 by simp]at hn;have hn2:=(Below.heap_alloc ((w.alloc (.cells (hdC (hdO h A c)) 30)).alloc (.cells #[.pointer (some ⟨w.heap.size,0,none⟩)] 221)) (.cells (mJ (w.heap.size+1)) 223) (w.heap.size+1) (by simp)).trans hn;rw[<-hW]at hn2;rw[hg]at hn2;rw[cell_of_row W (g+1) 0 _ _ _ hn2];rfl
  have hd:rO W (g+1) g h A c:=⟨hbox,by rw[hg]at hr;exact(zB (hbW.block g (by simp;omega)) _ _).trans hr,SlR.below hT0 hbW,hn,ht⟩
  have hBW:Below g w W:=by rw[<-hg];exact hB.trans (hbW.mono (by simp))
  have hgW:g+1+1<W.heap.size:=zI (hrow 0 (by omega));rw[<-hW];simp only[hg];clear hW hr hT0 hB hbW hbox hT hg;obtain⟨b,hb⟩:∃b,g+1=b:=⟨_,rfl⟩
  obtain⟨gr,hgr⟩:∃gr,b+1=gr:=⟨_,rfl⟩
  simp only[hb,hgr]at hrow hd hgW |-;have hgb:g<b:=by omega
  have hbg:b<gr:=by omega
  have HE:=Lib.hid (K2 h);clear hb hgr;go_loopw [3,5,8] (fun ev _ n wr=>∃k:Nat,k<=8/\n = .int .i64 k/\ev = .int .i64 0/\Hid (hdE h=tW h (8-k))/\Below W.heap.size W wr) (fun _ _ n _=>8-(intOf n).toNat)
  case atStart=>exact⟨0,by omega,rfl,rfl,(show _=_ from HE.out.symm),Below.refl _ _⟩
  case round =>
    obtain⟨k,hk,rfl,rfl,hE,hbr⟩:=hrel;by_cases hlt:k<8
    · have hE2:=hE.out;rw[QU h hlt]at hE2;have hrk:=(zB (hbr.block gr hgW) (k*2) 2).trans (hrow k hlt);have hba:Below wr.heap.size wr (wr.alloc (.cells (wA b k) 223)):=(Below.refl _ _).alloc (Nat.le_refl _) _;have hda:=(hd.below hbr).below hba;have cr:=vm _ b g h A c hda k hlt;obtain⟨B,hB⟩:∃B,KV h k=B:=⟨_,rfl⟩
      obtain⟨E,hEE⟩:∃E,XN k=E:=⟨_,rfl⟩
      have hn0:(wr.alloc (.cells (wA b k) 223)).cell? ⟨wr.heap.size,0,none⟩=some (.func (.func (rW k)) #[] #[.pointer (some ⟨b,0,none⟩)]):=by simp[go_sem,wA]
      have hn1:(wr.alloc (.cells (wA b k) 223)).cell? ⟨wr.heap.size,1,none⟩=some (.int .i64 E):=by simp[go_sem,wA,hEE]
      rw[hB]at cr hE2;rw[hEE]at hE2;have HE2:=Lib.hid hE2;have hcf:=qt k hlt #[.pointer (some ⟨b,0,none⟩)] (wr.alloc (.cells (wA b k) 223));clear hE2 hB hEE hE;(go_wp2_with fail);refine cr.mono ?_;rintro e w5 ⟨rfl,hb5⟩;have hn1':=(hb5.cell (p:=⟨wr.heap.size,1,none⟩) (by simp)).trans hn1;have hbF:Below W.heap.size W w5:=xM (xM hbr hba) hb5;clear cr hcf hn0 hn1 hrk hda hba hb5 hbr;cases B with
      | true =>
        have hE3:hdE h=E:=by rw[HE2.out,if_pos rfl]
        have HE3:=Lib.hid hE3;have hbZ:Below g w w5:=hBW.trans (hbF.mono (by omega));have HbZ:=Lib.hid hbZ;clear hE3 hbZ hbF;(go_wp2_with fail);rw[Exit.noGoto_ret];go_ret;exact⟨yB HE3.out.symm,by rw[Hg.out];exact HbZ.out⟩
      | false =>
        have hE3:Hid (hdE h=tW h (8-(k+1))):=(show _=_ by rw[HE2.out,if_neg (by simp)])
        (go_wp2_with fail);go_roundw
        case rel=>exact⟨k+1,by omega,by go_num,rfl,hE3,hbF⟩
        case measure=>simp[intOf];omega
    · have hE3:hdE h=0:=by rw[hE.out,show 8-k=0 by omega];rfl
      have HE3:=Lib.hid hE3;have hbZ:Below g w wr:=hBW.trans (hbr.mono (by omega));clear hE3;(go_wp2_with fail);rw[Exit.noGoto_ret];go_ret;exact⟨yB HE3.out.symm,by rw[Hg.out];exact hbZ⟩
section
open Go.RowKit
end
def zU (n:Nat):List UInt32:=List.replicate n 0
theorem fB (n:Nat):(zU n).length=n:=List.length_replicate
def wC (x:UInt32):Value:=.int .u32 (nU x)
def wsC (L:List UInt32):Array Value:=(L.map wC).toArray
@[simp] theorem kV (L:List UInt32):(wsC L).size=L.length:=by simp[wsC]
theorem lG (L:List UInt32):∀u∈(wsC L).toList,u.oneCell'=true:=by
  intro u hu;simp[wsC]at hu;obtain⟨c,_,rfl⟩:=hu;rfl
theorem g9 (L:List UInt32) {i:Nat} (h:i<L.length):(wsC L)[i]? = some (.int .u32 (nU (L.getD i 0))):=by
  simp[wsC,wC,List.getD,h]
theorem g8 (L:List UInt32) (i:Nat) (x:UInt32):(wsC L).setIfInBounds i (.int .u32 (nU x))=wsC (L.set i x):=by
  apply Array.ext';rw[Array.toList_setIfInBounds];show(L.map wC).set i (wC x)=(L.set i x).map wC;rw[List.map_set]
section
theorem sQ:(Tryz.prog.info? 125).map (·.size)=some 64:=by kernel_rfl
@[go_sem ↓] theorem zeroW64_run (w:World):(zeroValue 125).run Tryz.prog w = .ok (.agg (wsC (zU 64))) w:=by
  have h:(Tryz.prog.info? 125).bind (·.zero)=some (.agg (wsC (zU 64))):=by kernel_rfl
  cases hi:Tryz.prog.info? 125 with
  | none=>rw[hi]at h;cases h
  | some i =>
    rw[hi]at h;have hz:i.zero=some (.agg (wsC (zU 64))):=h;simp[zeroValue,typeInfo,hi,hz]
@[go_sem ↓] theorem loadW64_rw (a:Addr):loadVar 125 a=ldS 125 a:=rfl
@[go_sem ↓] theorem storeW64_rw (a:Addr) (v:Value):storeVar 125 a v=stS 125 a v:=rfl
@[go_sem] theorem loadW64_run (w:World) (g o:Nat):(ldS 125 ⟨g,o,none⟩).run Tryz.prog w=match z9 w g o 64 with | some cs=>.ok (.agg cs) w | none=>(loadVar 125 ⟨g,o,none⟩).run Tryz.prog w :=
  vD Tryz.underlying125 rfl sQ w g o
@[go_sem] theorem Y0 (w:World) (g:Nat) (hg:g=w.heap.size) (z:Array Value) (hz:z.size=64) (L:List UInt32) (hL:L.length=64) (e:TypeId):(stS 125 ⟨g,0,none⟩ (.agg (wsC L))).run Tryz.prog (w.alloc (.cells z e)) = .ok () (w.alloc (.cells (wsC L) e)) :=
  hg ▸ qB sQ w z (wsC L) hz ((kV L).trans hL) (lG L)
theorem BE:(Tryz.prog.info? 157).map (·.size)=some 8:=by kernel_rfl
@[go_sem ↓] theorem zeroSt8_run (w:World):(zeroValue 157).run Tryz.prog w = .ok (.agg (wsC (zU 8))) w:=by
  have h:(Tryz.prog.info? 157).bind (·.zero)=some (.agg (wsC (zU 8))):=by kernel_rfl
  cases hi:Tryz.prog.info? 157 with
  | none=>rw[hi]at h;cases h
  | some i =>
    rw[hi]at h;have hz:i.zero=some (.agg (wsC (zU 8))):=h;simp[zeroValue,typeInfo,hi,hz]
@[go_sem ↓] theorem loadSt8_rw (a:Addr):loadVar 157 a=ldS 157 a:=rfl
@[go_sem ↓] theorem storeSt8_rw (a:Addr) (v:Value):storeVar 157 a v=stS 157 a v:=rfl
@[go_sem] theorem loadSt8_run (w:World) (g o:Nat):(ldS 157 ⟨g,o,none⟩).run Tryz.prog w=match z9 w g o 8 with | some cs=>.ok (.agg cs) w | none=>(loadVar 157 ⟨g,o,none⟩).run Tryz.prog w :=
  vD Tryz.underlying157 rfl BE w g o
@[go_sem] theorem Y1 (w:World) (g:Nat) (hg:g=w.heap.size) (z:Array Value) (hz:z.size=8) (L:List UInt32) (hL:L.length=8) (e:TypeId):(stS 157 ⟨g,0,none⟩ (.agg (wsC L))).run Tryz.prog (w.alloc (.cells z e)) = .ok () (w.alloc (.cells (wsC L) e)) :=
  hg ▸ qB BE w z (wsC L) hz ((kV L).trans hL) (lG L)
end
theorem nL (x:UInt32) (n:Nat) (h0:0<n) (h1:n<32) (w:World) :
    Calls Tryz.prog 146 #[.int .u32 (nU x),.int .i64 (-(n:Int))] w fun e w'=>e = .returned (.int .u32 (nU (dP x n)))/\w=w':=by
  have hw:IntKind.u64.wrap (-(n:Int))=18446744073709551616-(n:Int):=by simp[IntKind.wrap,IntKind.bits,IntKind.signed];omega
  have hs:bits .and .u64 (18446744073709551616-(n:Int)) 31=((32-n:Nat):Int):=by
    rw[u64_and _ _ (by omega) (by omega) (by omega) (by omega),show(31:Int).toNat=31 from rfl,nat_mask5];omega
  have hw2:IntKind.u64.wrap (32-((32-n:Nat):Int))=(n:Int):=by simp[IntKind.wrap,IntKind.bits,IntKind.signed];omega
  have hl:nU x*2 ^ (32-n) % 4294967296=nU (x <<< UInt32.ofNat (32-n)):=by
    rw[<-X7 _ _ (by omega),IntKind.wrap_u32']
  have hr:Op.shift .shr .u32 (nU x) .u64 (n:Int)=pure (.int .u32 (nU (x >>> UInt32.ofNat n))):=by
    rw[shift_shr _ _ _ _ (by omega) (by show _<=((32:Nat):Int);omega),Int.toNat_natCast,sX _ _ h1]
  have hor:x <<< UInt32.ofNat (32-n) ||| x >>> UInt32.ofNat n=dP x n:=UInt32.or_comm _ _
  have Hor:=Lib.hid hor;clear hor h0 h1;go_enter Tryz.func146,Tryz.ntmps146
  (go_wp2_with fail);go_ret;exact⟨by rw[Hor.out];rfl,rfl⟩
theorem b8 (x:UInt32) (n:Nat) (h0:0<n) (h1:n<32) (w:World) :
    Calls Tryz.prog 116 #[.int .u32 (nU x),.int .i64 n] w fun e w'=>e = .returned (.int .u32 (nU (dP x n)))/\w=w':=by
  have c:=nL x n h0 h1 w;have hw:IntKind.i64.wrap (-(n:Int)) = -(n:Int):=by simp[IntKind.wrap,IntKind.bits,IntKind.signed];omega
  clear h0 h1;go_enter Tryz.func116,Tryz.ntmps116
  (go_wp2_with fail);refine c.mono ?_;rintro e w1 ⟨rfl,rfl⟩;(go_wp2_with fail);go_ret;exact⟨rfl,rfl⟩
@[go_sem] theorem u8_word (b:UInt8):IntKind.u32.wrap ((b.toNat:Nat):Int)=nU b.toUInt32:=by
  have:=b.toNat_lt;rw[IntKind.wrap_u32'];unfold nU;rw[UInt8.toNat_toUInt32];omega
theorem sh24 (x:UInt32):IntKind.u32.wrap (nU x*(16777216:Int))=nU (x <<< 24):=X7 x 24 (by omega)
theorem sh16 (x:UInt32):IntKind.u32.wrap (nU x*(65536:Int))=nU (x <<< 16):=X7 x 16 (by omega)
theorem sh8 (x:UInt32):IntKind.u32.wrap (nU x*(256:Int))=nU (x <<< 8):=X7 x 8 (by omega)
theorem sh24m (x:UInt32):nU x*(16777216:Int) % (4294967296:Int)=nU (x <<< 24):=by have h:=sh24 x;rwa [IntKind.wrap_u32']at h
theorem sh16m (x:UInt32):nU x*(65536:Int) % (4294967296:Int)=nU (x <<< 16):=by have h:=sh16 x;rwa [IntKind.wrap_u32']at h
theorem sh8m (x:UInt32):nU x*(256:Int) % (4294967296:Int)=nU (x <<< 8):=by have h:=sh8 x;rwa [IntKind.wrap_u32']at h
attribute [go_sem] sh24 sh16 sh8 sh24m sh16m sh8m
@[go_sem] theorem dn3 (x:UInt32):nU x / (8:Int)=nU (x >>> 3):=sX x 3 (by omega)
@[go_sem] theorem dn10 (x:UInt32):nU x / (1024:Int)=nU (x >>> 10):=sX x 10 (by omega)
abbrev kQ (w:World) (A:Option Addr) (n:Nat) (bs:List UInt8):Prop:=SlR w A n 1 (yU bs)
theorem kQ.get {w:World} {A:Option Addr} {n:Nat} {bs:List UInt8} (h:kQ w A n bs) {i:Nat} (hi:i<n):∃g o,A=some ⟨g,o,none⟩/\∀j,j<n->w.cell? ⟨g,o+j,none⟩=some (.int .u8 ((bs.getD j 0).toNat:Int)):=by
  obtain⟨g,o,e,hr⟩:=h.at_ hi;have hlen:bs.length=n:=by simpa[yU]using h.1
  refine⟨g,o,e,fun j hj=>?_⟩;obtain⟨g',o',e',hr'⟩:=h.at_ hj;rw[e]at e';injection e' with e';injection e' with e1 e2;subst e1 e2
  have hr2:z9 w g (o+j*1) 1=some #[yW (bs[j]'(by omega))]:=by rw[hr'];simp[yU,b9]
  have hc:=z8 hr2 (j:=0) (by omega);rw[show o+j*1+0=o+j by omega]at hc;rw[hc];have hj2:j<bs.length:=by omega
  simp[yW,List.getD,hj2]
theorem zo (w:World) (A:Option Addr) (cap:Nat) (bs:List UInt8) (h:kQ w A 64 bs) :
    Calls Tryz.prog 115 #[.slice A 64 cap] w fun e w'=>e = .returned (.agg (wsC (xC bs 64)))/\Below w.heap.size w w':=by
  have hb0:Below w.heap.size w ((w.alloc (.cells (wsC (zU 64)) 125)).alloc (.cells (wsC (zU 64)) 125)):=((Below.refl _ _).alloc (Nat.le_refl _) _).alloc (by simp) _;have hg2:((w.alloc (.cells (wsC (zU 64)) 125)).alloc (.cells (wsC (zU 64)) 125)).heap[w.heap.size]? = some (.cells (wsC (zU 64)) 125 (0,0)):=by
    rw[Below.heap_alloc _ _ _ (by simp)];exact heap_alloc_new w _
  have hg3:((w.alloc (.cells (wsC (zU 64)) 125)).alloc (.cells (wsC (zU 64)) 125)).heap[w.heap.size+1]? = some (.cells (wsC (zU 64)) 125 (0,0)):=by
    have:=heap_alloc_new (w.alloc (.cells (wsC (zU 64)) 125)) (.cells (wsC (zU 64)) 125);simpa using this
  obtain⟨q,o,rfl,hbs0⟩:=kQ.get h (i:=0) (by omega);have hq0:q<w.heap.size:=World.block_lt_of_cell? _ _ (hbs0 0 (by omega));have hbs:∀j,j<64->_:=fun j hj=>(hb0.cell (p:=⟨q,o+j,none⟩) hq0).trans (hbs0 j hj);clear h hbs0;go_enter Tryz.func115,Tryz.ntmps115
  (go_wp2_with fail);obtain⟨g,hg⟩:∃g,w.heap.size=g:=⟨_,rfl⟩
  have Hg:=Lib.hid hg;obtain⟨W,hW⟩:∃W,W=(w.alloc (.cells (wsC (zU 64)) 125)).alloc (.cells (wsC (zU 64)) 125):=⟨_,rfl⟩
  rw[<-hW]at hb0 hg2 hg3 hbs |-;have hWs:g+2=W.heap.size:=by rw[hW,<-hg];simp
  rw[hg]at hb0 hg2 hg3 hq0 |-;clear hg hW;go_loopw [4,5,6,7,8,9] (fun _ _ _ _ _ n wr=>∃k:Nat,k<=64/\n = .int .i64 k/\wr.heap[g+1]? = some (.cells (wsC (wsU bs k)) 125 (0,0))/\z4 [g+1] W wr) (fun _ _ _ _ _ n _=>64-(intOf n).toNat)
  case atStart=>exact⟨0,Nat.zero_le _,rfl,hg3,z4.refl _ _⟩
  case round =>
    obtain⟨k,hk,rfl,hc,hkp⟩:=hrel;by_cases hlt:k<64
    · by_cases h16:k<16
      · obtain⟨m,hm⟩:∃m:Nat,4*k=m:=⟨_,rfl⟩
        have em:4*(k:Int)=(m:Int):=by omega
        have l0:(m:Int)<64:=by omega
        have t2:((m:Int)+2).toNat=m+2:=by omega
        have t3:((m:Int)+3).toNat=m+3:=by omega
        have w0:IntKind.i64.wrap (m:Int)=m:=by simp[IntKind.wrap,IntKind.bits,IntKind.signed];omega
        have w1:IntKind.i64.wrap ((m:Int)+1)=(m:Int)+1:=by simp[IntKind.wrap,IntKind.bits,IntKind.signed];omega
        have w2:IntKind.i64.wrap ((m:Int)+2)=(m:Int)+2:=by simp[IntKind.wrap,IntKind.bits,IntKind.signed];omega
        have w3:IntKind.i64.wrap ((m:Int)+3)=(m:Int)+3:=by simp[IntKind.wrap,IntKind.bits,IntKind.signed];omega
        have l1:0<=(m:Int)+1/\(m:Int)+1<64:=by omega
        have l2:0<=(m:Int)+2/\(m:Int)+2<64:=by omega
        have l3:0<=(m:Int)+3/\(m:Int)+3<64:=by omega
        have hck:=fun j (hj:j<64)=>(hkp.cell (p:=⟨q,o+j,none⟩) (by show q<_;omega) (by simp;omega)).trans (hbs j hj);have x0:=hck m (by omega);have x1:=hck (m+1) (by omega);have x2:=hck (m+2) (by omega);have x3:=hck (m+3) (by omega);have hmm:=Lib.hid hm;clear hck hm;go_upto_region 6 with fail
        refine xB (Kp ([]:List Nat) wr) false (by kernel_rfl) (by kernel_rfl) (by kernel_rfl) (by kernel_rfl) (zW ([]:List Nat) wr) ?_;have hne:=xA ([]:List Nat) wr;have hS:=zW ([]:List Nat) wr;have hqn:q∉([]:List Nat):=by simp
        have b0:=zM x0 hqn;have b1:=zM x1 hqn;have b2:=zM x2 hqn;have b3:=zM x3 hqn;repeat(refine z6 ?_ ?_;(focus(simp only[z3];done));intro K hK;go_simp;refine hK _ ?_;clear hK K)
        have hnx:(bs.getD m 0).toUInt32 <<< 24 ||| (bs.getD (m+1) 0).toUInt32 <<< 16 ||| (bs.getD (m+2) 0).toUInt32 <<< 8 ||| (bs.getD (m+3) 0).toUInt32=f6 bs (xC bs k) k:=by
          unfold f6 X5 byU;rw[if_pos h16,hmm.out]
        have hcd:wr.drew.heap[g+1]? = some (.cells (wsC (wsU bs k)) 125 (0,0)):=hc;have x9:wr.drew.cell? ⟨g+1,k,none⟩=some (.int .u32 (nU ((wsU bs k).getD k 0))):=by
          rw[cell_of_row wr.drew _ k _ _ _ hcd,g9 _ (by rw[fC _ hk];exact hlt)]
        have f9:wr.drew.frozen? ⟨g+1,k,none⟩=false:=by simp[World.frozen?,hcd]
        simp only[List.getD_eq_getElem?_getD]at hnx;have Hnx:=Lib.hid hnx;clear hnx em hmm b0 b1 b2 b3 x0 x1 x2 x3;refine jS ?_ ?_;(focus(simp only[z3];done));intro K hK;go_simp;rw[Hnx.out];refine hK _ _ ?_;clear hK K;have hc2:=zE hcd k (.int .u32 (nU (f6 bs (xC bs k) k)));rw[g8,sO bs hlt]at hc2;have hk2:z4 [g+1] W (wr.drew.setCell ⟨g+1,k,none⟩ (.int .u32 (nU (f6 bs (xC bs k) k)))):=z4.trans (z4.trans hkp (z4.drew wr) (by simp)) (z4.setCell wr.drew ⟨g+1,k,none⟩ _) (by simp);clear hne hS hqn x9 f9 hc hcd hkp Hnx;(go_wp2_with fail);go_roundw
        case rel=>exact⟨k+1,by omega,by go_num,hc2,hk2⟩
        case measure=>simp[intOf];omega
      · have gt:∀j:Nat,j<k->wr.drew.cell? ⟨g+1,j,none⟩=some (.int .u32 (nU ((xC bs k).getD j 0)))/\wr.cell? ⟨g+1,j,none⟩=some (.int .u32 (nU ((xC bs k).getD j 0))):=fun j hj=>by
          have hcd:wr.drew.heap[g+1]? = some (.cells (wsC (wsU bs k)) 125 (0,0)):=hc;rw[cell_of_row wr.drew _ j _ _ _ hcd,cell_of_row wr _ j _ _ _ hc,g9 _ (by rw[fC _ hk];omega),KP bs hj];exact⟨rfl,rfl⟩
        obtain⟨a,ha⟩:∃a:Nat,k=a+16:=⟨k-16,by omega⟩
        obtain⟨a5,ha5⟩:∃a5:Nat,a+1=a5:=⟨_,rfl⟩
        obtain⟨a2,ha2⟩:∃a2:Nat,a+14=a2:=⟨_,rfl⟩
        obtain⟨a7,ha7⟩:∃a7:Nat,a+9=a7:=⟨_,rfl⟩
        have s15:(k:Int)-15=(a5:Int):=by omega
        have w15:IntKind.i64.wrap (a5:Int)=(a5:Int):=by simp[IntKind.wrap,IntKind.bits,IntKind.signed];omega
        have l15:(a5:Int)<64:=by omega
        have x15:=(gt a5 (by omega)).2;have s2:(k:Int)-2=(a2:Int):=by omega
        have w2:IntKind.i64.wrap (a2:Int)=(a2:Int):=by simp[IntKind.wrap,IntKind.bits,IntKind.signed];omega
        have l2:(a2:Int)<64:=by omega
        have x2:=(gt a2 (by omega)).2;have s16:(k:Int)-16=(a:Int):=by omega
        have w16:IntKind.i64.wrap (a:Int)=(a:Int):=by simp[IntKind.wrap,IntKind.bits,IntKind.signed];omega
        have l16:(a:Int)<64:=by omega
        have x16:=(gt a (by omega)).1;have s7:(k:Int)-7=(a7:Int):=by omega
        have w7:IntKind.i64.wrap (a7:Int)=(a7:Int):=by simp[IntKind.wrap,IntKind.bits,IntKind.signed];omega
        have l7:(a7:Int)<64:=by omega
        have x7:=(gt a7 (by omega)).1;have hnx:(xC bs k).getD a 0+sg0 ((xC bs k).getD a5 0)+(xC bs k).getD a7 0+sg1 ((xC bs k).getD a2 0)=f6 bs (xC bs k) k:=by
          unfold f6;rw[if_neg h16,show k-16=a by omega,show k-15=a5 by omega,show k-7=a7 by omega,show k-2=a2 by omega]
        obtain⟨z15,h15⟩:∃z,(xC bs k).getD a5 0=z:=⟨_,rfl⟩
        obtain⟨z2,h2⟩:∃z,(xC bs k).getD a2 0=z:=⟨_,rfl⟩
        obtain⟨z16,h3⟩:∃z,(xC bs k).getD a 0=z:=⟨_,rfl⟩
        obtain⟨z7,h4⟩:∃z,(xC bs k).getD a7 0=z:=⟨_,rfl⟩
        rw[h15]at x15 hnx;rw[h2]at x2 hnx;rw[h3]at x16 hnx;rw[h4]at x7 hnx;unfold sg0 sg1 at hnx;have Hnx:=Lib.hid hnx;clear gt hnx h15 h2 h3 h4 ha ha5 ha2 ha7;go_upto_region 7 with fail
        have hqn:g+1∉([]:List Nat):=by simp
        refine zA (Kp ([]:List Nat) wr) false (by kernel_rfl) (by kernel_rfl) (by kernel_rfl) (zW ([]:List Nat) wr) ?_;have hne:=xA ([]:List Nat) wr;have hS:=zW ([]:List Nat) wr;have b0:=zM x15 hqn;have b1:=zM x2 hqn;repeat(refine z6 ?_ ?_;(focus(simp only[z3];done));intro K hK;go_simp;refine hK _ ?_;clear hK K)
        refine zK ?_;intro hS;clear hne hS b0 b1 x15 x2;have q3:=dn3 z15;have q10:=dn10 z2;have c1:=fun w=>b8 z15 7 (by omega) (by omega) w;have c2:=fun w=>b8 z15 18 (by omega) (by omega) w;have c3:=fun w=>b8 z2 17 (by omega) (by omega) w;have c4:=fun w=>b8 z2 19 (by omega) (by omega) w;(go_wp2_with fail);refine(c1 _).mono ?_;rintro e w1 ⟨rfl,rfl⟩;(go_wp2_with fail);refine(c2 _).mono ?_;rintro e w1 ⟨rfl,rfl⟩;(go_wp2_with fail);refine(c3 _).mono ?_;rintro e w1 ⟨rfl,rfl⟩;(go_wp2_with fail);refine(c4 _).mono ?_;rintro e w1 ⟨rfl,rfl⟩;clear c1 c2 c3 c4;go_upto_region 10 with fail
        refine xB (Kp ([]:List Nat) wr.drew) false (by kernel_rfl) (by kernel_rfl) (by kernel_rfl) (by kernel_rfl) (zW ([]:List Nat) wr.drew) ?_;have hne:=xA ([]:List Nat) wr.drew;have hS:=zW ([]:List Nat) wr.drew;have b0:=zM x16 hqn;have b1:=zM x7 hqn;have hcd:wr.drew.drew.heap[g+1]? = some (.cells (wsC (wsU bs k)) 125 (0,0)):=hc;have x9:wr.drew.drew.cell? ⟨g+1,k,none⟩=some (.int .u32 (nU ((wsU bs k).getD k 0))):=by
          rw[cell_of_row wr.drew.drew _ k _ _ _ hcd,g9 _ (by rw[fC _ hk];exact hlt)]
        have f9:wr.drew.drew.frozen? ⟨g+1,k,none⟩=false:=by simp[World.frozen?,hcd]
        repeat(refine z6 ?_ ?_;(focus(simp only[z3];done));intro K hK;go_simp;refine hK _ ?_;clear hK K)
        refine jS ?_ ?_;(focus(simp only[z3];done));intro K hK;go_simp;rw[Hnx.out];refine hK _ _ ?_;clear hK K;have hc2:=zE hcd k (.int .u32 (nU (f6 bs (xC bs k) k)));rw[g8,sO bs hlt]at hc2;have hk2:z4 [g+1] W (wr.drew.drew.setCell ⟨g+1,k,none⟩ (.int .u32 (nU (f6 bs (xC bs k) k)))):=z4.trans (z4.trans hkp ((z4.drew wr).trans (z4.drew wr.drew) (by simp)) (by simp)) (z4.setCell wr.drew.drew ⟨g+1,k,none⟩ _) (by simp);clear hne hS hqn x9 f9 hc hcd hkp Hnx b0 b1 x16 x7;(go_wp2_with fail);go_roundw
        case rel=>exact⟨k+1,by omega,by go_num,hc2,hk2⟩
        case measure=>simp[intOf];omega
    · have hk64:k=64:=by omega
      subst hk64;rw[KQ]at hc;have hrow:z9 wr (g+1) 0 64=some (wsC (xC bs 64)):=by unfold z9;rw[hc];simp[go_sem,j3]
      have hg2':=(hkp.block g (by omega) (by simp)).trans hg2;have hsto:=yA (P:=Tryz.prog) sQ wr g (wsC (zU 64)) (wsC (xC bs 64)) _ hg2' (by simp[fB]) (by simp[j3]) (lG _);have Hfin:=Lib.hid (setRow_heap wr g _ (wsC (xC bs 64)) _ _ hg2');have hkf:z4 [g] wr (wr.setRow g (wsC (xC bs 64))):=⟨rfl,rfl,rfl,by simp[World.setRow],fun x _ hx=>setRow_other wr g x _ (by simpa using hx)⟩
      have hkz:=z4.trans (hkp.mono (S':=[g,g+1]) (by simp)) (hkf.mono (S':=[g,g+1]) (by simp)) (fun x hx=>.inl hx);have hbz:Below g w (wr.setRow g (wsC (xC bs 64))):=hb0.trans (hkz.below (by omega) (by simp));have Hbz:=Lib.hid hbz;clear hkf hkz hbz hg2' hg2 hg3 hbs hb0 hkp;(go_wp2_with fail);exact bodyPost_ret (results_cell_row Tryz.results115 _ _ g 125 (wsC (xC bs 64)) (0,0) _ rfl Hfin.out Tryz.underlying125 rfl (by rw[kV,j3];exact sQ)) rfl ⟨rfl,by rw[Hg.out];exact Hbz.out⟩
@[go_sem] theorem notU (x:UInt32):bits .xor .u32 (if IntKind.u32.signed=true then -1 else IntKind.u32.max) (nU x)=nU (~~~x):=u_not x
structure xT (w:World):Prop where
  first:∀k,k<8->w.cell? ⟨0,k,none⟩=some (.int .u32 (nU (hU.getD k 0)))
  k:∀k,k<64->w.cell? ⟨1,k,none⟩=some (.int .u32 (nU (kU.getD k 0)))
theorem xT.ltF {w:World} (h:xT w):0<w.heap.size:=World.block_lt_of_cell? w _ (h.first 0 (by omega))
theorem xT.ltK {w:World} (h:xT w):1<w.heap.size:=World.block_lt_of_cell? w _ (h.k 0 (by omega))
theorem xT.kept {w w':World} {S:List Nat} (h:xT w) (k:z4 S w w') (h0:0∉S) (h1:1∉S):xT w' :=
  ⟨fun i hi=>(k.cell (p:=⟨0,i,none⟩) h.ltF h0).trans (h.first i hi),fun i hi=>(k.cell (p:=⟨1,i,none⟩) h.ltK h1).trans (h.k i hi)⟩
theorem xT.below {w w':World} (h:xT w) (hb:Below w.heap.size w w'):xT w':=h.kept (z4.of_below hb) (by simp) (by simp)
def StU.l (s:StU):List UInt32:=[s.a,s.b,s.c,s.d,s.e,s.f,s.g,s.h]
theorem StU.l_len (s:StU):s.l.length=8:=rfl
theorem BC {L M:List UInt32} (h:L.length=M.length) {k:Nat} (hk:k<M.length):(L.take k++M.drop k).getD k 0=M.getD k 0:=by
  rw[List.getD_eq_getElem?_getD,List.getD_eq_getElem?_getD,List.getElem?_append_right (by simp;omega),List.length_take,show min k L.length=k by omega,Nat.sub_self,List.getElem?_drop,Nat.add_zero]
theorem BB {L M:List UInt32} (h:L.length=M.length) {k:Nat} (hk:k<M.length):(L.take k++M.drop k).set k (L.getD k 0)=L.take (k+1)++M.drop (k+1):=by
  have hL:k<L.length:=by omega
  have e1:L.take (k+1)=L.take k ++ [L[k]]:=by rw[List.take_add_one,List.getElem?_eq_getElem hL];rfl
  have e2:L.getD k 0=L[k]:=by rw[List.getD_eq_getElem?_getD,List.getElem?_eq_getElem hL];rfl
  rw[List.set_append_right _ _ (by simp;omega),List.length_take,show min k L.length=k by omega,Nat.sub_self,List.drop_eq_getElem_cons hk,List.set_cons_zero,e1,e2,List.append_assoc];rfl
theorem KO {s t:StU} {k:Nat} (hk:k<8):s.l.getD k 0+t.l.getD k 0=(bX s t).l.getD k 0:=by
  have h8:k=0\/k=1\/k=2\/k=3\/k=4\/k=5\/k=6\/k=7:=by omega
  rcases h8 with rfl | rfl | rfl | rfl | rfl | rfl | rfl | rfl <;> rfl
theorem JD {L:List UInt32} {R:Array Value} {w:World} {g T} (hb:w.heap[g]? = some (.cells (wsC L++R) T (0,0))) {k:Nat} (hk:k<L.length):w.cell? ⟨g,k,none⟩=some (.int .u32 (nU (L.getD k 0))):=by
  rw[cell_of_row w g k _ _ _ hb,Array.getElem?_append_left (by rw[kV];exact hk),g9 L hk]
theorem app_set (L:List UInt32) (R:Array Value) (k:Nat) (hk:k<L.length) (x:UInt32):(wsC L++R).setIfInBounds k (.int .u32 (nU x))=wsC (L.set k x)++R:=by
  rw[<-g8,Array.setIfInBounds_append_left (by rw[kV];exact hk)]
theorem sizeU32 (w:World):(sizeOf 92).run Tryz.prog w = .ok 1 w:=by
  have h:(Tryz.prog.info? 92).map (·.size)=some 1:=by kernel_rfl
  cases hi:Tryz.prog.info? 92 with
  | none=>rw[hi]at h;cases h
  | some i =>
    rw[hi]at h;have hk:i.size=1:=by simpa using h
    simp[sizeOf,typeInfo,hi,hk]
theorem BF {t:TypeId} {n:Nat} (h:Tryz.prog.underlying t=some (.array n 92)) {cs:Array Value} {k:Nat} (hk:k<n) {v:Value} (hc:cs[k]? = some v) (w:World) :
    (Instr.index t (.agg cs) (.int .i64 k)).run Tryz.prog w = .ok v w:=by
  have h1:(part 92 cs k).run Tryz.prog w = .ok v w:=run_part_plain w (by kernel_rfl) hc;have h2:(0:Int)<=(k:Int)/\(k:Int)<(n:Int):=⟨by omega,by omega⟩
  simp[Instr.index,asIntOf,run_underlying h,hk,sizeU32,h1]
theorem X8 (w:World) (g:Nat) (T:TypeId) (s:StU) (R:Array Value) (A:Option Addr) (cap:Nat) (bs:List UInt8) (hv:xT w) (hg:w.heap[g]? = some (.cells (wsC s.l++R) T (0,0))) (h:kQ w A 64 bs) (hgf:g≠0) (hgk:g≠1) :
    Calls Tryz.prog 84 #[.pointer (some ⟨g,0,none⟩),.slice A 64 cap] w fun e w'=>e = .returned (.tuple #[])/\w'.heap[g]? = some (.cells (wsC (m8 s bs).l++R) T (0,0))/\z4 [g] w w':=by
  have hgl:g<w.heap.size:=(Array.getElem?_eq_some_iff.1 hg).1;have c0:=zo w A cap bs h;have hws:=j3 bs 64;obtain⟨ws,hwse⟩:∃ws,xC bs 64=ws:=⟨_,rfl⟩
  have htu:m8 s bs=bX s (wB ws s 64):=by rw[<-hwse];rfl
  rw[hwse]at c0 hws;rw[htu];have Hws:=Lib.hid hws;clear hwse htu h hws;go_enter Tryz.func84,Tryz.ntmps84
  (go_wp2_with fail);refine c0.mono ?_;rintro e w1 ⟨rfl,hb1⟩;have hv2:=hv.below (hb1.alloc (by have:=hb1.size;omega) (.cells (wsC ws) 125));have hb2:Below w.heap.size w (w1.alloc (.cells (wsC ws) 125)):=hb1.alloc hb1.size _;have hn:=heap_alloc_new w1 (.cells (wsC ws) 125);have hst:=Y0 w1 w1.heap.size rfl (wsC (zU 64)) (by simp[fB]) ws Hws.out 125;have hsz:=hb1.size;have hgW:=(hb2.block g hgl).trans hg;clear c0 hv;go_upto_region 1 with fail
  obtain⟨ga,hga⟩:∃ga,w1.heap.size=ga:=⟨_,rfl⟩
  obtain⟨W,hW⟩:∃W,W=w1.alloc (.cells (wsC ws) 125):=⟨_,rfl⟩
  rw[hga]at hn hsz |-;rw[<-hW]at hn hb2 hv2 hgW |-;have hgaW:ga<W.heap.size:=(Array.getElem?_eq_some_iff.1 hn).1;clear hst hW hga hb1 hg;have xs:=fun k (hk:k<8)=>JD hgW (k:=k) hk;have x0:=xs 0 (by omega);have x1:=xs 1 (by omega);have x2:=xs 2 (by omega);have x3:=xs 3 (by omega);have x4:=xs 4 (by omega);have x5:=xs 5 (by omega);have x6:=xs 6 (by omega);have x7:=xs 7 (by omega);simp only[StU.l,List.getD_cons_zero,List.getD_cons_succ]at x0 x1 x2 x3 x4 x5 x6 x7;have hqn:g∉([]:List Nat):=by simp
  refine zA (Kp ([]:List Nat) W) false (by kernel_rfl) (by kernel_rfl) (by kernel_rfl) (zW ([]:List Nat) W) ?_;have hne:=xA ([]:List Nat) W;have hS:=zW ([]:List Nat) W;have b0:=zM x0 hqn;have b1:=zM x1 hqn;have b2:=zM x2 hqn;have b3:=zM x3 hqn;have b4:=zM x4 hqn;have b5:=zM x5 hqn;have b6:=zM x6 hqn;have b7:=zM x7 hqn;repeat(refine z6 ?_ ?_;(focus(simp only[z3];done));intro K hK;go_simp;refine hK _ ?_;clear hK K)
  refine zK ?_;intro hS;clear hne b0 b1 b2 b3 b4 b5 b6 b7 x0 x1 x2 x3 x4 x5 x6 x7 xs;have hvd:xT W.drew:=hv2.kept hS (by simp) (by simp);have hnd:W.drew.heap[ga]? = some (.cells (wsC ws) 125 (0,0)):=hn;have hgd:W.drew.heap[g]? = some (.cells (wsC s.l++R) T (0,0)):=hgW;have hbd:Below w.heap.size w W.drew:=hb2.drew;clear hS hv2 hn hgW hb2;obtain⟨V,hV⟩:∃V,V=W.drew:=⟨_,rfl⟩
  have hgaV:ga<V.heap.size:=by rw[hV];exact hgaW
  rw[<-hV]at hvd hnd hgd hbd |-;clear hV hgaW;(go_wp2_with fail);go_loopw [5,6,7,8,9,10,11,12,13,14,15,52] (fun ra rb rc rd re rf rg rh _ _ _ n wr=>∃(k:Nat) (z:StU),k<=64/\n = .int .i64 k/\Hid (wB ws s k=z)/\ra = .int .u32 (nU z.a)/\rb = .int .u32 (nU z.b)/\rc = .int .u32 (nU z.c)/\rd = .int .u32 (nU z.d)/\re = .int .u32 (nU z.e)/\rf = .int .u32 (nU z.f)/\rg = .int .u32 (nU z.g)/\rh = .int .u32 (nU z.h)/\z4 [] V wr) (fun _ _ _ _ _ _ _ _ _ _ _ n _=>64-(intOf n).toNat)
  case atStart=>exact⟨0,s,by omega,rfl,(show _=_ from rfl),rfl,rfl,rfl,rfl,rfl,rfl,rfl,rfl,z4.refl _ _⟩
  case round =>
    obtain⟨k,z,hk,rfl,hz,rfl,rfl,rfl,rfl,rfl,rfl,rfl,rfl,hkp⟩:=hrel;by_cases hlt:k<64
    · have hzn:wB ws s (k+1)=rndU z (kU.getD k 0) (ws.getD k 0):=by rw[wB,hz.out]
      have Hzn:=Lib.hid hzn;obtain⟨za,zb,zc,zd,ze,zf,zg,zh⟩:=z;have hvr:=hvd.kept hkp (by simp) (by simp);have hnr:=(hkp.block ga hgaV (by simp)).trans hnd;have y0:=hvr.k k hlt;have y1:wr.cell? ⟨ga,k,none⟩=some (.int .u32 (nU (ws.getD k 0))):=by rw[cell_of_row wr ga k _ _ _ hnr,g9 ws (by rw[Hws.out];exact hlt)]
      obtain⟨kv,hkv⟩:∃kv,kU.getD k 0=kv:=⟨_,rfl⟩
      obtain⟨wv,hwv⟩:∃wv,ws.getD k 0=wv:=⟨_,rfl⟩
      rw[hkv]at y0 hzn;rw[hwv]at y1 hzn;have Hzn:=Lib.hid hzn;have c6:=fun w=>b8 ze 6 (by omega) (by omega) w;have c11:=fun w=>b8 ze 11 (by omega) (by omega) w;have c25:=fun w=>b8 ze 25 (by omega) (by omega) w;have c2:=fun w=>b8 za 2 (by omega) (by omega) w;have c13:=fun w=>b8 za 13 (by omega) (by omega) w;have c22:=fun w=>b8 za 22 (by omega) (by omega) w;clear hzn hkv hwv hvr hnr;go_upto_region 5 with fail
      have hq1:1∉([]:List Nat):=by simp
      have hq2:ga∉([]:List Nat):=by simp
      refine zA (Kp ([]:List Nat) wr) false (by kernel_rfl) (by kernel_rfl) (by kernel_rfl) (zW ([]:List Nat) wr) ?_;have hne:=xA ([]:List Nat) wr;have hS:=zW ([]:List Nat) wr;have b0:=zM y0 hq1;have b1:=zM y1 hq2;repeat(refine z6 ?_ ?_;(focus(simp only[z3];done));intro K hK;go_simp;refine hK _ ?_;clear hK K)
      refine zH ?_ ?_ ?_;(focus(exact hS));(focus(simp only[z3];done));intro K hK;go_simp;refine(c6 _).mono ?_;rintro e w' ⟨rfl,rfl⟩;refine⟨_,rfl,hS,hK _ _ ?_⟩;clear hK K;repeat(refine z6 ?_ ?_;(focus(simp only[z3];done));intro K hK;go_simp;refine hK _ ?_;clear hK K)
      refine zH ?_ ?_ ?_;(focus(exact hS));(focus(simp only[z3];done));intro K hK;go_simp;refine(c11 _).mono ?_;rintro e w' ⟨rfl,rfl⟩;refine⟨_,rfl,hS,hK _ _ ?_⟩;clear hK K;repeat(refine z6 ?_ ?_;(focus(simp only[z3];done));intro K hK;go_simp;refine hK _ ?_;clear hK K)
      refine zH ?_ ?_ ?_;(focus(exact hS));(focus(simp only[z3];done));intro K hK;go_simp;refine(c25 _).mono ?_;rintro e w' ⟨rfl,rfl⟩;refine⟨_,rfl,hS,hK _ _ ?_⟩;clear hK K;repeat(refine z6 ?_ ?_;(focus(simp only[z3];done));intro K hK;go_simp;refine hK _ ?_;clear hK K)
      refine zK ?_;intro hS;clear hne b0 b1 y0 y1 c6 c11 c25;have hkd:z4 [] V wr.drew:=z4.trans hkp hS (by simp);obtain⟨wd,hwd⟩:∃wd,wd=wr.drew:=⟨_,rfl⟩
      rw[<-hwd]at hkd |-;clear hS hwd hkp;(go_wp2_with fail);refine(c2 _).mono ?_;rintro e w2 ⟨rfl,rfl⟩;(go_wp2_with fail);refine(c13 _).mono ?_;rintro e w2 ⟨rfl,rfl⟩;(go_wp2_with fail);refine(c22 _).mono ?_;rintro e w2 ⟨rfl,rfl⟩;clear c2 c13 c22;(go_wp2_with fail);go_roundw
      case rel=>exact⟨k+1,_,by omega,by go_num,(show _=_ from Hzn.out),rfl,rfl,rfl,rfl,rfl,rfl,rfl,rfl,hkd⟩
      case measure=>simp[intOf];omega
    · have hk64:k=64:=by omega
      have hz64:wB ws s 64=z:=hk64 ▸ hz.out;have Hz:=Lib.hid hz64;clear hz64 hk64;have hgr:=(hkp.block g (by omega) (by simp)).trans hgd;have hbr:Below w.heap.size w wr:=hbd.trans (hkp.below hbd.size (by simp));clear hz hk hvd hnd hgd;have hwA:Below w.heap.size w wr:=hbr;clear hkp hbd;go_upto_region 10 with fail
      have hgl2:g<wr.heap.size:=(Array.getElem?_eq_some_iff.1 hgr).1;obtain⟨V2,hV2⟩:∃V2,V2=wr:=⟨wr,rfl⟩
      have Hz2:=Lib.hid (show[z.a,z.b,z.c,z.d,z.e,z.f,z.g,z.h]=z.l from rfl);go_loopw [16,17,124] (fun _ _ n wr=>∃k:Nat,k<=8/\n = .int .i64 k/\wr.heap[g]? = some (.cells (wsC ((bX s z).l.take k++s.l.drop k)++R) T (0,0))/\z4 [g] V2 wr) (fun _ _ n _=>8-(intOf n).toNat)
      case atStart=>exact⟨0,by omega,rfl,(by rw[hgr];rfl),by rw[hV2];exact z4.refl _ _⟩
      case round =>
        clear hgr;obtain⟨k,hk,rfl,hgr,hkp⟩:=hrel;by_cases hlt:k<8
        · have hml:((bX s z).l.take k++s.l.drop k).length=8:=by simp[StU.l_len];omega
          have y0:=JD hgr (k:=k) (by rw[hml];exact hlt);rw[BC (L:=(bX s z).l) (M:=s.l) rfl hlt]at y0;have y1:(wsC [z.a,z.b,z.c,z.d,z.e,z.f,z.g,z.h])[k]? = some (.int .u32 (nU (z.l.getD k 0))):=g9 z.l hlt;have hset:=app_set ((bX s z).l.take k++s.l.drop k) R k (by rw[hml];exact hlt) ((bX s z).l.getD k 0);rw[BB (L:=(bX s z).l) (M:=s.l) rfl hlt]at hset;have hz8:=KO (s:=s) (t:=z) hlt;obtain⟨c1,hc1⟩:∃c1,s.l.getD k 0=c1:=⟨_,rfl⟩
          obtain⟨c2,hc2⟩:∃c2,z.l.getD k 0=c2:=⟨_,rfl⟩
          rw[hc1,hc2]at hz8;rw[hc1]at y0;rw[hc2]at y1;rw[<-hz8]at hset;have Hset:=Lib.hid hset;have hix:(Instr.index 93 (.agg #[.int .u32 (nU z.a),.int .u32 (nU z.b),.int .u32 (nU z.c),.int .u32 (nU z.d),.int .u32 (nU z.e),.int .u32 (nU z.f),.int .u32 (nU z.g),.int .u32 (nU z.h)]) (.int .i64 k)).run Tryz.prog wr = .ok (.int .u32 (nU c2)) wr:=BF (t:=93) Tryz.underlying93 hlt y1 wr;clear hset hz8 hc1 hc2 hml;go_upto_region 12 with fail
          refine xB (Kp ([]:List Nat) wr) false (by kernel_rfl) (by kernel_rfl) (by kernel_rfl) (by kernel_rfl) (zW ([]:List Nat) wr) ?_;have hne:=xA ([]:List Nat) wr;have hS:=zW ([]:List Nat) wr;have b0:=zM y0 hqn;have hgd:wr.drew.heap[g]? = some (.cells (wsC ((bX s z).l.take k++s.l.drop k)++R) T (0,0)):=hgr;have x9:wr.drew.cell? ⟨g,k,none⟩=some (.int .u32 (nU c1)):=y0;have f9:wr.drew.frozen? ⟨g,k,none⟩=false:=by simp[World.frozen?,hgd]
          repeat(refine z6 ?_ ?_;(focus(simp only[z3];done));intro K hK;go_simp;refine hK _ ?_;clear hK K)
          refine jS ?_ ?_;(focus(simp only[z3];done));intro K hK;go_simp;refine hK _ _ ?_;clear hK K;have hg2:=zE hgd k (.int .u32 (nU (c1+c2)));rw[Hset.out]at hg2;have hk2:z4 [g] V2 (wr.drew.setCell ⟨g,k,none⟩ (.int .u32 (nU (c1+c2)))):=z4.trans (z4.trans hkp (z4.drew wr) (by simp)) (z4.setCell wr.drew ⟨g,k,none⟩ _) (by simp);clear hne hS x9 f9 hgr hgd hkp b0 y0 y1 hix Hset;(go_wp2_with fail);go_roundw
          case rel=>exact⟨k+1,by omega,by go_num,hg2,hk2⟩
          case measure=>simp[intOf];omega
        · have hk8:k=8:=by omega
          have e8:(bX s z).l.take k++s.l.drop k=(bX s z).l:=by rw[hk8];rfl
          rw[e8,<-Hz.out]at hgr;have HgR:=Lib.hid hgr;have hkz:z4 [g] w wr:=z4.trans ((z4.of_below hwA).mono (S':=[g]) (by simp)) (by rw[<-hV2];exact hkp) (by simp);clear hgr hkp e8 hk8 hV2;(go_wp2_with fail);go_end0;exact⟨rfl,HgR.out,hkz⟩
theorem n8 (a:List UInt8):(yU a).length=a.length:=List.length_map _
theorem KE (a:List UInt8):∀r∈yU a,∀u∈r.toList,u.oneCell'=true:=by
  intro r hr u hu;simp[yU]at hr;obtain⟨c,_,rfl⟩:=hr;simp[b9]at hu;subst hu;rfl
theorem bs0_u8 (w:World):(Instr.buildSlice 89 0 #[]).run Tryz.prog w = .ok (.slice (some ⟨w.heap.size,0,none⟩) 0 0) (w.alloc (.cells #[] 5)):=by kernel_rfl
theorem ZP (w:World) (c:Int):(Instr.buildSlice 89 1 #[(0,.int .u8 c)]).run Tryz.prog w = .ok (.slice (some ⟨w.heap.size,0,none⟩) 1 1) (w.alloc (.cells #[.int .u8 c] 5)):=by kernel_rfl
theorem Z8 {n i:Nat} (hn:n<=1000000) (hi:i<8):(mZ n).take (i+1)=(mZ n).take i ++ [UInt8.ofNat (n*8 / 2 ^ (8*(7-i)))]:=by
  have hl:i<(mZ n).length:=by rw[dH];exact hi
  rw[List.take_add_one,List.getElem?_eq_getElem hl];congr 1
  simp[mZ];rw[Nat.mod_eq_of_lt (by omega)]
def aS:Value->Nat | .slice _ n _=>n | _=>0
theorem sha_end (w:World) (A:Option Addr) (m cap:Nat) (rest:List UInt8) (h:SlW w A m cap 1 (yU rest)) (N:Nat) (hN:N<=1000000) (hm:m=N % 64) :
    Calls Tryz.prog 85 #[.slice A m cap,.int .i64 N] w fun e w'=>∃A' cap',e = .returned (.slice A' (m+(gO N).length) cap')/\Own w' w.heap.size 5 1 A' (m+(gO N).length) cap' (yU (rest++gO N))/\Below w.heap.size w w':=by
  have hlen:rest.length=m:=by have:=h.len;rwa [n8]at this
  have hm64:m<64:=by omega
  have Hlen:=Lib.hid hlen;have Hm:=Lib.hid hm;have q0:=bs0_u8 w;have hb0:Below w.heap.size w (w.alloc (.cells #[] 5)):=(Below.refl _ _).alloc (Nat.le_refl _) _;have ho0:=Own.empty w w.heap.size 5 1 (Nat.le_refl _);have hs0:=h.rd.below hb0;clear hlen hm;go_enter Tryz.func85,Tryz.ntmps85
  go_wp2_with (at_builtin;first | (refine yD jZ rfl ho0 rfl hs0 h.nil (KE _) (by omega) (by omega) (by simp) ?_;intro A1 cap1 w1 ho1 hk1 hsub1;have q1:=ZP w1 128;simp only[Nat.zero_add,List.nil_append]at ho1;have ho2:=ho1.kept (z4.alloc w1 (.cells #[.int .u8 128] 5)) (by simp);have hr2:z9 (w1.alloc (.cells #[.int .u8 128] 5)) w1.heap.size 0 1=some (b9 128):=(by simp[go_sem,b9,yW]);have hb1:Below w.heap.size w w1:=hb0.trans (hk1.below (by simp) (by simp[blk]));have hsz1:=hb1.size;clear ho0) | (refine yX jZ rfl ho2 rfl hr2 (by simp[b9,yW];rfl) (by omega) (by omega) (by simp;omega) ?_;intro A2 cap2 w2 ho3 hk2 hsub2))
  have hb2:Below w.heap.size w w2:=hb1.trans ((z4.trans ((z4.alloc w1 _).mono (S':=blk A1) (by simp)) hk2 (fun x hx=>.inl hx)).below hsz1 (fun x hx=>(ho1.at_base hx).1));have hl3:yU rest ++ [b9 128]=yU (rest ++ [128]):=by simp[yU]
  rw[hl3]at ho3;have hsz2:=hb2.size;clear ho1 hk1 hsub1 q1 ho2 hr2 hb1 hsz1 hk2 hsub2 hl3 q0 hb0 hs0;obtain⟨z,hz⟩:∃z,(119-N % 64) % 64=z:=⟨_,rfl⟩
  have Hz:=Lib.hid hz;have hz64:z<64:=by omega
  have hmz:m+1+z=56\/m+1+z=120:=by have:=Hm.out;omega
  have Hmz:=Lib.hid hmz;clear hz hmz;go_upto_region 2 with fail
  go_loopw [5] (fun sv wr=>∃(j:Nat) (A3:Option Addr) (cap3:Nat),j<=z/\sv = .slice A3 (m+1+j) cap3/\Own wr w.heap.size 5 1 A3 (m+1+j) cap3 (yU (rest++128 :: List.replicate j 0))/\Below w.heap.size w wr) (fun sv _=>200-aS sv)
  case atStart=>exact⟨0,A2,cap2,by omega,rfl,ho3,hb2⟩
  case round =>
    obtain⟨j,A3,cap3,hj,rfl,ho,hb⟩:=hrel;obtain⟨ln,hln⟩:∃ln,m+1+j=ln:=⟨_,rfl⟩
    rw[hln]at ho |-;have Hln:=Lib.hid hln;have hl2:ln<=128:=by omega
    clear hln;by_cases hlt:j<z
    · have e1:((ln:Int) % (64:Int) != 56)=true:=by
        rw[bne_iff_ne];have:=Hmz.out;have:=Hln.out;omega
      have q1:=ZP wr 0;have ho2:=ho.kept (z4.alloc wr (.cells #[.int .u8 0] 5)) (by simp);have hr2:z9 (wr.alloc (.cells #[.int .u8 0] 5)) wr.heap.size 0 1=some (b9 0):=(by simp[go_sem,b9,yW])
      have hsz1:=hb.size;go_wp2_with (at_builtin;refine yX jZ rfl ho2 rfl hr2 (by simp[b9,yW];rfl) (by omega) (by omega) (by simp;omega) ?_;intro A4 cap4 w4 ho4 hk4 hsub4)
      have hb4:Below w.heap.size w w4:=hb.trans ((z4.trans ((z4.alloc wr _).mono (S':=blk A3) (by simp)) hk4 (fun x hx=>.inl hx)).below hsz1 (fun x hx=>(ho.at_base hx).1));have hl4:yU (rest++128 :: List.replicate j 0) ++ [b9 0]=yU (rest++128 :: List.replicate (j+1) 0):=by
        rw[List.replicate_succ'];simp[yU]
      rw[hl4]at ho4;clear hl4 hk4 hsub4 ho2 hr2 q1 ho hsz1 hb;go_roundw
      case rel=>exact⟨j+1,A4,cap4,by omega,(by rw[<-Hln.out,Nat.add_assoc]),(by rw[show m+1+(j+1)=ln+1 by have:=Hln.out;omega];exact ho4),hb4⟩
      case measure=>simp[aS];omega
    · have hjz:j=z:=by omega
      have e1:((ln:Int) % (64:Int) != 56)=false:=by
        rw[bne_eq_false_iff_eq];have:=Hmz.out;have:=Hln.out;omega
      have hz':rest++128 :: List.replicate j 0=rest++128 :: List.replicate z 0:=by rw[hjz]
      rw[hz']at ho;have hln2:m+1+z=ln:=by rw[<-Hln.out,hjz]
      have Hln2:=Lib.hid hln2;obtain⟨D,hD⟩:∃D,rest++128 :: List.replicate z 0=D:=⟨_,rfl⟩
      rw[hD]at ho;have HD:=Lib.hid hD;obtain⟨V,hV⟩:∃V,V=wr:=⟨wr,rfl⟩
      clear hjz hln2 hz' hD hj hlt;go_upto_region 6 with fail
      go_loopw [5,7,23] (fun sv _ iv wr=>∃(i:Nat) (A5:Option Addr) (cap5:Nat),i<=8/\iv = .int .i64 i/\sv = .slice A5 (ln+i) cap5/\Own wr w.heap.size 5 1 A5 (ln+i) cap5 (yU (D++(mZ N).take i))/\Below w.heap.size w wr) (fun _ _ iv _=>8-(intOf iv).toNat)
      case atStart=>exact⟨0,A3,cap3,by omega,rfl,rfl,(by rw[List.take_zero,List.append_nil];exact ho),hb⟩
      case round =>
        clear ho hb;obtain⟨i,A5,cap5,hi,rfl,rfl,ho,hb⟩:=hrel;by_cases hlt:i<8
        · obtain⟨c,hc⟩:∃c,UInt8.ofNat (N*8 / 2 ^ (8*(7-i)))=c:=⟨_,rfl⟩
          have htk:=Z8 hN hlt;rw[hc]at htk;obtain⟨r,hr⟩:∃r:Nat,7-i=r:=⟨_,rfl⟩
          have er:7-(i:Int)=(r:Int):=by omega
          have hr7:r<8:=by omega
          have eb:(N:Int)*(8:Int) / 2 ^ (8*r) % (256:Int)=((c.toNat:Nat):Int):=by
            rw[<-hc,hr];have h3:((N*8 / 2 ^ (8*r):Nat):Int)=(N:Int)*(8:Int) / 2 ^ (8*r):=by simp
            rw[<-h3]
            simp
          have q1:=ZP wr ((c.toNat:Nat):Int);have hr2:z9 (wr.alloc (.cells #[.int .u8 ((c.toNat:Nat):Int)] 5)) wr.heap.size 0 1=some (b9 c):=(by simp[go_sem,b9,yW])
          have ho2:=ho.kept (z4.alloc wr (.cells #[.int .u8 ((c.toNat:Nat):Int)] 5)) (by simp);have hsz1:=hb.size;have Htk:=Lib.hid htk;clear hc hr htk;go_wp2_with (at_builtin;refine yX jZ rfl ho2 rfl hr2 (by simp[b9,yW];rfl) (by omega) (by omega) (by simp;omega) ?_;intro A6 cap6 w6 ho6 hk6 hsub6)
          have hb6:Below w.heap.size w w6:=hb.trans ((z4.trans ((z4.alloc wr _).mono (S':=blk A5) (by simp)) hk6 (fun x hx=>.inl hx)).below hsz1 (fun x hx=>(ho.at_base hx).1));have hl6:yU (D++(mZ N).take i) ++ [b9 c]=yU (D++(mZ N).take (i+1)):=by rw[Htk.out];simp[yU]
          rw[hl6]at ho6;clear hl6 hk6 hsub6 ho2 hr2 q1 ho hsz1 hb Htk eb er;(go_wp2_with fail);go_roundw
          case rel=>exact⟨i+1,A6,cap6,by omega,by go_num,rfl,ho6,hb6⟩
          case measure=>simp[intOf];omega
        · have hi8:i=8:=by omega
          have hfull:D++(mZ N).take i=rest++gO N:=by
            rw[hi8,List.take_of_length_le (by rw[dH];omega),<-HD.out];unfold gO;rw[Hz.out];simp
          rw[hfull]at ho;have hlf:ln+i=m+(gO N).length:=by rw[tJ,Hz.out,hi8];have:=Hln2.out;omega
          rw[hlf]at ho;have Ho:=Lib.hid ho;have Hlf:=Lib.hid hlf;clear hlf hfull ho hi8;(go_wp2_with fail);go_ret;exact⟨A5,cap5,by rw[Hlf.out];rfl,Ho.out,hb⟩
section
open Go.RowKit
end
theorem mA (x:UInt32) (n:Nat) (h0:0<n) (h1:n<32) (w:World) :
    Calls Tryz.prog 65 #[.int .u32 (nU x),.int .i64 n] w fun e w'=>e = .returned (.int .u32 (nU (dP x n)))/\w=w':=by
  have hs:(32:Int)-(n:Int)=((32-n:Nat):Int):=by omega
  have hl:nU x*2 ^ (32-n) % (4294967296:Int)=nU (x <<< UInt32.ofNat (32-n)):=by
    rw[<-X7 _ _ (by omega),IntKind.wrap_u32']
  have hr:nU x / 2 ^ n=nU (x >>> UInt32.ofNat n):=sX x n h1;have hor:x >>> UInt32.ofNat n ||| x <<< UInt32.ofNat (32-n)=dP x n:=rfl
  have Hor:=Lib.hid hor;have l1:(n:Int)<=32:=by omega
  have l2:((32-n:Nat):Int)<=32:=by omega
  clear hor h0 h1;go_enter Tryz.func65,Tryz.ntmps65
  (go_wp2_with fail);go_ret;exact⟨by rw[Hor.out];rfl,rfl⟩
theorem rword (w:World) (A:Option Addr) (cap n:Nat) (bs:List UInt8) (h:kQ w A n bs) (m:Nat) (hm:m+3<n) (hn:n<=1000000) :
    Calls Tryz.prog 64 #[.slice A n cap,.int .i64 m] w fun e w'=>e = .returned (.int .u32 (nU (X5 bs m)))/\Below w.heap.size w w':=by
  obtain⟨q,o,rfl,hck⟩:=kQ.get h (i:=0) (by omega);have l0:(m:Int)<n:=by omega
  have t1:((m:Int)+1).toNat=m+1:=by omega
  have t2:((m:Int)+2).toNat=m+2:=by omega
  have t3:((m:Int)+3).toNat=m+3:=by omega
  have w0:IntKind.i64.wrap (m:Int)=m:=by simp[IntKind.wrap,IntKind.bits,IntKind.signed];omega
  have w1:IntKind.i64.wrap ((m:Int)+1)=(m:Int)+1:=by simp[IntKind.wrap,IntKind.bits,IntKind.signed];omega
  have w2:IntKind.i64.wrap ((m:Int)+2)=(m:Int)+2:=by simp[IntKind.wrap,IntKind.bits,IntKind.signed];omega
  have w3:IntKind.i64.wrap ((m:Int)+3)=(m:Int)+3:=by simp[IntKind.wrap,IntKind.bits,IntKind.signed];omega
  have l1:0<=(m:Int)+1/\(m:Int)+1<n:=by omega
  have l2:0<=(m:Int)+2/\(m:Int)+2<n:=by omega
  have l3:0<=(m:Int)+3/\(m:Int)+3<n:=by omega
  have x0:=hck m (by omega);have x1:=hck (m+1) (by omega);have x2:=hck (m+2) (by omega);have x3:=hck (m+3) (by omega);have hwd:(bs.getD m 0).toUInt32 <<< 24 ||| (bs.getD (m+1) 0).toUInt32 <<< 16 ||| (bs.getD (m+2) 0).toUInt32 <<< 8 ||| (bs.getD (m+3) 0).toUInt32=X5 bs m:=rfl
  obtain⟨y0,h0⟩:∃y,bs.getD m 0=y:=⟨_,rfl⟩
  obtain⟨y1,h1⟩:∃y,bs.getD (m+1) 0=y:=⟨_,rfl⟩
  obtain⟨y2,h2⟩:∃y,bs.getD (m+2) 0=y:=⟨_,rfl⟩
  obtain⟨y3,h3⟩:∃y,bs.getD (m+3) 0=y:=⟨_,rfl⟩
  rw[h0]at x0 hwd;rw[h1]at x1 hwd;rw[h2]at x2 hwd;rw[h3]at x3 hwd;have Hwd:=Lib.hid hwd;clear hwd h0 h1 h2 h3 hck h;go_enter Tryz.func64,Tryz.ntmps64
  go_upto_region 1 with fail
  refine zA (Bel w) false (by kernel_rfl) (by kernel_rfl) (by kernel_rfl) (zC w) ?_;have hne:=zQ w;have hS:=zC w;have b0:=zP x0;have b1:=zP x1;have b2:=zP x2;have b3:=zP x3;repeat(refine z6 ?_ ?_;(focus(simp only[z3];done));intro K hK;go_simp;refine hK _ ?_;clear hK K)
  refine zK ?_;intro hS;have hS':Below w.heap.size w w.drew:=hS;(go_wp2_with fail);go_ret;exact⟨by rw[Hwd.out];rfl,hS'⟩
theorem r9:(Tryz.prog.info? 93).map (·.size)=some 8:=by kernel_rfl
@[go_sem ↓] theorem zeroA8_run (w:World):(zeroValue 93).run Tryz.prog w = .ok (.agg (wsC (zU 8))) w:=by
  have h:(Tryz.prog.info? 93).bind (·.zero)=some (.agg (wsC (zU 8))):=by kernel_rfl
  cases hi:Tryz.prog.info? 93 with
  | none=>rw[hi]at h;cases h
  | some i =>
    rw[hi]at h;have hz:i.zero=some (.agg (wsC (zU 8))):=h;simp[zeroValue,typeInfo,hi,hz]
@[go_sem ↓] theorem loadA8_rw (a:Addr):loadVar 93 a=ldS 93 a:=rfl
@[go_sem ↓] theorem storeA8_rw (a:Addr) (v:Value):storeVar 93 a v=stS 93 a v:=rfl
@[go_sem] theorem loadA8_run (w:World) (g o:Nat):(ldS 93 ⟨g,o,none⟩).run Tryz.prog w=match z9 w g o 8 with | some cs=>.ok (.agg cs) w | none=>(loadVar 93 ⟨g,o,none⟩).run Tryz.prog w :=
  vD Tryz.underlying93 rfl r9 w g o
@[go_sem] theorem tA (w:World) (g:Nat) (hg:g=w.heap.size) (z:Array Value) (hz:z.size=8) (L:List UInt32) (hL:L.length=8) (e:TypeId):(stS 93 ⟨g,0,none⟩ (.agg (wsC L))).run Tryz.prog (w.alloc (.cells z e)) = .ok () (w.alloc (.cells (wsC L) e)) :=
  hg ▸ qB r9 w z (wsC L) hz ((kV L).trans hL) (lG L)
def mvU (z:StU) (j:Nat):List UInt32:=z.l.take (j+1)++(z.l.drop j).take (7-j)
theorem mvU_len (z:StU) {j:Nat} (hj:j<=7):(mvU z j).length=8:=by unfold mvU;simp[z.l_len];omega
theorem mvU_get (z:StU) {j:Nat} (h1:j<7):(mvU z (j+1)).getD j 0=z.l.getD j 0:=by
  have h8:j=0\/j=1\/j=2\/j=3\/j=4\/j=5\/j=6:=by omega
  rcases h8 with rfl | rfl | rfl | rfl | rfl | rfl | rfl <;> rfl
theorem mvU_set (z:StU) {j:Nat} (h1:j<7):(mvU z (j+1)).set (j+1) (z.l.getD j 0)=mvU z j:=by
  have h8:j=0\/j=1\/j=2\/j=3\/j=4\/j=5\/j=6:=by omega
  rcases h8 with rfl | rfl | rfl | rfl | rfl | rfl | rfl <;> rfl
theorem aG {s z:StU} {k:Nat} (hk:k<8):z.l.getD k 0+s.l.getD k 0=(bX s z).l.getD k 0:=by rw[<-KO hk,UInt32.add_comm]
theorem dX {L:List UInt32} {w:World} {g:Nat} {T:TypeId} (hb:w.heap[g]? = some (.cells (wsC L) T (0,0))) {k:Nat} (hk:k<L.length):w.cell? ⟨g,k,none⟩=some (.int .u32 (nU (L.getD k 0))):=by
  rw[cell_of_row w g k _ _ _ hb,g9 L hk]
theorem rblock (w:World) (s:StU) (A:Option Addr) (cap:Nat) (bs:List UInt8) (gk capK:Nat) (TK:TypeId) (h:kQ w A 64 bs) (hk:w.heap[gk]? = some (.cells (wsC kU) TK (0,0))) :
    Calls Tryz.prog 32 #[.agg (wsC s.l),.slice A 64 cap,.slice (some ⟨gk,0,none⟩) 64 capK] w fun e w'=>e = .returned (.agg (wsC (m8 s bs).l))/\Below w.heap.size w w':=by
  have hkl:gk<w.heap.size:=(Array.getElem?_eq_some_iff.1 hk).1;have hb0:Below w.heap.size w (((w.alloc (.cells (wsC s.l) 93)).alloc (.cells (wsC (zU 8)) 93)).alloc (.cells (wsC (zU 64)) 125)):=(((Below.refl _ _).alloc (Nat.le_refl _) _).alloc (by simp) _).alloc (by simp;omega) _;have hn3:=heap_alloc_new ((w.alloc (.cells (wsC s.l) 93)).alloc (.cells (wsC (zU 8)) 93)) (.cells (wsC (zU 64)) 125);rw[show((w.alloc (.cells (wsC s.l) 93)).alloc (.cells (wsC (zU 8)) 93)).heap.size=w.heap.size+2 by simp]at hn3;have hn2:(((w.alloc (.cells (wsC s.l) 93)).alloc (.cells (wsC (zU 8)) 93)).alloc (.cells (wsC (zU 64)) 125)).heap[w.heap.size+1]? = some (.cells (wsC (zU 8)) 93 (0,0)):=by
    rw[Below.heap_alloc _ _ _ (by simp)];have:=heap_alloc_new (w.alloc (.cells (wsC s.l) 93)) (.cells (wsC (zU 8)) 93);simpa using this
  have hn1:(((w.alloc (.cells (wsC s.l) 93)).alloc (.cells (wsC (zU 8)) 93)).alloc (.cells (wsC (zU 64)) 125)).heap[w.heap.size]? = some (.cells (wsC s.l) 93 (0,0)):=by
    rw[Below.heap_alloc _ _ _ (by simp;omega),Below.heap_alloc _ _ _ (by simp)];exact heap_alloc_new _ _
  have hA:∀x∈blk A,x<w.heap.size:=by
    obtain⟨q,o,rfl,_⟩:=kQ.get h (i:=0) (by omega);intro x hx;simp[blk]at hx;subst hx;exact SlR.old h rfl (by omega)
  have h0:=h.below hb0;have hk0:=(hb0.block gk hkl).trans hk;clear h hk;go_enter Tryz.func32,Tryz.ntmps32
  go_upto_region 3 with fail
  obtain⟨g,hg⟩:∃g,w.heap.size=g:=⟨_,rfl⟩
  have Hg:=Lib.hid hg;obtain⟨W,hW⟩:∃W,W=((w.alloc (.cells (wsC s.l) 93)).alloc (.cells (wsC (zU 8)) 93)).alloc (.cells (wsC (zU 64)) 125):=⟨_,rfl⟩
  rw[<-hW]at hb0 hn1 hn2 hn3 h0 hk0 |-;rw[hg]at hb0 hn1 hn2 hn3 hkl hA |-;obtain⟨g2,hg2⟩:∃g2,g+1=g2:=⟨_,rfl⟩
  obtain⟨g3,hg3⟩:∃g3,g2+1=g3:=⟨_,rfl⟩
  rw[show g+2=g3 by omega]at hn3;rw[hg2]at hn2;simp only[hg2,hg3];have hgl2:g<g2:=by omega
  have hgl3:g2<g3:=by omega
  have hgW:g3<W.heap.size:=(Array.getElem?_eq_some_iff.1 hn3).1;clear hg hW hg2 hg3;go_loopw [8,9,10] (fun n _ _ wr=>∃k:Nat,k<=64/\n = .int .i64 k/\wr.heap[g3]? = some (.cells (wsC (wsU bs k)) 125 (0,0))/\z4 [g3] W wr) (fun n _ _ _=>64-(intOf n).toNat)
  case atStart=>exact⟨0,Nat.zero_le _,rfl,hn3,z4.refl _ _⟩
  case round =>
    obtain⟨k,hk,rfl,hc,hkp⟩:=hrel;by_cases hlt:k<64
    · by_cases h16:k<16
      · obtain⟨m,hm⟩:∃m:Nat,4*k=m:=⟨_,rfl⟩
        have em:4*(k:Int)=(m:Int):=by omega
        have hcw:=rword wr A cap 64 bs (h0.kept hkp (fun x hx=>by have:=hA x hx;simp;omega)) m (by omega) (by omega);have hnx:X5 bs m=f6 bs (xC bs k) k:=by unfold f6;rw[if_pos h16,hm]
        rw[hnx]at hcw;clear hnx hm;(go_wp2_with fail);refine hcw.mono ?_;rintro e w2 ⟨rfl,hb2⟩;have hgr:g3<wr.heap.size:=(Array.getElem?_eq_some_iff.1 hc).1;have hc2:=(hb2.block g3 hgr).trans hc;have x9:w2.cell? ⟨g3,k,none⟩=some (.int .u32 (nU ((wsU bs k).getD k 0))):=dX hc2 (by rw[fC _ hk];exact hlt);have f9:w2.frozen? ⟨g3,k,none⟩=false:=by simp[World.frozen?,hc2]
        have hc3:=zE hc2 k (.int .u32 (nU (f6 bs (xC bs k) k)));rw[g8,sO bs hlt]at hc3;have hk2:z4 [g3] W (w2.setCell ⟨g3,k,none⟩ (.int .u32 (nU (f6 bs (xC bs k) k)))):=z4.trans (z4.trans hkp (z4.of_below hb2) (by simp)) (z4.setCell w2 ⟨g3,k,none⟩ _) (by simp);have Hc3:=Lib.hid hc3;clear hcw hb2 hc2 hc3 hkp hc em;(go_wp2_with fail);go_roundw
        case rel=>exact⟨k+1,by omega,by go_num,Hc3.out,hk2⟩
        case measure=>simp[intOf];omega
      · have gt:∀j:Nat,j<k->wr.cell? ⟨g3,j,none⟩=some (.int .u32 (nU ((xC bs k).getD j 0))):=fun j hj=>by
          rw[dX hc (by rw[fC _ hk];omega),KP bs hj]
        obtain⟨a,ha⟩:∃a:Nat,k=a+16:=⟨k-16,by omega⟩
        obtain⟨a5,ha5⟩:∃a5:Nat,a+1=a5:=⟨_,rfl⟩
        obtain⟨a2,ha2⟩:∃a2:Nat,a+14=a2:=⟨_,rfl⟩
        obtain⟨a7,ha7⟩:∃a7:Nat,a+9=a7:=⟨_,rfl⟩
        have s15:(k:Int)-15=(a5:Int):=by omega
        have w15:IntKind.i64.wrap (a5:Int)=(a5:Int):=by simp[IntKind.wrap,IntKind.bits,IntKind.signed];omega
        have l15:(a5:Int)<64:=by omega
        have x15:=gt a5 (by omega);have s2:(k:Int)-2=(a2:Int):=by omega
        have w2:IntKind.i64.wrap (a2:Int)=(a2:Int):=by simp[IntKind.wrap,IntKind.bits,IntKind.signed];omega
        have l2:(a2:Int)<64:=by omega
        have x2:=gt a2 (by omega);have s16:(k:Int)-16=(a:Int):=by omega
        have w16:IntKind.i64.wrap (a:Int)=(a:Int):=by simp[IntKind.wrap,IntKind.bits,IntKind.signed];omega
        have l16:(a:Int)<64:=by omega
        have x16:=gt a (by omega);have s7:(k:Int)-7=(a7:Int):=by omega
        have w7:IntKind.i64.wrap (a7:Int)=(a7:Int):=by simp[IntKind.wrap,IntKind.bits,IntKind.signed];omega
        have l7:(a7:Int)<64:=by omega
        have x7:=gt a7 (by omega);have hnx:(xC bs k).getD a 0+sg0 ((xC bs k).getD a5 0)+(xC bs k).getD a7 0+sg1 ((xC bs k).getD a2 0)=f6 bs (xC bs k) k:=by
          unfold f6;rw[if_neg h16,show k-16=a by omega,show k-15=a5 by omega,show k-7=a7 by omega,show k-2=a2 by omega]
        obtain⟨z15,h15⟩:∃z,(xC bs k).getD a5 0=z:=⟨_,rfl⟩
        obtain⟨z2,h2⟩:∃z,(xC bs k).getD a2 0=z:=⟨_,rfl⟩
        obtain⟨z16,h3⟩:∃z,(xC bs k).getD a 0=z:=⟨_,rfl⟩
        obtain⟨z7,h4⟩:∃z,(xC bs k).getD a7 0=z:=⟨_,rfl⟩
        rw[h15]at x15 hnx;rw[h2]at x2 hnx;rw[h3]at x16 hnx;rw[h4]at x7 hnx;unfold sg0 sg1 at hnx;have Hnx:=Lib.hid hnx;have c1:=fun w=>mA z15 7 (by omega) (by omega) w;have c2:=fun w=>mA z15 18 (by omega) (by omega) w;have c3:=fun w=>mA z2 17 (by omega) (by omega) w;have c4:=fun w=>mA z2 19 (by omega) (by omega) w;clear gt hnx h15 h2 h3 h4 ha ha5 ha2 ha7;go_upto_region 9 with fail
        have hqn:g3∉([]:List Nat):=by simp
        refine xB (Kp ([]:List Nat) wr) false (by kernel_rfl) (by kernel_rfl) (by kernel_rfl) (by kernel_rfl) (zW ([]:List Nat) wr) ?_;have hne:=xA ([]:List Nat) wr;have hS:=zW ([]:List Nat) wr;have b0:=zM x16 hqn;have b1:=zM x7 hqn;have hcd:wr.drew.heap[g3]? = some (.cells (wsC (wsU bs k)) 125 (0,0)):=hc;have x9:wr.drew.cell? ⟨g3,k,none⟩=some (.int .u32 (nU ((wsU bs k).getD k 0))):=dX hcd (by rw[fC _ hk];exact hlt);have f9:wr.drew.frozen? ⟨g3,k,none⟩=false:=by simp[World.frozen?,hcd]
        repeat(refine z6 ?_ ?_;(focus(simp only[z3];done));intro K hK;go_simp;refine hK _ ?_;clear hK K)
        refine zH ?_ ?_ ?_;(focus(exact hS));(focus(simp only[z3];done));intro K hK;go_simp;refine(c1 _).mono ?_;rintro e w' ⟨rfl,rfl⟩;refine⟨_,rfl,hS,hK _ _ ?_⟩;clear hK K;repeat(refine z6 ?_ ?_;(focus(simp only[z3];done));intro K hK;go_simp;refine hK _ ?_;clear hK K)
        refine zH ?_ ?_ ?_;(focus(exact hS));(focus(simp only[z3];done));intro K hK;go_simp;refine(c2 _).mono ?_;rintro e w' ⟨rfl,rfl⟩;refine⟨_,rfl,hS,hK _ _ ?_⟩;clear hK K;repeat(refine z6 ?_ ?_;(focus(simp only[z3];done));intro K hK;go_simp;refine hK _ ?_;clear hK K)
        refine zH ?_ ?_ ?_;(focus(exact hS));(focus(simp only[z3];done));intro K hK;go_simp;refine(c3 _).mono ?_;rintro e w' ⟨rfl,rfl⟩;refine⟨_,rfl,hS,hK _ _ ?_⟩;clear hK K;repeat(refine z6 ?_ ?_;(focus(simp only[z3];done));intro K hK;go_simp;refine hK _ ?_;clear hK K)
        refine zH ?_ ?_ ?_;(focus(exact hS));(focus(simp only[z3];done));intro K hK;go_simp;refine(c4 _).mono ?_;rintro e w' ⟨rfl,rfl⟩;refine⟨_,rfl,hS,hK _ _ ?_⟩;clear hK K;repeat(refine z6 ?_ ?_;(focus(simp only[z3];done));intro K hK;go_simp;refine hK _ ?_;clear hK K)
        refine jS ?_ ?_;(focus(simp only[z3];done));intro K hK;go_simp;rw[Hnx.out];refine hK _ _ ?_;clear hK K;have hc2:=zE hcd k (.int .u32 (nU (f6 bs (xC bs k) k)));rw[g8,sO bs hlt]at hc2;have hk2:z4 [g3] W (wr.drew.setCell ⟨g3,k,none⟩ (.int .u32 (nU (f6 bs (xC bs k) k)))):=z4.trans (z4.trans hkp (z4.drew wr) (by simp)) (z4.setCell wr.drew ⟨g3,k,none⟩ _) (by simp);clear hne hS hqn x9 f9 hc hcd hkp Hnx b0 b1 x16 x7 x15 x2 c1 c2 c3 c4;(go_wp2_with fail);go_roundw
        case rel=>exact⟨k+1,by omega,by go_num,hc2,hk2⟩
        case measure=>simp[intOf];omega
    · have hk64:k=64:=by omega
      rw[hk64,KQ]at hc;have hws:=j3 bs 64;obtain⟨ws,hwse⟩:∃ws,xC bs 64=ws:=⟨_,rfl⟩
      have htu:m8 s bs=bX s (wB ws s 64):=by rw[<-hwse];rfl
      rw[hwse]at hc hws;have Hws:=Lib.hid hws;have Htu:=Lib.hid htu;have hn1r:=(hkp.block g (by omega) (by simp;omega)).trans hn1;have hn2r:=(hkp.block g2 (by omega) (by simp;omega)).trans hn2;have hkr:=(hkp.block gk (by omega) (by simp;omega)).trans hk0;have hbr:Below g w wr:=hb0.trans (hkp.below (B:=g) (by omega) (by simp;omega));have hg3r:g3<wr.heap.size:=by have:=hkp.size;omega
      have hrow:z9 wr g 0 8=some (wsC s.l):=by unfold z9;rw[hn1r];simp[s.l_len]
      have hnv:=heap_alloc_new wr (.cells (wsC s.l) 93);have hst:=tA wr wr.heap.size rfl (wsC (zU 8)) (by simp[fB]) s.l s.l_len 93;have hbv:Below g w (wr.alloc (.cells (wsC s.l) 93)):=hbr.alloc (by have:=hbr.size;have:=Hg.out;omega) _;have ha:=z4.alloc wr (.cells (wsC s.l) 93);have hn1v:=(ha.block g (by omega) (by simp)).trans hn1r;have hn2v:=(ha.block g2 (by omega) (by simp)).trans hn2r;have hkv:=(ha.block gk (by omega) (by simp)).trans hkr;have hcv:=(ha.block g3 hg3r (by simp)).trans hc;clear hwse htu hws hk64 hkp hn1 hn2 hn3 hk0 h0 hb0 hn1r hn2r hkr hbr hc ha;go_upto_region 11 with fail
      obtain⟨gv,hgv⟩:∃gv,wr.heap.size=gv:=⟨_,rfl⟩
      obtain⟨V,hV⟩:∃V,V=wr.alloc (.cells (wsC s.l) 93):=⟨_,rfl⟩
      rw[<-hV]at hnv hbv hn1v hn2v hkv hcv |-;rw[hgv]at hnv hg3r |-;have hgvV:gv<V.heap.size:=(Array.getElem?_eq_some_iff.1 hnv).1;clear hst hrow hV hgv;(go_wp2_with fail);go_loopw [12,13,14,15,16,17] (fun n _ _ _ _ _ wr=>∃(k:Nat) (z:StU),k<=64/\n = .int .i64 k/\Hid (wB ws s k=z)/\wr.heap[gv]? = some (.cells (wsC z.l) 93 (0,0))/\z4 [gv] V wr) (fun n _ _ _ _ _ _=>64-(intOf n).toNat)
      case atStart=>exact⟨0,s,by omega,rfl,(show _=_ from rfl),hnv,z4.refl _ _⟩
      case round =>
        clear hnv;obtain⟨k,z,hk,rfl,hz,hc,hkp⟩:=hrel;by_cases hlt:k<64
        · have hzn:wB ws s (k+1)=rndU z (kU.getD k 0) (ws.getD k 0):=by rw[wB,hz.out]
          obtain⟨za,zb,zc,zd,ze,zf,zg,zh⟩:=z;have ys:=fun j (hj:j<8)=>dX hc (k:=j) hj;have y0:=ys 0 (by omega);have y1:=ys 1 (by omega);have y2:=ys 2 (by omega);have y4:=ys 4 (by omega);have y5:=ys 5 (by omega);have y6:=ys 6 (by omega);have y7:=ys 7 (by omega);simp only[StU.l,List.getD_cons_zero,List.getD_cons_succ]at y0 y1 y2 y4 y5 y6 y7;have hkr:=(hkp.block gk (by omega) (by simp;omega)).trans hkv;have hcr:=(hkp.block g3 (by omega) (by simp;omega)).trans hcv;have yk:wr.cell? ⟨gk,k,none⟩=some (.int .u32 (nU (kU.getD k 0))):=dX hkr hlt;have yw:wr.cell? ⟨g3,k,none⟩=some (.int .u32 (nU (ws.getD k 0))):=dX hcr (by rw[Hws.out];exact hlt);obtain⟨kv,hkv'⟩:∃kv,kU.getD k 0=kv:=⟨_,rfl⟩
          obtain⟨wv,hwv⟩:∃wv,ws.getD k 0=wv:=⟨_,rfl⟩
          rw[hkv']at yk hzn;rw[hwv]at yw hzn;have Hzn:=Lib.hid hzn;have c6:=fun w=>mA ze 6 (by omega) (by omega) w;have c11:=fun w=>mA ze 11 (by omega) (by omega) w;have c25:=fun w=>mA ze 25 (by omega) (by omega) w;have c2:=fun w=>mA za 2 (by omega) (by omega) w;have c13:=fun w=>mA za 13 (by omega) (by omega) w;have c22:=fun w=>mA za 22 (by omega) (by omega) w;clear hzn hkv' hwv hkr hcr ys;go_upto_region 16 with fail
          have q1:gv∉([]:List Nat):=by simp
          have q2:gk∉([]:List Nat):=by simp
          have q3:g3∉([]:List Nat):=by simp
          refine zA (Kp ([]:List Nat) wr) false (by kernel_rfl) (by kernel_rfl) (by kernel_rfl) (zW ([]:List Nat) wr) ?_;have hne:=xA ([]:List Nat) wr;have hS:=zW ([]:List Nat) wr;have b1:=zM y7 q1;have b2:=zM y5 q1;have b3:=zM y6 q1;have b4:=zM yk q2;have b5:=zM yw q3;repeat(refine z6 ?_ ?_;(focus(simp only[z3];done));intro K hK;go_simp;refine hK _ ?_;clear hK K)
          refine zH ?_ ?_ ?_;(focus(exact hS));(focus(simp only[z3];done));intro K hK;go_simp;refine(c6 _).mono ?_;rintro e w' ⟨rfl,rfl⟩;refine⟨_,rfl,hS,hK _ _ ?_⟩;clear hK K;repeat(refine z6 ?_ ?_;(focus(simp only[z3];done));intro K hK;go_simp;refine hK _ ?_;clear hK K)
          refine zH ?_ ?_ ?_;(focus(exact hS));(focus(simp only[z3];done));intro K hK;go_simp;refine(c11 _).mono ?_;rintro e w' ⟨rfl,rfl⟩;refine⟨_,rfl,hS,hK _ _ ?_⟩;clear hK K;repeat(refine z6 ?_ ?_;(focus(simp only[z3];done));intro K hK;go_simp;refine hK _ ?_;clear hK K)
          refine zH ?_ ?_ ?_;(focus(exact hS));(focus(simp only[z3];done));intro K hK;go_simp;refine(c25 _).mono ?_;rintro e w' ⟨rfl,rfl⟩;refine⟨_,rfl,hS,hK _ _ ?_⟩;clear hK K;repeat(refine z6 ?_ ?_;(focus(simp only[z3];done));intro K hK;go_simp;refine hK _ ?_;clear hK K)
          refine zK ?_;intro hS;have hkd:z4 [gv] V wr.drew:=z4.trans hkp hS (by simp);have hcd:wr.drew.heap[gv]? = some (.cells (wsC (StU.l ⟨za,zb,zc,zd,ze,zf,zg,zh⟩)) 93 (0,0)):=hc;have y1:wr.drew.cell? ⟨gv,1,none⟩=some (.int .u32 (nU zb)):=y1;have y2:wr.drew.cell? ⟨gv,2,none⟩=some (.int .u32 (nU zc)):=y2;obtain⟨wd,hwd⟩:∃wd,wd=wr.drew:=⟨_,rfl⟩
          rw[<-hwd]at hkd hcd y1 y2 |-;clear hne hS b1 b2 b3 b4 b5 y0 y4 y5 y6 y7 yk yw c6 c11 c25 hwd hc hkp;go_upto_region 17 with fail
          refine zA (Kp ([]:List Nat) wd) false (by kernel_rfl) (by kernel_rfl) (by kernel_rfl) (zW ([]:List Nat) wd) ?_;have hne:=xA ([]:List Nat) wd;have hS:=zW ([]:List Nat) wd;have b1:=zM y1 q1;have b2:=zM y2 q1;repeat(refine z6 ?_ ?_;(focus(simp only[z3];done));intro K hK;go_simp;refine hK _ ?_;clear hK K)
          refine zH ?_ ?_ ?_;(focus(exact hS));(focus(simp only[z3];done));intro K hK;go_simp;refine(c2 _).mono ?_;rintro e w' ⟨rfl,rfl⟩;refine⟨_,rfl,hS,hK _ _ ?_⟩;clear hK K;repeat(refine z6 ?_ ?_;(focus(simp only[z3];done));intro K hK;go_simp;refine hK _ ?_;clear hK K)
          refine zH ?_ ?_ ?_;(focus(exact hS));(focus(simp only[z3];done));intro K hK;go_simp;refine(c13 _).mono ?_;rintro e w' ⟨rfl,rfl⟩;refine⟨_,rfl,hS,hK _ _ ?_⟩;clear hK K;repeat(refine z6 ?_ ?_;(focus(simp only[z3];done));intro K hK;go_simp;refine hK _ ?_;clear hK K)
          refine zH ?_ ?_ ?_;(focus(exact hS));(focus(simp only[z3];done));intro K hK;go_simp;refine(c22 _).mono ?_;rintro e w' ⟨rfl,rfl⟩;refine⟨_,rfl,hS,hK _ _ ?_⟩;clear hK K;repeat(refine z6 ?_ ?_;(focus(simp only[z3];done));intro K hK;go_simp;refine hK _ ?_;clear hK K)
          refine zK ?_;intro hS;have hke:z4 [gv] V wd.drew:=z4.trans hkd hS (by simp);have hce:wd.drew.heap[gv]? = some (.cells (wsC (mvU ⟨za,zb,zc,zd,ze,zf,zg,zh⟩ 7)) 93 (0,0)):=hcd;obtain⟨we,hwe⟩:∃we,we=wd.drew:=⟨_,rfl⟩
          rw[<-hwe]at hke hce |-;clear hne hS b1 b2 y1 y2 c2 c13 c22 hwe hkd hcd;obtain⟨tt,htt⟩:∃tt,zh+(dP ze 6 ^^^ dP ze 11 ^^^ dP ze 25)+(ze &&& zf ^^^ ~~~ze &&& zg)+kv+wv=tt:=⟨_,rfl⟩
          obtain⟨uu,huu⟩:∃uu,(dP za 2 ^^^ dP za 13 ^^^ dP za 22)+(za &&& zb ^^^ za &&& zc ^^^ zb &&& zc)=uu:=⟨_,rfl⟩
          rw[htt,huu];have hzz:rndU ⟨za,zb,zc,zd,ze,zf,zg,zh⟩ kv wv=⟨tt+uu,za,zb,zc,zd+tt,ze,zf,zg⟩:=by rw[<-htt,<-huu];rfl
          have Hzz:=Lib.hid hzz;clear htt huu hzz;go_upto_region 19 with fail
          go_loopw [17] (fun jv wr=>∃j:Nat,j<=7/\jv = .int .i64 j/\wr.heap[gv]? = some (.cells (wsC (mvU ⟨za,zb,zc,zd,ze,zf,zg,zh⟩ j)) 93 (0,0))/\z4 [gv] we wr) (fun jv _=>(intOf jv).toNat)
          case atStart=>exact⟨7,by omega,rfl,hce,z4.refl _ _⟩
          case round =>
            clear hce;obtain⟨j,hj,rfl,hcj,hkj⟩:=hrel;by_cases hj0:0<j
            · obtain⟨i,hi⟩:∃i,j=i+1:=⟨j-1,by omega⟩
              have es:(j:Int)-1=(i:Int):=by omega
              have li:(i:Int)<8:=by omega
              have lj:(j:Int)<8:=by omega
              have hml:=mvU_len ⟨za,zb,zc,zd,ze,zf,zg,zh⟩ hj;have x0:wr.cell? ⟨gv,i,none⟩=some (.int .u32 (nU ((StU.l ⟨za,zb,zc,zd,ze,zf,zg,zh⟩).getD i 0))):=by
                rw[dX hcj (by rw[hml];omega),hi,mvU_get _ (by omega)]
              have x1:wr.cell? ⟨gv,j,none⟩=some (.int .u32 (nU ((mvU ⟨za,zb,zc,zd,ze,zf,zg,zh⟩ j).getD j 0))):=dX hcj (by rw[hml];omega);have f1:wr.frozen? ⟨gv,j,none⟩=false:=by simp[World.frozen?,hcj]
              have hset:=mvU_set ⟨za,zb,zc,zd,ze,zf,zg,zh⟩ (j:=i) (by omega);rw[<-hi]at hset;obtain⟨y,hy⟩:∃y,(StU.l ⟨za,zb,zc,zd,ze,zf,zg,zh⟩).getD i 0=y:=⟨_,rfl⟩
              rw[hy]at hset x0;have hc2:=zE hcj j (.int .u32 (nU y));rw[g8,hset]at hc2;have hk2:z4 [gv] we (wr.setCell ⟨gv,j,none⟩ (.int .u32 (nU y))):=z4.trans hkj (z4.setCell wr ⟨gv,j,none⟩ _) (fun x hx=>.inl hx);have Hc2:=Lib.hid hc2;clear hset hy hc2 hcj hkj hml hi;(go_wp2_with fail);go_roundw
              case rel=>exact⟨i,by omega,rfl,Hc2.out,hk2⟩
              case measure=>simp[intOf];omega
            · have hj00:j=0:=by omega
              rw[hj00]at hcj;have hc0:wr.heap[gv]? = some (.cells (wsC [za,za,zb,zc,zd,ze,zf,zg]) 93 (0,0)):=hcj;have x4:wr.cell? ⟨gv,4,none⟩=some (.int .u32 (nU zd)):=dX hc0 (k:=4) (by simp);have f4:wr.frozen? ⟨gv,4,none⟩=false:=by simp[World.frozen?,hc0]
              have hc4:=zE hc0 4 (.int .u32 (nU (zd+tt)));rw[g8]at hc4;have x0:(wr.setCell ⟨gv,4,none⟩ (.int .u32 (nU (zd+tt)))).cell? ⟨gv,0,none⟩=some (.int .u32 (nU za)):=dX hc4 (k:=0) (by simp);have f0:(wr.setCell ⟨gv,4,none⟩ (.int .u32 (nU (zd+tt)))).frozen? ⟨gv,0,none⟩=false:=by simp[World.frozen?,hc4]
              have hc5:=zE hc4 0 (.int .u32 (nU (tt+uu)));rw[g8]at hc5;have hc6:((wr.setCell ⟨gv,4,none⟩ (.int .u32 (nU (zd+tt)))).setCell ⟨gv,0,none⟩ (.int .u32 (nU (tt+uu)))).heap[gv]? = some (.cells (wsC (StU.l ⟨tt+uu,za,zb,zc,zd+tt,ze,zf,zg⟩)) 93 (0,0)):=hc5;have hkf:z4 [gv] V ((wr.setCell ⟨gv,4,none⟩ (.int .u32 (nU (zd+tt)))).setCell ⟨gv,0,none⟩ (.int .u32 (nU (tt+uu)))):=z4.trans (z4.trans (z4.trans hke hkj (fun x hx=>.inl hx)) (z4.setCell _ _ _) (fun x hx=>.inl hx)) (z4.setCell _ _ _) (fun x hx=>.inl hx);have Hc6:=Lib.hid hc6;have Hkf:=Lib.hid hkf;have hzf:Hid (wB ws s (k+1)=⟨tt+uu,za,zb,zc,zd+tt,ze,zf,zg⟩):=Hzn.out.trans Hzz.out;clear hc0 hc4 hc5 hc6 hkf hcj hkj hj00 hke Hzn Hzz hz;(go_wp2_with fail);go_roundw
              case rel=>exact⟨k+1,_,by omega,by go_num,hzf,Hc6.out,Hkf.out⟩
              case measure=>simp[intOf];omega
        · have hk64:k=64:=by omega
          have hz64:wB ws s 64=z:=hk64 ▸ hz.out;have Htz:Hid (m8 s bs=bX s z):=(show _=_ by rw[Htu.out,hz64])
          have hn1r:=(hkp.block g (by omega) (by simp;omega)).trans hn1v;have hn2r:=(hkp.block g2 (by omega) (by simp;omega)).trans hn2v;have hbr:Below g w wr:=hbv.trans (hkp.below (B:=g) (by omega) (by simp;omega));have hgvr:gv<wr.heap.size:=by have:=hkp.size;omega
          clear hz64 hk64 hz hkp hn1v hn2v hbv hkv hcv;go_upto_region 25 with fail
          obtain⟨V2,hV2⟩:∃V2,V2=wr:=⟨wr,rfl⟩
          go_loopw [18] (fun jv wr=>∃j:Nat,j<=8/\jv = .int .i64 j/\wr.heap[gv]? = some (.cells (wsC ((bX s z).l.take j++z.l.drop j)) 93 (0,0))/\z4 [gv] V2 wr) (fun jv _=>8-(intOf jv).toNat)
          case atStart=>exact⟨0,by omega,rfl,(by rw[hc];rfl),by rw[hV2];exact z4.refl _ _⟩
          case round =>
            clear hc;rw[<-hV2]at hn1r hn2r hbr hgvr;clear hV2;obtain⟨j,hj,rfl,hc,hkp⟩:=hrel;by_cases hlt:j<8
            · have hml:((bX s z).l.take j++z.l.drop j).length=8:=by simp[StU.l_len];omega
              have y0:=dX hc (k:=j) (by rw[hml];exact hlt);rw[BC (L:=(bX s z).l) (M:=z.l) rfl hlt]at y0;have y1:wr.cell? ⟨g,j,none⟩=some (.int .u32 (nU (s.l.getD j 0))):=dX ((hkp.block g (by omega) (by simp;omega)).trans hn1r) hlt;have hset:=BB (L:=(bX s z).l) (M:=z.l) rfl hlt;have hz8:=aG (s:=s) (z:=z) hlt;obtain⟨c1,hc1⟩:∃c1,z.l.getD j 0=c1:=⟨_,rfl⟩
              obtain⟨c2,hc2⟩:∃c2,s.l.getD j 0=c2:=⟨_,rfl⟩
              rw[hc1,hc2]at hz8;rw[hc1]at y0;rw[hc2]at y1;rw[<-hz8]at hset;have Hset:=Lib.hid hset;clear hset hz8 hc1 hc2 hml;go_upto_region 27 with fail
              have q1:gv∉([]:List Nat):=by simp
              have q2:g∉([]:List Nat):=by simp
              refine xB (Kp ([]:List Nat) wr) false (by kernel_rfl) (by kernel_rfl) (by kernel_rfl) (by kernel_rfl) (zW ([]:List Nat) wr) ?_;have hne:=xA ([]:List Nat) wr;have hS:=zW ([]:List Nat) wr;have b0:=zM y0 q1;have b1:=zM y1 q2;have hcd:wr.drew.heap[gv]? = some (.cells (wsC ((bX s z).l.take j++z.l.drop j)) 93 (0,0)):=hc;have x9:wr.drew.cell? ⟨gv,j,none⟩=some (.int .u32 (nU c1)):=y0;have f9:wr.drew.frozen? ⟨gv,j,none⟩=false:=by simp[World.frozen?,hcd]
              repeat(refine z6 ?_ ?_;(focus(simp only[z3];done));intro K hK;go_simp;refine hK _ ?_;clear hK K)
              refine jS ?_ ?_;(focus(simp only[z3];done));intro K hK;go_simp;refine hK _ _ ?_;clear hK K;have hg2:=zE hcd j (.int .u32 (nU (c1+c2)));rw[g8,Hset.out]at hg2;have hk2:z4 [gv] V2 (wr.drew.setCell ⟨gv,j,none⟩ (.int .u32 (nU (c1+c2)))):=z4.trans (z4.trans hkp (z4.drew wr) (by simp)) (z4.setCell wr.drew ⟨gv,j,none⟩ _) (by simp);clear hne hS x9 f9 hc hcd hkp b0 b1 y0 y1 Hset;(go_wp2_with fail);go_roundw
              case rel=>exact⟨j+1,by omega,by go_num,hg2,hk2⟩
              case measure=>simp[intOf];omega
            · have hj8:j=8:=by omega
              have e8:(bX s z).l.take j++z.l.drop j=(bX s z).l:=by rw[hj8];rfl
              rw[e8]at hc;have hrow:z9 wr gv 0 8=some (wsC (bX s z).l):=by unfold z9;rw[hc];simp[StU.l_len]
              have hn2f:=(hkp.block g2 (by omega) (by simp;omega)).trans hn2r;have hsto:=yA (P:=Tryz.prog) r9 wr g2 (wsC (zU 8)) (wsC (bX s z).l) _ hn2f (by simp[fB]) (by simp[StU.l_len]) (lG _);have Hfin:=Lib.hid (setRow_heap wr g2 _ (wsC (bX s z).l) _ _ hn2f);have hkf:z4 [g2] wr (wr.setRow g2 (wsC (bX s z).l)):=⟨rfl,rfl,rfl,by simp[World.setRow],fun x _ hx=>setRow_other wr g2 x _ (by simpa using hx)⟩
              have hkz:=z4.trans (hkp.mono (S':=[g2,gv]) (by simp)) (hkf.mono (S':=[g2,gv]) (by simp)) (fun x hx=>.inl hx);have hbz:Below g w (wr.setRow g2 (wsC (bX s z).l)):=hbr.trans (hkz.below (by omega) (by simp;omega));have Hbz:=Lib.hid hbz;clear hkf hkz hbz hn2f hc e8 hj8 hkp hn1r hn2r hbr;(go_wp2_with fail);exact bodyPost_ret (results_cell_row Tryz.results32 _ _ g2 93 (wsC (bX s z).l) (0,0) _ rfl Hfin.out Tryz.underlying93 rfl (by rw[kV,StU.l_len];exact r9)) rfl ⟨by rw[Htz.out],by rw[Hg.out];exact Hbz.out⟩
theorem Y4 {w:World} {g k:Nat} {cs:Array Value} (hk:0<k) (hs:cs.size=k) (h:∀j,j<k->w.cell? ⟨g,j,none⟩=cs[j]?):z9 w g 0 k=some cs:=by
  have h0:=h (k-1) (by omega);rw[Array.getElem?_eq_getElem (by omega)]at h0;unfold z9;cases hg:w.heap[g]? with
  | none=>simp[World.cell?,hg]at h0
  | some ob =>
    cases ob with
    | cells c T fr =>
      have hc:∀j,j<k->c[j]? = cs[j]?:=fun j hj=>(by rw[<-h j hj,cell_of_row w g j _ _ _ hg]);have h1:=hc (k-1) (by omega);rw[Array.getElem?_eq_getElem (xs:=cs) (by omega)]at h1;have hsz:k<=c.size:=by have:=(Array.getElem?_eq_some_iff.1 h1).1;omega
      simp only[Nat.zero_add];rw[if_pos hsz];congr 1
      apply Array.ext
      · simp;omega
      · intro j h2 h3;have:=hc j (by omega);rw[Array.getElem?_eq_getElem (by omega),Array.getElem?_eq_getElem (by omega)]at this;simpa using Option.some.inj this
    | _=>simp[World.cell?,hg]at h0
theorem xT.row {w:World} (h:xT w):z9 w 0 0 8=some (wsC hU):=by
  refine Y4 (by omega) (by simp[hU]) fun j hj=>?_;rw[h.first j hj,g9 hU (by simpa[hU]using hj)]
theorem qv (w:World):(Instr.build 159 #[(0,.agg (wsC hU)),(3,.bool true)]).run Tryz.prog w = .ok (.agg (wsC qE.l ++ #[.slice none 0 0,.int .i64 0,.bool true])) w:=by kernel_rfl
abbrev haC (s:StU) (r:Value) (n:Int):Array Value:=wsC s.l ++ #[r,.int .i64 n,.bool true]
theorem s6 {w:World} {g:Nat} {s:StU} {r:Value} {n:Int} {T:TypeId} (h:w.heap[g]? = some (.cells (haC s r n) T (0,0))) :
    w.cell? ⟨g,8,none⟩=some r/\w.cell? ⟨g,9,none⟩=some (.int .i64 n)/\w.cell? ⟨g,10,none⟩=some (.bool true)/\∀j,w.frozen? ⟨g,j,none⟩=false:=by
  have e:(wsC s.l).size=8:=by rw[kV];rfl
  refine⟨?_,?_,?_,fun j=>by simp[World.frozen?,h]⟩ <;> rw[cell_of_row w g _ _ _ _ h,Array.getElem?_append_right (by omega),e] <;> rfl
theorem QN (s:StU) (r r':Value) (n:Int):(haC s r n).setIfInBounds 8 r'=haC s r' n:=by
  apply Array.ext';simp[StU.l,wsC]
theorem haC_set9 (s:StU) (r:Value) (n n':Int):(haC s r n).setIfInBounds 9 (.int .i64 n')=haC s r n':=by
  apply Array.ext';simp[StU.l,wsC]
theorem sha_new (w:World) (hv:xT w):Calls Tryz.prog 49 #[] w fun e w'=>e = .returned (.pointer (some ⟨w.heap.size,0,none⟩))/\w'=w.alloc (.cells (haC qE (.slice none 0 0) 0) 159):=by
  have hr:=hv.row;have hb:=qv w;go_enter Tryz.func49,Tryz.ntmps49
  (go_wp2_with fail);go_ret;exact⟨rfl,rfl⟩
theorem XJ (w:World) (g:Nat) (h:w.cell? ⟨g,10,none⟩=some (.bool true)):Calls Tryz.prog 83 #[.pointer (some ⟨g,0,none⟩)] w fun e w'=>e = .returned (.bool false)/\w=w':=by
  go_enter Tryz.func83,Tryz.ntmps83
  (go_wp2_with fail);go_ret;exact⟨rfl,rfl⟩
theorem aM {P:Program} {ops:Array Oper} {S:World->Prop} {cv fb:Bool} {Q:Act->World->Prop} {a:Act} {w:World} {rest:List Oper} {dst:Option Tmp} {sl x:Operand} {ty:TypeId} {pos:String} {after:Array Edge} {T U E:TypeId} {i:TypeInfo} (ht:P.underlying T=some (.slice E)) (hu:P.underlying U=some .string) (hi:P.info? E=some i) (hz:i.zero=some (.int .u8 0)) (hsize:i.size=1) (hby:i.bytes=1)
    {B:Nat} {A:Option Addr} {n cap:Nat} {bs:List UInt8} {s:ByteArray} (hs:a.eval sl = .slice A n cap) (hown:Own w B E 1 A n cap (yU bs)) (hx:a.eval x = .string s) (hbytes:n+s.size<=140737488355328) (hB:B<=w.heap.size)
    (h:∀A' cap' w',Own w' B E 1 A' (n+s.size) cap' (yU (bs++s.data.toList))->z4 (blk A) w w'->(∀x∈blk A',x∈blk A\/w.heap.size<=x)->S w'/\nF P ops S cv fb Q rest (a.put dst (.slice A' (n+s.size) cap')) w') :
    nF P ops S cv fb Q ({ dst:=dst,op:=.call { callee:=.builtin .append,args:=#[sl,x],argTypes:=#[T,U] },type:=ty,pos:=pos,after:=after,guard:=none } :: rest) a w:=by
  obtain⟨A',cap',w',hr,h1,h2,h3⟩:=iL ht hu hi hz hsize hby hown s hbytes hB ty;obtain⟨k1,k2⟩:=h A' cap' w' h1 h2 h3;exact rQ hs hx hr k1 k2
theorem SlW.hi2 {P:Program} {T E:TypeId} {k bytes:Nat} {w:World} {A:Option Addr} {n cap:Nat} {L:List (Array Value)} (I:yY P T E k bytes) (h:SlW w A n cap k L) {m:Nat} (hm:m<=n) :
    ∃A2 c2,(∀w0:World,(slS T (.slice A n cap) (some (.int .i64 m)) none none).run P w0 = .ok (.slice A2 (n-m) c2) w0)/\(∀w':World,SlR w' A n k L->SlW w' A2 (n-m) c2 k (L.drop m)):=by
  have hle:=h.le;refine⟨if cap=m then A else A.map fun a=>a.add (m*k),cap-m,fun w0=>?_,fun w' hL=>⟨?_,by omega,?_,?_⟩⟩
  · rw[dD I];unfold Instr.slice Instr.sliceBounds;simp only[Sem.run_bind,run_underlying I.und,Result.andThen_ok,Sem.run_pure,kN w0 m n hm,I.sizeOf_run w0,Option.isSome_none,Bool.false_eq_true,if_false]
  · by_cases hcm:cap=m
    · have:n-m=0:=by omega
      rw[this];exact⟨by rw[List.length_drop,hL.1];omega,fun h=>absurd h (by omega)⟩
    · rw[if_neg hcm];cases A with
      | none=>exact absurd (h.nil rfl) (by omega)
      | some a =>
        obtain⟨g,o,sp⟩:=a;have:sp=none:=h.plain _ rfl;subst this;have e:(⟨g,o,none⟩:Addr).add (m*k)=⟨g,o+m*k,none⟩:=by unfold Addr.add;split <;> simp_all
        simp only[Option.map_some,e];exact hL.drop_ hm
  · intro e;by_cases hcm:cap=m
    · omega
    · rw[if_neg hcm]at e;cases A with
      | none=>have:=h.nil rfl;omega
      | some a=>cases e
  · intro a e;by_cases hcm:cap=m
    · rw[if_pos hcm]at e;exact h.plain _ e
    · rw[if_neg hcm]at e;cases A with
      | none=>cases e
      | some a' =>
        have hp:=h.plain _ rfl;obtain⟨g,o,sp⟩:=a';simp only at hp;subst hp;simp only[Option.map_some]at e;injection e with e
        rw[<-e];unfold Addr.add;split <;> rfl
def pL (w:World) (p:Addr):Nat:=match w.cell? p with | some (.slice _ n _)=>n | _=>0
@[go_sem ↓] theorem slU8_rw (x:Value) (lo hi mx:Option Value):Instr.sliceAt 89 x lo hi mx=slS 89 x lo hi mx:=rfl
@[go_sem] theorem slU8_nil (w:World):(slS 89 (.slice none 0 0) none (some (.int .i64 0)) (some (.int .i64 0))).run Tryz.prog w = .ok (.slice none 0 0) w:=by kernel_rfl
theorem zm (w:World) (g:Nat) (T:TypeId) (st:StU) (s:ByteArray) (hv:xT w) (hg:w.heap[g]? = some (.cells (haC st (.slice none 0 0) 0) T (0,0))) (hs:s.size<=1000000) (hgf:g≠0) (hgk:g≠1) :
    Calls Tryz.prog 50 #[.pointer (some ⟨g,0,none⟩),.string s] w fun e w'=>e = .returned (.int .i64 s.size)/\∃A cap,w'.heap[g]? = some (.cells (haC (vO (s.size / 64) st s.data.toList) (.slice A (s.size % 64) cap) s.size) T (0,0))/\SlW w' A (s.size % 64) cap 1 (yU (s.data.toList.drop (64*(s.size / 64))))/\z4 [g] w w':=by
  have hgl:g<w.heap.size:=(Array.getElem?_eq_some_iff.1 hg).1;obtain⟨c8,c9,c10,cf⟩:=s6 hg;have f9:=cf 9;have cn:=XJ w g c10;obtain⟨l,hl⟩:∃l,s.data.toList=l:=⟨_,rfl⟩
  have hll:l.length=s.size:=by rw[<-hl];rfl
  rw[hl];have Hll:=Lib.hid hll;have Hl:=Lib.hid hl;clear hl hll;go_enter Tryz.func50,Tryz.ntmps50
  (go_wp2_with fail);refine cn.mono ?_;rintro e w1 ⟨rfl,rfl⟩;clear cn;go_upto_region 4 with fail
  have hg9:=zE hg 9 (.int .i64 s.size);rw[haC_set9]at hg9;have hk9:=z4.setCell w ⟨g,9,none⟩ (.int .i64 s.size);obtain⟨W,hW⟩:∃W,W=w.setCell ⟨g,9,none⟩ (.int .i64 s.size):=⟨_,rfl⟩
  rw[<-hW]at hg9 hk9 |-;have hvW:xT W:=hv.kept hk9 (by simp;omega) (by simp;omega);have hgW:g<W.heap.size:=(Array.getElem?_eq_some_iff.1 hg9).1;clear hW hg c8 c9 c10 cf f9 hv;obtain⟨c8,c9,c10,cf⟩:=s6 hg9;obtain⟨i,i1,i2,i3,i4⟩:=J3;have hqn:g∉([]:List Nat):=by simp
  refine xB (Kp ([]:List Nat) W) false (by kernel_rfl) (by kernel_rfl) (by kernel_rfl) (by kernel_rfl) (zW ([]:List Nat) W) ?_;have hne:=xA ([]:List Nat) W;have hS:=zW ([]:List Nat) W;have b0:=zM c8 hqn;repeat(refine z6 ?_ ?_;(focus(simp only[z3];done));intro K hK;go_simp;refine hK _ ?_;clear hK K)
  have ho:Own W.drew W.drew.heap.size 5 1 none 0 0 (yU []):=Own.nil _ _ _ _;refine aM Tryz.underlying89 Tryz.underlying9 i1 i2 i3 i4 rfl ho rfl (by omega) (Nat.le_refl _) ?_;intro A' cap' w2 ho2 hk2 hsub2;have hS2:z4 [] W w2:=z4.trans (z4.drew W) hk2 (by simp[blk]);refine zZ hS2 (fun hS3=>?_);repeat(refine z6 ?_ ?_;(focus(simp only[z3];done));intro K hK;go_simp;refine hK _ ?_;clear hK K)
  have hg2:=(hS2.block g hgW hqn).trans hg9;obtain⟨d8,_,_,df⟩:=s6 hg2;have f8:=df 8;refine jS ?_ ?_;(focus(simp only[z3];done));intro K hK;go_simp;refine hK _ _ ?_;clear hK K;simp only[Nat.zero_add,List.nil_append]at ho2 |-;have hg3:=zE hg2 8 (.slice A' s.size cap');rw[QN]at hg3;have hk3:=z4.setCell w2 ⟨g,8,none⟩ (.slice A' s.size cap');have hbA:∀x∈blk A',x≠g:=fun x hx=>(by have:=(ho2.at_base hx).1;have:W.heap.size<=W.drew.heap.size:=Nat.le_refl _;omega);have hkz:z4 [g] w (w2.setCell ⟨g,8,none⟩ (.slice A' s.size cap')):=z4.trans (z4.trans hk9 (hS2.mono (S':=[g]) (by simp)) (fun x hx=>.inl hx)) hk3 (fun x hx=>.inl hx);have ho3:=(ho2.kept hk3 (fun x hx=>by simpa using hbA x hx)).slw;have hv3:xT (w2.setCell ⟨g,8,none⟩ (.slice A' s.size cap')):=(hvW.kept hS2 (by simp) (by simp)).kept hk3 (by simp;omega) (by simp;omega);clear ho2 ho hk2 hsub2 hS hne hS3 b0 c8 c9 c10 cf d8 df f8 hg2 hk3 hg9 hk9 hvW hqn;obtain⟨Z,hZ⟩:∃Z,Z=w2.setCell ⟨g,8,none⟩ (.slice A' s.size cap'):=⟨_,rfl⟩
  rw[<-hZ]at hg3 hkz ho3 hv3 |-;have hgZ:g<Z.heap.size:=(Array.getElem?_eq_some_iff.1 hg3).1;clear hZ hS2;rw[Hl.out]at ho3;go_upto_region 5 with fail
  go_loopw [] (fun wr=>∃(k:Nat) (A3:Option Addr) (cap3:Nat),64*k<=s.size/\wr.heap[g]? = some (.cells (haC (vO k st l) (.slice A3 (s.size-64*k) cap3) s.size) T (0,0))/\SlW wr A3 (s.size-64*k) cap3 1 (yU (l.drop (64*k)))/\Hid (∀w',SlR w' A' s.size 1 (yU l)->SlR w' A3 (s.size-64*k) 1 (yU (l.drop (64*k))))/\z4 [g] Z wr) (fun wr=>pL wr ⟨g,8,none⟩)
  case atStart=>exact⟨0,A',cap',by omega,hg3,ho3,(show ∀w',_ from fun w' h=>h),z4.refl _ _⟩
  case round =>
    obtain⟨k,A3,cap3,hk,hgr,hsl,hrd,hkp⟩:=hrel;obtain⟨c8,c9,c10,cf⟩:=s6 hgr;obtain⟨n,hn⟩:∃n,s.size-64*k=n:=⟨_,rfl⟩
    rw[hn]at hgr hsl c8 hrd;have Hn:=Lib.hid hn;have Hm:=Lib.hid (show pL wr ⟨g,8,none⟩=n by unfold pL;rw[c8]);have hvr:xT wr:=hv3.kept hkp (by simp;omega) (by simp;omega);clear hn;by_cases hlt:64<=n
    · obtain⟨A4,c4,hrun,hrd4⟩:=hsl.hi2 jZ (m:=64) hlt;have hlo:∀w0:World,(slS 89 (.slice A3 n cap3) none (some (.int .i64 64)) none).run Tryz.prog w0 = .ok (.slice A3 64 cap3) w0:=fun w0=>hsl.lo jZ (m:=64) hlt w0;have hrun':∀w0:World,(slS 89 (.slice A3 n cap3) (some (.int .i64 64)) none none).run Tryz.prog w0 = .ok (.slice A4 (n-64) c4) w0:=hrun;have hb64:kQ wr A3 64 ((l.drop (64*k)).take 64):=by
        have h1:=hsl.rd.take_ (m:=64) hlt;unfold yU at h1;rw[<-List.map_take]at h1;exact h1
      have hqn:g∉([]:List Nat):=by simp
      have ct:=X8 wr.drew g T (vO k st l) #[.slice A3 n cap3,.int .i64 s.size,.bool true] A3 cap3 ((l.drop (64*k)).take 64) (hvr.kept (z4.drew wr) (by simp) (by simp)) hgr (hb64.kept (z4.drew wr) (by simp)) hgf hgk;clear hrun hb64;go_upto_region 6 with fail
      refine xB (Kp ([]:List Nat) wr) false (by kernel_rfl) (by kernel_rfl) (by kernel_rfl) (by kernel_rfl) (zW ([]:List Nat) wr) ?_;have hne:=xA ([]:List Nat) wr;have hS:=zW ([]:List Nat) wr;have b0:=zM c8 hqn;repeat(refine z6 ?_ ?_;(focus(simp only[z3];done));intro K hK;go_simp;refine hK _ ?_;clear hK K)
      refine jS ?_ ?_;(focus(simp only[z3];done));intro K hK;go_simp;refine ct.mono ?_;rintro e w5 ⟨rfl,hg5,hk5⟩;refine⟨_,rfl,hK _ _ ?_⟩;clear hK K ct hne hS b0 c9 c10 cf hgr hlo;have hst:m8 (vO k st l) ((l.drop (64*k)).take 64)=vO (k+1) st l:=(rL k st l).symm;rw[hst]at hg5;have hg5':w5.heap[g]? = some (.cells (haC (vO (k+1) st l) (.slice A3 n cap3) s.size) T (0,0)):=hg5;have hkd:z4 [g] wr w5:=z4.trans ((z4.drew wr).mono (S':=[g]) (by simp)) hk5 (fun x hx=>.inl hx);obtain⟨c8,_,_,cf⟩:=s6 hg5';have f8:=cf 8;have hg6:=zE hg5' 8 (.slice A4 (n-64) c4);rw[QN]at hg6;have hk6:=z4.setCell w5 ⟨g,8,none⟩ (.slice A4 (n-64) c4);have hkf:z4 [g] Z (w5.setCell ⟨g,8,none⟩ (.slice A4 (n-64) c4)):=z4.trans (z4.trans hkp hkd (fun x hx=>.inl hx)) hk6 (fun x hx=>.inl hx);have hl0:=ho3.rd.kept hkf (fun x hx=>by simpa using hbA x hx);have hsl6:=hrd4 _ (hrd.out _ hl0);have hdd:(yU (l.drop (64*k))).drop 64=yU (l.drop (64*(k+1))):=by
        unfold yU;rw[<-List.map_drop,List.drop_drop,show 64*k+64=64*(k+1) by omega]
      rw[hdd]at hsl6;have hrd6:Hid (∀w',SlR w' A' s.size 1 (yU l)->SlR w' A4 (n-64) 1 (yU (l.drop (64*(k+1))))):=(show ∀w',_->_ from fun w' h=>by
        have:=(hrd4 w' (hrd.out w' h)).rd;rwa [hdd]at this)
      have Hsl6:=Lib.hid hsl6;have Hm2:Hid (pL (w5.setCell ⟨g,8,none⟩ (.slice A4 (n-64) c4)) ⟨g,8,none⟩=n-64):=by
        show _=_;obtain⟨e8,_⟩:=s6 hg6;unfold pL;rw[e8]
      have hn2:s.size-64*(k+1)=n-64:=by have:=Hn.out;omega
      have Hn2:=Lib.hid hn2;have hle2:64*(k+1)<=s.size:=by have:=Hn.out;omega
      clear hst hg5 hg5' hkd hk6 hl0 hsl6 hdd hn2 hrd4 hsl hvr hkp hrd hk5;(go_wp2_with fail);go_roundw
      case rel=>exact⟨k+1,A4,c4,hle2,(by rw[Hn2.out];exact hg6),(by rw[Hn2.out];exact Hsl6.out),(by rw[Hn2.out];exact hrd6),hkf⟩
      case measure=>rw[Hm.out,Hm2.out];omega
    · have hkk:k=s.size / 64:=by have:=Hn.out;omega
      have hnm:n=s.size % 64:=by have:=Hn.out;omega
      have hkf:z4 [g] w wr:=z4.trans hkz hkp (fun x hx=>.inl hx);rw[hnm]at hsl hgr;rw[hkk]at hgr hsl;have Hgr:=Lib.hid hgr;have Hsl:=Lib.hid hsl;clear hkk hnm hgr hsl hrd hvr c9 c10 cf;(go_wp2_with fail);go_ret;exact⟨rfl,A3,cap3,Hgr.out,Hsl.out,hkf⟩
end Go.Proofs.YtgedpfebepdcmaaGreatDoor
