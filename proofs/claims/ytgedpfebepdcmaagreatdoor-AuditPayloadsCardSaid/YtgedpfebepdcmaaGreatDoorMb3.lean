/- Part 3 of the texts that lead to this claim: the walks of the functions and the plain law, in order. -/
import Derived.Test.YtgedpfebepdcmaaGreatDoorMb2
import Derived.IntWalk
namespace Go.Proofs.YtgedpfebepdcmaaGreatDoor
open Go.RowKit
set_option maxRecDepth 100000
set_option maxHeartbeats 8000000
structure OpP where
  k:Int
  n:Int
  key:ByteArray
  val:ByteArray
  ref:zJ
  refs:Value
def zD (x:OpP):Array Value:=#[.int .i64 x.k] ++ #[.int .i64 x.n] ++ #[.string x.key] ++ #[.string x.val]++idC x.ref ++ #[x.refs]
@[simp] theorem qG (x:OpP):(zD x).size=37:=by simp[zD]
@[go_sem] theorem qH (x:OpP):(zD x)[0]? = some (.int .i64 x.k):=by first | (simp[zD,Array.getElem?_append];done) | (rw[show zD x=((#[]:Array Value)) ++ #[.int .i64 x.k]++(#[.int .i64 x.n] ++ #[.string x.key] ++ #[.string x.val]++idC x.ref ++ #[x.refs])from by apply Array.ext';simp[zD]];exact xS _ _ _ _ (by simp))
@[go_sem] theorem opPC_gg0 (x:OpP) (h:0<(zD x).size):(zD x)[0]'h = .int .i64 x.k:=Option.some.inj ((Array.getElem?_eq_getElem h).symm.trans (qH x))
@[go_sem] theorem qW (x:OpP):(zD x)[1]? = some (.int .i64 x.n):=by first | (simp[zD,Array.getElem?_append];done) | (rw[show zD x=(#[.int .i64 x.k]) ++ #[.int .i64 x.n]++(#[.string x.key] ++ #[.string x.val]++idC x.ref ++ #[x.refs])from by apply Array.ext';simp[zD]];exact xS _ _ _ _ (by simp))
@[go_sem] theorem opPC_gg1 (x:OpP) (h:1<(zD x).size):(zD x)[1]'h = .int .i64 x.n:=Option.some.inj ((Array.getElem?_eq_getElem h).symm.trans (qW x))
@[go_sem] theorem qV (x:OpP):(zD x)[2]? = some (.string x.key):=by first | (simp[zD,Array.getElem?_append];done) | (rw[show zD x=(#[.int .i64 x.k] ++ #[.int .i64 x.n]) ++ #[.string x.key]++(#[.string x.val]++idC x.ref ++ #[x.refs])from by apply Array.ext';simp[zD]];exact xS _ _ _ _ (by simp))
@[go_sem] theorem opPC_gg2 (x:OpP) (h:2<(zD x).size):(zD x)[2]'h = .string x.key:=Option.some.inj ((Array.getElem?_eq_getElem h).symm.trans (qV x))
@[go_sem] theorem qU (x:OpP):(zD x)[3]? = some (.string x.val):=by first | (simp[zD,Array.getElem?_append];done) | (rw[show zD x=(#[.int .i64 x.k] ++ #[.int .i64 x.n] ++ #[.string x.key]) ++ #[.string x.val]++(idC x.ref ++ #[x.refs])from by apply Array.ext';simp[zD]];exact xS _ _ _ _ (by simp))
@[go_sem] theorem opPC_gg3 (x:OpP) (h:3<(zD x).size):(zD x)[3]'h = .string x.val:=Option.some.inj ((Array.getElem?_eq_getElem h).symm.trans (qU x))
@[go_sem] theorem jB (x:OpP):(zD x).extract 4 36=idC x.ref:=by
  have h:zD x=(#[.int .i64 x.k] ++ #[.int .i64 x.n] ++ #[.string x.key] ++ #[.string x.val])++idC x.ref++(#[x.refs]):=by first | (simp[zD,Array.append_assoc];done) | (apply Array.ext';simp[zD];done)
  rw[h];exact fM _ _ _ _ _ (by simp) (by simp)
@[go_sem] theorem xX (x:OpP):(zD x)[36]? = some (x.refs):=by first | (simp[zD,Array.getElem?_append];done) | (rw[show zD x=(#[.int .i64 x.k] ++ #[.int .i64 x.n] ++ #[.string x.key] ++ #[.string x.val]++idC x.ref) ++ #[x.refs]++((#[]:Array Value))from by apply Array.ext';simp[zD]];exact xS _ _ _ _ (by simp))
@[go_sem] theorem opPC_gg36 (x:OpP) (h:36<(zD x).size):(zD x)[36]'h=x.refs:=Option.some.inj ((Array.getElem?_eq_getElem h).symm.trans (xX x))
@[go_sem] theorem opPC_all (x:OpP):(zD x).extract 0 37=zD x:=by have:=Array.extract_size (xs:=zD x);rwa [qG]at this
theorem jC (x:OpP) (hrefs:x.refs.oneCell'=true):∀u∈(zD x).toList,u.oneCell'=true:=by
  intro u hu;simp only[zD,Array.toList_append,List.mem_append]at hu;rcases hu with((((hu | hu) | hu) | hu) | hu) | hu
  · simp at hu;subst hu;rfl
  · simp at hu;subst hu;rfl
  · simp at hu;subst hu;rfl
  · simp at hu;subst hu;rfl
  · exact qJ _ u hu
  · simp at hu;subst hu;exact hrefs
def yJ:OpP:=⟨0,0,⟨#[]⟩,⟨#[]⟩,id0,(.slice none 0 0)⟩
theorem yV:(Tryz.prog.info? 105).map (·.size)=some 37:=by kernel_rfl
@[go_sem ↓] theorem zeroOpP_run (w:World):(zeroValue 105).run Tryz.prog w = .ok (.agg (zD yJ)) w:=by
  have h:(Tryz.prog.info? 105).bind (·.zero)=some (.agg (zD yJ)):=by kernel_rfl
  cases hi:Tryz.prog.info? 105 with
  | none=>rw[hi]at h;cases h
  | some i =>
    rw[hi]at h;have hz:i.zero=some (.agg (zD yJ)):=h;simp[zeroValue,typeInfo,hi,hz]
@[go_sem ↓] theorem loadOpP_rw (a:Addr):loadVar 105 a=ldS 105 a:=rfl
@[go_sem ↓] theorem storeOpP_rw (a:Addr) (v:Value):storeVar 105 a v=stS 105 a v:=rfl
@[go_sem] theorem loadOpP_run (w:World) (g o:Nat):(ldS 105 ⟨g,o,none⟩).run Tryz.prog w=match z9 w g o 37 with | some cs=>.ok (.agg cs) w | none=>(loadVar 105 ⟨g,o,none⟩).run Tryz.prog w :=
  vD Tryz.underlying105 rfl yV w g o
@[go_sem] theorem nH (w:World) (g:Nat) (hg:g=w.heap.size) (z:Array Value) (hz:z.size=37) (x:OpP) (hrefs:x.refs.oneCell'=true) (e:TypeId):(stS 105 ⟨g,0,none⟩ (.agg (zD x))).run Tryz.prog (w.alloc (.cells z e)) = .ok () (w.alloc (.cells (zD x) e)) :=
  hg ▸ qB yV w z (zD x) hz (qG x) (jC x hrefs)
@[go_sem ↓] theorem buildOpP_rw (parts:Array (Nat×Value)):Instr.build 105 parts=bdS 105 parts:=rfl
@[go_sem] theorem buildOpP_e (w:World):(bdS 105 #[]).run Tryz.prog w = .ok (.agg (zD yJ)) w:=by kernel_rfl
@[go_sem] theorem buildOpP_k (a0:Int) (w:World):(bdS 105 #[(0,.int .i64 a0)]).run Tryz.prog w = .ok (.agg (zD ⟨a0,0,⟨#[]⟩,⟨#[]⟩,id0,.slice none 0 0⟩)) w:=by kernel_rfl
@[go_sem] theorem buildOpP_kn (a0 a1:Int) (w:World):(bdS 105 #[(0,.int .i64 a0),(1,.int .i64 a1)]).run Tryz.prog w = .ok (.agg (zD ⟨a0,a1,⟨#[]⟩,⟨#[]⟩,id0,.slice none 0 0⟩)) w:=by kernel_rfl
def opC (o:OpV) (A:Option Addr) (c:Nat):Array Value:=zD ⟨o.k,o.n,o.key,o.val,o.ref,.slice A o.refs.length c⟩
theorem lM (k n n':Int) (key val:ByteArray) (d:zJ) (R:Value):(zD ⟨k,n,key,val,d,R⟩).setIfInBounds 1 (.int .i64 n')=zD ⟨k,n',key,val,d,R⟩:=by apply Array.ext';simp[zD]
theorem pX (k n:Int) (key key' val:ByteArray) (d:zJ) (R:Value):(zD ⟨k,n,key,val,d,R⟩).setIfInBounds 2 (.string key')=zD ⟨k,n,key',val,d,R⟩:=by apply Array.ext';simp[zD]
theorem gF (k n:Int) (key val val':ByteArray) (d:zJ) (R:Value):(zD ⟨k,n,key,val,d,R⟩).setIfInBounds 3 (.string val')=zD ⟨k,n,key,val',d,R⟩:=by apply Array.ext';simp[zD]
theorem mU (k n:Int) (key val:ByteArray) (d:zJ) (R R':Value):(zD ⟨k,n,key,val,d,R⟩).setIfInBounds 36 R'=zD ⟨k,n,key,val,d,R'⟩:=by apply Array.ext';simp[zD]
theorem yv (k n:Int) (key val:ByteArray) (d d':zJ) (R:Value):((zD ⟨k,n,key,val,d,R⟩).toList.take (4+0)++(idC d').toList++(zD ⟨k,n,key,val,d,R⟩).toList.drop (4+0+(idC d').toList.length)).toArray=zD ⟨k,n,key,val,d',R⟩:=by
  apply Array.ext';have h1:(idC d').toList.length=32:=by simp
  have h2:(idC d).toList.length=32:=by simp
  rw[h1];have e:(zD ⟨k,n,key,val,d,R⟩).toList = [.int .i64 k,.int .i64 n,.string key,.string val]++((idC d).toList ++ [R]):=by simp[zD]
  have e':(zD ⟨k,n,key,val,d',R⟩).toList = [.int .i64 k,.int .i64 n,.string key,.string val]++((idC d').toList ++ [R]):=by simp[zD]
  rw[e,e'];simp[List.drop_append,h2]
theorem pP {w:World} {g:Nat} {k n:Int} {key val:ByteArray} {d:zJ} {R:Value} (d':zJ) (h:w.heap[g]? = some (.cells (zD ⟨k,n,key,val,d,R⟩) 105 (0,0))) :
    (stS 24 ⟨g,4,none⟩ (.agg (idC d'))).run Tryz.prog w = .ok () (w.setRow g (zD ⟨k,n,key,val,d',R⟩)):=by
  have hst:=run_storeCells_at Tryz.prog g 4 105 (idC d').toList 0 (zD ⟨k,n,key,val,d,R⟩) w h (by simp) (qJ d');rw[yv]at hst;unfold stS storeVar;have hi:=kI;cases hinfo:Tryz.prog.info? 24 with
  | none=>rw[hinfo]at hi;cases hi
  | some i =>
    rw[hinfo]at hi;have hk:i.size=32:=by simpa using hi
    simp[Value.cells,sizeOf,typeInfo,hinfo,hk];simpa using hst
@[go_sem] theorem storeOpA_run (w:World) (g:Nat) (hg:g=w.heap.size) (z:Array Value) (hz:z.size=37) (k n:Int) (key val:ByteArray) (d:zJ) (A:Option Addr) (m c:Nat) (e:TypeId):(stS 105 ⟨g,0,none⟩ (.agg (zD ⟨k,n,key,val,d,.slice A m c⟩))).run Tryz.prog (w.alloc (.cells z e)) = .ok () (w.alloc (.cells (zD ⟨k,n,key,val,d,.slice A m c⟩) e)):=nH w g hg z hz _ rfl e
theorem Q1 (k:Int) (w:World):Calls Tryz.prog 153 #[.int .i64 k] w fun e w'=>e = .returned (.int .i64 (if k=1 then 2147483648 else 0))/\w=w':=by
  by_cases h:k=1
  · subst h;go_enter Tryz.func153,Tryz.ntmps153
    (go_wp2_with fail);go_ret;exact⟨rfl,rfl⟩
  · have hb:(k==1)=false:=by simpa using h
    have Hk:=Lib.hid h;clear h;go_enter Tryz.func153,Tryz.ntmps153
    (go_wp2_with fail);go_ret;exact⟨yB (by simp[Hk.out]),rfl⟩
theorem take_1 (w:World) (g:Nat) (l:List UInt8) (e:Int) (h:jQ w g l e) (hp:yZ w) :
    Calls Tryz.prog 124 #[.pointer (some ⟨g,0,none⟩),.int .i64 1] w fun en w'=>en = .returned (.agg (opC (yT 1 l e).o none 0))/\jQ w' g (yT 1 l e).l (yT 1 l e).e/\z4 [g] w w':=by
  have hg2:((w.alloc (.cells (zD yJ) 105)).alloc (.cells (zD ⟨1,0,⟨#[]⟩,⟨#[]⟩,id0,.slice none 0 0⟩) 105)).heap[w.heap.size]? = some (.cells (zD yJ) 105 (0,0)):=by
    rw[Below.heap_alloc _ _ _ (by simp)];exact heap_alloc_new w _
  have hg3:((w.alloc (.cells (zD yJ) 105)).alloc (.cells (zD ⟨1,0,⟨#[]⟩,⟨#[]⟩,id0,.slice none 0 0⟩) 105)).heap[w.heap.size+1]? = some (.cells (zD ⟨1,0,⟨#[]⟩,⟨#[]⟩,id0,.slice none 0 0⟩) 105 (0,0)):=by
    have:=heap_alloc_new (w.alloc (.cells (zD yJ) 105)) (.cells (zD ⟨1,0,⟨#[]⟩,⟨#[]⟩,id0,.slice none 0 0⟩) 105);simpa using this
  have hb0:Below w.heap.size w ((w.alloc (.cells (zD yJ) 105)).alloc (.cells (zD ⟨1,0,⟨#[]⟩,⟨#[]⟩,id0,.slice none 0 0⟩) 105)):=((Below.refl _ _).alloc (Nat.le_refl _) _).alloc (by simp) _;have hof:=g5 1 _ (hp.below hb0) (by omega);rw[show kC 1=1 from rfl]at hof;have hE:=h.below hb0;have hgl:=h.lt;go_enter Tryz.func124,Tryz.ntmps124
  go_upto_region 2 with fail
  obtain⟨ga,hga⟩:∃ga,w.heap.size=ga:=⟨_,rfl⟩
  have Hga:=Lib.hid hga;obtain⟨W,hW⟩:∃W,W=((w.alloc (.cells (zD yJ) 105)).alloc (.cells (zD ⟨1,0,⟨#[]⟩,⟨#[]⟩,id0,.slice none 0 0⟩) 105)):=⟨_,rfl⟩
  rw[<-hW]at hb0 hg2 hg3 hE hof |-;rw[hga]at hg2 hg3 hgl |-;clear hW h hp hga;have hK0:z4 [g,ga+1] w W:=(z4.of_below hb0).mono (by simp);have hngb:g∉[ga+1]:=by simp;omega
  have hnga:ga∉[g,ga+1]:=by simp;omega
  have hngc:ga+1∉[g]:=by simp;omega
  have hgal:ga+1<W.heap.size:=(Array.getElem?_eq_some_iff.1 hg3).1;(go_wp2_with fail);refine hof.mono ?_;rintro en w1 ⟨rfl,rfl⟩;clear hof;(go_wp2_with fail);refine(KZ _ g _ _ hE).mono ?_;rintro en w3 ⟨rfl,hE3,hk23⟩;have hn4:=jI 4 (l) (e);obtain⟨nv,hnv⟩:∃nv,xO 4 (l) (e)=nv:=⟨_,rfl⟩
  rw[hnv]at hn4 |-;have Hnv:=Lib.hid hnv;clear hnv;have hn5:nv<4294967296:=by simpa using hn4
  have h83:=(hk23.block (ga+1) hgal hngc).trans hg3;have hc83:∀j,w3.frozen? ⟨ga+1,j,none⟩=false:=fun j=>(by simp[World.frozen?,h83]);have x0:w3.cell? ⟨ga+1,1,none⟩=some (.int .i64 0):=by rw[cell_of_row w3 (ga+1) _ _ _ _ h83];simp[go_sem]
  have f0:=hc83 1;have hg3n:=zE h83 1 (.int .i64 ((nv:Int)-2147483648));rw[lM]at hg3n;have hks:=z4.setCell w3 ⟨ga+1,1,none⟩ (.int .i64 ((nv:Int)-2147483648));have hEn:=jQ.kept hE3 hks hngb;have hg2n:=((z4.trans (hk23.mono (S':=[g,ga+1]) (by simp)) (hks.mono (S':=[g,ga+1]) (by simp)) (fun x hx=>.inl hx)).block ga (by omega) hnga).trans hg2;have hK0n:z4 [g,ga+1] w (w3.setCell ⟨ga+1,1,none⟩ (.int .i64 ((nv:Int)-2147483648))):=z4.trans (z4.trans hK0 (hk23.mono (S':=[g,ga+1]) (by simp)) (fun x hx=>.inl hx)) (hks.mono (S':=[g,ga+1]) (by simp)) (fun x hx=>.inl hx);have hszn:W.heap.size<=(w3.setCell ⟨ga+1,1,none⟩ (.int .i64 ((nv:Int)-2147483648))).heap.size:=Nat.le_trans hk23.size hks.size;clear hE hE3 hn4 hk23 hg3 hg2 h83 hc83 hks hK0;(go_wp2_with fail);refine(Q1 _ _).mono ?_;rintro en w4 ⟨rfl,rfl⟩;go_upto_region 11 with fail
  obtain⟨W',hW'⟩:∃W',W'=w3.setCell ⟨ga+1,1,none⟩ (.int .i64 ((nv:Int)-2147483648)):=⟨_,rfl⟩
  rw[<-hW']at hg3n hEn hg2n hK0n hszn |-;clear hW' x0 f0 hn5;have hgal':ga+1<W'.heap.size:=by omega
  clear hgal hszn;obtain⟨W,rfl⟩:∃W:World,W=W':=⟨_,rfl⟩
  have hgal:=hgal';have hE:=hEn;have hg2:=hg2n;have hg3:=hg3n;have hK0:=hK0n;clear hgal' hEn hg2n hg3n hK0n;go_upto_region 16 with fail
  have hrow:z9 W (ga+1) 0 37=some (zD ⟨1,(nv:Int)-2147483648,⟨#[]⟩,⟨#[]⟩,id0,.slice none 0 0⟩):=by unfold z9;rw[hg3];simp[go_sem]
  have hsto:=yA (P:=Tryz.prog) yV W ga (zD yJ) (zD ⟨1,(nv:Int)-2147483648,⟨#[]⟩,⟨#[]⟩,id0,.slice none 0 0⟩) _ hg2 (by simp) (by simp) (jC _ rfl);have hkf:z4 [ga] W (W.setRow ga (zD ⟨1,(nv:Int)-2147483648,⟨#[]⟩,⟨#[]⟩,id0,.slice none 0 0⟩)):=⟨rfl,rfl,rfl,by simp[World.setRow],fun x _ hx=>setRow_other W ga x _ (by simpa using hx)⟩
  have Hfin:=Lib.hid (setRow_heap W ga _ (zD ⟨1,(nv:Int)-2147483648,⟨#[]⟩,⟨#[]⟩,id0,.slice none 0 0⟩) _ _ hg2);have hE4:=hE.kept hkf (by simp;omega);have hkw:z4 [g,ga,ga+1] w (W.setRow ga (zD ⟨1,(nv:Int)-2147483648,⟨#[]⟩,⟨#[]⟩,id0,.slice none 0 0⟩)):=z4.trans (hK0.mono (S':=[g,ga,ga+1]) (by intro x hx;simp at hx |-;omega)) (hkf.mono (S':=[g,ga,ga+1]) (by simp)) (fun x hx=>.inl hx);have hkz:z4 [g] w (W.setRow ga (zD ⟨1,(nv:Int)-2147483648,⟨#[]⟩,⟨#[]⟩,id0,.slice none 0 0⟩)):=hkw.narrow (fun x hx=>by have:=Hga.out;simp at hx |-;omega);have HE4:=Lib.hid hE4;have Hkz:=Lib.hid hkz;clear hE4 hE hkw hkz hkf hg2 hg3 hb0 hK0;(go_wp2_with fail);refine bodyPost_ret (results_cell_row Tryz.results124 _ _ ga 105 (zD ⟨1,(nv:Int)-2147483648,⟨#[]⟩,⟨#[]⟩,id0,.slice none 0 0⟩) (0,0) _ rfl Hfin.out Tryz.underlying105 rfl (by rw[qG];exact yV)) rfl ?_;exact⟨by rw[<-Hnv.out];rfl,HE4.out,Hkz.out⟩
theorem take_2 (w:World) (g:Nat) (l:List UInt8) (e:Int) (h:jQ w g l e) (hp:yZ w) :
    Calls Tryz.prog 124 #[.pointer (some ⟨g,0,none⟩),.int .i64 2] w fun en w'=>en = .returned (.agg (opC (yT 2 l e).o none 0))/\jQ w' g (yT 2 l e).l (yT 2 l e).e/\z4 [g] w w':=by
  have hg2:((w.alloc (.cells (zD yJ) 105)).alloc (.cells (zD ⟨2,0,⟨#[]⟩,⟨#[]⟩,id0,.slice none 0 0⟩) 105)).heap[w.heap.size]? = some (.cells (zD yJ) 105 (0,0)):=by
    rw[Below.heap_alloc _ _ _ (by simp)];exact heap_alloc_new w _
  have hg3:((w.alloc (.cells (zD yJ) 105)).alloc (.cells (zD ⟨2,0,⟨#[]⟩,⟨#[]⟩,id0,.slice none 0 0⟩) 105)).heap[w.heap.size+1]? = some (.cells (zD ⟨2,0,⟨#[]⟩,⟨#[]⟩,id0,.slice none 0 0⟩) 105 (0,0)):=by
    have:=heap_alloc_new (w.alloc (.cells (zD yJ) 105)) (.cells (zD ⟨2,0,⟨#[]⟩,⟨#[]⟩,id0,.slice none 0 0⟩) 105);simpa using this
  have hb0:Below w.heap.size w ((w.alloc (.cells (zD yJ) 105)).alloc (.cells (zD ⟨2,0,⟨#[]⟩,⟨#[]⟩,id0,.slice none 0 0⟩) 105)):=((Below.refl _ _).alloc (Nat.le_refl _) _).alloc (by simp) _;have hof:=g5 2 _ (hp.below hb0) (by omega);rw[show kC 2=4 from rfl]at hof;have hE:=h.below hb0;have hgl:=h.lt;go_enter Tryz.func124,Tryz.ntmps124
  go_upto_region 2 with fail
  obtain⟨ga,hga⟩:∃ga,w.heap.size=ga:=⟨_,rfl⟩
  have Hga:=Lib.hid hga;obtain⟨W,hW⟩:∃W,W=((w.alloc (.cells (zD yJ) 105)).alloc (.cells (zD ⟨2,0,⟨#[]⟩,⟨#[]⟩,id0,.slice none 0 0⟩) 105)):=⟨_,rfl⟩
  rw[<-hW]at hb0 hg2 hg3 hE hof |-;rw[hga]at hg2 hg3 hgl |-;clear hW h hp hga;have hK0:z4 [g,ga+1] w W:=(z4.of_below hb0).mono (by simp);have hngb:g∉[ga+1]:=by simp;omega
  have hnga:ga∉[g,ga+1]:=by simp;omega
  have hngc:ga+1∉[g]:=by simp;omega
  have hgal:ga+1<W.heap.size:=(Array.getElem?_eq_some_iff.1 hg3).1;(go_wp2_with fail);refine hof.mono ?_;rintro en w1 ⟨rfl,rfl⟩;clear hof;(go_wp2_with fail);refine(fK _ g _ _ hE).mono ?_;rintro en w2 ⟨rfl,hr2,hk2⟩;have hn2:=jI 1 (l) (e);(go_wp2_with fail);refine(wR _ g _ _ _ hr2 (by omega)).mono ?_;rintro en w3 ⟨rfl,hE3,hk3⟩;replace hE3:jQ w3 g (txL (l) (e)) (txE (l) (e)):=hE3;obtain⟨val,hkv⟩:∃val,mkB (jL (xO 1 (l) (e)) (yS 1 (l) (e)) (xF 1 (l) (e)))=val:=⟨_,rfl⟩
  have Hval:=Lib.hid (show txV (l) (e)=val from hkv);rw[hkv];have hk23:z4 [g] W w3:=z4.trans hk2 hk3 (fun x hx=>.inl hx);have h83:=(hk23.block (ga+1) hgal hngc).trans hg3;have hc83:∀j,w3.frozen? ⟨ga+1,j,none⟩=false:=fun j=>(by simp[World.frozen?,h83]);have x0:w3.cell? ⟨ga+1,3,none⟩=some (.string ⟨#[]⟩):=by rw[cell_of_row w3 (ga+1) _ _ _ _ h83];simp[go_sem]
  have f0:=hc83 3;have hg3n:=zE h83 3 (.string val);rw[gF]at hg3n;have hks:=z4.setCell w3 ⟨ga+1,3,none⟩ (.string val);have hEn:=hE3.kept hks hngb;have hg2n:=((z4.trans (hk23.mono (S':=[g,ga+1]) (by simp)) (hks.mono (S':=[g,ga+1]) (by simp)) (fun x hx=>.inl hx)).block ga (by omega) hnga).trans hg2;have hK0n:z4 [g,ga+1] w (w3.setCell ⟨ga+1,3,none⟩ (.string val)):=z4.trans (z4.trans hK0 (hk23.mono (S':=[g,ga+1]) (by simp)) (fun x hx=>.inl hx)) (hks.mono (S':=[g,ga+1]) (by simp)) (fun x hx=>.inl hx);have hszn:W.heap.size<=(w3.setCell ⟨ga+1,3,none⟩ (.string val)).heap.size:=Nat.le_trans hk23.size hks.size;clear hE hr2 hk2 hn2 hkv hE3 hk3 hk23 hg3 hg2 h83 hc83 hks hK0;go_upto_region 9 with fail
  obtain⟨W',hW'⟩:∃W',W'=w3.setCell ⟨ga+1,3,none⟩ (.string val):=⟨_,rfl⟩
  rw[<-hW']at hg3n hEn hg2n hK0n hszn |-;clear hW' x0 f0;have hgal':ga+1<W'.heap.size:=by omega
  clear hgal hszn;obtain⟨W,rfl⟩:∃W:World,W=W':=⟨_,rfl⟩
  have hgal:=hgal';have hE:=hEn;have hg2:=hg2n;have hg3:=hg3n;have hK0:=hK0n;clear hgal' hEn hg2n hg3n hK0n;go_upto_region 16 with fail
  have hrow:z9 W (ga+1) 0 37=some (zD ⟨2,0,⟨#[]⟩,val,id0,.slice none 0 0⟩):=by unfold z9;rw[hg3];simp[go_sem]
  have hsto:=yA (P:=Tryz.prog) yV W ga (zD yJ) (zD ⟨2,0,⟨#[]⟩,val,id0,.slice none 0 0⟩) _ hg2 (by simp) (by simp) (jC _ rfl);have hkf:z4 [ga] W (W.setRow ga (zD ⟨2,0,⟨#[]⟩,val,id0,.slice none 0 0⟩)):=⟨rfl,rfl,rfl,by simp[World.setRow],fun x _ hx=>setRow_other W ga x _ (by simpa using hx)⟩
  have Hfin:=Lib.hid (setRow_heap W ga _ (zD ⟨2,0,⟨#[]⟩,val,id0,.slice none 0 0⟩) _ _ hg2);have hE4:=hE.kept hkf (by simp;omega);have hkw:z4 [g,ga,ga+1] w (W.setRow ga (zD ⟨2,0,⟨#[]⟩,val,id0,.slice none 0 0⟩)):=z4.trans (hK0.mono (S':=[g,ga,ga+1]) (by intro x hx;simp at hx |-;omega)) (hkf.mono (S':=[g,ga,ga+1]) (by simp)) (fun x hx=>.inl hx);have hkz:z4 [g] w (W.setRow ga (zD ⟨2,0,⟨#[]⟩,val,id0,.slice none 0 0⟩)):=hkw.narrow (fun x hx=>by have:=Hga.out;simp at hx |-;omega);have HE4:=Lib.hid hE4;have Hkz:=Lib.hid hkz;clear hE4 hE hkw hkz hkf hg2 hg3 hb0 hK0;(go_wp2_with fail);refine bodyPost_ret (results_cell_row Tryz.results124 _ _ ga 105 (zD ⟨2,0,⟨#[]⟩,val,id0,.slice none 0 0⟩) (0,0) _ rfl Hfin.out Tryz.underlying105 rfl (by rw[qG];exact yV)) rfl ?_;exact⟨by rw[<-Hval.out];rfl,HE4.out,Hkz.out⟩
theorem take_4 (w:World) (g:Nat) (l:List UInt8) (e:Int) (h:jQ w g l e) (hp:yZ w) :
    Calls Tryz.prog 124 #[.pointer (some ⟨g,0,none⟩),.int .i64 4] w fun en w'=>en = .returned (.agg (opC (yT 4 l e).o none 0))/\jQ w' g (yT 4 l e).l (yT 4 l e).e/\z4 [g] w w':=by
  have hg2:((w.alloc (.cells (zD yJ) 105)).alloc (.cells (zD ⟨4,0,⟨#[]⟩,⟨#[]⟩,id0,.slice none 0 0⟩) 105)).heap[w.heap.size]? = some (.cells (zD yJ) 105 (0,0)):=by
    rw[Below.heap_alloc _ _ _ (by simp)];exact heap_alloc_new w _
  have hg3:((w.alloc (.cells (zD yJ) 105)).alloc (.cells (zD ⟨4,0,⟨#[]⟩,⟨#[]⟩,id0,.slice none 0 0⟩) 105)).heap[w.heap.size+1]? = some (.cells (zD ⟨4,0,⟨#[]⟩,⟨#[]⟩,id0,.slice none 0 0⟩) 105 (0,0)):=by
    have:=heap_alloc_new (w.alloc (.cells (zD yJ) 105)) (.cells (zD ⟨4,0,⟨#[]⟩,⟨#[]⟩,id0,.slice none 0 0⟩) 105);simpa using this
  have hb0:Below w.heap.size w ((w.alloc (.cells (zD yJ) 105)).alloc (.cells (zD ⟨4,0,⟨#[]⟩,⟨#[]⟩,id0,.slice none 0 0⟩) 105)):=((Below.refl _ _).alloc (Nat.le_refl _) _).alloc (by simp) _;have hof:=g5 4 _ (hp.below hb0) (by omega);rw[show kC 4=7 from rfl]at hof;have hE:=h.below hb0;have hgl:=h.lt;go_enter Tryz.func124,Tryz.ntmps124
  go_upto_region 2 with fail
  obtain⟨ga,hga⟩:∃ga,w.heap.size=ga:=⟨_,rfl⟩
  have Hga:=Lib.hid hga;obtain⟨W,hW⟩:∃W,W=((w.alloc (.cells (zD yJ) 105)).alloc (.cells (zD ⟨4,0,⟨#[]⟩,⟨#[]⟩,id0,.slice none 0 0⟩) 105)):=⟨_,rfl⟩
  rw[<-hW]at hb0 hg2 hg3 hE hof |-;rw[hga]at hg2 hg3 hgl |-;clear hW h hp hga;have hK0:z4 [g,ga+1] w W:=(z4.of_below hb0).mono (by simp);have hngb:g∉[ga+1]:=by simp;omega
  have hnga:ga∉[g,ga+1]:=by simp;omega
  have hngc:ga+1∉[g]:=by simp;omega
  have hgal:ga+1<W.heap.size:=(Array.getElem?_eq_some_iff.1 hg3).1;(go_wp2_with fail);refine hof.mono ?_;rintro en w1 ⟨rfl,rfl⟩;clear hof;(go_wp2_with fail);refine(fK _ g _ _ hE).mono ?_;rintro en w2 ⟨rfl,hr2,hk2⟩;have hn2:=jI 1 (l) (e);(go_wp2_with fail);refine(wR _ g _ _ _ hr2 (by omega)).mono ?_;rintro en w3 ⟨rfl,hE3,hk3⟩;replace hE3:jQ w3 g (txL (l) (e)) (txE (l) (e)):=hE3;obtain⟨key,hkv⟩:∃key,mkB (jL (xO 1 (l) (e)) (yS 1 (l) (e)) (xF 1 (l) (e)))=key:=⟨_,rfl⟩
  have Hkey:=Lib.hid (show txV (l) (e)=key from hkv);rw[hkv];have hk23:z4 [g] W w3:=z4.trans hk2 hk3 (fun x hx=>.inl hx);have h83:=(hk23.block (ga+1) hgal hngc).trans hg3;have hc83:∀j,w3.frozen? ⟨ga+1,j,none⟩=false:=fun j=>(by simp[World.frozen?,h83]);have x0:w3.cell? ⟨ga+1,2,none⟩=some (.string ⟨#[]⟩):=by rw[cell_of_row w3 (ga+1) _ _ _ _ h83];simp[go_sem]
  have f0:=hc83 2;have hg3n:=zE h83 2 (.string key);rw[pX]at hg3n;have hks:=z4.setCell w3 ⟨ga+1,2,none⟩ (.string key);have hEn:=hE3.kept hks hngb;have hg2n:=((z4.trans (hk23.mono (S':=[g,ga+1]) (by simp)) (hks.mono (S':=[g,ga+1]) (by simp)) (fun x hx=>.inl hx)).block ga (by omega) hnga).trans hg2;have hK0n:z4 [g,ga+1] w (w3.setCell ⟨ga+1,2,none⟩ (.string key)):=z4.trans (z4.trans hK0 (hk23.mono (S':=[g,ga+1]) (by simp)) (fun x hx=>.inl hx)) (hks.mono (S':=[g,ga+1]) (by simp)) (fun x hx=>.inl hx);have hszn:W.heap.size<=(w3.setCell ⟨ga+1,2,none⟩ (.string key)).heap.size:=Nat.le_trans hk23.size hks.size;clear hE hr2 hk2 hn2 hkv hE3 hk3 hk23 hg3 hg2 h83 hc83 hks hK0;go_upto_region 7 with fail
  obtain⟨W',hW'⟩:∃W',W'=w3.setCell ⟨ga+1,2,none⟩ (.string key):=⟨_,rfl⟩
  rw[<-hW']at hg3n hEn hg2n hK0n hszn |-;clear hW' x0 f0;have hgal':ga+1<W'.heap.size:=by omega
  clear hgal hszn;obtain⟨W,rfl⟩:∃W:World,W=W':=⟨_,rfl⟩
  have hgal:=hgal';have hE:=hEn;have hg2:=hg2n;have hg3:=hg3n;have hK0:=hK0n;clear hgal' hEn hg2n hg3n hK0n;(go_wp2_with fail);refine(fK _ g _ _ hE).mono ?_;rintro en w2 ⟨rfl,hr2,hk2⟩;have hn2:=jI 1 (txL l e) (txE l e);(go_wp2_with fail);refine(wR _ g _ _ _ hr2 (by omega)).mono ?_;rintro en w3 ⟨rfl,hE3,hk3⟩;replace hE3:jQ w3 g (txL (txL l e) (txE l e)) (txE (txL l e) (txE l e)):=hE3;obtain⟨val,hkv⟩:∃val,mkB (jL (xO 1 (txL l e) (txE l e)) (yS 1 (txL l e) (txE l e)) (xF 1 (txL l e) (txE l e)))=val:=⟨_,rfl⟩
  have Hval:=Lib.hid (show txV (txL l e) (txE l e)=val from hkv);rw[hkv];have hk23:z4 [g] W w3:=z4.trans hk2 hk3 (fun x hx=>.inl hx);have h83:=(hk23.block (ga+1) hgal hngc).trans hg3;have hc83:∀j,w3.frozen? ⟨ga+1,j,none⟩=false:=fun j=>(by simp[World.frozen?,h83]);have x0:w3.cell? ⟨ga+1,3,none⟩=some (.string ⟨#[]⟩):=by rw[cell_of_row w3 (ga+1) _ _ _ _ h83];simp[go_sem]
  have f0:=hc83 3;have hg3n:=zE h83 3 (.string val);rw[gF]at hg3n;have hks:=z4.setCell w3 ⟨ga+1,3,none⟩ (.string val);have hEn:=hE3.kept hks hngb;have hg2n:=((z4.trans (hk23.mono (S':=[g,ga+1]) (by simp)) (hks.mono (S':=[g,ga+1]) (by simp)) (fun x hx=>.inl hx)).block ga (by omega) hnga).trans hg2;have hK0n:z4 [g,ga+1] w (w3.setCell ⟨ga+1,3,none⟩ (.string val)):=z4.trans (z4.trans hK0 (hk23.mono (S':=[g,ga+1]) (by simp)) (fun x hx=>.inl hx)) (hks.mono (S':=[g,ga+1]) (by simp)) (fun x hx=>.inl hx);have hszn:W.heap.size<=(w3.setCell ⟨ga+1,3,none⟩ (.string val)).heap.size:=Nat.le_trans hk23.size hks.size;clear hE hr2 hk2 hn2 hkv hE3 hk3 hk23 hg3 hg2 h83 hc83 hks hK0;go_upto_region 9 with fail
  obtain⟨W',hW'⟩:∃W',W'=w3.setCell ⟨ga+1,3,none⟩ (.string val):=⟨_,rfl⟩
  rw[<-hW']at hg3n hEn hg2n hK0n hszn |-;clear hW' x0 f0;have hgal':ga+1<W'.heap.size:=by omega
  clear hgal hszn;obtain⟨W,rfl⟩:∃W:World,W=W':=⟨_,rfl⟩
  have hgal:=hgal';have hE:=hEn;have hg2:=hg2n;have hg3:=hg3n;have hK0:=hK0n;clear hgal' hEn hg2n hg3n hK0n;(go_wp2_with fail);refine(KZ _ g _ _ hE).mono ?_;rintro en w3 ⟨rfl,hE3,hk23⟩;have hn4:=jI 4 (txL (txL l e) (txE l e)) (txE (txL l e) (txE l e));obtain⟨nv,hnv⟩:∃nv,xO 4 (txL (txL l e) (txE l e)) (txE (txL l e) (txE l e))=nv:=⟨_,rfl⟩
  rw[hnv]at hn4 |-;have Hnv:=Lib.hid hnv;clear hnv;have hn5:nv<4294967296:=by simpa using hn4
  have h83:=(hk23.block (ga+1) hgal hngc).trans hg3;have hc83:∀j,w3.frozen? ⟨ga+1,j,none⟩=false:=fun j=>(by simp[World.frozen?,h83]);have x0:w3.cell? ⟨ga+1,1,none⟩=some (.int .i64 0):=by rw[cell_of_row w3 (ga+1) _ _ _ _ h83];simp[go_sem]
  have f0:=hc83 1;have hg3n:=zE h83 1 (.int .i64 ((nv:Int)));rw[lM]at hg3n;have hks:=z4.setCell w3 ⟨ga+1,1,none⟩ (.int .i64 ((nv:Int)));have hEn:=jQ.kept hE3 hks hngb;have hg2n:=((z4.trans (hk23.mono (S':=[g,ga+1]) (by simp)) (hks.mono (S':=[g,ga+1]) (by simp)) (fun x hx=>.inl hx)).block ga (by omega) hnga).trans hg2;have hK0n:z4 [g,ga+1] w (w3.setCell ⟨ga+1,1,none⟩ (.int .i64 ((nv:Int)))):=z4.trans (z4.trans hK0 (hk23.mono (S':=[g,ga+1]) (by simp)) (fun x hx=>.inl hx)) (hks.mono (S':=[g,ga+1]) (by simp)) (fun x hx=>.inl hx);have hszn:W.heap.size<=(w3.setCell ⟨ga+1,1,none⟩ (.int .i64 ((nv:Int)))).heap.size:=Nat.le_trans hk23.size hks.size;clear hE hE3 hn4 hk23 hg3 hg2 h83 hc83 hks hK0;(go_wp2_with fail);refine(Q1 _ _).mono ?_;rintro en w4 ⟨rfl,rfl⟩;go_upto_region 11 with fail
  obtain⟨W',hW'⟩:∃W',W'=w3.setCell ⟨ga+1,1,none⟩ (.int .i64 ((nv:Int))):=⟨_,rfl⟩
  rw[<-hW']at hg3n hEn hg2n hK0n hszn |-;clear hW' x0 f0 hn5;have hgal':ga+1<W'.heap.size:=by omega
  clear hgal hszn;obtain⟨W,rfl⟩:∃W:World,W=W':=⟨_,rfl⟩
  have hgal:=hgal';have hE:=hEn;have hg2:=hg2n;have hg3:=hg3n;have hK0:=hK0n;clear hgal' hEn hg2n hg3n hK0n;go_upto_region 16 with fail
  have hrow:z9 W (ga+1) 0 37=some (zD ⟨4,(nv:Int),key,val,id0,.slice none 0 0⟩):=by unfold z9;rw[hg3];simp[go_sem]
  have hsto:=yA (P:=Tryz.prog) yV W ga (zD yJ) (zD ⟨4,(nv:Int),key,val,id0,.slice none 0 0⟩) _ hg2 (by simp) (by simp) (jC _ rfl);have hkf:z4 [ga] W (W.setRow ga (zD ⟨4,(nv:Int),key,val,id0,.slice none 0 0⟩)):=⟨rfl,rfl,rfl,by simp[World.setRow],fun x _ hx=>setRow_other W ga x _ (by simpa using hx)⟩
  have Hfin:=Lib.hid (setRow_heap W ga _ (zD ⟨4,(nv:Int),key,val,id0,.slice none 0 0⟩) _ _ hg2);have hE4:=hE.kept hkf (by simp;omega);have hkw:z4 [g,ga,ga+1] w (W.setRow ga (zD ⟨4,(nv:Int),key,val,id0,.slice none 0 0⟩)):=z4.trans (hK0.mono (S':=[g,ga,ga+1]) (by intro x hx;simp at hx |-;omega)) (hkf.mono (S':=[g,ga,ga+1]) (by simp)) (fun x hx=>.inl hx);have hkz:z4 [g] w (W.setRow ga (zD ⟨4,(nv:Int),key,val,id0,.slice none 0 0⟩)):=hkw.narrow (fun x hx=>by have:=Hga.out;simp at hx |-;omega);have HE4:=Lib.hid hE4;have Hkz:=Lib.hid hkz;clear hE4 hE hkw hkz hkf hg2 hg3 hb0 hK0;(go_wp2_with fail);refine bodyPost_ret (results_cell_row Tryz.results124 _ _ ga 105 (zD ⟨4,(nv:Int),key,val,id0,.slice none 0 0⟩) (0,0) _ rfl Hfin.out Tryz.underlying105 rfl (by rw[qG];exact yV)) rfl ?_;exact⟨by rw[<-Hnv.out,<-Hval.out,<-Hkey.out];rfl,HE4.out,Hkz.out⟩
theorem take_6 (w:World) (g:Nat) (l:List UInt8) (e:Int) (h:jQ w g l e) (hp:yZ w) :
    Calls Tryz.prog 124 #[.pointer (some ⟨g,0,none⟩),.int .i64 6] w fun en w'=>en = .returned (.agg (opC (yT 6 l e).o none 0))/\jQ w' g (yT 6 l e).l (yT 6 l e).e/\z4 [g] w w':=by
  have hg2:((w.alloc (.cells (zD yJ) 105)).alloc (.cells (zD ⟨6,0,⟨#[]⟩,⟨#[]⟩,id0,.slice none 0 0⟩) 105)).heap[w.heap.size]? = some (.cells (zD yJ) 105 (0,0)):=by
    rw[Below.heap_alloc _ _ _ (by simp)];exact heap_alloc_new w _
  have hg3:((w.alloc (.cells (zD yJ) 105)).alloc (.cells (zD ⟨6,0,⟨#[]⟩,⟨#[]⟩,id0,.slice none 0 0⟩) 105)).heap[w.heap.size+1]? = some (.cells (zD ⟨6,0,⟨#[]⟩,⟨#[]⟩,id0,.slice none 0 0⟩) 105 (0,0)):=by
    have:=heap_alloc_new (w.alloc (.cells (zD yJ) 105)) (.cells (zD ⟨6,0,⟨#[]⟩,⟨#[]⟩,id0,.slice none 0 0⟩) 105);simpa using this
  have hb0:Below w.heap.size w ((w.alloc (.cells (zD yJ) 105)).alloc (.cells (zD ⟨6,0,⟨#[]⟩,⟨#[]⟩,id0,.slice none 0 0⟩) 105)):=((Below.refl _ _).alloc (Nat.le_refl _) _).alloc (by simp) _;have hof:=g5 6 _ (hp.below hb0) (by omega);rw[show kC 6=12 from rfl]at hof;have hE:=h.below hb0;have hgl:=h.lt;go_enter Tryz.func124,Tryz.ntmps124
  go_upto_region 2 with fail
  obtain⟨ga,hga⟩:∃ga,w.heap.size=ga:=⟨_,rfl⟩
  have Hga:=Lib.hid hga;obtain⟨W,hW⟩:∃W,W=((w.alloc (.cells (zD yJ) 105)).alloc (.cells (zD ⟨6,0,⟨#[]⟩,⟨#[]⟩,id0,.slice none 0 0⟩) 105)):=⟨_,rfl⟩
  rw[<-hW]at hb0 hg2 hg3 hE hof |-;rw[hga]at hg2 hg3 hgl |-;clear hW h hp hga;have hK0:z4 [g,ga+1] w W:=(z4.of_below hb0).mono (by simp);have hngb:g∉[ga+1]:=by simp;omega
  have hnga:ga∉[g,ga+1]:=by simp;omega
  have hngc:ga+1∉[g]:=by simp;omega
  have hgal:ga+1<W.heap.size:=(Array.getElem?_eq_some_iff.1 hg3).1;(go_wp2_with fail);refine hof.mono ?_;rintro en w1 ⟨rfl,rfl⟩;clear hof;(go_wp2_with fail);refine(B7 _ g _ _ hE).mono ?_;rintro en w3 ⟨rfl,hE3,hk23⟩;obtain⟨d,hd⟩:∃d,kS (jL 32 l e)=d:=⟨_,rfl⟩
  rw[hd];have Hd:=Lib.hid hd;clear hd;have h83:=(hk23.block (ga+1) hgal hngc).trans hg3;have hst:=pP d h83;have hg3n:=setRow_heap w3 (ga+1) _ (zD ⟨6,0,⟨#[]⟩,⟨#[]⟩,d,.slice none 0 0⟩) _ _ h83;have hks:z4 [ga+1] w3 (w3.setRow (ga+1) (zD ⟨6,0,⟨#[]⟩,⟨#[]⟩,d,.slice none 0 0⟩)):=⟨rfl,rfl,rfl,by simp[World.setRow],fun x _ hx=>setRow_other w3 (ga+1) x _ (by simpa using hx)⟩
  have hEn:=jQ.kept hE3 hks hngb;have hg2n:=((z4.trans (hk23.mono (S':=[g,ga+1]) (by simp)) (hks.mono (S':=[g,ga+1]) (by simp)) (fun x hx=>.inl hx)).block ga (by omega) hnga).trans hg2;have hK0n:z4 [g,ga+1] w (w3.setRow (ga+1) (zD ⟨6,0,⟨#[]⟩,⟨#[]⟩,d,.slice none 0 0⟩)):=z4.trans (z4.trans hK0 (hk23.mono (S':=[g,ga+1]) (by simp)) (fun x hx=>.inl hx)) (hks.mono (S':=[g,ga+1]) (by simp)) (fun x hx=>.inl hx);have hszn:W.heap.size<=(w3.setRow (ga+1) (zD ⟨6,0,⟨#[]⟩,⟨#[]⟩,d,.slice none 0 0⟩)).heap.size:=Nat.le_trans hk23.size hks.size;clear hE hE3 hk23 hg3 hg2 h83 hks hK0;go_upto_region 5 with fail
  obtain⟨W',hW'⟩:∃W',W'=w3.setRow (ga+1) (zD ⟨6,0,⟨#[]⟩,⟨#[]⟩,d,.slice none 0 0⟩):=⟨_,rfl⟩
  rw[<-hW']at hg3n hEn hg2n hK0n hszn |-;clear hW' hst;have hgal':ga+1<W'.heap.size:=by omega
  clear hgal hszn;obtain⟨W,rfl⟩:∃W:World,W=W':=⟨_,rfl⟩
  have hgal:=hgal';have hE:=hEn;have hg2:=hg2n;have hg3:=hg3n;have hK0:=hK0n;clear hgal' hEn hg2n hg3n hK0n;(go_wp2_with fail);refine(fK _ g _ _ hE).mono ?_;rintro en w2 ⟨rfl,hr2,hk2⟩;have hn2:=jI 1 (yS 32 l e) (xF 32 l e);(go_wp2_with fail);refine(wR _ g _ _ _ hr2 (by omega)).mono ?_;rintro en w3 ⟨rfl,hE3,hk3⟩;replace hE3:jQ w3 g (txL (yS 32 l e) (xF 32 l e)) (txE (yS 32 l e) (xF 32 l e)):=hE3;obtain⟨val,hkv⟩:∃val,mkB (jL (xO 1 (yS 32 l e) (xF 32 l e)) (yS 1 (yS 32 l e) (xF 32 l e)) (xF 1 (yS 32 l e) (xF 32 l e)))=val:=⟨_,rfl⟩
  have Hval:=Lib.hid (show txV (yS 32 l e) (xF 32 l e)=val from hkv);rw[hkv];have hk23:z4 [g] W w3:=z4.trans hk2 hk3 (fun x hx=>.inl hx);have h83:=(hk23.block (ga+1) hgal hngc).trans hg3;have hc83:∀j,w3.frozen? ⟨ga+1,j,none⟩=false:=fun j=>(by simp[World.frozen?,h83]);have x0:w3.cell? ⟨ga+1,3,none⟩=some (.string ⟨#[]⟩):=by rw[cell_of_row w3 (ga+1) _ _ _ _ h83];simp[go_sem]
  have f0:=hc83 3;have hg3n:=zE h83 3 (.string val);rw[gF]at hg3n;have hks:=z4.setCell w3 ⟨ga+1,3,none⟩ (.string val);have hEn:=hE3.kept hks hngb;have hg2n:=((z4.trans (hk23.mono (S':=[g,ga+1]) (by simp)) (hks.mono (S':=[g,ga+1]) (by simp)) (fun x hx=>.inl hx)).block ga (by omega) hnga).trans hg2;have hK0n:z4 [g,ga+1] w (w3.setCell ⟨ga+1,3,none⟩ (.string val)):=z4.trans (z4.trans hK0 (hk23.mono (S':=[g,ga+1]) (by simp)) (fun x hx=>.inl hx)) (hks.mono (S':=[g,ga+1]) (by simp)) (fun x hx=>.inl hx);have hszn:W.heap.size<=(w3.setCell ⟨ga+1,3,none⟩ (.string val)).heap.size:=Nat.le_trans hk23.size hks.size;clear hE hr2 hk2 hn2 hkv hE3 hk3 hk23 hg3 hg2 h83 hc83 hks hK0;go_upto_region 9 with fail
  obtain⟨W',hW'⟩:∃W',W'=w3.setCell ⟨ga+1,3,none⟩ (.string val):=⟨_,rfl⟩
  rw[<-hW']at hg3n hEn hg2n hK0n hszn |-;clear hW' x0 f0;have hgal':ga+1<W'.heap.size:=by omega
  clear hgal hszn;obtain⟨W,rfl⟩:∃W:World,W=W':=⟨_,rfl⟩
  have hgal:=hgal';have hE:=hEn;have hg2:=hg2n;have hg3:=hg3n;have hK0:=hK0n;clear hgal' hEn hg2n hg3n hK0n;go_upto_region 16 with fail
  have hrow:z9 W (ga+1) 0 37=some (zD ⟨6,0,⟨#[]⟩,val,d,.slice none 0 0⟩):=by unfold z9;rw[hg3];simp[go_sem]
  have hsto:=yA (P:=Tryz.prog) yV W ga (zD yJ) (zD ⟨6,0,⟨#[]⟩,val,d,.slice none 0 0⟩) _ hg2 (by simp) (by simp) (jC _ rfl);have hkf:z4 [ga] W (W.setRow ga (zD ⟨6,0,⟨#[]⟩,val,d,.slice none 0 0⟩)):=⟨rfl,rfl,rfl,by simp[World.setRow],fun x _ hx=>setRow_other W ga x _ (by simpa using hx)⟩
  have Hfin:=Lib.hid (setRow_heap W ga _ (zD ⟨6,0,⟨#[]⟩,val,d,.slice none 0 0⟩) _ _ hg2);have hE4:=hE.kept hkf (by simp;omega);have hkw:z4 [g,ga,ga+1] w (W.setRow ga (zD ⟨6,0,⟨#[]⟩,val,d,.slice none 0 0⟩)):=z4.trans (hK0.mono (S':=[g,ga,ga+1]) (by intro x hx;simp at hx |-;omega)) (hkf.mono (S':=[g,ga,ga+1]) (by simp)) (fun x hx=>.inl hx);have hkz:z4 [g] w (W.setRow ga (zD ⟨6,0,⟨#[]⟩,val,d,.slice none 0 0⟩)):=hkw.narrow (fun x hx=>by have:=Hga.out;simp at hx |-;omega);have HE4:=Lib.hid hE4;have Hkz:=Lib.hid hkz;clear hE4 hE hkw hkz hkf hg2 hg3 hb0 hK0;(go_wp2_with fail);refine bodyPost_ret (results_cell_row Tryz.results124 _ _ ga 105 (zD ⟨6,0,⟨#[]⟩,val,d,.slice none 0 0⟩) (0,0) _ rfl Hfin.out Tryz.underlying105 rfl (by rw[qG];exact yV)) rfl ?_;exact⟨by rw[<-Hval.out,<-Hd.out];rfl,HE4.out,Hkz.out⟩
theorem take_7 (w:World) (g:Nat) (l:List UInt8) (e:Int) (h:jQ w g l e) (hp:yZ w) :
    Calls Tryz.prog 124 #[.pointer (some ⟨g,0,none⟩),.int .i64 7] w fun en w'=>en = .returned (.agg (opC (yT 7 l e).o none 0))/\jQ w' g (yT 7 l e).l (yT 7 l e).e/\z4 [g] w w':=by
  have hg2:((w.alloc (.cells (zD yJ) 105)).alloc (.cells (zD ⟨7,0,⟨#[]⟩,⟨#[]⟩,id0,.slice none 0 0⟩) 105)).heap[w.heap.size]? = some (.cells (zD yJ) 105 (0,0)):=by
    rw[Below.heap_alloc _ _ _ (by simp)];exact heap_alloc_new w _
  have hg3:((w.alloc (.cells (zD yJ) 105)).alloc (.cells (zD ⟨7,0,⟨#[]⟩,⟨#[]⟩,id0,.slice none 0 0⟩) 105)).heap[w.heap.size+1]? = some (.cells (zD ⟨7,0,⟨#[]⟩,⟨#[]⟩,id0,.slice none 0 0⟩) 105 (0,0)):=by
    have:=heap_alloc_new (w.alloc (.cells (zD yJ) 105)) (.cells (zD ⟨7,0,⟨#[]⟩,⟨#[]⟩,id0,.slice none 0 0⟩) 105);simpa using this
  have hb0:Below w.heap.size w ((w.alloc (.cells (zD yJ) 105)).alloc (.cells (zD ⟨7,0,⟨#[]⟩,⟨#[]⟩,id0,.slice none 0 0⟩) 105)):=((Below.refl _ _).alloc (Nat.le_refl _) _).alloc (by simp) _;have hof:=g5 7 _ (hp.below hb0) (by omega);rw[show kC 7=8 from rfl]at hof;have hE:=h.below hb0;have hgl:=h.lt;go_enter Tryz.func124,Tryz.ntmps124
  go_upto_region 2 with fail
  obtain⟨ga,hga⟩:∃ga,w.heap.size=ga:=⟨_,rfl⟩
  have Hga:=Lib.hid hga;obtain⟨W,hW⟩:∃W,W=((w.alloc (.cells (zD yJ) 105)).alloc (.cells (zD ⟨7,0,⟨#[]⟩,⟨#[]⟩,id0,.slice none 0 0⟩) 105)):=⟨_,rfl⟩
  rw[<-hW]at hb0 hg2 hg3 hE hof |-;rw[hga]at hg2 hg3 hgl |-;clear hW h hp hga;have hK0:z4 [g,ga+1] w W:=(z4.of_below hb0).mono (by simp);have hngb:g∉[ga+1]:=by simp;omega
  have hnga:ga∉[g,ga+1]:=by simp;omega
  have hngc:ga+1∉[g]:=by simp;omega
  have hgal:ga+1<W.heap.size:=(Array.getElem?_eq_some_iff.1 hg3).1;(go_wp2_with fail);refine hof.mono ?_;rintro en w1 ⟨rfl,rfl⟩;clear hof;(go_wp2_with fail);refine(B7 _ g _ _ hE).mono ?_;rintro en w3 ⟨rfl,hE3,hk23⟩;obtain⟨d,hd⟩:∃d,kS (jL 32 l e)=d:=⟨_,rfl⟩
  rw[hd];have Hd:=Lib.hid hd;clear hd;have h83:=(hk23.block (ga+1) hgal hngc).trans hg3;have hst:=pP d h83;have hg3n:=setRow_heap w3 (ga+1) _ (zD ⟨7,0,⟨#[]⟩,⟨#[]⟩,d,.slice none 0 0⟩) _ _ h83;have hks:z4 [ga+1] w3 (w3.setRow (ga+1) (zD ⟨7,0,⟨#[]⟩,⟨#[]⟩,d,.slice none 0 0⟩)):=⟨rfl,rfl,rfl,by simp[World.setRow],fun x _ hx=>setRow_other w3 (ga+1) x _ (by simpa using hx)⟩
  have hEn:=jQ.kept hE3 hks hngb;have hg2n:=((z4.trans (hk23.mono (S':=[g,ga+1]) (by simp)) (hks.mono (S':=[g,ga+1]) (by simp)) (fun x hx=>.inl hx)).block ga (by omega) hnga).trans hg2;have hK0n:z4 [g,ga+1] w (w3.setRow (ga+1) (zD ⟨7,0,⟨#[]⟩,⟨#[]⟩,d,.slice none 0 0⟩)):=z4.trans (z4.trans hK0 (hk23.mono (S':=[g,ga+1]) (by simp)) (fun x hx=>.inl hx)) (hks.mono (S':=[g,ga+1]) (by simp)) (fun x hx=>.inl hx);have hszn:W.heap.size<=(w3.setRow (ga+1) (zD ⟨7,0,⟨#[]⟩,⟨#[]⟩,d,.slice none 0 0⟩)).heap.size:=Nat.le_trans hk23.size hks.size;clear hE hE3 hk23 hg3 hg2 h83 hks hK0;go_upto_region 5 with fail
  obtain⟨W',hW'⟩:∃W',W'=w3.setRow (ga+1) (zD ⟨7,0,⟨#[]⟩,⟨#[]⟩,d,.slice none 0 0⟩):=⟨_,rfl⟩
  rw[<-hW']at hg3n hEn hg2n hK0n hszn |-;clear hW' hst;have hgal':ga+1<W'.heap.size:=by omega
  clear hgal hszn;obtain⟨W,rfl⟩:∃W:World,W=W':=⟨_,rfl⟩
  have hgal:=hgal';have hE:=hEn;have hg2:=hg2n;have hg3:=hg3n;have hK0:=hK0n;clear hgal' hEn hg2n hg3n hK0n;go_upto_region 16 with fail
  have hrow:z9 W (ga+1) 0 37=some (zD ⟨7,0,⟨#[]⟩,⟨#[]⟩,d,.slice none 0 0⟩):=by unfold z9;rw[hg3];simp[go_sem]
  have hsto:=yA (P:=Tryz.prog) yV W ga (zD yJ) (zD ⟨7,0,⟨#[]⟩,⟨#[]⟩,d,.slice none 0 0⟩) _ hg2 (by simp) (by simp) (jC _ rfl);have hkf:z4 [ga] W (W.setRow ga (zD ⟨7,0,⟨#[]⟩,⟨#[]⟩,d,.slice none 0 0⟩)):=⟨rfl,rfl,rfl,by simp[World.setRow],fun x _ hx=>setRow_other W ga x _ (by simpa using hx)⟩
  have Hfin:=Lib.hid (setRow_heap W ga _ (zD ⟨7,0,⟨#[]⟩,⟨#[]⟩,d,.slice none 0 0⟩) _ _ hg2);have hE4:=hE.kept hkf (by simp;omega);have hkw:z4 [g,ga,ga+1] w (W.setRow ga (zD ⟨7,0,⟨#[]⟩,⟨#[]⟩,d,.slice none 0 0⟩)):=z4.trans (hK0.mono (S':=[g,ga,ga+1]) (by intro x hx;simp at hx |-;omega)) (hkf.mono (S':=[g,ga,ga+1]) (by simp)) (fun x hx=>.inl hx);have hkz:z4 [g] w (W.setRow ga (zD ⟨7,0,⟨#[]⟩,⟨#[]⟩,d,.slice none 0 0⟩)):=hkw.narrow (fun x hx=>by have:=Hga.out;simp at hx |-;omega);have HE4:=Lib.hid hE4;have Hkz:=Lib.hid hkz;clear hE4 hE hkw hkz hkf hg2 hg3 hb0 hK0;(go_wp2_with fail);refine bodyPost_ret (results_cell_row Tryz.results124 _ _ ga 105 (zD ⟨7,0,⟨#[]⟩,⟨#[]⟩,d,.slice none 0 0⟩) (0,0) _ rfl Hfin.out Tryz.underlying105 rfl (by rw[qG];exact yV)) rfl ?_;exact⟨by rw[<-Hd.out];rfl,HE4.out,Hkz.out⟩
theorem k6:yY Tryz.prog 26 24 32 32 :=
  .of (z:=.agg (idC id0)) Tryz.underlying26 (by kernel_rfl) (by kernel_rfl) (by kernel_rfl) (vT _) (by omega)
@[go_sem ↓] theorem bsId_rw (n:Nat) (parts:Array (Nat×Value)):Instr.buildSlice 26 n parts=bsS 26 n parts:=rfl
@[go_sem] theorem bsId_run (w:World) (x:zJ):(bsS 26 1 #[(0,.agg (idC x))]).run Tryz.prog w = .ok (.slice (some ⟨w.heap.size,0,none⟩) 1 1) (w.alloc (.cells (idC x) 24)) :=
  k8 k6 (by omega) w (idC x) (vT x)
abbrev y8 (w:World) (A:Option Addr) (n:Nat) (R:List zJ):Prop:=SlR w A n 32 (R.map idC)
theorem y8.len {w:World} {A:Option Addr} {n:Nat} {R:List zJ} (h:y8 w A n R):R.length=n:=by simpa using h.1
theorem y8.get {w:World} {A:Option Addr} {n:Nat} {R:List zJ} (h:y8 w A n R) {i:Nat} (hi:i<n) (hR:i<R.length):∃g o,A=some ⟨g,o,none⟩/\z9 w g (o+i*32) 32=some (idC R[i]):=by
  obtain⟨g,o,e,hr⟩:=h.at_ hi;rw[List.getElem_map]at hr;exact⟨g,o,e,hr⟩
theorem takeO_3 (l:List UInt8) (e:Int):yT 3 l e=⟨⟨3,0,⟨#[]⟩,txV l e,id0,(bY (txL l e) (txE l e)).ids⟩,(bY (txL l e) (txE l e)).l,(bY (txL l e) (txE l e)).e⟩:=rfl
theorem takeO_5 (l:List UInt8) (e:Int):yT 5 l e=⟨⟨5,0,txV l e,txV (txL l e) (txE l e),id0,(bY (txL (txL l e) (txE l e)) (txE (txL l e) (txE l e))).ids⟩,(bY (txL (txL l e) (txE l e)) (txE (txL l e) (txE l e))).l,(bY (txL (txL l e) (txE l e)) (txE (txL l e) (txE l e))).e⟩:=rfl
theorem take_3 (w:World) (g:Nat) (l:List UInt8) (e:Int) (h:jQ w g l e) (hp:yZ w) :
    Calls Tryz.prog 124 #[.pointer (some ⟨g,0,none⟩),.int .i64 3] w fun en w'=>∃A cap,en = .returned (.agg (opC (yT 3 l e).o A cap))/\Own w' w.heap.size 24 32 A (yT 3 l e).o.refs.length cap ((yT 3 l e).o.refs.map idC)/\jQ w' g (yT 3 l e).l (yT 3 l e).e/\z4 [g] w w':=by
  have hg2:((w.alloc (.cells (zD yJ) 105)).alloc (.cells (zD ⟨3,0,⟨#[]⟩,⟨#[]⟩,id0,.slice none 0 0⟩) 105)).heap[w.heap.size]? = some (.cells (zD yJ) 105 (0,0)):=by
    rw[Below.heap_alloc _ _ _ (by simp)];exact heap_alloc_new w _
  have hg3:((w.alloc (.cells (zD yJ) 105)).alloc (.cells (zD ⟨3,0,⟨#[]⟩,⟨#[]⟩,id0,.slice none 0 0⟩) 105)).heap[w.heap.size+1]? = some (.cells (zD ⟨3,0,⟨#[]⟩,⟨#[]⟩,id0,.slice none 0 0⟩) 105 (0,0)):=by
    have:=heap_alloc_new (w.alloc (.cells (zD yJ) 105)) (.cells (zD ⟨3,0,⟨#[]⟩,⟨#[]⟩,id0,.slice none 0 0⟩) 105);simpa using this
  have hb0:Below w.heap.size w ((w.alloc (.cells (zD yJ) 105)).alloc (.cells (zD ⟨3,0,⟨#[]⟩,⟨#[]⟩,id0,.slice none 0 0⟩) 105)):=((Below.refl _ _).alloc (Nat.le_refl _) _).alloc (by simp) _;have hof:=g5 3 _ (hp.below hb0) (by omega);rw[show kC 3=20 from rfl]at hof;have hE:=h.below hb0;have hgl:=h.lt;go_enter Tryz.func124,Tryz.ntmps124
  go_upto_region 2 with fail
  obtain⟨ga,hga⟩:∃ga,w.heap.size=ga:=⟨_,rfl⟩
  have Hga:=Lib.hid hga;obtain⟨W,hW⟩:∃W,W=((w.alloc (.cells (zD yJ) 105)).alloc (.cells (zD ⟨3,0,⟨#[]⟩,⟨#[]⟩,id0,.slice none 0 0⟩) 105)):=⟨_,rfl⟩
  rw[<-hW]at hb0 hg2 hg3 hE hof |-;rw[hga]at hg2 hg3 hgl |-;clear hW h hp hga;have hK0:z4 [g,ga+1] w W:=(z4.of_below hb0).mono (by simp);have hngb:g∉[ga+1]:=by simp;omega
  have hnga:ga∉[g,ga+1]:=by simp;omega
  have hngc:ga+1∉[g]:=by simp;omega
  have hgal:ga+1<W.heap.size:=(Array.getElem?_eq_some_iff.1 hg3).1;(go_wp2_with fail);refine hof.mono ?_;rintro en w1 ⟨rfl,rfl⟩;clear hof;(go_wp2_with fail);refine(fK _ g _ _ hE).mono ?_;rintro en w2 ⟨rfl,hr2,hk2⟩;have hn2:=jI 1 (l) (e);(go_wp2_with fail);refine(wR _ g _ _ _ hr2 (by omega)).mono ?_;rintro en w3 ⟨rfl,hE3,hk3⟩;replace hE3:jQ w3 g (txL (l) (e)) (txE (l) (e)):=hE3;obtain⟨val,hkv⟩:∃val,mkB (jL (xO 1 (l) (e)) (yS 1 (l) (e)) (xF 1 (l) (e)))=val:=⟨_,rfl⟩
  have Hval:=Lib.hid (show txV (l) (e)=val from hkv);rw[hkv];have hk23:z4 [g] W w3:=z4.trans hk2 hk3 (fun x hx=>.inl hx);have h83:=(hk23.block (ga+1) hgal hngc).trans hg3;have hc83:∀j,w3.frozen? ⟨ga+1,j,none⟩=false:=fun j=>(by simp[World.frozen?,h83]);have x0:w3.cell? ⟨ga+1,3,none⟩=some (.string ⟨#[]⟩):=by rw[cell_of_row w3 (ga+1) _ _ _ _ h83];simp[go_sem]
  have f0:=hc83 3;have hg3n:=zE h83 3 (.string val);rw[gF]at hg3n;have hks:=z4.setCell w3 ⟨ga+1,3,none⟩ (.string val);have hEn:=hE3.kept hks hngb;have hg2n:=((z4.trans (hk23.mono (S':=[g,ga+1]) (by simp)) (hks.mono (S':=[g,ga+1]) (by simp)) (fun x hx=>.inl hx)).block ga (by omega) hnga).trans hg2;have hK0n:z4 [g,ga+1] w (w3.setCell ⟨ga+1,3,none⟩ (.string val)):=z4.trans (z4.trans hK0 (hk23.mono (S':=[g,ga+1]) (by simp)) (fun x hx=>.inl hx)) (hks.mono (S':=[g,ga+1]) (by simp)) (fun x hx=>.inl hx);have hszn:W.heap.size<=(w3.setCell ⟨ga+1,3,none⟩ (.string val)).heap.size:=Nat.le_trans hk23.size hks.size;clear hE hr2 hk2 hn2 hkv hE3 hk3 hk23 hg3 hg2 h83 hc83 hks hK0;go_upto_region 12 with fail
  obtain⟨W',hW'⟩:∃W',W'=w3.setCell ⟨ga+1,3,none⟩ (.string val):=⟨_,rfl⟩
  rw[<-hW']at hg3n hEn hg2n hK0n hszn |-;clear hW' x0 f0;have hgal':ga+1<W'.heap.size:=by omega
  clear hgal hszn;obtain⟨W,rfl⟩:∃W:World,W=W':=⟨_,rfl⟩
  have hgal:=hgal';have hE:=hEn;have hg2:=hg2n;have hg3:=hg3n;have hK0:=hK0n;clear hgal' hEn hg2n hg3n hK0n;(go_wp2_with fail);refine(fK _ g _ _ hE).mono ?_;rintro en w3 ⟨rfl,hE3,hk23⟩;have hn4:=jI 1 (txL l e) (txE l e);have hRf:Hid (bY (txL l e) (txE l e)=kB (xO 1 (txL l e) (txE l e)) ⟨[],yS 1 (txL l e) (txE l e),xF 1 (txL l e) (txE l e)⟩):=by show _=_;rfl
  obtain⟨N,hN⟩:∃N,xO 1 (txL l e) (txE l e)=N:=⟨_,rfl⟩
  rw[hN]at hn4 hRf |-;clear hN;have hg3n:=(hk23.block (ga+1) hgal hngc).trans hg3;have hg2n:=(hk23.block ga (by omega) (by simp;omega)).trans hg2;have hK0n:z4 [g,ga+1] w w3:=z4.trans hK0 (hk23.mono (S':=[g,ga+1]) (by simp)) (fun x hx=>.inl hx);have hEn:jQ w3 g (yS 1 (txL l e) (txE l e)) (xF 1 (txL l e) (txE l e)):=hE3;have hb3:ga+1<w3.heap.size:=by have:=hk23.size;omega
  have Hw3:Hid (w.heap.size<=w3.heap.size):=by have h1:=hK0n.size;exact h1
  clear hE hE3 hk23 hg3 hg2 hK0 hgal;obtain⟨W3,rfl⟩:∃W:World,W=w3:=⟨_,rfl⟩
  (go_wp2_with fail);go_loopw [47] (fun i wr=>∃(k:Nat) (s:iQ) (A:Option Addr) (cap:Nat),k<=N/\i = .int .i64 k/\s.ids.length=k/\Hid (kB N ⟨[],yS 1 (txL l e) (txE l e),xF 1 (txL l e) (txE l e)⟩=kB (N-k) s)/\wr.heap[ga+1]? = some (.cells (zD ⟨3,0,⟨#[]⟩,val,id0,.slice A s.ids.length cap⟩) 105 (0,0))/\wr.heap[ga]? = some (.cells (zD yJ) 105 (0,0))/\jQ wr g s.l s.e/\Own wr W3.heap.size 24 32 A s.ids.length cap (s.ids.map idC)/\z4 [g,ga+1] w wr/\W3.heap.size<=wr.heap.size) (fun i _=>N-(intOf i).toNat)
  case atStart=>exact⟨0,⟨[],yS 1 (txL l e) (txE l e),xF 1 (txL l e) (txE l e)⟩,none,0,Nat.zero_le _,rfl,rfl,(show _=_ from rfl),hg3n,hg2n,hEn,Own.nil _ _ _ _,hK0n,Nat.le_refl _⟩
  case round =>
    clear hg3n hg2n hEn hK0n;obtain⟨k,s,A,cap,hk,rfl,hsl,hlp,hg3,hg2,hE,hown,hK0,hsz⟩:=hrel;obtain⟨ids,l3,e3⟩:=s;dsimp only at *;by_cases hlt:k<N
    · have hlp2:=hlp.out;rw[show N-k=(N-(k+1))+1 by omega]at hlp2;have hlp3:kB N ⟨[],yS 1 (txL l e) (txE l e),xF 1 (txL l e) (txE l e)⟩=kB (N-(k+1)) ⟨ids ++ [kS (jL 32 l3 e3)],yS 32 l3 e3,xF 32 l3 e3⟩:=hlp2;have Hlp:=Lib.hid hlp3;clear hlp hlp2 hlp3;have hAb:∀x∈blk A,W3.heap.size<=x/\x<wr.heap.size:=fun x hx=>hown.at_base hx;have hnS:ga+1∉g :: blk A:=by
        intro hm;rcases List.mem_cons.1 hm with h1 | h1
        · omega
        · have:=(hAb _ h1).1;omega
      have hgA:g∉blk A:=fun h1=>(by have:=(hAb _ h1).1;omega);have hgaS:ga∉g :: blk A:=by
        intro hm;rcases List.mem_cons.1 hm with h1 | h1
        · omega
        · have:=(hAb _ h1).1;omega
      have x0:wr.cell? ⟨ga+1,36,none⟩=some (.slice A ids.length cap):=by rw[cell_of_row wr (ga+1) _ _ _ _ hg3];simp[go_sem]
      have cid:=B7 wr.drew g l3 e3 (hE.kept (z4.drew wr) (by simp));have hids:ids.length<=255:=by omega
      have HSL:=Lib.hid hsl;clear hsl;go_upto_region 14 with fail
      refine xB (Kp (g :: blk A) wr) false (by kernel_rfl) (by kernel_rfl) (by kernel_rfl) (by kernel_rfl) (zW (g :: blk A) wr) ?_;have hne:=xA (g :: blk A) wr;have hS:=zW (g :: blk A) wr;have b1:=zM x0 hnS;repeat(refine z6 ?_ ?_;(focus(simp only[z3];done));intro K hK;go_simp;refine hK _ ?_;clear hK K)
      refine zH ?_ ?_ ?_;(focus(exact hS));(focus(simp only[z3];done));intro K hK;go_simp;refine cid.mono ?_;rintro en w4 ⟨rfl,hE4,hk4⟩;replace hS:=wW hS hk4 (by simp);refine⟨_,rfl,hS,hK _ _ ?_⟩;clear hK K cid;repeat(refine z6 ?_ ?_;(focus(simp only[z3];done));intro K hK;go_simp;refine hK _ ?_;clear hK K)
      refine zH ?_ ?_ ?_;(focus(exact hS));(focus(simp only[z3];done));intro K hK;go_simp;refine zZ (jE hS _) (fun hS=>?_);refine hK _ _ ?_;clear hK K;obtain⟨d,hd⟩:∃d,kS (jL 32 l3 e3)=d:=⟨_,rfl⟩
      rw[hd]at hS |-;have Hd:=Lib.hid hd;clear hd;have hk04:z4 [g] wr w4:=z4.trans ((z4.drew wr).mono (S':=[g]) (by simp)) hk4 (fun x hx=>.inl hx);have hb4:=z4.alloc w4 (.cells (idC d) 24);have hownr:=(hown.kept hk04 (fun x hx=>by have:=(hAb x hx).1;simp;omega)).kept hb4 (by simp);have hrow2:z9 (w4.alloc (.cells (idC d) 24)) w4.heap.size 0 32=some (idC d):=by simp[go_sem]
      have hsz4:=hk04.size;have hBs:W3.heap.size<=(w4.alloc (.cells (idC d) 24)).heap.size:=by simp;omega
      refine wN k6 rfl hownr rfl hrow2 (qJ _) (by omega) (by omega) hBs ?_;intro A2 cap2 w5 hown5 hk5 hsub5;have hk45:z4 (blk A) w4 w5:=z4.trans (hb4.mono (S':=blk A) (by simp)) hk5 (fun x hx=>.inl hx);have hS5:z4 (g :: blk A) wr w5:=z4.trans (hk04.mono (S':=g :: blk A) (by simp)) (hk45.mono (S':=g :: blk A) (fun x hx=>.inl (List.mem_cons_of_mem _ hx))) (fun x hx=>.inl hx);refine zZ hS5 (fun hS6=>?_);repeat(refine z6 ?_ ?_;(focus(simp only[z3];done));intro K hK;go_simp;refine hK _ ?_;clear hK K)
      have hgl1:ga+1<wr.heap.size:=(Array.getElem?_eq_some_iff.1 hg3).1;have hg35:=(hS5.block (ga+1) hgl1 hnS).trans hg3;have hg25:=(hS5.block ga (by omega) hgaS).trans hg2;have f0:w5.frozen? ⟨ga+1,36,none⟩=false:=by simp[World.frozen?,hg35]
      have d0:w5.cell? ⟨ga+1,36,none⟩=some (.slice A ids.length cap):=by rw[cell_of_row w5 (ga+1) _ _ _ _ hg35];simp[go_sem]
      refine jS ?_ ?_;(focus(simp only[z3];done));intro K hK;go_simp;refine hK _ _ ?_;clear hK K;have hk4':=hk4;have hg3n:=zE hg35 36 (.slice A2 (ids.length+1) cap2);rw[mU]at hg3n;have hks:=z4.setCell w5 ⟨ga+1,36,none⟩ (.slice A2 (ids.length+1) cap2);have hE6:=(jQ.kept hE4 hk45 hgA).kept hks hngb;have hg2n:=(hks.block ga (by have:=hS5.size;omega) (by simp)).trans hg25;have hA2:∀x∈blk A2,x∉[ga+1]:=fun x hx=>(by have:=(hown5.at_base hx).1;simp;omega);have hown6:=hown5.kept hks hA2;have hKn:z4 [g,ga+1] w (w5.setCell ⟨ga+1,36,none⟩ (.slice A2 (ids.length+1) cap2)):=by
        have h1:z4 [g,ga+1] w w5:=(z4.trans (hK0.mono (S':=g :: (ga+1) :: blk A) (by intro x hx;simp at hx |-;omega)) (hS5.mono (S':=g :: (ga+1) :: blk A) (fun x hx=>.inl (by rcases List.mem_cons.1 hx with h | h;exact List.mem_cons.2 (.inl h);exact List.mem_cons.2 (.inr (List.mem_cons.2 (.inr h)))))) (fun x hx=>.inl hx)).narrow (fun x hx=>by
          rcases List.mem_cons.1 hx with h | h
          · exact .inl (by simp[h])
          · rcases List.mem_cons.1 h with h | h
            · exact .inl (by simp[h])
            · right;have:=(hAb x h).1;have:=Hw3.out;omega)
        exact z4.trans h1 (hks.mono (S':=[g,ga+1]) (by simp)) (fun x hx=>.inl hx)
      have hszn:W3.heap.size<=(w5.setCell ⟨ga+1,36,none⟩ (.slice A2 (ids.length+1) cap2)).heap.size:=by have:=hS5.size;have:=hks.size;omega
      have hl2:(ids ++ [d]).length=ids.length+1:=by simp
      rw[show ids.map idC ++ [idC d]=(ids ++ [d]).map idC by simp]at hown6;have Hl2:=Lib.hid hl2;rw[Hd.out]at Hlp;clear hl2 f0 d0 b1 hne hS hS5 hS6 hk04 hk45 hk4 hk4' hk5 hsub5 hown5 hownr hrow2 hb4 hg35 hg25 hks hE4 hBs hown hE hg3 hg2 x0 hA2 hK0;(go_wp2_with fail);go_roundw
      case rel=>exact⟨k+1,⟨ids ++ [d],yS 32 l3 e3,xF 32 l3 e3⟩,A2,cap2,by omega,by go_num,by rw[Hl2.out,HSL.out],Hlp,(by rw[Hl2.out];exact hg3n),hg2n,hE6,(by rw[Hl2.out];exact hown6),hKn,hszn⟩
      case measure=>simp[intOf];omega
    · have hfin:bY (txL l e) (txE l e)=⟨ids,l3,e3⟩:=by rw[hRf.out,hlp.out,show N-k=0 by omega];rfl
      have Hrd:=Lib.hid hfin;have HSL:=Lib.hid hsl;clear hsl hfin hlp hRf;have hwr:Hid (w.heap.size<=W3.heap.size):=Hw3.out;obtain⟨W,rfl⟩:∃W:World,W=wr:=⟨_,rfl⟩
      have HOW:=Lib.hid (hown.mono Hw3.out);have Hgl3:Hid (∀x∈blk A,ga+1<x):=fun x hx=>(by have:=(hown.at_base hx).1;omega);clear hown;go_upto_region 16 with fail
      have hrow:z9 W (ga+1) 0 37=some (zD ⟨3,0,⟨#[]⟩,val,id0,.slice A ids.length cap⟩):=by unfold z9;rw[hg3];simp[go_sem]
      have hsto:=yA (P:=Tryz.prog) yV W ga (zD yJ) (zD ⟨3,0,⟨#[]⟩,val,id0,.slice A ids.length cap⟩) _ hg2 (by simp) (by simp) (jC _ rfl);have hkf:z4 [ga] W (W.setRow ga (zD ⟨3,0,⟨#[]⟩,val,id0,.slice A ids.length cap⟩)):=⟨rfl,rfl,rfl,by simp[World.setRow],fun x _ hx=>setRow_other W ga x _ (by simpa using hx)⟩
      have Hfin:=Lib.hid (setRow_heap W ga _ (zD ⟨3,0,⟨#[]⟩,val,id0,.slice A ids.length cap⟩) _ _ hg2);have hE4:=hE.kept hkf (by simp;omega);have hkw:z4 [g,ga,ga+1] w (W.setRow ga (zD ⟨3,0,⟨#[]⟩,val,id0,.slice A ids.length cap⟩)):=z4.trans (hK0.mono (S':=[g,ga,ga+1]) (by intro x hx;simp at hx |-;omega)) (hkf.mono (S':=[g,ga,ga+1]) (by simp)) (fun x hx=>.inl hx);have hkz:z4 [g] w (W.setRow ga (zD ⟨3,0,⟨#[]⟩,val,id0,.slice A ids.length cap⟩)):=hkw.narrow (fun x hx=>by have:=Hga.out;simp at hx |-;omega);have HE4:=Lib.hid hE4;have Hkz:=Lib.hid hkz;have HO4:=Lib.hid (HOW.out.kept hkf (fun x hx=>by have:=(HOW.out.at_base hx).1;have:=Hga.out;have:=Hgl3.out x hx;simp;omega));clear hE4 hE hkw hkz hkf hg2 hg3 hb0 hK0;(go_wp2_with fail);refine bodyPost_ret (results_cell_row Tryz.results124 _ _ ga 105 (zD ⟨3,0,⟨#[]⟩,val,id0,.slice A ids.length cap⟩) (0,0) _ rfl Hfin.out Tryz.underlying105 rfl (by rw[qG];exact yV)) rfl ?_;have e1:yT 3 l e=⟨⟨3,0,⟨#[]⟩,val,id0,ids⟩,l3,e3⟩:=by
        rw[takeO_3];rw[Hrd.out,Hval.out]
      rw[e1];exact⟨A,cap,rfl,HO4.out,HE4.out,Hkz.out⟩
theorem take_5 (w:World) (g:Nat) (l:List UInt8) (e:Int) (h:jQ w g l e) (hp:yZ w) :
    Calls Tryz.prog 124 #[.pointer (some ⟨g,0,none⟩),.int .i64 5] w fun en w'=>∃A cap,en = .returned (.agg (opC (yT 5 l e).o A cap))/\Own w' w.heap.size 24 32 A (yT 5 l e).o.refs.length cap ((yT 5 l e).o.refs.map idC)/\jQ w' g (yT 5 l e).l (yT 5 l e).e/\z4 [g] w w':=by
  have hg2:((w.alloc (.cells (zD yJ) 105)).alloc (.cells (zD ⟨5,0,⟨#[]⟩,⟨#[]⟩,id0,.slice none 0 0⟩) 105)).heap[w.heap.size]? = some (.cells (zD yJ) 105 (0,0)):=by
    rw[Below.heap_alloc _ _ _ (by simp)];exact heap_alloc_new w _
  have hg3:((w.alloc (.cells (zD yJ) 105)).alloc (.cells (zD ⟨5,0,⟨#[]⟩,⟨#[]⟩,id0,.slice none 0 0⟩) 105)).heap[w.heap.size+1]? = some (.cells (zD ⟨5,0,⟨#[]⟩,⟨#[]⟩,id0,.slice none 0 0⟩) 105 (0,0)):=by
    have:=heap_alloc_new (w.alloc (.cells (zD yJ) 105)) (.cells (zD ⟨5,0,⟨#[]⟩,⟨#[]⟩,id0,.slice none 0 0⟩) 105);simpa using this
  have hb0:Below w.heap.size w ((w.alloc (.cells (zD yJ) 105)).alloc (.cells (zD ⟨5,0,⟨#[]⟩,⟨#[]⟩,id0,.slice none 0 0⟩) 105)):=((Below.refl _ _).alloc (Nat.le_refl _) _).alloc (by simp) _;have hof:=g5 5 _ (hp.below hb0) (by omega);rw[show kC 5=22 from rfl]at hof;have hE:=h.below hb0;have hgl:=h.lt;go_enter Tryz.func124,Tryz.ntmps124
  go_upto_region 2 with fail
  obtain⟨ga,hga⟩:∃ga,w.heap.size=ga:=⟨_,rfl⟩
  have Hga:=Lib.hid hga;obtain⟨W,hW⟩:∃W,W=((w.alloc (.cells (zD yJ) 105)).alloc (.cells (zD ⟨5,0,⟨#[]⟩,⟨#[]⟩,id0,.slice none 0 0⟩) 105)):=⟨_,rfl⟩
  rw[<-hW]at hb0 hg2 hg3 hE hof |-;rw[hga]at hg2 hg3 hgl |-;clear hW h hp hga;have hK0:z4 [g,ga+1] w W:=(z4.of_below hb0).mono (by simp);have hngb:g∉[ga+1]:=by simp;omega
  have hnga:ga∉[g,ga+1]:=by simp;omega
  have hngc:ga+1∉[g]:=by simp;omega
  have hgal:ga+1<W.heap.size:=(Array.getElem?_eq_some_iff.1 hg3).1;(go_wp2_with fail);refine hof.mono ?_;rintro en w1 ⟨rfl,rfl⟩;clear hof;(go_wp2_with fail);refine(fK _ g _ _ hE).mono ?_;rintro en w2 ⟨rfl,hr2,hk2⟩;have hn2:=jI 1 (l) (e);(go_wp2_with fail);refine(wR _ g _ _ _ hr2 (by omega)).mono ?_;rintro en w3 ⟨rfl,hE3,hk3⟩;replace hE3:jQ w3 g (txL (l) (e)) (txE (l) (e)):=hE3;obtain⟨key,hkv⟩:∃key,mkB (jL (xO 1 (l) (e)) (yS 1 (l) (e)) (xF 1 (l) (e)))=key:=⟨_,rfl⟩
  have Hkey:=Lib.hid (show txV (l) (e)=key from hkv);rw[hkv];have hk23:z4 [g] W w3:=z4.trans hk2 hk3 (fun x hx=>.inl hx);have h83:=(hk23.block (ga+1) hgal hngc).trans hg3;have hc83:∀j,w3.frozen? ⟨ga+1,j,none⟩=false:=fun j=>(by simp[World.frozen?,h83]);have x0:w3.cell? ⟨ga+1,2,none⟩=some (.string ⟨#[]⟩):=by rw[cell_of_row w3 (ga+1) _ _ _ _ h83];simp[go_sem]
  have f0:=hc83 2;have hg3n:=zE h83 2 (.string key);rw[pX]at hg3n;have hks:=z4.setCell w3 ⟨ga+1,2,none⟩ (.string key);have hEn:=hE3.kept hks hngb;have hg2n:=((z4.trans (hk23.mono (S':=[g,ga+1]) (by simp)) (hks.mono (S':=[g,ga+1]) (by simp)) (fun x hx=>.inl hx)).block ga (by omega) hnga).trans hg2;have hK0n:z4 [g,ga+1] w (w3.setCell ⟨ga+1,2,none⟩ (.string key)):=z4.trans (z4.trans hK0 (hk23.mono (S':=[g,ga+1]) (by simp)) (fun x hx=>.inl hx)) (hks.mono (S':=[g,ga+1]) (by simp)) (fun x hx=>.inl hx);have hszn:W.heap.size<=(w3.setCell ⟨ga+1,2,none⟩ (.string key)).heap.size:=Nat.le_trans hk23.size hks.size;clear hE hr2 hk2 hn2 hkv hE3 hk3 hk23 hg3 hg2 h83 hc83 hks hK0;go_upto_region 7 with fail
  obtain⟨W',hW'⟩:∃W',W'=w3.setCell ⟨ga+1,2,none⟩ (.string key):=⟨_,rfl⟩
  rw[<-hW']at hg3n hEn hg2n hK0n hszn |-;clear hW' x0 f0;have hgal':ga+1<W'.heap.size:=by omega
  clear hgal hszn;obtain⟨W,rfl⟩:∃W:World,W=W':=⟨_,rfl⟩
  have hgal:=hgal';have hE:=hEn;have hg2:=hg2n;have hg3:=hg3n;have hK0:=hK0n;clear hgal' hEn hg2n hg3n hK0n;(go_wp2_with fail);refine(fK _ g _ _ hE).mono ?_;rintro en w2 ⟨rfl,hr2,hk2⟩;have hn2:=jI 1 (txL l e) (txE l e);(go_wp2_with fail);refine(wR _ g _ _ _ hr2 (by omega)).mono ?_;rintro en w3 ⟨rfl,hE3,hk3⟩;replace hE3:jQ w3 g (txL (txL l e) (txE l e)) (txE (txL l e) (txE l e)):=hE3;obtain⟨val,hkv⟩:∃val,mkB (jL (xO 1 (txL l e) (txE l e)) (yS 1 (txL l e) (txE l e)) (xF 1 (txL l e) (txE l e)))=val:=⟨_,rfl⟩
  have Hval:=Lib.hid (show txV (txL l e) (txE l e)=val from hkv);rw[hkv];have hk23:z4 [g] W w3:=z4.trans hk2 hk3 (fun x hx=>.inl hx);have h83:=(hk23.block (ga+1) hgal hngc).trans hg3;have hc83:∀j,w3.frozen? ⟨ga+1,j,none⟩=false:=fun j=>(by simp[World.frozen?,h83]);have x0:w3.cell? ⟨ga+1,3,none⟩=some (.string ⟨#[]⟩):=by rw[cell_of_row w3 (ga+1) _ _ _ _ h83];simp[go_sem]
  have f0:=hc83 3;have hg3n:=zE h83 3 (.string val);rw[gF]at hg3n;have hks:=z4.setCell w3 ⟨ga+1,3,none⟩ (.string val);have hEn:=hE3.kept hks hngb;have hg2n:=((z4.trans (hk23.mono (S':=[g,ga+1]) (by simp)) (hks.mono (S':=[g,ga+1]) (by simp)) (fun x hx=>.inl hx)).block ga (by omega) hnga).trans hg2;have hK0n:z4 [g,ga+1] w (w3.setCell ⟨ga+1,3,none⟩ (.string val)):=z4.trans (z4.trans hK0 (hk23.mono (S':=[g,ga+1]) (by simp)) (fun x hx=>.inl hx)) (hks.mono (S':=[g,ga+1]) (by simp)) (fun x hx=>.inl hx);have hszn:W.heap.size<=(w3.setCell ⟨ga+1,3,none⟩ (.string val)).heap.size:=Nat.le_trans hk23.size hks.size;clear hE hr2 hk2 hn2 hkv hE3 hk3 hk23 hg3 hg2 h83 hc83 hks hK0;go_upto_region 12 with fail
  obtain⟨W',hW'⟩:∃W',W'=w3.setCell ⟨ga+1,3,none⟩ (.string val):=⟨_,rfl⟩
  rw[<-hW']at hg3n hEn hg2n hK0n hszn |-;clear hW' x0 f0;have hgal':ga+1<W'.heap.size:=by omega
  clear hgal hszn;obtain⟨W,rfl⟩:∃W:World,W=W':=⟨_,rfl⟩
  have hgal:=hgal';have hE:=hEn;have hg2:=hg2n;have hg3:=hg3n;have hK0:=hK0n;clear hgal' hEn hg2n hg3n hK0n;(go_wp2_with fail);refine(fK _ g _ _ hE).mono ?_;rintro en w3 ⟨rfl,hE3,hk23⟩;have hn4:=jI 1 (txL (txL l e) (txE l e)) (txE (txL l e) (txE l e));have hRf:Hid (bY (txL (txL l e) (txE l e)) (txE (txL l e) (txE l e))=kB (xO 1 (txL (txL l e) (txE l e)) (txE (txL l e) (txE l e))) ⟨[],yS 1 (txL (txL l e) (txE l e)) (txE (txL l e) (txE l e)),xF 1 (txL (txL l e) (txE l e)) (txE (txL l e) (txE l e))⟩):=by show _=_;rfl
  obtain⟨N,hN⟩:∃N,xO 1 (txL (txL l e) (txE l e)) (txE (txL l e) (txE l e))=N:=⟨_,rfl⟩
  rw[hN]at hn4 hRf |-;clear hN;have hg3n:=(hk23.block (ga+1) hgal hngc).trans hg3;have hg2n:=(hk23.block ga (by omega) (by simp;omega)).trans hg2;have hK0n:z4 [g,ga+1] w w3:=z4.trans hK0 (hk23.mono (S':=[g,ga+1]) (by simp)) (fun x hx=>.inl hx);have hEn:jQ w3 g (yS 1 (txL (txL l e) (txE l e)) (txE (txL l e) (txE l e))) (xF 1 (txL (txL l e) (txE l e)) (txE (txL l e) (txE l e))):=hE3;have hb3:ga+1<w3.heap.size:=by have:=hk23.size;omega
  have Hw3:Hid (w.heap.size<=w3.heap.size):=by have h1:=hK0n.size;exact h1
  clear hE hE3 hk23 hg3 hg2 hK0 hgal;obtain⟨W3,rfl⟩:∃W:World,W=w3:=⟨_,rfl⟩
  (go_wp2_with fail);go_loopw [47] (fun i wr=>∃(k:Nat) (s:iQ) (A:Option Addr) (cap:Nat),k<=N/\i = .int .i64 k/\s.ids.length=k/\Hid (kB N ⟨[],yS 1 (txL (txL l e) (txE l e)) (txE (txL l e) (txE l e)),xF 1 (txL (txL l e) (txE l e)) (txE (txL l e) (txE l e))⟩=kB (N-k) s)/\wr.heap[ga+1]? = some (.cells (zD ⟨5,0,key,val,id0,.slice A s.ids.length cap⟩) 105 (0,0))/\wr.heap[ga]? = some (.cells (zD yJ) 105 (0,0))/\jQ wr g s.l s.e/\Own wr W3.heap.size 24 32 A s.ids.length cap (s.ids.map idC)/\z4 [g,ga+1] w wr/\W3.heap.size<=wr.heap.size) (fun i _=>N-(intOf i).toNat)
  case atStart=>exact⟨0,⟨[],yS 1 (txL (txL l e) (txE l e)) (txE (txL l e) (txE l e)),xF 1 (txL (txL l e) (txE l e)) (txE (txL l e) (txE l e))⟩,none,0,Nat.zero_le _,rfl,rfl,(show _=_ from rfl),hg3n,hg2n,hEn,Own.nil _ _ _ _,hK0n,Nat.le_refl _⟩
  case round =>
    clear hg3n hg2n hEn hK0n;obtain⟨k,s,A,cap,hk,rfl,hsl,hlp,hg3,hg2,hE,hown,hK0,hsz⟩:=hrel;obtain⟨ids,l3,e3⟩:=s;dsimp only at *;by_cases hlt:k<N
    · have hlp2:=hlp.out;rw[show N-k=(N-(k+1))+1 by omega]at hlp2;have hlp3:kB N ⟨[],yS 1 (txL (txL l e) (txE l e)) (txE (txL l e) (txE l e)),xF 1 (txL (txL l e) (txE l e)) (txE (txL l e) (txE l e))⟩=kB (N-(k+1)) ⟨ids ++ [kS (jL 32 l3 e3)],yS 32 l3 e3,xF 32 l3 e3⟩:=hlp2;have Hlp:=Lib.hid hlp3;clear hlp hlp2 hlp3;have hAb:∀x∈blk A,W3.heap.size<=x/\x<wr.heap.size:=fun x hx=>hown.at_base hx;have hnS:ga+1∉g :: blk A:=by
        intro hm;rcases List.mem_cons.1 hm with h1 | h1
        · omega
        · have:=(hAb _ h1).1;omega
      have hgA:g∉blk A:=fun h1=>(by have:=(hAb _ h1).1;omega);have hgaS:ga∉g :: blk A:=by
        intro hm;rcases List.mem_cons.1 hm with h1 | h1
        · omega
        · have:=(hAb _ h1).1;omega
      have x0:wr.cell? ⟨ga+1,36,none⟩=some (.slice A ids.length cap):=by rw[cell_of_row wr (ga+1) _ _ _ _ hg3];simp[go_sem]
      have cid:=B7 wr.drew g l3 e3 (hE.kept (z4.drew wr) (by simp));have hids:ids.length<=255:=by omega
      have HSL:=Lib.hid hsl;clear hsl;go_upto_region 14 with fail
      refine xB (Kp (g :: blk A) wr) false (by kernel_rfl) (by kernel_rfl) (by kernel_rfl) (by kernel_rfl) (zW (g :: blk A) wr) ?_;have hne:=xA (g :: blk A) wr;have hS:=zW (g :: blk A) wr;have b1:=zM x0 hnS;repeat(refine z6 ?_ ?_;(focus(simp only[z3];done));intro K hK;go_simp;refine hK _ ?_;clear hK K)
      refine zH ?_ ?_ ?_;(focus(exact hS));(focus(simp only[z3];done));intro K hK;go_simp;refine cid.mono ?_;rintro en w4 ⟨rfl,hE4,hk4⟩;replace hS:=wW hS hk4 (by simp);refine⟨_,rfl,hS,hK _ _ ?_⟩;clear hK K cid;repeat(refine z6 ?_ ?_;(focus(simp only[z3];done));intro K hK;go_simp;refine hK _ ?_;clear hK K)
      refine zH ?_ ?_ ?_;(focus(exact hS));(focus(simp only[z3];done));intro K hK;go_simp;refine zZ (jE hS _) (fun hS=>?_);refine hK _ _ ?_;clear hK K;obtain⟨d,hd⟩:∃d,kS (jL 32 l3 e3)=d:=⟨_,rfl⟩
      rw[hd]at hS |-;have Hd:=Lib.hid hd;clear hd;have hk04:z4 [g] wr w4:=z4.trans ((z4.drew wr).mono (S':=[g]) (by simp)) hk4 (fun x hx=>.inl hx);have hb4:=z4.alloc w4 (.cells (idC d) 24);have hownr:=(hown.kept hk04 (fun x hx=>by have:=(hAb x hx).1;simp;omega)).kept hb4 (by simp);have hrow2:z9 (w4.alloc (.cells (idC d) 24)) w4.heap.size 0 32=some (idC d):=by simp[go_sem]
      have hsz4:=hk04.size;have hBs:W3.heap.size<=(w4.alloc (.cells (idC d) 24)).heap.size:=by simp;omega
      refine wN k6 rfl hownr rfl hrow2 (qJ _) (by omega) (by omega) hBs ?_;intro A2 cap2 w5 hown5 hk5 hsub5;have hk45:z4 (blk A) w4 w5:=z4.trans (hb4.mono (S':=blk A) (by simp)) hk5 (fun x hx=>.inl hx);have hS5:z4 (g :: blk A) wr w5:=z4.trans (hk04.mono (S':=g :: blk A) (by simp)) (hk45.mono (S':=g :: blk A) (fun x hx=>.inl (List.mem_cons_of_mem _ hx))) (fun x hx=>.inl hx);refine zZ hS5 (fun hS6=>?_);repeat(refine z6 ?_ ?_;(focus(simp only[z3];done));intro K hK;go_simp;refine hK _ ?_;clear hK K)
      have hgl1:ga+1<wr.heap.size:=(Array.getElem?_eq_some_iff.1 hg3).1;have hg35:=(hS5.block (ga+1) hgl1 hnS).trans hg3;have hg25:=(hS5.block ga (by omega) hgaS).trans hg2;have f0:w5.frozen? ⟨ga+1,36,none⟩=false:=by simp[World.frozen?,hg35]
      have d0:w5.cell? ⟨ga+1,36,none⟩=some (.slice A ids.length cap):=by rw[cell_of_row w5 (ga+1) _ _ _ _ hg35];simp[go_sem]
      refine jS ?_ ?_;(focus(simp only[z3];done));intro K hK;go_simp;refine hK _ _ ?_;clear hK K;have hk4':=hk4;have hg3n:=zE hg35 36 (.slice A2 (ids.length+1) cap2);rw[mU]at hg3n;have hks:=z4.setCell w5 ⟨ga+1,36,none⟩ (.slice A2 (ids.length+1) cap2);have hE6:=(jQ.kept hE4 hk45 hgA).kept hks hngb;have hg2n:=(hks.block ga (by have:=hS5.size;omega) (by simp)).trans hg25;have hA2:∀x∈blk A2,x∉[ga+1]:=fun x hx=>(by have:=(hown5.at_base hx).1;simp;omega);have hown6:=hown5.kept hks hA2;have hKn:z4 [g,ga+1] w (w5.setCell ⟨ga+1,36,none⟩ (.slice A2 (ids.length+1) cap2)):=by
        have h1:z4 [g,ga+1] w w5:=(z4.trans (hK0.mono (S':=g :: (ga+1) :: blk A) (by intro x hx;simp at hx |-;omega)) (hS5.mono (S':=g :: (ga+1) :: blk A) (fun x hx=>.inl (by rcases List.mem_cons.1 hx with h | h;exact List.mem_cons.2 (.inl h);exact List.mem_cons.2 (.inr (List.mem_cons.2 (.inr h)))))) (fun x hx=>.inl hx)).narrow (fun x hx=>by
          rcases List.mem_cons.1 hx with h | h
          · exact .inl (by simp[h])
          · rcases List.mem_cons.1 h with h | h
            · exact .inl (by simp[h])
            · right;have:=(hAb x h).1;have:=Hw3.out;omega)
        exact z4.trans h1 (hks.mono (S':=[g,ga+1]) (by simp)) (fun x hx=>.inl hx)
      have hszn:W3.heap.size<=(w5.setCell ⟨ga+1,36,none⟩ (.slice A2 (ids.length+1) cap2)).heap.size:=by have:=hS5.size;have:=hks.size;omega
      have hl2:(ids ++ [d]).length=ids.length+1:=by simp
      rw[show ids.map idC ++ [idC d]=(ids ++ [d]).map idC by simp]at hown6;have Hl2:=Lib.hid hl2;rw[Hd.out]at Hlp;clear hl2 f0 d0 b1 hne hS hS5 hS6 hk04 hk45 hk4 hk4' hk5 hsub5 hown5 hownr hrow2 hb4 hg35 hg25 hks hE4 hBs hown hE hg3 hg2 x0 hA2 hK0;(go_wp2_with fail);go_roundw
      case rel=>exact⟨k+1,⟨ids ++ [d],yS 32 l3 e3,xF 32 l3 e3⟩,A2,cap2,by omega,by go_num,by rw[Hl2.out,HSL.out],Hlp,(by rw[Hl2.out];exact hg3n),hg2n,hE6,(by rw[Hl2.out];exact hown6),hKn,hszn⟩
      case measure=>simp[intOf];omega
    · have hfin:bY (txL (txL l e) (txE l e)) (txE (txL l e) (txE l e))=⟨ids,l3,e3⟩:=by rw[hRf.out,hlp.out,show N-k=0 by omega];rfl
      have Hrd:=Lib.hid hfin;have HSL:=Lib.hid hsl;clear hsl hfin hlp hRf;have hwr:Hid (w.heap.size<=W3.heap.size):=Hw3.out;obtain⟨W,rfl⟩:∃W:World,W=wr:=⟨_,rfl⟩
      have HOW:=Lib.hid (hown.mono Hw3.out);have Hgl3:Hid (∀x∈blk A,ga+1<x):=fun x hx=>(by have:=(hown.at_base hx).1;omega);clear hown;go_upto_region 16 with fail
      have hrow:z9 W (ga+1) 0 37=some (zD ⟨5,0,key,val,id0,.slice A ids.length cap⟩):=by unfold z9;rw[hg3];simp[go_sem]
      have hsto:=yA (P:=Tryz.prog) yV W ga (zD yJ) (zD ⟨5,0,key,val,id0,.slice A ids.length cap⟩) _ hg2 (by simp) (by simp) (jC _ rfl);have hkf:z4 [ga] W (W.setRow ga (zD ⟨5,0,key,val,id0,.slice A ids.length cap⟩)):=⟨rfl,rfl,rfl,by simp[World.setRow],fun x _ hx=>setRow_other W ga x _ (by simpa using hx)⟩
      have Hfin:=Lib.hid (setRow_heap W ga _ (zD ⟨5,0,key,val,id0,.slice A ids.length cap⟩) _ _ hg2);have hE4:=hE.kept hkf (by simp;omega);have hkw:z4 [g,ga,ga+1] w (W.setRow ga (zD ⟨5,0,key,val,id0,.slice A ids.length cap⟩)):=z4.trans (hK0.mono (S':=[g,ga,ga+1]) (by intro x hx;simp at hx |-;omega)) (hkf.mono (S':=[g,ga,ga+1]) (by simp)) (fun x hx=>.inl hx);have hkz:z4 [g] w (W.setRow ga (zD ⟨5,0,key,val,id0,.slice A ids.length cap⟩)):=hkw.narrow (fun x hx=>by have:=Hga.out;simp at hx |-;omega);have HE4:=Lib.hid hE4;have Hkz:=Lib.hid hkz;have HO4:=Lib.hid (HOW.out.kept hkf (fun x hx=>by have:=(HOW.out.at_base hx).1;have:=Hga.out;have:=Hgl3.out x hx;simp;omega));clear hE4 hE hkw hkz hkf hg2 hg3 hb0 hK0;(go_wp2_with fail);refine bodyPost_ret (results_cell_row Tryz.results124 _ _ ga 105 (zD ⟨5,0,key,val,id0,.slice A ids.length cap⟩) (0,0) _ rfl Hfin.out Tryz.underlying105 rfl (by rw[qG];exact yV)) rfl ?_;have e1:yT 5 l e=⟨⟨5,0,key,val,id0,ids⟩,l3,e3⟩:=by
        rw[takeO_5];rw[Hrd.out,Hval.out,Hkey.out]
      rw[e1];exact⟨A,cap,rfl,HO4.out,HE4.out,Hkz.out⟩
theorem op_take (k:Nat) (w:World) (g:Nat) (l:List UInt8) (e:Int) (h:jQ w g l e) (hp:yZ w) (h1:1<=k) (h7:k<=7) :
    Calls Tryz.prog 124 #[.pointer (some ⟨g,0,none⟩),.int .i64 k] w fun en w'=>∃A cap,en = .returned (.agg (opC (yT k l e).o A cap))/\Own w' w.heap.size 24 32 A (yT k l e).o.refs.length cap ((yT k l e).o.refs.map idC)/\jQ w' g (yT k l e).l (yT k l e).e/\z4 [g] w w':=by
  have hk:k=1\/k=2\/k=3\/k=4\/k=5\/k=6\/k=7:=by omega
  rcases hk with rfl | rfl | rfl | rfl | rfl | rfl | rfl
  · exact(take_1 w g l e h hp).mono fun en w' hh=>⟨none,0,hh.1,Own.nil _ _ _ _,hh.2⟩
  · exact(take_2 w g l e h hp).mono fun en w' hh=>⟨none,0,hh.1,Own.nil _ _ _ _,hh.2⟩
  · exact take_3 w g l e h hp
  · exact(take_4 w g l e h hp).mono fun en w' hh=>⟨none,0,hh.1,Own.nil _ _ _ _,hh.2⟩
  · exact take_5 w g l e h hp
  · exact(take_6 w g l e h hp).mono fun en w' hh=>⟨none,0,hh.1,Own.nil _ _ _ _,hh.2⟩
  · exact(take_7 w g l e h hp).mono fun en w' hh=>⟨none,0,hh.1,Own.nil _ _ _ _,hh.2⟩
theorem is_ids (w:World) (A:Option Addr) (n cap:Nat) (R:List zJ) (h:y8 w A n R) (hn:n<=4294967296) :
    Calls Tryz.prog 156 #[.slice A n cap] w fun e w'=>e = .returned (.bool (bN R))/\Below w.heap.size w w':=by
  have Hlen:=Lib.hid h.len;go_enter Tryz.func156,Tryz.ntmps156
  (go_wp2_with fail);go_loopw [3] (fun i wr=>∃j:Nat,(j<n\/j=0)/\i = .int .i64 ((j:Int)+1)/\Hid (bN R=bN (R.drop j))/\Below w.heap.size w wr) (fun i _=>n+1-(intOf i).toNat)
  case atStart=>exact⟨0,.inr rfl,rfl,(show _=_ from rfl),Below.refl _ _⟩
  case round =>
    obtain⟨j,hj,rfl,hri,hb⟩:=hrel;by_cases hlt:j+1<n
    · have hR1:j+1<R.length:=by rw[Hlen.out];exact hlt
      obtain⟨q,o,rfl,hrow2⟩:=y8.get (SlR.below h hb) hlt hR1;obtain⟨q',o',hqe,hrow1⟩:=y8.get (SlR.below h hb) (show j<n by omega) (show j<R.length by omega);injection hqe with hqe
      injection hqe with hq1 hq2
      subst hq1;subst hq2;have hri3:bN R=(decide (zO (R[j]'(by omega)) (R[j+1]'hR1)<0)&&bN (R.drop (j+1))):=by
        rw[hri.out,List.drop_eq_getElem_cons (show j<R.length by omega),List.drop_eq_getElem_cons hR1];rfl
      obtain⟨x,hx⟩:∃x,R[j]'(by omega)=x:=⟨_,rfl⟩
      obtain⟨y,hy⟩:∃y,R[j+1]'hR1=y:=⟨_,rfl⟩
      rw[hx]at hrow1 hri3;rw[hy]at hrow2 hri3;clear hri hx hy hR1;have hlt2:((j:Int)+1<n):=by omega
      have w1':IntKind.i64.wrap (j:Int)=j:=IntWalk.i64_in _ (by omega);have t1:((j:Int)+1).toNat=j+1:=by omega
      have t2:(0:Int)<=(j:Int)+1:=by omega
      have t3:(j:Int)<n:=by omega
      have t4:j<n:=by omega
      have c2:=K6 x y wr.drew;by_cases hc:zO x y<0
      · rw[decide_eq_true hc,Bool.true_and]at hri3;have Hri:=Lib.hid hri3;have hcb:¬(0<=zO x y):=(by omega);obtain⟨c,hcc⟩:∃c,zO x y=c:=⟨_,rfl⟩;rw[hcc]at c2 hcb;clear hcc;clear hri3 hc;go_upto_region 4 with fail
        refine zA (Bel wr) false (by kernel_rfl) (by kernel_rfl) (by kernel_rfl) (zC wr) ?_;have hne:=zQ wr;have hS:=zC wr;have b1:=zY hrow1;have b2:=zY hrow2;repeat(refine z6 ?_ ?_;(focus(simp only[z3];done));intro K hK;go_simp;refine hK _ ?_;clear hK K)
        refine zH ?_ ?_ ?_;(focus(exact hS));(focus(simp only[z3];done));intro K hK;go_simp;refine(c2).mono ?_;rintro e w' ⟨rfl,hb⟩;replace hS:=yN hS hb;refine⟨_,rfl,hS,hK _ _ ?_⟩;clear hK K hb;repeat(refine z6 ?_ ?_;(focus(simp only[z3];done));intro K hK;go_simp;refine hK _ ?_;clear hK K)
        refine zK ?_;intro hS;have hS':Below wr.heap.size wr w':=hS;have hbz:=xM hb hS';clear b1 b2 hne hS hS' c2 w1';(go_wp2_with fail);go_roundw
        case rel=>exact⟨j+1,.inl hlt,by go_num,Hri,hbz⟩
        case measure=>simp[intOf];omega
      · rw[decide_eq_false hc,Bool.false_and]at hri3;have Hri:=Lib.hid hri3;have hcb:0<=zO x y:=(by omega);obtain⟨c,hcc⟩:∃c,zO x y=c:=⟨_,rfl⟩;rw[hcc]at c2 hcb;clear hcc;clear hri3 hc;go_upto_region 4 with fail
        refine zA (Bel wr) false (by kernel_rfl) (by kernel_rfl) (by kernel_rfl) (zC wr) ?_;have hne:=zQ wr;have hS:=zC wr;have b1:=zY hrow1;have b2:=zY hrow2;repeat(refine z6 ?_ ?_;(focus(simp only[z3];done));intro K hK;go_simp;refine hK _ ?_;clear hK K)
        refine zH ?_ ?_ ?_;(focus(exact hS));(focus(simp only[z3];done));intro K hK;go_simp;refine(c2).mono ?_;rintro e w' ⟨rfl,hb⟩;replace hS:=yN hS hb;refine⟨_,rfl,hS,hK _ _ ?_⟩;clear hK K hb;repeat(refine z6 ?_ ?_;(focus(simp only[z3];done));intro K hK;go_simp;refine hK _ ?_;clear hK K)
        refine zK ?_;intro hS;have hS':Below wr.heap.size wr w':=hS;have hbz:=xM hb hS';clear b1 b2 hne hS hS' c2 w1';(go_wp2_with fail);go_ret;exact⟨zS (by rw[Hri.out]),hbz⟩
    · have hrt:bN R=true:=by
        rw[hri.out];have hl1:(R.drop j).length<=1:=by rw[List.length_drop,Hlen.out];omega
        generalize R.drop j=Z at hl1
        match Z,hl1 with
        | [],_=>rfl
        | [_],_=>rfl
      have Hrt:=Lib.hid hrt;have hlt2:decide ((j:Int)+1<n)=false:=by simp;omega
      have hlt3:decide (j+1<n)=false:=by simp;omega
      clear hrt hri hlt hj;(go_wp2_with fail);go_ret;exact⟨zS (by rw[Hrt.out]),hb⟩
def gL (o:OpV):Prop :=
  (o.k=1/\o.key=⟨#[]⟩/\o.val=⟨#[]⟩/\o.ref=id0/\o.refs = [])\/(o.k=2/\o.n=0/\o.key=⟨#[]⟩/\o.ref=id0/\o.refs = [])\/(o.k=3/\o.n=0/\o.key=⟨#[]⟩/\o.ref=id0) \/
  (o.k=4/\o.ref=id0/\o.refs = [])\/(o.k=5/\o.n=0/\o.ref=id0)\/(o.k=6/\o.n=0/\o.key=⟨#[]⟩/\o.refs = [])\/(o.k=7/\o.n=0/\o.key=⟨#[]⟩/\o.val=⟨#[]⟩/\o.refs = [])
theorem kr (o:OpV) (A:Option Addr) (c:Nat) (w:World) (hp:yZ w) (h:gL o) :
    Calls Tryz.prog 154 #[.agg (opC o A c)] w fun e w'=>e = .returned (.bool false)/\Below w.heap.size w w':=by
  obtain⟨k,n,key,val,ref,refs⟩:=o;unfold gL at h;dsimp only at h;rcases h with⟨rfl,rfl,rfl,rfl,rfl⟩ | ⟨rfl,rfl,rfl,rfl,rfl⟩ | ⟨rfl,rfl,rfl,rfl⟩ | ⟨rfl,rfl,rfl⟩ | ⟨rfl,rfl,rfl⟩ | ⟨rfl,rfl,rfl,rfl⟩ | ⟨rfl,rfl,rfl,rfl,rfl⟩
  · show Calls Tryz.prog 154 #[.agg (zD ⟨1,n,⟨#[]⟩,⟨#[]⟩,id0,.slice A 0 c⟩)] w _;have hB:Below w.heap.size w (w.alloc (.cells (zD ⟨1,n,⟨#[]⟩,⟨#[]⟩,id0,.slice A 0 c⟩) 105)):=(Below.refl _ _).alloc (Nat.le_refl _) _;have hr:z9 (w.alloc (.cells (zD ⟨1,n,⟨#[]⟩,⟨#[]⟩,id0,.slice A 0 c⟩) 105)) w.heap.size 0 37=some (zD ⟨1,n,⟨#[]⟩,⟨#[]⟩,id0,.slice A 0 c⟩):=by simp[go_sem]
    have hof:=g5 1 _ (hp.below hB) (by omega);rw[show kC 1=1 from rfl]at hof;have x0:=z8 hr (j:=0) (by omega);have x1:=z8 hr (j:=1) (by omega);have x2:=z8 hr (j:=2) (by omega);have x3:=z8 hr (j:=3) (by omega);have x4:=zV hr (j:=4) (m:=32) (by omega);have x5:=z8 hr (j:=36) (by omega);simp only[qH,qW,qV,qU,xX,jB,Nat.zero_add]at x0 x1 x2 x3 x4 x5;clear hr hp;go_enter Tryz.func154,Tryz.ntmps154
    go_upto_region 1 with fail
    generalize w.alloc (.cells (zD ⟨1,n,⟨#[]⟩,⟨#[]⟩,id0,.slice A 0 c⟩) 105)=W at *;(go_wp2_with fail);refine hof.mono ?_;rintro e w1 ⟨rfl,rfl⟩;(go_wp2_with fail);go_ret;exact⟨rfl,hB⟩
  · show Calls Tryz.prog 154 #[.agg (zD ⟨2,0,⟨#[]⟩,val,id0,.slice A 0 c⟩)] w _;have hB:Below w.heap.size w (w.alloc (.cells (zD ⟨2,0,⟨#[]⟩,val,id0,.slice A 0 c⟩) 105)):=(Below.refl _ _).alloc (Nat.le_refl _) _;have hr:z9 (w.alloc (.cells (zD ⟨2,0,⟨#[]⟩,val,id0,.slice A 0 c⟩) 105)) w.heap.size 0 37=some (zD ⟨2,0,⟨#[]⟩,val,id0,.slice A 0 c⟩):=by simp[go_sem]
    have hof:=g5 2 _ (hp.below hB) (by omega);rw[show kC 2=4 from rfl]at hof;have x0:=z8 hr (j:=0) (by omega);have x1:=z8 hr (j:=1) (by omega);have x2:=z8 hr (j:=2) (by omega);have x3:=z8 hr (j:=3) (by omega);have x4:=zV hr (j:=4) (m:=32) (by omega);have x5:=z8 hr (j:=36) (by omega);simp only[qH,qW,qV,qU,xX,jB,Nat.zero_add]at x0 x1 x2 x3 x4 x5;clear hr hp;go_enter Tryz.func154,Tryz.ntmps154
    go_upto_region 1 with fail
    generalize w.alloc (.cells (zD ⟨2,0,⟨#[]⟩,val,id0,.slice A 0 c⟩) 105)=W at *;(go_wp2_with fail);refine hof.mono ?_;rintro e w1 ⟨rfl,rfl⟩;(go_wp2_with fail);go_ret;exact⟨rfl,hB⟩
  · show Calls Tryz.prog 154 #[.agg (zD ⟨3,0,⟨#[]⟩,val,id0,.slice A refs.length c⟩)] w _;have hB:Below w.heap.size w (w.alloc (.cells (zD ⟨3,0,⟨#[]⟩,val,id0,.slice A refs.length c⟩) 105)):=(Below.refl _ _).alloc (Nat.le_refl _) _;have hr:z9 (w.alloc (.cells (zD ⟨3,0,⟨#[]⟩,val,id0,.slice A refs.length c⟩) 105)) w.heap.size 0 37=some (zD ⟨3,0,⟨#[]⟩,val,id0,.slice A refs.length c⟩):=by simp[go_sem]
    have hof:=g5 3 _ (hp.below hB) (by omega);rw[show kC 3=20 from rfl]at hof;have x0:=z8 hr (j:=0) (by omega);have x1:=z8 hr (j:=1) (by omega);have x2:=z8 hr (j:=2) (by omega);have x3:=z8 hr (j:=3) (by omega);have x4:=zV hr (j:=4) (m:=32) (by omega);have x5:=z8 hr (j:=36) (by omega);simp only[qH,qW,qV,qU,xX,jB,Nat.zero_add]at x0 x1 x2 x3 x4 x5;clear hr hp;go_enter Tryz.func154,Tryz.ntmps154
    go_upto_region 1 with fail
    generalize w.alloc (.cells (zD ⟨3,0,⟨#[]⟩,val,id0,.slice A refs.length c⟩) 105)=W at *;(go_wp2_with fail);refine hof.mono ?_;rintro e w1 ⟨rfl,rfl⟩;(go_wp2_with fail);go_ret;exact⟨rfl,hB⟩
  · show Calls Tryz.prog 154 #[.agg (zD ⟨4,n,key,val,id0,.slice A 0 c⟩)] w _;have hB:Below w.heap.size w (w.alloc (.cells (zD ⟨4,n,key,val,id0,.slice A 0 c⟩) 105)):=(Below.refl _ _).alloc (Nat.le_refl _) _;have hr:z9 (w.alloc (.cells (zD ⟨4,n,key,val,id0,.slice A 0 c⟩) 105)) w.heap.size 0 37=some (zD ⟨4,n,key,val,id0,.slice A 0 c⟩):=by simp[go_sem]
    have hof:=g5 4 _ (hp.below hB) (by omega);rw[show kC 4=7 from rfl]at hof;have x0:=z8 hr (j:=0) (by omega);have x1:=z8 hr (j:=1) (by omega);have x2:=z8 hr (j:=2) (by omega);have x3:=z8 hr (j:=3) (by omega);have x4:=zV hr (j:=4) (m:=32) (by omega);have x5:=z8 hr (j:=36) (by omega);simp only[qH,qW,qV,qU,xX,jB,Nat.zero_add]at x0 x1 x2 x3 x4 x5;clear hr hp;go_enter Tryz.func154,Tryz.ntmps154
    go_upto_region 1 with fail
    generalize w.alloc (.cells (zD ⟨4,n,key,val,id0,.slice A 0 c⟩) 105)=W at *;(go_wp2_with fail);refine hof.mono ?_;rintro e w1 ⟨rfl,rfl⟩;(go_wp2_with fail);go_ret;exact⟨rfl,hB⟩
  · show Calls Tryz.prog 154 #[.agg (zD ⟨5,0,key,val,id0,.slice A refs.length c⟩)] w _;have hB:Below w.heap.size w (w.alloc (.cells (zD ⟨5,0,key,val,id0,.slice A refs.length c⟩) 105)):=(Below.refl _ _).alloc (Nat.le_refl _) _;have hr:z9 (w.alloc (.cells (zD ⟨5,0,key,val,id0,.slice A refs.length c⟩) 105)) w.heap.size 0 37=some (zD ⟨5,0,key,val,id0,.slice A refs.length c⟩):=by simp[go_sem]
    have hof:=g5 5 _ (hp.below hB) (by omega);rw[show kC 5=22 from rfl]at hof;have x0:=z8 hr (j:=0) (by omega);have x1:=z8 hr (j:=1) (by omega);have x2:=z8 hr (j:=2) (by omega);have x3:=z8 hr (j:=3) (by omega);have x4:=zV hr (j:=4) (m:=32) (by omega);have x5:=z8 hr (j:=36) (by omega);simp only[qH,qW,qV,qU,xX,jB,Nat.zero_add]at x0 x1 x2 x3 x4 x5;clear hr hp;go_enter Tryz.func154,Tryz.ntmps154
    go_upto_region 1 with fail
    generalize w.alloc (.cells (zD ⟨5,0,key,val,id0,.slice A refs.length c⟩) 105)=W at *;(go_wp2_with fail);refine hof.mono ?_;rintro e w1 ⟨rfl,rfl⟩;(go_wp2_with fail);go_ret;exact⟨rfl,hB⟩
  · show Calls Tryz.prog 154 #[.agg (zD ⟨6,0,⟨#[]⟩,val,ref,.slice A 0 c⟩)] w _;have hB:Below w.heap.size w (w.alloc (.cells (zD ⟨6,0,⟨#[]⟩,val,ref,.slice A 0 c⟩) 105)):=(Below.refl _ _).alloc (Nat.le_refl _) _;have hr:z9 (w.alloc (.cells (zD ⟨6,0,⟨#[]⟩,val,ref,.slice A 0 c⟩) 105)) w.heap.size 0 37=some (zD ⟨6,0,⟨#[]⟩,val,ref,.slice A 0 c⟩):=by simp[go_sem]
    have hof:=g5 6 _ (hp.below hB) (by omega);rw[show kC 6=12 from rfl]at hof;have x0:=z8 hr (j:=0) (by omega);have x1:=z8 hr (j:=1) (by omega);have x2:=z8 hr (j:=2) (by omega);have x3:=z8 hr (j:=3) (by omega);have x4:=zV hr (j:=4) (m:=32) (by omega);have x5:=z8 hr (j:=36) (by omega);simp only[qH,qW,qV,qU,xX,jB,Nat.zero_add]at x0 x1 x2 x3 x4 x5;clear hr hp;go_enter Tryz.func154,Tryz.ntmps154
    go_upto_region 1 with fail
    generalize w.alloc (.cells (zD ⟨6,0,⟨#[]⟩,val,ref,.slice A 0 c⟩) 105)=W at *;(go_wp2_with fail);refine hof.mono ?_;rintro e w1 ⟨rfl,rfl⟩;(go_wp2_with fail);go_ret;exact⟨rfl,hB⟩
  · show Calls Tryz.prog 154 #[.agg (zD ⟨7,0,⟨#[]⟩,⟨#[]⟩,ref,.slice A 0 c⟩)] w _;have hB:Below w.heap.size w (w.alloc (.cells (zD ⟨7,0,⟨#[]⟩,⟨#[]⟩,ref,.slice A 0 c⟩) 105)):=(Below.refl _ _).alloc (Nat.le_refl _) _;have hr:z9 (w.alloc (.cells (zD ⟨7,0,⟨#[]⟩,⟨#[]⟩,ref,.slice A 0 c⟩) 105)) w.heap.size 0 37=some (zD ⟨7,0,⟨#[]⟩,⟨#[]⟩,ref,.slice A 0 c⟩):=by simp[go_sem]
    have hof:=g5 7 _ (hp.below hB) (by omega);rw[show kC 7=8 from rfl]at hof;have x0:=z8 hr (j:=0) (by omega);have x1:=z8 hr (j:=1) (by omega);have x2:=z8 hr (j:=2) (by omega);have x3:=z8 hr (j:=3) (by omega);have x4:=zV hr (j:=4) (m:=32) (by omega);have x5:=z8 hr (j:=36) (by omega);simp only[qH,qW,qV,qU,xX,jB,Nat.zero_add]at x0 x1 x2 x3 x4 x5;clear hr hp;go_enter Tryz.func154,Tryz.ntmps154
    go_upto_region 1 with fail
    generalize w.alloc (.cells (zD ⟨7,0,⟨#[]⟩,⟨#[]⟩,ref,.slice A 0 c⟩) 105)=W at *;(go_wp2_with fail);refine hof.mono ?_;rintro e w1 ⟨rfl,rfl⟩;(go_wp2_with fail);go_ret;exact⟨rfl,hB⟩
def aB (o:OpV):Bool:=!(decide (o.k=4)&&decide (o.n<0))&&(decide (o.n<2147483648)&&decide (-2147483648<=o.n))
theorem yu (o:OpV) (A:Option Addr) (c:Nat) (w:World) :
    Calls Tryz.prog 155 #[.agg (opC o A c)] w fun e w'=>e = .returned (.bool (aB o))/\Below w.heap.size w w':=by
  have hB:Below w.heap.size w (w.alloc (.cells (opC o A c) 105)):=(Below.refl _ _).alloc (Nat.le_refl _) _;have hr:z9 (w.alloc (.cells (opC o A c) 105)) w.heap.size 0 37=some (opC o A c):=by unfold opC;simp[go_sem]
  have x0:=z8 hr (j:=0) (by omega);have x1:=z8 hr (j:=1) (by omega);unfold opC at x0 x1 hB hr |-;simp only[qH,qW,Nat.zero_add]at x0 x1;clear hr;have hno:aB o=(!(decide (o.k=4)&&decide (o.n<0))&&(decide (o.n<2147483648)&&decide (-2147483648<=o.n))):=rfl;obtain⟨k,n,key,val,ref,refs⟩:=o;dsimp only at *;have Hno:=Lib.hid hno;clear hno;by_cases h4:k=4
  · subst h4;by_cases hn:n<0
    · go_enter Tryz.func155,Tryz.ntmps155
      go_upto_region 1 with fail
      generalize w.alloc (.cells (zD ⟨((4:Nat):Int),n,key,val,ref,.slice A refs.length c⟩) 105)=W at *;(go_wp2_with fail);go_ret;exact⟨zS (by rw[Hno.out];simp[hn]),hB⟩
    · go_enter Tryz.func155,Tryz.ntmps155
      go_upto_region 1 with fail
      generalize w.alloc (.cells (zD ⟨((4:Nat):Int),n,key,val,ref,.slice A refs.length c⟩) 105)=W at *;go_wp2_with fail
      all_goals
        go_ret;exact⟨zS (by rw[Hno.out,Bool.eq_iff_iff];simp;omega),hB⟩
  · have hk:((k:Int)==4)=false:=by simp;omega
    go_enter Tryz.func155,Tryz.ntmps155
    go_upto_region 1 with fail
    generalize w.alloc (.cells (zD ⟨(k:Int),n,key,val,ref,.slice A refs.length c⟩) 105)=W at *;go_wp2_with fail
    all_goals
      go_ret;exact⟨zS (by rw[Hno.out,Bool.eq_iff_iff];simp;omega),hB⟩
def YW (o:OpV):Int:=if 16<o.key.size\/16<o.val.size then 3 else if aB o=false then 5 else if 8<o.refs.length then 6 else if bN o.refs=false then 4 else 0
theorem plain_k {o:OpV} (h:gL o):1<=o.k/\o.k<=7:=by unfold gL at h;omega
theorem B4 {k:Nat} (h1:1<=k) (h7:k<=7):((kC k:Int)==0)=false:=by
  have hk:k=1\/k=2\/k=3\/k=4\/k=5\/k=6\/k=7:=by omega
  rcases hk with rfl | rfl | rfl | rfl | rfl | rfl | rfl <;> decide
theorem ks (o:OpV) (A:Option Addr) (c:Nat) (w:World) (hp:yZ w) (h:gL o) (hT:y8 w A o.refs.length o.refs) (hl:o.refs.length<=4294967296) :
    Calls Tryz.prog 126 #[.agg (opC o A c)] w fun e w'=>e = .returned (.int .i64 (YW o))/\Below w.heap.size w w':=by
  have hB:Below w.heap.size w (w.alloc (.cells (opC o A c) 105)):=(Below.refl _ _).alloc (Nat.le_refl _) _;have hr:z9 (w.alloc (.cells (opC o A c) 105)) w.heap.size 0 37=some (opC o A c):=by unfold opC;simp[go_sem]
  have hk:=plain_k h;have hof:=g5 o.k _ (hp.below hB) (by omega);have hne:=B4 hk.1 hk.2;have csp:=fun w' (hp':yZ w')=>kr o A c w' hp' h;have cnu:=fun w'=>yu o A c w';have hpB:=hp.below hB;have hTB:y8 (w.alloc (.cells (opC o A c) 105)) A o.refs.length o.refs:=SlR.below hT hB;have hck:YW o=if 16<o.key.size\/16<o.val.size then 3 else if aB o=false then 5 else if 8<o.refs.length then 6 else if bN o.refs=false then 4 else 0:=rfl;have x0:=z8 hr (j:=0) (by omega);have x2:=z8 hr (j:=2) (by omega);have x3:=z8 hr (j:=3) (by omega);have x5:=z8 hr (j:=36) (by omega);unfold opC at x0 x2 x3 x5 hB hr hof csp cnu hpB hTB |-;simp only[qH,qV,qU,xX,Nat.zero_add]at x0 x2 x3 x5;clear hp h hT;obtain⟨nu,hnu⟩:∃nu,aB o=nu:=⟨_,rfl⟩
  obtain⟨ck,hckk⟩:∃ck,YW o=ck:=⟨_,rfl⟩
  rw[hnu]at cnu hck;rw[hckk]at hck |-;clear hnu hckk;obtain⟨k,n,key,val,ref,refs⟩:=o;dsimp only at *;have Hck:=Lib.hid hck;clear hck hk;obtain⟨pk,hpk⟩:∃pk,kC k=pk:=⟨_,rfl⟩
  rw[hpk]at hof hne;clear hpk;go_enter Tryz.func126,Tryz.ntmps126
  go_upto_region 1 with fail
  obtain⟨gb,hgb⟩:∃gb,w.heap.size=gb:=⟨_,rfl⟩
  obtain⟨W,hW⟩:∃W,W=w.alloc (.cells (zD ⟨(k:Int),n,key,val,ref,.slice A refs.length c⟩) 105):=⟨_,rfl⟩
  rw[<-hW]at x0 x2 x3 x5 hB hr hof hpB hTB |-;rw[hgb]at x0 x2 x3 x5 hr |-;clear hW hgb;(go_wp2_with fail);refine hof.mono ?_;rintro e w1 ⟨rfl,rfl⟩;clear hof;(go_wp2_with fail);refine(csp _ hpB).mono ?_;rintro e w1 ⟨rfl,hb1⟩;have y2:=(hb1.cell (p:=⟨gb,2,none⟩) (zI hr)).trans x2;have y3:=(hb1.cell (p:=⟨gb,3,none⟩) (zI hr)).trans x3;have y5:=(hb1.cell (p:=⟨gb,36,none⟩) (zI hr)).trans x5;have hr1:z9 w1 gb 0 37=_:=(zB (hb1.block gb (zI hr)) _ _).trans hr;have hT1:y8 w1 A refs.length refs:=SlR.below hTB hb1;have hb01:=xM hB hb1;clear csp x0 x2 x3 x5 hr hTB hpB hB hb1 hne;by_cases h16:16<key.size\/16<val.size
  · have hc:=Hck.out;rw[if_pos h16]at hc;have Hc:=Lib.hid hc;clear hc Hck;by_cases hk16:16<key.size
    · have hk16':(16:Int)<key.size:=by omega
      (go_wp2_with fail);go_ret;exact⟨yB (by rw[Hc.out]),hb01⟩
    · have hk16':¬(16:Int)<key.size:=by omega
      have hv16':(16:Int)<val.size:=by omega
      (go_wp2_with fail);go_ret;exact⟨yB (by rw[Hc.out]),hb01⟩
  · have hc:=Hck.out;rw[if_neg h16]at hc;have Hc:=Lib.hid hc;have hk16':¬(16:Int)<key.size:=by omega
    have hv16':¬(16:Int)<val.size:=by omega
    clear hc Hck h16;cases nu with
    | false =>
      have hc2:=Hc.out;rw[if_pos rfl]at hc2;have Hc2:=Lib.hid hc2;clear hc2;(go_wp2_with fail);refine(cnu _).mono ?_;rintro e w2 ⟨rfl,hb2⟩;(go_wp2_with fail);go_ret;exact⟨yB (by rw[Hc2.out]),xM hb01 hb2⟩
    | true =>
      have hc2:=Hc.out;rw[if_neg (by simp)]at hc2;have Hc2:=Lib.hid hc2;clear hc2 Hc;have z5:=fun w2 (hb2:Below w1.heap.size w1 w2)=>(hb2.cell (p:=⟨gb,36,none⟩) (zI hr1)).trans y5;(go_wp2_with fail);refine(cnu _).mono ?_;rintro e w2 ⟨rfl,hb2⟩;have v5:=z5 w2 hb2;have hT2:y8 w2 A refs.length refs:=SlR.below hT1 hb2;have hb02:=xM hb01 hb2;have cis:=is_ids w2 A refs.length c refs hT2 (by omega);clear z5 cnu y2 y3 y5 hr1 hT1 hb01 hb2 hT2;by_cases h8:8<refs.length
      · have hc:=Hc2.out;rw[if_pos h8]at hc;have Hc:=Lib.hid hc;have h8':(8:Int)<refs.length:=by omega
        clear hc;(go_wp2_with fail);go_ret;exact⟨yB (by rw[Hc.out]),hb02⟩
      · have hc:=Hc2.out;rw[if_neg h8]at hc;have h8':¬(8:Int)<refs.length:=by omega
        cases hri:bN refs with
        | false =>
          rw[hri,if_pos rfl]at hc;rw[hri]at cis;have Hc:=Lib.hid hc;clear hc hri;(go_wp2_with fail);refine cis.mono ?_;rintro e w3 ⟨rfl,hb3⟩;(go_wp2_with fail);go_ret;exact⟨yB (by rw[Hc.out]),xM hb02 hb3⟩
        | true =>
          rw[hri,if_neg (by simp)]at hc;rw[hri]at cis;have Hc:=Lib.hid hc;clear hc hri;(go_wp2_with fail);refine cis.mono ?_;rintro e w3 ⟨rfl,hb3⟩;(go_wp2_with fail);go_ret;exact⟨yB (by rw[Hc.out]),xM hb02 hb3⟩
theorem VK (k:Nat) (w:World) (hk:k<=9223372036854775807):Calls Tryz.prog 90 #[.int .i64 k] w fun e w'=>e = .returned (.int .i64 (k7 k))/\w=w':=by
  have hb:k7 k=if k=1 then 1 else if k=2\/k=3 then 2 else if k=4 then 3 else if k=5 then 4 else if k=6\/k=7 then 5 else 0:=rfl;have Hb:=Lib.hid hb;clear hb;go_enter Tryz.func90,Tryz.ntmps90
  go_wp2_with fail
  all_goals
    go_ret;exact⟨yB (by rw[Hb.out];simp at *;omega),rfl⟩
theorem mS (k:Nat) (l:List UInt8) (e:Int) (h1:1<=k) (h7:k<=7):gL (yT k l e).o/\(yT k l e).o.k=k/\(yT k l e).o.refs.length<=255:=by
  have hk:k=1\/k=2\/k=3\/k=4\/k=5\/k=6\/k=7:=by omega
  rcases hk with rfl | rfl | rfl | rfl | rfl | rfl | rfl
  · exact⟨.inl ⟨rfl,rfl,rfl,rfl,rfl⟩,rfl,by simp[yT]⟩
  · exact⟨.inr (.inl ⟨rfl,rfl,rfl,rfl,rfl⟩),rfl,by simp[yT]⟩
  · exact⟨.inr (.inr (.inl ⟨rfl,rfl,rfl,rfl⟩)),rfl,aV _ _⟩
  · exact⟨.inr (.inr (.inr (.inl ⟨rfl,rfl,rfl⟩))),rfl,by simp[yT]⟩
  · exact⟨.inr (.inr (.inr (.inr (.inl ⟨rfl,rfl,rfl⟩)))),rfl,aV _ _⟩
  · exact⟨.inr (.inr (.inr (.inr (.inr (.inl ⟨rfl,rfl,rfl,rfl⟩))))),rfl,by simp[yT]⟩
  · exact⟨.inr (.inr (.inr (.inr (.inr (.inr ⟨rfl,rfl,rfl,rfl,rfl⟩))))),rfl,by simp[yT]⟩
theorem Q2 (k:Nat) (l:List UInt8) (e:Int) (h1:1<=k) (h7:k<=7):aB (yT k l e).o=decide ((yT k l e).o.n<2147483648):=by
  have hk:k=1\/k=2\/k=3\/k=4\/k=5\/k=6\/k=7:=by omega
  have b4:=jI 4 l e;have b5:=jI 4 (txL (txL l e) (txE l e)) (txE (txL l e) (txE l e));rw[Bool.eq_iff_iff];rcases hk with rfl | rfl | rfl | rfl | rfl | rfl | rfl <;> simp[aB,yT] <;> omega
theorem J2 (k:Nat) (l:List UInt8) (e:Int) (h1:1<=k) (h7:k<=7):YW (yT k l e).o=qr (yT k l e).o:=by
  have h:=Q2 k l e h1 h7;unfold YW qr;rw[h];by_cases hn:(yT k l e).o.n<2147483648
  · rw[if_neg (show ¬(decide ((yT k l e).o.n<2147483648)=false) by simp[hn]),if_neg (show ¬(2147483648<=(yT k l e).o.n) by omega)]
  · rw[if_pos (show decide ((yT k l e).o.n<2147483648)=false by simp;omega),if_pos (show 2147483648<=(yT k l e).o.n by omega)]
theorem part_eq {k:Nat} (h:k=0\/7<k):kC k=0:=by
  rcases h with rfl | h
  · rfl
  · unfold kC;simp[List.getD,List.getElem?_eq_none (show[0,1,4,20,7,22,12,8].length<=k by simp;omega)]
@[simp] theorem kX (o:OpV) (A:Option Addr) (c:Nat):(opC o A c).size=37:=by unfold opC;simp
theorem B8 (o:OpV) (A:Option Addr) (c:Nat):∀u∈(opC o A c).toList,u.oneCell'=true:=jC _ rfl
def OfRes (w:World) (l:List UInt8) (en:Ending) (w':World):Prop :=
  ∃V,en = .returned (.tuple #[.agg V,.int .i64 (opE l)])/\(opE l=0->∃A c,V=opC (opO l) A c/\Own w' w.heap.size 24 32 A (opO l).refs.length c ((opO l).refs.map idC))/\(opE l≠0->V=zD yJ)/\Below w.heap.size w w'
theorem op_Of (s:ByteArray) (w:World) (hp:yZ w) (hs:s.size<=9223372036854775807) :
    Calls Tryz.prog 89 #[.string s] w (OfRes w s.data.toList):=by
  obtain⟨l,hl⟩:∃l,s.data.toList=l:=⟨_,rfl⟩
  have hsl:s=mkB l:=by rw[<-hl];rfl
  have hll:l.length<=9223372036854775807:=by rw[<-hl];exact hs
  have hb0:Below w.heap.size w (w.alloc (.cells (zD yJ) 105)):=(Below.refl _ _).alloc (Nat.le_refl _) _;have hg2:(w.alloc (.cells (zD yJ) 105)).heap[w.heap.size]? = some (.cells (zD yJ) 105 (0,0)):=heap_alloc_new w _;have cop:=rd_open s (w.alloc (.cells (zD yJ) 105)) hs;have hp0:=hp.below hb0;rw[hl]at cop |-;subst hsl;clear hl hs;have hE:opE l=if xF 1 l 0≠0 then xF 1 l 0
    else if xO 1 l 0=0\/7<xO 1 l 0 then 10
    else if d7 (yT (xO 1 l 0) (yS 1 l 0) 0).l (yT (xO 1 l 0) (yS 1 l 0) 0).e≠0 then d7 (yT (xO 1 l 0) (yS 1 l 0) 0).l (yT (xO 1 l 0) (yS 1 l 0) 0).e
    else qr (yT (xO 1 l 0) (yS 1 l 0) 0).o:=rfl
  have hO:opO l=(yT (xO 1 l 0) (yS 1 l 0) 0).o:=rfl;have hk8:=jI 1 l 0;have hk9:xO 1 l 0<256:=by simpa using hk8
  have HE:=Lib.hid hE;have HO:=Lib.hid hO;have hpw:=hp.lt;clear hE hO hk8 hp;show Calls Tryz.prog 89 #[.string (mkB l)] w _;go_enter Tryz.func89,Tryz.ntmps89
  go_upto_region 1 with fail
  obtain⟨ga,hga⟩:∃ga,w.heap.size=ga:=⟨_,rfl⟩
  have Hga:=Lib.hid hga;obtain⟨W,hW⟩:∃W,W=w.alloc (.cells (zD yJ) 105):=⟨_,rfl⟩
  rw[<-hW]at hb0 hg2 cop hp0 |-;rw[hga]at hg2 |-;rw[hga]at hpw;have hgl:ga<W.heap.size:=(Array.getElem?_eq_some_iff.1 hg2).1;clear hW hga;(go_wp2_with fail);refine cop.mono ?_;rintro en w1 ⟨rfl,hr1,hb1⟩;obtain⟨g,hg⟩:∃g,W.heap.size=g:=⟨_,rfl⟩
  rw[hg]at hr1 hgl |-;have hg21:=(hb1.block ga (by omega)).trans hg2;have hp1:=hp0.below hb1;have hp00:=hp1.lt;have hb01:Below ga w w1:=by have:=hb0.trans (hb1.mono hb0.size);rwa [Hga.out]at this
  have hgs:=Hga.out;clear cop hb0 hb1 hg2 hp0 hg;(go_wp2_with fail);refine(fK w1 g l 0 hr1).mono ?_;rintro en w2 ⟨rfl,hr2,hk2⟩;have hg22:=(hk2.block ga (by have:=hr1.lt;omega) (by simp;omega)).trans hg21;have hp2:=hp1.kept hk2 (by simp;have:=hp00;omega);have hb02:Below ga w w2:=hb01.trans (hk2.below (by have:=hr1.lt;omega) (by simp;omega));obtain⟨k,hk⟩:∃k,xO 1 l 0=k:=⟨_,rfl⟩
  rw[hk]at HE HO hk9 |-;clear hr1 hk2 hg21 hp1 hb01 hk;by_cases he:xF 1 l 0=0
  · have hEE:=HE.out;rw[if_neg (by rw[he];simp)]at hEE;rw[he]at hr2;have HEE:=Lib.hid hEE;clear hEE he HE;have hof:=g5 k w2 hp2 (by omega);by_cases hk0:k=0\/7<k
    · have h2:=HEE.out;rw[if_pos hk0]at h2;rw[part_eq hk0]at hof;have HEE2:=Lib.hid h2;clear h2 HEE HO hk0;(go_wp2_with fail);refine(mQ w2 g _ 0 hr2).mono ?_;rintro en w3 ⟨rfl,rfl⟩;(go_wp2_with fail);refine hof.mono ?_;rintro en w3 ⟨rfl,rfl⟩;have hsto:=yA (P:=Tryz.prog) yV w2 ga (zD yJ) (zD yJ) _ hg22 (by simp) (by simp) (jC _ rfl);have Hfin:=Lib.hid (setRow_heap w2 ga _ (zD yJ) _ _ hg22);have hkf:z4 [ga] w2 (w2.setRow ga (zD yJ)):=⟨rfl,rfl,rfl,by simp[World.setRow],fun x _ hx=>setRow_other w2 ga x _ (by simpa using hx)⟩
      have hbf:Below ga w (w2.setRow ga (zD yJ)):=hb02.trans (hkf.below (by have:=hr2.lt;omega) (by simp));have Hbf:=Lib.hid hbf;clear hbf hkf hg22 hr2 hb02;(go_wp2_with fail);refine bodyPost_ret (yI Tryz.results89 _ _ ga 105 (zD yJ) (0,0) _ rfl Hfin.out Tryz.underlying105 rfl (by first | (rw[qG];exact yV) | (rw[kX];exact yV))) rfl ?_;exact⟨_,by rw[HEE2.out];rfl,fun h0=>absurd (HEE2.out.symm.trans h0) (by omega),fun _=>rfl,by rw[Hga.out];exact Hbf.out⟩
    · have h2:=HEE.out;rw[if_neg hk0]at h2;have HEE2:=Lib.hid h2;have hk1:1<=k:=by omega
      have hk7:k<=7:=by omega
      have hpne:=B4 hk1 hk7;have hpl:=mS k (yS 1 l 0) 0 hk1 hk7;have hck:=J2 k (yS 1 l 0) 0 hk1 hk7;have ctk:=op_take k w2 g (yS 1 l 0) 0 hr2 hp2 hk1 hk7;obtain⟨pk,hpk⟩:∃pk,kC k=pk:=⟨_,rfl⟩
      rw[hpk]at hof hpne;obtain⟨R,hR⟩:∃R,yT k (yS 1 l 0) 0=R:=⟨_,rfl⟩
      rw[hR]at HEE2 HO hpl hck ctk;obtain⟨o,l2,e2⟩:=R;dsimp only at *;have Hpl:=Lib.hid hpl;have Hck:=Lib.hid hck;clear h2 HEE hk0 hpk hR hpl hck;(go_wp2_with fail);refine(mQ w2 g _ 0 hr2).mono ?_;rintro en w3 ⟨rfl,rfl⟩;(go_wp2_with fail);refine hof.mono ?_;rintro en w3 ⟨rfl,rfl⟩;clear hof;(go_wp2_with fail);refine ctk.mono ?_;rintro en w3 ⟨A,c,rfl,hown,hr3,hk3⟩;have hg23:=(hk3.block ga (by have:=hr2.lt;omega) (by simp;omega)).trans hg22;have hp3:=hp2.kept hk3 (by simp;omega);have hb03:Below ga w w3:=hb02.trans (hk3.below (by have:=hr2.lt;omega) (by simp;omega));have hg3l:g<w3.heap.size:=hr3.lt;have hs23:=hk3.size;have hg2l:g<w2.heap.size:=hr2.lt;have hbx:Below w3.heap.size w3 (w3.alloc (.cells (opC o A c) 105)):=(Below.refl _ _).alloc (Nat.le_refl _) _;have hg24:(w3.alloc (.cells (opC o A c) 105)).heap[ga]? = _:=(hbx.block ga (by omega)).trans hg23;have hr4:=hr3.below hbx;have hp4:=hp3.below hbx;have hrow:z9 (w3.alloc (.cells (opC o A c) 105)) w3.heap.size 0 37=some (opC o A c):=by unfold opC;simp[go_sem]
      have hown4:=hown.below hbx;have hb04:Below ga w (w3.alloc (.cells (opC o A c) 105)):=hb03.trans (hbx.mono (by omega));have ce:=rd_end _ g l2 e2 hr4;have hcells:opC o A c=zD ⟨o.k,o.n,o.key,o.val,o.ref,.slice A o.refs.length c⟩:=rfl;rw[hcells];go_upto_region 8 with fail
      rw[<-hcells];have Hcells:=Lib.hid hcells;obtain⟨gb,hgb⟩:∃gb,w3.heap.size=gb:=⟨_,rfl⟩
      obtain⟨W4,hW4⟩:∃W4,W4=w3.alloc (.cells (opC o A c) 105):=⟨_,rfl⟩
      rw[<-hW4]at hg24 hr4 hp4 hrow hown4 hb04 ce |-;rw[hgb]at hrow hg3l |-;clear hW4 hcells hbx hr3 hp3 hb03 hg23 hown ctk hk3 hr2 hp2 hb02 hg22 hgb;(go_wp2_with fail);refine ce.mono ?_;rintro en w5 ⟨rfl,hb5⟩;have hg25:=(hb5.block ga (Array.getElem?_eq_some_iff.1 hg24).1).trans hg24;have hp5:=hp4.below hb5;have hrow5:z9 w5 gb 0 37=some (opC o A c):=(zB (hb5.block gb (zI hrow)) _ _).trans hrow;have hown5:=hown4.below hb5;have hb05:Below ga w w5:=hb04.trans (hb5.mono (by have:=hb04.size;omega));have hga5:ga<=w5.heap.size:=by have:=hb05.size;omega
      clear ce hg24 hr4 hp4 hrow hown4 hb04 hb5;by_cases hee:d7 l2 e2=0
      · have h2:=HEE2.out;rw[if_neg (by rw[hee];simp),<-Hck.out]at h2;rw[hee];have hT5:y8 w5 A o.refs.length o.refs:=hown5.slr;have cc:=ks o A c w5 hp5 Hpl.out.1 hT5 (by have:=Hpl.out.2.2;omega);obtain⟨ck,hckk⟩:∃ck,YW o=ck:=⟨_,rfl⟩
        rw[hckk]at h2 cc;have HEE3:=Lib.hid h2;clear h2 HEE2 hee hckk hT5 hp5;(go_wp2_with fail);refine cc.mono ?_;rintro en w6 ⟨rfl,hb6⟩;have hg26:=(hb6.block ga (Array.getElem?_eq_some_iff.1 hg25).1).trans hg25;have hrow6:z9 w6 gb 0 37=some (opC o A c):=(zB (hb6.block gb (zI hrow5)) _ _).trans hrow5;have hown6:=hown5.below hb6;have hb06:Below ga w w6:=hb05.trans (hb6.mono hga5);have hga6:ga<=w6.heap.size:=by have:=hb06.size;omega
        clear cc hg25 hrow5 hown5 hb05 hb6;cases hc0:(ck==0)with
        | true =>
          obtain rfl:ck=0:=by simpa using hc0
          have hsto:=yA (P:=Tryz.prog) yV w6 ga (zD yJ) (opC o A c) _ hg26 (by simp) (by simp) (B8 o A c);have Hfin:=Lib.hid (setRow_heap w6 ga _ (opC o A c) _ _ hg26);have hkf:z4 [ga] w6 (w6.setRow ga (opC o A c)):=⟨rfl,rfl,rfl,by simp[World.setRow],fun x _ hx=>setRow_other w6 ga x _ (by simpa using hx)⟩
          have hbf:Below ga w (w6.setRow ga (opC o A c)):=hb06.trans (hkf.below hga6 (by simp));have hownf:Own (w6.setRow ga (opC o A c)) w.heap.size 24 32 A o.refs.length c (o.refs.map idC):=(hown6.mono (by have:=Hga.out;omega)).kept hkf (fun x hx=>by have:=(hown6.at_base hx).1;simp;omega);have Hbf:=Lib.hid hbf;have Hownf:=Lib.hid hownf;clear hbf hkf hg26 hb06 hownf hown6;(go_wp2_with fail);refine bodyPost_ret (yI Tryz.results89 _ _ ga 105 (opC o A c) (0,0) _ rfl Hfin.out Tryz.underlying105 rfl (by first | (rw[qG];exact yV) | (rw[kX];exact yV))) rfl ?_;exact⟨_,by rw[HEE3.out];rfl,fun _=>⟨A,c,by rw[HO.out],by rw[HO.out];exact Hownf.out⟩,fun h0=>absurd HEE3.out h0,by rw[Hga.out];exact Hbf.out⟩
        | false =>
          have hcn:ck≠0:=by simpa using hc0
          have hcb:(ck != 0)=true:=by simpa using hc0
          have Hcn:=Lib.hid hcn;clear hcn;have hsto:=yA (P:=Tryz.prog) yV w6 ga (zD yJ) (zD yJ) _ hg26 (by simp) (by simp) (jC _ rfl);have Hfin:=Lib.hid (setRow_heap w6 ga _ (zD yJ) _ _ hg26);have hkf:z4 [ga] w6 (w6.setRow ga (zD yJ)):=⟨rfl,rfl,rfl,by simp[World.setRow],fun x _ hx=>setRow_other w6 ga x _ (by simpa using hx)⟩
          have hbf:Below ga w (w6.setRow ga (zD yJ)):=hb06.trans (hkf.below hga6 (by simp));have Hbf:=Lib.hid hbf;clear hbf hkf hg26 hb06 hown6;(go_wp2_with fail);refine bodyPost_ret (yI Tryz.results89 _ _ ga 105 (zD yJ) (0,0) _ rfl Hfin.out Tryz.underlying105 rfl (by first | (rw[qG];exact yV) | (rw[kX];exact yV))) rfl ?_;exact⟨_,by rw[HEE3.out];rfl,fun h0=>absurd (HEE3.out.symm.trans h0) Hcn.out,fun _=>rfl,by rw[Hga.out];exact Hbf.out⟩
      · have h2:=HEE2.out;rw[if_pos hee]at h2;obtain⟨ee,hEe⟩:∃ee,d7 l2 e2=ee:=⟨_,rfl⟩
        rw[hEe]at h2 hee |-;have HEE3:=Lib.hid h2;have Hcn:=Lib.hid hee;have hcb:(ee != 0)=true:=by simpa using hee
        have hcc:(ee==0)=false:=by simpa using hee
        clear h2 HEE2 hee hEe hp5 hrow5 hown5;have hsto:=yA (P:=Tryz.prog) yV w5 ga (zD yJ) (zD yJ) _ hg25 (by simp) (by simp) (jC _ rfl);have Hfin:=Lib.hid (setRow_heap w5 ga _ (zD yJ) _ _ hg25);have hkf:z4 [ga] w5 (w5.setRow ga (zD yJ)):=⟨rfl,rfl,rfl,by simp[World.setRow],fun x _ hx=>setRow_other w5 ga x _ (by simpa using hx)⟩
        have hbf:Below ga w (w5.setRow ga (zD yJ)):=hb05.trans (hkf.below hga5 (by simp));have Hbf:=Lib.hid hbf;clear hbf hkf hg25 hb05;(go_wp2_with fail);refine bodyPost_ret (yI Tryz.results89 _ _ ga 105 (zD yJ) (0,0) _ rfl Hfin.out Tryz.underlying105 rfl (by first | (rw[qG];exact yV) | (rw[kX];exact yV))) rfl ?_;exact⟨_,by rw[HEE3.out];rfl,fun h0=>absurd (HEE3.out.symm.trans h0) Hcn.out,fun _=>rfl,by rw[Hga.out];exact Hbf.out⟩
  · have hEE:=HE.out;rw[if_pos he]at hEE;obtain⟨e1,he1⟩:∃e1,xF 1 l 0=e1:=⟨_,rfl⟩
    rw[he1]at hEE he hr2;have HEE:=Lib.hid hEE;have He:=Lib.hid he;have hen:(e1 != 0)=true:=by simpa using he
    have hee:(e1==0)=false:=by simpa using he
    clear hEE he HE HO he1;(go_wp2_with fail);refine(mQ w2 g _ e1 hr2).mono ?_;rintro en w3 ⟨rfl,rfl⟩;(go_wp2_with fail);refine(mQ w2 g _ e1 hr2).mono ?_;rintro en w3 ⟨rfl,rfl⟩;have hsto:=yA (P:=Tryz.prog) yV w2 ga (zD yJ) (zD yJ) _ hg22 (by simp) (by simp) (jC _ rfl);have Hfin:=Lib.hid (setRow_heap w2 ga _ (zD yJ) _ _ hg22);have hkf:z4 [ga] w2 (w2.setRow ga (zD yJ)):=⟨rfl,rfl,rfl,by simp[World.setRow],fun x _ hx=>setRow_other w2 ga x _ (by simpa using hx)⟩
    have hbf:Below ga w (w2.setRow ga (zD yJ)):=hb02.trans (hkf.below (by have:=hr2.lt;omega) (by simp));have Hbf:=Lib.hid hbf;clear hbf hkf hg22 hr2 hb02;(go_wp2_with fail);refine bodyPost_ret (yI Tryz.results89 _ _ ga 105 (zD yJ) (0,0) _ rfl Hfin.out Tryz.underlying105 rfl (by first | (rw[qG];exact yV) | (rw[kX];exact yV))) rfl ?_;exact⟨_,by rw[HEE.out];rfl,fun h0=>absurd (HEE.out.symm.trans h0) He.out,fun _=>rfl,by rw[Hga.out];exact Hbf.out⟩
def markC (m:zG):Array Value:=zL m
def kE (t:ByteArray) (m:zG):Prop:=opE m.body.data.toList=0/\k7 (opO m.body.data.toList).k=yO t
instance (t:ByteArray) (m:zG):Decidable (kE t m):=by unfold kE;infer_instance
@[go_sem] theorem storeOp0_run (w:World) (g:Nat) (hg:g=w.heap.size) (z:Array Value) (hz:z.size=37) (e:TypeId):(stS 105 ⟨g,0,none⟩ (.agg (zD yJ))).run Tryz.prog (w.alloc (.cells z e)) = .ok () (w.alloc (.cells (zD yJ) e)):=nH w g hg z hz yJ rfl e
theorem fF (l:List UInt8) (h:opE l=0):gL (opO l)/\1<=(opO l).k/\(opO l).k<=7/\(opO l).key.size<=16/\(opO l).val.size<=16/\(opO l).refs.length<=8/\bN (opO l).refs=true/\(opO l).n<2147483648:=by
  unfold opE at h;split at h
  · contradiction
  split at h
  · cases h
  split at h
  · contradiction
  rename_i h1 h2 h3
  have hp:=mS (xO 1 l 0) (yS 1 l 0) 0 (by omega) (by omega);unfold qr at h;have e:(yT (xO 1 l 0) (yS 1 l 0) 0).o=opO l:=rfl;rw[e]at h hp;split at h
  · cases h
  split at h
  · cases h
  split at h
  · cases h
  split at h
  · cases h
  rename_i k1 k2 k3 k4
  refine⟨hp.1,by omega,by omega,by omega,by omega,by omega,?_,by omega⟩;cases hr:bN (opO l).refs with
  | true=>rfl
  | false=>exact absurd hr k4
section
open Go.RowKit
end
@[go_sem] theorem storeValA_run (w:World) (g:Nat) (hg:g=w.heap.size) (z:Array Value) (hz:z.size=3) (k n:Int) (A:Option Addr) (m c:Nat) (e:TypeId):(stS 43 ⟨g,0,none⟩ (.agg (zF ⟨k,n,.slice A m c⟩))).run Tryz.prog (w.alloc (.cells z e)) = .ok () (w.alloc (.cells (zF ⟨k,n,.slice A m c⟩) e)):=iX w g hg z hz _ rfl e
section
open Go.RowKit
abbrev okR (x:xH):Prop:=x.val.size<=maxLen
abbrev RowSet (w:World) (b:Nat) (L:List xH):Prop:=qQ w b rowV okR L
def small (x:xH):Prop:=x.val.size<=16
section
variable {w:World} {b:Nat} {X:List xH} {x:xH}
end
section
variable {w w':World} {g bl bg:Nat} {L G:List xH}
end
def longE (s:ByteArray):Int:=if 16<s.size then 3 else 0
def aI (L G:List xH) (x:xH):List xH:=if 16<x.val.size then L else if x∈G then L else xU x8 L x
end
def a9 (G:List xH) (v:ByteArray) (tags:List zJ):List xH:=tags.foldl (fun G t=>xU x8 G ⟨t,v⟩) G
def a8 (L:List xH) (v:ByteArray) (tags:List zJ):List xH:=tags.foldl (fun L t=>L.filter fun y=>decide (y≠(⟨t,v⟩:xH))) L
theorem nR {v:ByteArray}:∀ {tags:List zJ} {G:List xH} {x:xH},x∈a9 G v tags↔x∈G\/(x.val=v/\x.tag∈tags)
  | [],G,x=>by simp[a9]
  | t :: tags,G,x=>by
    show x∈a9 (xU x8 G ⟨t,v⟩) v tags↔_;rw[nR,vE bD,List.mem_cons];constructor
    · rintro((h | h) | ⟨h1,h2⟩)
      · subst h;exact .inr ⟨rfl,.inl rfl⟩
      · exact .inl h
      · exact .inr ⟨h1,.inr h2⟩
    · rintro(h | ⟨h1,h | h⟩)
      · exact .inl (.inr h)
      · exact .inl (.inl (by cases x;simp_all))
      · exact .inr ⟨h1,h⟩
theorem eI {v:ByteArray}:∀ {tags:List zJ} {L:List xH} {x:xH},x∈a8 L v tags↔x∈L/\¬(x.val=v/\x.tag∈tags)
  | [],L,x=>by simp[a8]
  | t :: tags,L,x=>by
    show x∈a8 (L.filter fun y=>decide (y≠(⟨t,v⟩:xH))) v tags↔_;rw[eI,List.mem_filter,List.mem_cons,decide_eq_true_eq];constructor
    · rintro⟨⟨h1,h2⟩,h3⟩;refine⟨h1,?_⟩;rintro⟨e1,e2 | e2⟩
      · exact h2 (by cases x;simp_all)
      · exact h3 ⟨e1,e2⟩
    · rintro⟨h1,h2⟩;refine⟨⟨h1,fun e=>h2 (by subst e;exact⟨rfl,.inl rfl⟩)⟩,fun h=>h2 ⟨h.1,.inr h.2⟩⟩
theorem cN {v:ByteArray}:∀ {tags:List zJ} {G:List xH},Ris x8 G->Ris x8 (a9 G v tags)
  | [],_,h=>h
  | t :: tags,G,h=>by
    show Ris x8 (a9 (xU x8 G ⟨t,v⟩) v tags);exact cN (vR bD h)
theorem cM {v:ByteArray}:∀ {tags:List zJ} {L:List xH},Ris x8 L->Ris x8 (a8 L v tags)
  | [],_,h=>h
  | t :: tags,L,h=>by
    show Ris x8 (a8 (L.filter fun y=>decide (y≠(⟨t,v⟩:xH))) v tags);exact cM (h.filter _)
structure xJ where
  val:ByteArray
  n:Int
  id:zJ
def vc (x:xJ):Array Value:=#[.string x.val] ++ #[.int .i64 x.n]++idC x.id
def vd:xJ:=⟨⟨#[]⟩,0,id0⟩
theorem JF {x y:xJ} (h:x.val=y.val/\x.n=y.n/\x.id=y.id):x=y:=by cases x;cases y;simp_all
instance:DecidableEq xJ:=fun x y=>if h:x.val=y.val/\x.n=y.n/\x.id=y.id then isTrue (JF h)else isFalse (fun e=>h (by subst e;simp))
def vJ (x y:xJ):Int:=orL [vK x.n y.n,zO x.id y.id,xP x.val y.val]
abbrev bB:=ByteArray×xJ
theorem YV {a b:ByteArray} (h1:¬xP a b<0) (h2:a≠b):xP b a<0:=by
  have:=rI a b;have h3:xP a b≠0:=fun e=>h2 ((fH a b).1 e);omega
theorem J1 {a:ByteArray}:¬xP a a<0:=by rw[ZN];omega
def gY:List bB->Prop
  | []=>True
  | x :: l=>(∀y∈l,xP x.1 y.1<0)/\gY l
def gS:List bB->ByteArray->xJ->List bB
  | [],k,x=>[(k,x)]
  | y :: l,k,x=>if xP y.1 k<0 then y :: gS l k x else if y.1=k then(if 0<vJ x y.2 then(k,x) :: l else y :: l)else(k,x) :: y :: l
theorem ZB:∀(l:List bB) (k:ByteArray) (x:xJ),∀y∈gS l k x,y.1=k\/∃z∈l,z.1=y.1
  | [],k,x,y,hy=>by simp[gS]at hy;left;rw[hy]
  | a :: l,k,x,y,hy=>by
    unfold gS at hy;split at hy
    · rcases List.mem_cons.1 hy with h | h
      · right;exact⟨a,by simp,by rw[h]⟩
      · rcases ZB l k x y h with h | ⟨z,hz,e⟩
        · exact .inl h
        · exact .inr ⟨z,List.mem_cons.2 (.inr hz),e⟩
    · split at hy
      · split at hy
        · rcases List.mem_cons.1 hy with h | h
          · left;rw[h]
          · right;exact⟨y,List.mem_cons.2 (.inr h),rfl⟩
        · right;exact⟨y,hy,rfl⟩
      · rcases List.mem_cons.1 hy with h | h
        · left;rw[h]
        · right;exact⟨y,h,rfl⟩
theorem s5:∀(l:List bB) (k:ByteArray) (x:xJ),gY l->gY (gS l k x)
  | [],k,x,_=>⟨by simp,trivial⟩
  | a :: l,k,x,h=>by
    unfold gS;split
    · rename_i hlt
      refine⟨fun y hy=>?_,s5 l k x h.2⟩;rcases ZB l k x y hy with e | ⟨z,hz,e⟩
      · rw[e];exact hlt
      · rw[<-e];exact h.1 z hz
    · rename_i hlt
      split
      · rename_i he
        split
        · exact⟨fun y hy=>by rw[<-he];exact h.1 y hy,h.2⟩
        · exact h
      · rename_i he
        have hka:xP k a.1<0:=YV hlt he;refine⟨fun y hy=>?_,h⟩;rcases List.mem_cons.1 hy with e | hy
        · rw[e];exact hka
        · exact fI _ _ _ hka (h.1 y hy)
def bU (k:ByteArray) (x:xJ):Int:=if 16<k.size\/16<x.val.size then 3 else if x.n<0\/2147483648<=x.n then 5 else 0
def iZ (l:List bB) (k:ByteArray) (x:xJ):List bB:=if bU k x=0 then gS l k x else l
def iO (l:List bB):Prop:=gY l/\∀p∈l,bU p.1 p.2=0
theorem QG:∀(l:List bB) (k:ByteArray) (x:xJ),∀y∈gS l k x,y=(k,x)\/y∈l
  | [],k,x,y,hy=>by simp[gS]at hy;exact .inl hy
  | a :: l,k,x,y,hy=>by
    unfold gS at hy;split at hy
    · rcases List.mem_cons.1 hy with h | h
      · exact .inr (by rw[h];simp)
      · rcases QG l k x y h with h | h
        · exact .inl h
        · exact .inr (List.mem_cons.2 (.inr h))
    · split at hy
      · split at hy
        · rcases List.mem_cons.1 hy with h | h
          · exact .inl h
          · exact .inr (List.mem_cons.2 (.inr h))
        · exact .inr hy
      · rcases List.mem_cons.1 hy with h | h
        · exact .inl h
        · exact .inr h
theorem KT {l:List bB} (h:iO l) (k:ByteArray) (x:xJ):iO (iZ l k x):=by
  unfold iZ;split
  · rename_i hc
    refine⟨s5 l k x h.1,fun p hp=>?_⟩;rcases QG l k x p hp with e | hp
    · rw[e];exact hc
    · exact h.2 p hp
  · exact h
theorem QH (l:List bB) (k:ByteArray) (x:xJ):(gS l k x).length<=l.length+1:=by
  induction l with
  | nil=>simp[gS]
  | cons a l ih =>
    unfold gS
    repeat' split
    all_goals simp;try omega
theorem rV (l:List bB) (k:ByteArray) (x:xJ):(iZ l k x).length<=l.length+1:=by
  unfold iZ;split
  · exact QH l k x
  · omega
def bT (l:List bB) (k:ByteArray):Option xJ:=(l.find? (fun p=>decide (p.1=k))).map (·.2)
theorem ZZ:dW Tryz.prog 9 Value.string (fun k:ByteArray=>k.size<=maxLen) where
  law:=WideMaps.string_law Tryz.underlying9
  key:=fun k hk=>by
    refine⟨.string k.data.toList,?_⟩;simp[keyOf,mapKey,Tryz.underlying9,hk]
  inj:=fun a b h=>by injection h
def setV (x:xJ):Value:=.agg (vc x)
theorem getL_mem {l:List bB} {k:ByteArray} {x:xJ} (h:bT l k=some x):(k,x)∈l:=by
  unfold bT at h;cases hf:l.find? (fun p=>decide (p.1=k))with
  | none=>rw[hf]at h;cases h
  | some p =>
    rw[hf]at h;have h1:=List.mem_of_find?_eq_some hf;have h2:=List.find?_some hf;have h3:p.1=k:=by simpa using h2
    have h4:p.2=x:=by simpa using h
    rw[<-h3,<-h4];exact h1
def getS (L:List bB) (k:ByteArray):ByteArray:=((bT L k).getD vd).val
section
open Go.RowKit
end
end Go.Proofs.YtgedpfebepdcmaaGreatDoor
