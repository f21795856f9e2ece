/- Part 3 of the texts that lead to this claim: the walks of the functions and the plain law, in order. -/
import Derived.Test.YtgfpjjppeldhbaaGreatDoorMt2
import Derived.IntWalk
namespace Go.Proofs.YtgfpjjppeldhbaaGreatDoor
section
open Go.RowKit
structure OpP where
  k : Int
  n : Int
  key : ByteArray
  val : ByteArray
  ref : Id32
  refs : Value
def opPC (x : OpP) : Array Value:=#[.int .i64 x.k] ++ #[.int .i64 x.n] ++ #[.string x.key] ++ #[.string x.val] ++ idC x.ref ++ #[x.refs]
@[simp] theorem opPC_size (x : OpP) : (opPC x).size = 37:=by simp [opPC]
@[go_sem] theorem opPC_g0 (x : OpP) : (opPC x)[0]? = some (.int .i64 x.k):=by first | (simp [opPC,Array.getElem?_append];done) | (rw [show opPC x = ((#[] : Array Value)) ++ #[.int .i64 x.k] ++ (#[.int .i64 x.n] ++ #[.string x.key] ++ #[.string x.val] ++ idC x.ref ++ #[x.refs]) from by apply Array.ext';simp [opPC]];exact arr_at _ _ _ _ (by simp))
@[go_sem] theorem opPC_gg0 (x : OpP) (h : 0 < (opPC x).size) : (opPC x)[0]'h = .int .i64 x.k:=Option.some.inj ((Array.getElem?_eq_getElem h).symm.trans (opPC_g0 x))
@[go_sem] theorem opPC_g1 (x : OpP) : (opPC x)[1]? = some (.int .i64 x.n):=by first | (simp [opPC,Array.getElem?_append];done) | (rw [show opPC x = (#[.int .i64 x.k]) ++ #[.int .i64 x.n] ++ (#[.string x.key] ++ #[.string x.val] ++ idC x.ref ++ #[x.refs]) from by apply Array.ext';simp [opPC]];exact arr_at _ _ _ _ (by simp))
@[go_sem] theorem opPC_gg1 (x : OpP) (h : 1 < (opPC x).size) : (opPC x)[1]'h = .int .i64 x.n:=Option.some.inj ((Array.getElem?_eq_getElem h).symm.trans (opPC_g1 x))
@[go_sem] theorem opPC_g2 (x : OpP) : (opPC x)[2]? = some (.string x.key):=by first | (simp [opPC,Array.getElem?_append];done) | (rw [show opPC x = (#[.int .i64 x.k] ++ #[.int .i64 x.n]) ++ #[.string x.key] ++ (#[.string x.val] ++ idC x.ref ++ #[x.refs]) from by apply Array.ext';simp [opPC]];exact arr_at _ _ _ _ (by simp))
@[go_sem] theorem opPC_gg2 (x : OpP) (h : 2 < (opPC x).size) : (opPC x)[2]'h = .string x.key:=Option.some.inj ((Array.getElem?_eq_getElem h).symm.trans (opPC_g2 x))
@[go_sem] theorem opPC_g3 (x : OpP) : (opPC x)[3]? = some (.string x.val):=by first | (simp [opPC,Array.getElem?_append];done) | (rw [show opPC x = (#[.int .i64 x.k] ++ #[.int .i64 x.n] ++ #[.string x.key]) ++ #[.string x.val] ++ (idC x.ref ++ #[x.refs]) from by apply Array.ext';simp [opPC]];exact arr_at _ _ _ _ (by simp))
@[go_sem] theorem opPC_gg3 (x : OpP) (h : 3 < (opPC x).size) : (opPC x)[3]'h = .string x.val:=Option.some.inj ((Array.getElem?_eq_getElem h).symm.trans (opPC_g3 x))
@[go_sem] theorem opPC_e4 (x : OpP) : (opPC x).extract 4 36 = idC x.ref:=by
  have h : opPC x = (#[.int .i64 x.k] ++ #[.int .i64 x.n] ++ #[.string x.key] ++ #[.string x.val]) ++ idC x.ref ++ (#[x.refs]):=by first | (simp [opPC,Array.append_assoc];done) | (apply Array.ext';simp [opPC];done)
  rw [h];exact arr_mid _ _ _ _ _ (by simp) (by simp)
@[go_sem] theorem opPC_g36 (x : OpP) : (opPC x)[36]? = some (x.refs):=by first | (simp [opPC,Array.getElem?_append];done) | (rw [show opPC x = (#[.int .i64 x.k] ++ #[.int .i64 x.n] ++ #[.string x.key] ++ #[.string x.val] ++ idC x.ref) ++ #[x.refs] ++ ((#[] : Array Value)) from by apply Array.ext';simp [opPC]];exact arr_at _ _ _ _ (by simp))
@[go_sem] theorem opPC_gg36 (x : OpP) (h : 36 < (opPC x).size) : (opPC x)[36]'h = x.refs:=Option.some.inj ((Array.getElem?_eq_getElem h).symm.trans (opPC_g36 x))
@[go_sem] theorem opPC_all (x : OpP) : (opPC x).extract 0 37 = opPC x:=by have:=Array.extract_size (xs:=opPC x);rwa [opPC_size] at this
theorem opPC_one (x : OpP) (hrefs : x.refs.oneCell' = true) : ∀ u ∈ (opPC x).toList,u.oneCell' = true:=by
  intro u hu;simp only [opPC,Array.toList_append,List.mem_append] at hu;rcases hu with ((((hu | hu) | hu) | hu) | hu) | hu
  · simp at hu;subst hu;rfl
  · simp at hu;subst hu;rfl
  · simp at hu;subst hu;rfl
  · simp at hu;subst hu;rfl
  · exact idC_one _ u hu
  · simp at hu;subst hu;exact hrefs
def opP0 : OpP:=⟨0,0,⟨#[]⟩,⟨#[]⟩,id0,(.slice none 0 0)⟩
theorem infoOpP : (Tryz.prog.info? 52).map (·.size) = some 37:=by kernel_rfl
@[go_sem ↓] theorem zeroOpP_run (w : World) : (zeroValue 52).run Tryz.prog w = .ok (.agg (opPC opP0)) w:=by
  have h : (Tryz.prog.info? 52).bind (·.zero) = some (.agg (opPC opP0)):=by kernel_rfl
  cases hi : Tryz.prog.info? 52 with
  | none=>rw [hi] at h;cases h
  | some i =>
    rw [hi] at h;have hz : i.zero = some (.agg (opPC opP0)):=h;simp [zeroValue,typeInfo,hi,hz]
@[go_sem ↓] theorem loadOpP_rw (a : Addr) : loadVar 52 a = ldS 52 a:=rfl
@[go_sem ↓] theorem storeOpP_rw (a : Addr) (v : Value) : storeVar 52 a v = stS 52 a v:=rfl
@[go_sem] theorem loadOpP_run (w : World) (g o : Nat) : (ldS 52 ⟨g,o,none⟩).run Tryz.prog w = match rowAt w g o 37 with | some cs=>.ok (.agg cs) w | none=>(loadVar 52 ⟨g,o,none⟩).run Tryz.prog w :=
  run_ldS Tryz.underlying52 rfl infoOpP w g o
@[go_sem] theorem storeOpP_run (w : World) (g : Nat) (hg : g = w.heap.size) (z : Array Value) (hz : z.size = 37) (x : OpP) (hrefs : x.refs.oneCell' = true) (e : TypeId) : (stS 52 ⟨g,0,none⟩ (.agg (opPC x))).run Tryz.prog (w.alloc (.cells z e)) = .ok () (w.alloc (.cells (opPC x) e)) :=
  hg ▸ run_stS_new infoOpP w z (opPC x) hz (opPC_size x) (opPC_one x hrefs)
@[go_sem ↓] theorem buildOpP_rw (parts : Array (Nat × Value)) : Instr.build 52 parts = bdS 52 parts:=rfl
@[go_sem] theorem buildOpP_e (w : World) : (bdS 52 #[]).run Tryz.prog w = .ok (.agg (opPC opP0)) w:=by kernel_rfl
@[go_sem] theorem buildOpP_k (a0 : Int) (w : World) : (bdS 52 #[(0,.int .i64 a0)]).run Tryz.prog w = .ok (.agg (opPC ⟨a0,0,⟨#[]⟩,⟨#[]⟩,id0,.slice none 0 0⟩)) w:=by kernel_rfl
@[go_sem] theorem buildOpP_kn (a0 a1 : Int) (w : World) : (bdS 52 #[(0,.int .i64 a0),(1,.int .i64 a1)]).run Tryz.prog w = .ok (.agg (opPC ⟨a0,a1,⟨#[]⟩,⟨#[]⟩,id0,.slice none 0 0⟩)) w:=by kernel_rfl
def opC (o : OpV) (A : Option Addr) (c : Nat) : Array Value:=opPC ⟨o.k,o.n,o.key,o.val,o.ref,.slice A o.refs.length c⟩
set_option maxRecDepth 100000 in
theorem opPC_set1 (k n n' : Int) (key val : ByteArray) (d : Id32) (R : Value) : (opPC ⟨k,n,key,val,d,R⟩).setIfInBounds 1 (.int .i64 n') = opPC ⟨k,n',key,val,d,R⟩:=by apply Array.ext';simp [opPC]
set_option maxRecDepth 100000 in
theorem opPC_set2 (k n : Int) (key key' val : ByteArray) (d : Id32) (R : Value) : (opPC ⟨k,n,key,val,d,R⟩).setIfInBounds 2 (.string key') = opPC ⟨k,n,key',val,d,R⟩:=by apply Array.ext';simp [opPC]
set_option maxRecDepth 100000 in
theorem opPC_set3 (k n : Int) (key val val' : ByteArray) (d : Id32) (R : Value) : (opPC ⟨k,n,key,val,d,R⟩).setIfInBounds 3 (.string val') = opPC ⟨k,n,key,val',d,R⟩:=by apply Array.ext';simp [opPC]
set_option maxRecDepth 100000 in
theorem opPC_set36 (k n : Int) (key val : ByteArray) (d : Id32) (R R' : Value) : (opPC ⟨k,n,key,val,d,R⟩).setIfInBounds 36 R' = opPC ⟨k,n,key,val,d,R'⟩:=by apply Array.ext';simp [opPC]
theorem opPC_set4 (k n : Int) (key val : ByteArray) (d d' : Id32) (R : Value) : ((opPC ⟨k,n,key,val,d,R⟩).toList.take (4 + 0) ++ (idC d').toList ++ (opPC ⟨k,n,key,val,d,R⟩).toList.drop (4 + 0 + (idC d').toList.length)).toArray = opPC ⟨k,n,key,val,d',R⟩:=by
  apply Array.ext';have h1 : (idC d').toList.length = 32:=by simp
  have h2 : (idC d).toList.length = 32:=by simp
  rw [h1];have e : (opPC ⟨k,n,key,val,d,R⟩).toList = [.int .i64 k,.int .i64 n,.string key,.string val] ++ ((idC d).toList ++ [R]):=by simp [opPC]
  have e' : (opPC ⟨k,n,key,val,d',R⟩).toList = [.int .i64 k,.int .i64 n,.string key,.string val] ++ ((idC d').toList ++ [R]):=by simp [opPC]
  rw [e,e'];simp [List.drop_append,h2]
theorem store_ref {w : World} {g : Nat} {k n : Int} {key val : ByteArray} {d : Id32} {R : Value} (d' : Id32) (h : w.heap[g]? = some (.cells (opPC ⟨k,n,key,val,d,R⟩) 52 (0,0))) :
    (stS 39 ⟨g,4,none⟩ (.agg (idC d'))).run Tryz.prog w = .ok () (w.setRow g (opPC ⟨k,n,key,val,d',R⟩)):=by
  have hst:=run_storeCells_at Tryz.prog g 4 52 (idC d').toList 0 (opPC ⟨k,n,key,val,d,R⟩) w h (by simp) (idC_one d');rw [opPC_set4] at hst;unfold stS storeVar;have hi:=infoId;cases hinfo : Tryz.prog.info? 39 with
  | none=>rw [hinfo] at hi;cases hi
  | some i =>
    rw [hinfo] at hi;have hk : i.size = 32:=by simpa using hi
    simp [Value.cells,sizeOf,typeInfo,hinfo,hk];simpa using hst
@[go_sem] theorem storeOpA_run (w : World) (g : Nat) (hg : g = w.heap.size) (z : Array Value) (hz : z.size = 37) (k n : Int) (key val : ByteArray) (d : Id32) (A : Option Addr) (m c : Nat) (e : TypeId) : (stS 52 ⟨g,0,none⟩ (.agg (opPC ⟨k,n,key,val,d,.slice A m c⟩))).run Tryz.prog (w.alloc (.cells z e)) = .ok () (w.alloc (.cells (opPC ⟨k,n,key,val,d,.slice A m c⟩) e)):=storeOpP_run w g hg z hz _ rfl e
theorem op_shift (k : Int) (w : World) : Calls Tryz.prog 206 #[.int .i64 k] w fun e w'=>e = .returned (.int .i64 (if k = 1 then 2147483648 else 0)) ∧ w = w':=by
  by_cases h : k = 1
  · subst h;go_enter Tryz.func206,Tryz.ntmps206
    (go_wp2_with fail);go_ret;exact ⟨rfl,rfl⟩
  · have hb : (k == 1) = false:=by simpa using h
    have Hk:=Lib.hid h;clear h;go_enter Tryz.func206,Tryz.ntmps206
    (go_wp2_with fail);go_ret;exact ⟨ret_int (by simp [Hk.out]),rfl⟩
set_option maxRecDepth 100000 in
set_option maxHeartbeats 2000000 in
theorem take_1 (w : World) (g : Nat) (l : List UInt8) (e : Int) (h : RdAt w g l e) (hp : PartsVar w) :
    Calls Tryz.prog 134 #[.pointer (some ⟨g,0,none⟩),.int .i64 1] w fun en w'=>en = .returned (.agg (opC (takeO 1 l e).o none 0)) ∧ RdAt w' g (takeO 1 l e).l (takeO 1 l e).e ∧ Keep [g] w w':=by
  have hg2 : ((w.alloc (.cells (opPC opP0) 52)).alloc (.cells (opPC ⟨1,0,⟨#[]⟩,⟨#[]⟩,id0,.slice none 0 0⟩) 52)).heap[w.heap.size]? = some (.cells (opPC opP0) 52 (0,0)):=by
    rw [Below.heap_alloc _ _ _ (by simp)];exact heap_alloc_new w _
  have hg3 : ((w.alloc (.cells (opPC opP0) 52)).alloc (.cells (opPC ⟨1,0,⟨#[]⟩,⟨#[]⟩,id0,.slice none 0 0⟩) 52)).heap[w.heap.size + 1]? = some (.cells (opPC ⟨1,0,⟨#[]⟩,⟨#[]⟩,id0,.slice none 0 0⟩) 52 (0,0)):=by
    have:=heap_alloc_new (w.alloc (.cells (opPC opP0) 52)) (.cells (opPC ⟨1,0,⟨#[]⟩,⟨#[]⟩,id0,.slice none 0 0⟩) 52);simpa using this
  have hb0 : Below w.heap.size w ((w.alloc (.cells (opPC opP0) 52)).alloc (.cells (opPC ⟨1,0,⟨#[]⟩,⟨#[]⟩,id0,.slice none 0 0⟩) 52)):=((Below.refl _ _).alloc (Nat.le_refl _) _).alloc (by simp) _;have hof:=op_of 1 _ (hp.below hb0) (by omega);rw [show partN 1 = 1 from rfl] at hof;have hE:=h.below hb0;have hgl:=h.lt;go_enter Tryz.func134,Tryz.ntmps134
  go_upto_region 2 with fail
  obtain ⟨ga,hga⟩ : ∃ ga,w.heap.size = ga:=⟨_,rfl⟩
  have Hga:=Lib.hid hga;obtain ⟨W,hW⟩ : ∃ W,W = ((w.alloc (.cells (opPC opP0) 52)).alloc (.cells (opPC ⟨1,0,⟨#[]⟩,⟨#[]⟩,id0,.slice none 0 0⟩) 52)):=⟨_,rfl⟩
  rw [← hW] at hb0 hg2 hg3 hE hof ⊢;rw [hga] at hg2 hg3 hgl ⊢;clear hW h hp hga;have hK0 : Keep [g,ga + 1] w W:=(Keep.of_below hb0).mono (by simp);have hngb : g ∉ [ga + 1]:=by simp;omega
  have hnga : ga ∉ [g,ga + 1]:=by simp;omega
  have hngc : ga + 1 ∉ [g]:=by simp;omega
  have hgal : ga + 1 < W.heap.size:=(Array.getElem?_eq_some_iff.1 hg3).1;(go_wp2_with fail);refine hof.mono ?_;rintro en w1 ⟨rfl,rfl⟩;clear hof;(go_wp2_with fail);refine (rd_num4 _ g _ _ hE).mono ?_;rintro en w3 ⟨rfl,hE3,hk23⟩;have hn4:=numV_lt 4 (l) (e);obtain ⟨nv,hnv⟩ : ∃ nv,numV 4 (l) (e) = nv:=⟨_,rfl⟩
  rw [hnv] at hn4 ⊢;have Hnv:=Lib.hid hnv;clear hnv;have hn5 : nv < 4294967296:=by simpa using hn4
  have h83:=(hk23.block (ga + 1) hgal hngc).trans hg3;have hc83 : ∀ j,w3.frozen? ⟨ga + 1,j,none⟩ = false:=fun j=>(by simp [World.frozen?,h83]);have x0 : w3.cell? ⟨ga + 1,1,none⟩ = some (.int .i64 0):=by rw [cell_of_row w3 (ga + 1) _ _ _ _ h83];simp [go_sem]
  have f0:=hc83 1;have hg3n:=heap_setCell_same h83 1 (.int .i64 ((nv : Int) - 2147483648));rw [opPC_set1] at hg3n;have hks:=Keep.setCell w3 ⟨ga + 1,1,none⟩ (.int .i64 ((nv : Int) - 2147483648));have hEn:=RdAt.kept hE3 hks hngb;have hg2n:=((Keep.trans (hk23.mono (S':=[g,ga + 1]) (by simp)) (hks.mono (S':=[g,ga + 1]) (by simp)) (fun x hx=>.inl hx)).block ga (by omega) hnga).trans hg2;have hK0n : Keep [g,ga + 1] w (w3.setCell ⟨ga + 1,1,none⟩ (.int .i64 ((nv : Int) - 2147483648))):=Keep.trans (Keep.trans hK0 (hk23.mono (S':=[g,ga + 1]) (by simp)) (fun x hx=>.inl hx)) (hks.mono (S':=[g,ga + 1]) (by simp)) (fun x hx=>.inl hx);have hszn : W.heap.size ≤ (w3.setCell ⟨ga + 1,1,none⟩ (.int .i64 ((nv : Int) - 2147483648))).heap.size:=Nat.le_trans hk23.size hks.size;clear hE hE3 hn4 hk23 hg3 hg2 h83 hc83 hks hK0;(go_wp2_with fail);refine (op_shift _ _).mono ?_;rintro en w4 ⟨rfl,rfl⟩;go_upto_region 11 with fail
  obtain ⟨W',hW'⟩ : ∃ W',W' = w3.setCell ⟨ga + 1,1,none⟩ (.int .i64 ((nv : Int) - 2147483648)):=⟨_,rfl⟩
  rw [← hW'] at hg3n hEn hg2n hK0n hszn ⊢;clear hW' x0 f0 hn5;have hgal' : ga + 1 < W'.heap.size:=by omega
  clear hgal hszn;obtain ⟨W,rfl⟩ : ∃ W : World,W = W':=⟨_,rfl⟩
  have hgal:=hgal';have hE:=hEn;have hg2:=hg2n;have hg3:=hg3n;have hK0:=hK0n;clear hgal' hEn hg2n hg3n hK0n;go_upto_region 16 with fail
  have hrow : rowAt W (ga + 1) 0 37 = some (opPC ⟨1,(nv : Int) - 2147483648,⟨#[]⟩,⟨#[]⟩,id0,.slice none 0 0⟩):=by unfold rowAt;rw [hg3];simp [go_sem]
  have hsto:=run_stS_at (P:=Tryz.prog) infoOpP W ga (opPC opP0) (opPC ⟨1,(nv : Int) - 2147483648,⟨#[]⟩,⟨#[]⟩,id0,.slice none 0 0⟩) _ hg2 (by simp) (by simp) (opPC_one _ rfl);have hkf : Keep [ga] W (W.setRow ga (opPC ⟨1,(nv : Int) - 2147483648,⟨#[]⟩,⟨#[]⟩,id0,.slice none 0 0⟩)):=⟨rfl,rfl,rfl,by simp [World.setRow],fun x _ hx=>setRow_other W ga x _ (by simpa using hx)⟩
  have Hfin:=Lib.hid (setRow_heap W ga _ (opPC ⟨1,(nv : Int) - 2147483648,⟨#[]⟩,⟨#[]⟩,id0,.slice none 0 0⟩) _ _ hg2);have hE4:=hE.kept hkf (by simp;omega);have hkw : Keep [g,ga,ga + 1] w (W.setRow ga (opPC ⟨1,(nv : Int) - 2147483648,⟨#[]⟩,⟨#[]⟩,id0,.slice none 0 0⟩)):=Keep.trans (hK0.mono (S':=[g,ga,ga + 1]) (by intro x hx;simp at hx ⊢;omega)) (hkf.mono (S':=[g,ga,ga + 1]) (by simp)) (fun x hx=>.inl hx);have hkz : Keep [g] w (W.setRow ga (opPC ⟨1,(nv : Int) - 2147483648,⟨#[]⟩,⟨#[]⟩,id0,.slice none 0 0⟩)):=hkw.narrow (fun x hx=>by have:=Hga.out;simp at hx ⊢;omega);have HE4:=Lib.hid hE4;have Hkz:=Lib.hid hkz;clear hE4 hE hkw hkz hkf hg2 hg3 hb0 hK0;(go_wp2_with fail);refine bodyPost_ret (results_cell_row Tryz.results134 _ _ ga 52 (opPC ⟨1,(nv : Int) - 2147483648,⟨#[]⟩,⟨#[]⟩,id0,.slice none 0 0⟩) (0,0) _ rfl Hfin.out Tryz.underlying52 rfl (by rw [opPC_size];exact infoOpP)) rfl ?_;exact ⟨by rw [← Hnv.out];rfl,HE4.out,Hkz.out⟩
set_option maxRecDepth 100000 in
set_option maxHeartbeats 2000000 in
theorem take_2 (w : World) (g : Nat) (l : List UInt8) (e : Int) (h : RdAt w g l e) (hp : PartsVar w) :
    Calls Tryz.prog 134 #[.pointer (some ⟨g,0,none⟩),.int .i64 2] w fun en w'=>en = .returned (.agg (opC (takeO 2 l e).o none 0)) ∧ RdAt w' g (takeO 2 l e).l (takeO 2 l e).e ∧ Keep [g] w w':=by
  have hg2 : ((w.alloc (.cells (opPC opP0) 52)).alloc (.cells (opPC ⟨2,0,⟨#[]⟩,⟨#[]⟩,id0,.slice none 0 0⟩) 52)).heap[w.heap.size]? = some (.cells (opPC opP0) 52 (0,0)):=by
    rw [Below.heap_alloc _ _ _ (by simp)];exact heap_alloc_new w _
  have hg3 : ((w.alloc (.cells (opPC opP0) 52)).alloc (.cells (opPC ⟨2,0,⟨#[]⟩,⟨#[]⟩,id0,.slice none 0 0⟩) 52)).heap[w.heap.size + 1]? = some (.cells (opPC ⟨2,0,⟨#[]⟩,⟨#[]⟩,id0,.slice none 0 0⟩) 52 (0,0)):=by
    have:=heap_alloc_new (w.alloc (.cells (opPC opP0) 52)) (.cells (opPC ⟨2,0,⟨#[]⟩,⟨#[]⟩,id0,.slice none 0 0⟩) 52);simpa using this
  have hb0 : Below w.heap.size w ((w.alloc (.cells (opPC opP0) 52)).alloc (.cells (opPC ⟨2,0,⟨#[]⟩,⟨#[]⟩,id0,.slice none 0 0⟩) 52)):=((Below.refl _ _).alloc (Nat.le_refl _) _).alloc (by simp) _;have hof:=op_of 2 _ (hp.below hb0) (by omega);rw [show partN 2 = 4 from rfl] at hof;have hE:=h.below hb0;have hgl:=h.lt;go_enter Tryz.func134,Tryz.ntmps134
  go_upto_region 2 with fail
  obtain ⟨ga,hga⟩ : ∃ ga,w.heap.size = ga:=⟨_,rfl⟩
  have Hga:=Lib.hid hga;obtain ⟨W,hW⟩ : ∃ W,W = ((w.alloc (.cells (opPC opP0) 52)).alloc (.cells (opPC ⟨2,0,⟨#[]⟩,⟨#[]⟩,id0,.slice none 0 0⟩) 52)):=⟨_,rfl⟩
  rw [← hW] at hb0 hg2 hg3 hE hof ⊢;rw [hga] at hg2 hg3 hgl ⊢;clear hW h hp hga;have hK0 : Keep [g,ga + 1] w W:=(Keep.of_below hb0).mono (by simp);have hngb : g ∉ [ga + 1]:=by simp;omega
  have hnga : ga ∉ [g,ga + 1]:=by simp;omega
  have hngc : ga + 1 ∉ [g]:=by simp;omega
  have hgal : ga + 1 < W.heap.size:=(Array.getElem?_eq_some_iff.1 hg3).1;(go_wp2_with fail);refine hof.mono ?_;rintro en w1 ⟨rfl,rfl⟩;clear hof;(go_wp2_with fail);refine (rd_num1 _ g _ _ hE).mono ?_;rintro en w2 ⟨rfl,hr2,hk2⟩;have hn2:=numV_lt 1 (l) (e);(go_wp2_with fail);refine (rd_raw _ g _ _ _ hr2 (by omega)).mono ?_;rintro en w3 ⟨rfl,hE3,hk3⟩;replace hE3 : RdAt w3 g (txL (l) (e)) (txE (l) (e)):=hE3;obtain ⟨val,hkv⟩ : ∃ val,mkB (rawV (numV 1 (l) (e)) (rawL 1 (l) (e)) (rawE 1 (l) (e))) = val:=⟨_,rfl⟩
  have Hval:=Lib.hid (show txV (l) (e) = val from hkv);rw [hkv];have hk23 : Keep [g] W w3:=Keep.trans hk2 hk3 (fun x hx=>.inl hx);have h83:=(hk23.block (ga + 1) hgal hngc).trans hg3;have hc83 : ∀ j,w3.frozen? ⟨ga + 1,j,none⟩ = false:=fun j=>(by simp [World.frozen?,h83]);have x0 : w3.cell? ⟨ga + 1,3,none⟩ = some (.string ⟨#[]⟩):=by rw [cell_of_row w3 (ga + 1) _ _ _ _ h83];simp [go_sem]
  have f0:=hc83 3;have hg3n:=heap_setCell_same h83 3 (.string val);rw [opPC_set3] at hg3n;have hks:=Keep.setCell w3 ⟨ga + 1,3,none⟩ (.string val);have hEn:=hE3.kept hks hngb;have hg2n:=((Keep.trans (hk23.mono (S':=[g,ga + 1]) (by simp)) (hks.mono (S':=[g,ga + 1]) (by simp)) (fun x hx=>.inl hx)).block ga (by omega) hnga).trans hg2;have hK0n : Keep [g,ga + 1] w (w3.setCell ⟨ga + 1,3,none⟩ (.string val)):=Keep.trans (Keep.trans hK0 (hk23.mono (S':=[g,ga + 1]) (by simp)) (fun x hx=>.inl hx)) (hks.mono (S':=[g,ga + 1]) (by simp)) (fun x hx=>.inl hx);have hszn : W.heap.size ≤ (w3.setCell ⟨ga + 1,3,none⟩ (.string val)).heap.size:=Nat.le_trans hk23.size hks.size;clear hE hr2 hk2 hn2 hkv hE3 hk3 hk23 hg3 hg2 h83 hc83 hks hK0;go_upto_region 9 with fail
  obtain ⟨W',hW'⟩ : ∃ W',W' = w3.setCell ⟨ga + 1,3,none⟩ (.string val):=⟨_,rfl⟩
  rw [← hW'] at hg3n hEn hg2n hK0n hszn ⊢;clear hW' x0 f0;have hgal' : ga + 1 < W'.heap.size:=by omega
  clear hgal hszn;obtain ⟨W,rfl⟩ : ∃ W : World,W = W':=⟨_,rfl⟩
  have hgal:=hgal';have hE:=hEn;have hg2:=hg2n;have hg3:=hg3n;have hK0:=hK0n;clear hgal' hEn hg2n hg3n hK0n;go_upto_region 16 with fail
  have hrow : rowAt W (ga + 1) 0 37 = some (opPC ⟨2,0,⟨#[]⟩,val,id0,.slice none 0 0⟩):=by unfold rowAt;rw [hg3];simp [go_sem]
  have hsto:=run_stS_at (P:=Tryz.prog) infoOpP W ga (opPC opP0) (opPC ⟨2,0,⟨#[]⟩,val,id0,.slice none 0 0⟩) _ hg2 (by simp) (by simp) (opPC_one _ rfl);have hkf : Keep [ga] W (W.setRow ga (opPC ⟨2,0,⟨#[]⟩,val,id0,.slice none 0 0⟩)):=⟨rfl,rfl,rfl,by simp [World.setRow],fun x _ hx=>setRow_other W ga x _ (by simpa using hx)⟩
  have Hfin:=Lib.hid (setRow_heap W ga _ (opPC ⟨2,0,⟨#[]⟩,val,id0,.slice none 0 0⟩) _ _ hg2);have hE4:=hE.kept hkf (by simp;omega);have hkw : Keep [g,ga,ga + 1] w (W.setRow ga (opPC ⟨2,0,⟨#[]⟩,val,id0,.slice none 0 0⟩)):=Keep.trans (hK0.mono (S':=[g,ga,ga + 1]) (by intro x hx;simp at hx ⊢;omega)) (hkf.mono (S':=[g,ga,ga + 1]) (by simp)) (fun x hx=>.inl hx);have hkz : Keep [g] w (W.setRow ga (opPC ⟨2,0,⟨#[]⟩,val,id0,.slice none 0 0⟩)):=hkw.narrow (fun x hx=>by have:=Hga.out;simp at hx ⊢;omega);have HE4:=Lib.hid hE4;have Hkz:=Lib.hid hkz;clear hE4 hE hkw hkz hkf hg2 hg3 hb0 hK0;(go_wp2_with fail);refine bodyPost_ret (results_cell_row Tryz.results134 _ _ ga 52 (opPC ⟨2,0,⟨#[]⟩,val,id0,.slice none 0 0⟩) (0,0) _ rfl Hfin.out Tryz.underlying52 rfl (by rw [opPC_size];exact infoOpP)) rfl ?_;exact ⟨by rw [← Hval.out];rfl,HE4.out,Hkz.out⟩
set_option maxRecDepth 100000 in
set_option maxHeartbeats 2000000 in
theorem take_4 (w : World) (g : Nat) (l : List UInt8) (e : Int) (h : RdAt w g l e) (hp : PartsVar w) :
    Calls Tryz.prog 134 #[.pointer (some ⟨g,0,none⟩),.int .i64 4] w fun en w'=>en = .returned (.agg (opC (takeO 4 l e).o none 0)) ∧ RdAt w' g (takeO 4 l e).l (takeO 4 l e).e ∧ Keep [g] w w':=by
  have hg2 : ((w.alloc (.cells (opPC opP0) 52)).alloc (.cells (opPC ⟨4,0,⟨#[]⟩,⟨#[]⟩,id0,.slice none 0 0⟩) 52)).heap[w.heap.size]? = some (.cells (opPC opP0) 52 (0,0)):=by
    rw [Below.heap_alloc _ _ _ (by simp)];exact heap_alloc_new w _
  have hg3 : ((w.alloc (.cells (opPC opP0) 52)).alloc (.cells (opPC ⟨4,0,⟨#[]⟩,⟨#[]⟩,id0,.slice none 0 0⟩) 52)).heap[w.heap.size + 1]? = some (.cells (opPC ⟨4,0,⟨#[]⟩,⟨#[]⟩,id0,.slice none 0 0⟩) 52 (0,0)):=by
    have:=heap_alloc_new (w.alloc (.cells (opPC opP0) 52)) (.cells (opPC ⟨4,0,⟨#[]⟩,⟨#[]⟩,id0,.slice none 0 0⟩) 52);simpa using this
  have hb0 : Below w.heap.size w ((w.alloc (.cells (opPC opP0) 52)).alloc (.cells (opPC ⟨4,0,⟨#[]⟩,⟨#[]⟩,id0,.slice none 0 0⟩) 52)):=((Below.refl _ _).alloc (Nat.le_refl _) _).alloc (by simp) _;have hof:=op_of 4 _ (hp.below hb0) (by omega);rw [show partN 4 = 7 from rfl] at hof;have hE:=h.below hb0;have hgl:=h.lt;go_enter Tryz.func134,Tryz.ntmps134
  go_upto_region 2 with fail
  obtain ⟨ga,hga⟩ : ∃ ga,w.heap.size = ga:=⟨_,rfl⟩
  have Hga:=Lib.hid hga;obtain ⟨W,hW⟩ : ∃ W,W = ((w.alloc (.cells (opPC opP0) 52)).alloc (.cells (opPC ⟨4,0,⟨#[]⟩,⟨#[]⟩,id0,.slice none 0 0⟩) 52)):=⟨_,rfl⟩
  rw [← hW] at hb0 hg2 hg3 hE hof ⊢;rw [hga] at hg2 hg3 hgl ⊢;clear hW h hp hga;have hK0 : Keep [g,ga + 1] w W:=(Keep.of_below hb0).mono (by simp);have hngb : g ∉ [ga + 1]:=by simp;omega
  have hnga : ga ∉ [g,ga + 1]:=by simp;omega
  have hngc : ga + 1 ∉ [g]:=by simp;omega
  have hgal : ga + 1 < W.heap.size:=(Array.getElem?_eq_some_iff.1 hg3).1;(go_wp2_with fail);refine hof.mono ?_;rintro en w1 ⟨rfl,rfl⟩;clear hof;(go_wp2_with fail);refine (rd_num1 _ g _ _ hE).mono ?_;rintro en w2 ⟨rfl,hr2,hk2⟩;have hn2:=numV_lt 1 (l) (e);(go_wp2_with fail);refine (rd_raw _ g _ _ _ hr2 (by omega)).mono ?_;rintro en w3 ⟨rfl,hE3,hk3⟩;replace hE3 : RdAt w3 g (txL (l) (e)) (txE (l) (e)):=hE3;obtain ⟨key,hkv⟩ : ∃ key,mkB (rawV (numV 1 (l) (e)) (rawL 1 (l) (e)) (rawE 1 (l) (e))) = key:=⟨_,rfl⟩
  have Hkey:=Lib.hid (show txV (l) (e) = key from hkv);rw [hkv];have hk23 : Keep [g] W w3:=Keep.trans hk2 hk3 (fun x hx=>.inl hx);have h83:=(hk23.block (ga + 1) hgal hngc).trans hg3;have hc83 : ∀ j,w3.frozen? ⟨ga + 1,j,none⟩ = false:=fun j=>(by simp [World.frozen?,h83]);have x0 : w3.cell? ⟨ga + 1,2,none⟩ = some (.string ⟨#[]⟩):=by rw [cell_of_row w3 (ga + 1) _ _ _ _ h83];simp [go_sem]
  have f0:=hc83 2;have hg3n:=heap_setCell_same h83 2 (.string key);rw [opPC_set2] at hg3n;have hks:=Keep.setCell w3 ⟨ga + 1,2,none⟩ (.string key);have hEn:=hE3.kept hks hngb;have hg2n:=((Keep.trans (hk23.mono (S':=[g,ga + 1]) (by simp)) (hks.mono (S':=[g,ga + 1]) (by simp)) (fun x hx=>.inl hx)).block ga (by omega) hnga).trans hg2;have hK0n : Keep [g,ga + 1] w (w3.setCell ⟨ga + 1,2,none⟩ (.string key)):=Keep.trans (Keep.trans hK0 (hk23.mono (S':=[g,ga + 1]) (by simp)) (fun x hx=>.inl hx)) (hks.mono (S':=[g,ga + 1]) (by simp)) (fun x hx=>.inl hx);have hszn : W.heap.size ≤ (w3.setCell ⟨ga + 1,2,none⟩ (.string key)).heap.size:=Nat.le_trans hk23.size hks.size;clear hE hr2 hk2 hn2 hkv hE3 hk3 hk23 hg3 hg2 h83 hc83 hks hK0;go_upto_region 7 with fail
  obtain ⟨W',hW'⟩ : ∃ W',W' = w3.setCell ⟨ga + 1,2,none⟩ (.string key):=⟨_,rfl⟩
  rw [← hW'] at hg3n hEn hg2n hK0n hszn ⊢;clear hW' x0 f0;have hgal' : ga + 1 < W'.heap.size:=by omega
  clear hgal hszn;obtain ⟨W,rfl⟩ : ∃ W : World,W = W':=⟨_,rfl⟩
  have hgal:=hgal';have hE:=hEn;have hg2:=hg2n;have hg3:=hg3n;have hK0:=hK0n;clear hgal' hEn hg2n hg3n hK0n;(go_wp2_with fail);refine (rd_num1 _ g _ _ hE).mono ?_;rintro en w2 ⟨rfl,hr2,hk2⟩;have hn2:=numV_lt 1 (txL l e) (txE l e);(go_wp2_with fail);refine (rd_raw _ g _ _ _ hr2 (by omega)).mono ?_;rintro en w3 ⟨rfl,hE3,hk3⟩;replace hE3 : RdAt w3 g (txL (txL l e) (txE l e)) (txE (txL l e) (txE l e)):=hE3;obtain ⟨val,hkv⟩ : ∃ val,mkB (rawV (numV 1 (txL l e) (txE l e)) (rawL 1 (txL l e) (txE l e)) (rawE 1 (txL l e) (txE l e))) = val:=⟨_,rfl⟩
  have Hval:=Lib.hid (show txV (txL l e) (txE l e) = val from hkv);rw [hkv];have hk23 : Keep [g] W w3:=Keep.trans hk2 hk3 (fun x hx=>.inl hx);have h83:=(hk23.block (ga + 1) hgal hngc).trans hg3;have hc83 : ∀ j,w3.frozen? ⟨ga + 1,j,none⟩ = false:=fun j=>(by simp [World.frozen?,h83]);have x0 : w3.cell? ⟨ga + 1,3,none⟩ = some (.string ⟨#[]⟩):=by rw [cell_of_row w3 (ga + 1) _ _ _ _ h83];simp [go_sem]
  have f0:=hc83 3;have hg3n:=heap_setCell_same h83 3 (.string val);rw [opPC_set3] at hg3n;have hks:=Keep.setCell w3 ⟨ga + 1,3,none⟩ (.string val);have hEn:=hE3.kept hks hngb;have hg2n:=((Keep.trans (hk23.mono (S':=[g,ga + 1]) (by simp)) (hks.mono (S':=[g,ga + 1]) (by simp)) (fun x hx=>.inl hx)).block ga (by omega) hnga).trans hg2;have hK0n : Keep [g,ga + 1] w (w3.setCell ⟨ga + 1,3,none⟩ (.string val)):=Keep.trans (Keep.trans hK0 (hk23.mono (S':=[g,ga + 1]) (by simp)) (fun x hx=>.inl hx)) (hks.mono (S':=[g,ga + 1]) (by simp)) (fun x hx=>.inl hx);have hszn : W.heap.size ≤ (w3.setCell ⟨ga + 1,3,none⟩ (.string val)).heap.size:=Nat.le_trans hk23.size hks.size;clear hE hr2 hk2 hn2 hkv hE3 hk3 hk23 hg3 hg2 h83 hc83 hks hK0;go_upto_region 9 with fail
  obtain ⟨W',hW'⟩ : ∃ W',W' = w3.setCell ⟨ga + 1,3,none⟩ (.string val):=⟨_,rfl⟩
  rw [← hW'] at hg3n hEn hg2n hK0n hszn ⊢;clear hW' x0 f0;have hgal' : ga + 1 < W'.heap.size:=by omega
  clear hgal hszn;obtain ⟨W,rfl⟩ : ∃ W : World,W = W':=⟨_,rfl⟩
  have hgal:=hgal';have hE:=hEn;have hg2:=hg2n;have hg3:=hg3n;have hK0:=hK0n;clear hgal' hEn hg2n hg3n hK0n;(go_wp2_with fail);refine (rd_num4 _ g _ _ hE).mono ?_;rintro en w3 ⟨rfl,hE3,hk23⟩;have hn4:=numV_lt 4 (txL (txL l e) (txE l e)) (txE (txL l e) (txE l e));obtain ⟨nv,hnv⟩ : ∃ nv,numV 4 (txL (txL l e) (txE l e)) (txE (txL l e) (txE l e)) = nv:=⟨_,rfl⟩
  rw [hnv] at hn4 ⊢;have Hnv:=Lib.hid hnv;clear hnv;have hn5 : nv < 4294967296:=by simpa using hn4
  have h83:=(hk23.block (ga + 1) hgal hngc).trans hg3;have hc83 : ∀ j,w3.frozen? ⟨ga + 1,j,none⟩ = false:=fun j=>(by simp [World.frozen?,h83]);have x0 : w3.cell? ⟨ga + 1,1,none⟩ = some (.int .i64 0):=by rw [cell_of_row w3 (ga + 1) _ _ _ _ h83];simp [go_sem]
  have f0:=hc83 1;have hg3n:=heap_setCell_same h83 1 (.int .i64 ((nv : Int)));rw [opPC_set1] at hg3n;have hks:=Keep.setCell w3 ⟨ga + 1,1,none⟩ (.int .i64 ((nv : Int)));have hEn:=RdAt.kept hE3 hks hngb;have hg2n:=((Keep.trans (hk23.mono (S':=[g,ga + 1]) (by simp)) (hks.mono (S':=[g,ga + 1]) (by simp)) (fun x hx=>.inl hx)).block ga (by omega) hnga).trans hg2;have hK0n : Keep [g,ga + 1] w (w3.setCell ⟨ga + 1,1,none⟩ (.int .i64 ((nv : Int)))):=Keep.trans (Keep.trans hK0 (hk23.mono (S':=[g,ga + 1]) (by simp)) (fun x hx=>.inl hx)) (hks.mono (S':=[g,ga + 1]) (by simp)) (fun x hx=>.inl hx);have hszn : W.heap.size ≤ (w3.setCell ⟨ga + 1,1,none⟩ (.int .i64 ((nv : Int)))).heap.size:=Nat.le_trans hk23.size hks.size;clear hE hE3 hn4 hk23 hg3 hg2 h83 hc83 hks hK0;(go_wp2_with fail);refine (op_shift _ _).mono ?_;rintro en w4 ⟨rfl,rfl⟩;go_upto_region 11 with fail
  obtain ⟨W',hW'⟩ : ∃ W',W' = w3.setCell ⟨ga + 1,1,none⟩ (.int .i64 ((nv : Int))):=⟨_,rfl⟩
  rw [← hW'] at hg3n hEn hg2n hK0n hszn ⊢;clear hW' x0 f0 hn5;have hgal' : ga + 1 < W'.heap.size:=by omega
  clear hgal hszn;obtain ⟨W,rfl⟩ : ∃ W : World,W = W':=⟨_,rfl⟩
  have hgal:=hgal';have hE:=hEn;have hg2:=hg2n;have hg3:=hg3n;have hK0:=hK0n;clear hgal' hEn hg2n hg3n hK0n;go_upto_region 16 with fail
  have hrow : rowAt W (ga + 1) 0 37 = some (opPC ⟨4,(nv : Int),key,val,id0,.slice none 0 0⟩):=by unfold rowAt;rw [hg3];simp [go_sem]
  have hsto:=run_stS_at (P:=Tryz.prog) infoOpP W ga (opPC opP0) (opPC ⟨4,(nv : Int),key,val,id0,.slice none 0 0⟩) _ hg2 (by simp) (by simp) (opPC_one _ rfl);have hkf : Keep [ga] W (W.setRow ga (opPC ⟨4,(nv : Int),key,val,id0,.slice none 0 0⟩)):=⟨rfl,rfl,rfl,by simp [World.setRow],fun x _ hx=>setRow_other W ga x _ (by simpa using hx)⟩
  have Hfin:=Lib.hid (setRow_heap W ga _ (opPC ⟨4,(nv : Int),key,val,id0,.slice none 0 0⟩) _ _ hg2);have hE4:=hE.kept hkf (by simp;omega);have hkw : Keep [g,ga,ga + 1] w (W.setRow ga (opPC ⟨4,(nv : Int),key,val,id0,.slice none 0 0⟩)):=Keep.trans (hK0.mono (S':=[g,ga,ga + 1]) (by intro x hx;simp at hx ⊢;omega)) (hkf.mono (S':=[g,ga,ga + 1]) (by simp)) (fun x hx=>.inl hx);have hkz : Keep [g] w (W.setRow ga (opPC ⟨4,(nv : Int),key,val,id0,.slice none 0 0⟩)):=hkw.narrow (fun x hx=>by have:=Hga.out;simp at hx ⊢;omega);have HE4:=Lib.hid hE4;have Hkz:=Lib.hid hkz;clear hE4 hE hkw hkz hkf hg2 hg3 hb0 hK0;(go_wp2_with fail);refine bodyPost_ret (results_cell_row Tryz.results134 _ _ ga 52 (opPC ⟨4,(nv : Int),key,val,id0,.slice none 0 0⟩) (0,0) _ rfl Hfin.out Tryz.underlying52 rfl (by rw [opPC_size];exact infoOpP)) rfl ?_;exact ⟨by rw [← Hnv.out,← Hval.out,← Hkey.out];rfl,HE4.out,Hkz.out⟩
set_option maxRecDepth 100000 in
set_option maxHeartbeats 2000000 in
theorem take_6 (w : World) (g : Nat) (l : List UInt8) (e : Int) (h : RdAt w g l e) (hp : PartsVar w) :
    Calls Tryz.prog 134 #[.pointer (some ⟨g,0,none⟩),.int .i64 6] w fun en w'=>en = .returned (.agg (opC (takeO 6 l e).o none 0)) ∧ RdAt w' g (takeO 6 l e).l (takeO 6 l e).e ∧ Keep [g] w w':=by
  have hg2 : ((w.alloc (.cells (opPC opP0) 52)).alloc (.cells (opPC ⟨6,0,⟨#[]⟩,⟨#[]⟩,id0,.slice none 0 0⟩) 52)).heap[w.heap.size]? = some (.cells (opPC opP0) 52 (0,0)):=by
    rw [Below.heap_alloc _ _ _ (by simp)];exact heap_alloc_new w _
  have hg3 : ((w.alloc (.cells (opPC opP0) 52)).alloc (.cells (opPC ⟨6,0,⟨#[]⟩,⟨#[]⟩,id0,.slice none 0 0⟩) 52)).heap[w.heap.size + 1]? = some (.cells (opPC ⟨6,0,⟨#[]⟩,⟨#[]⟩,id0,.slice none 0 0⟩) 52 (0,0)):=by
    have:=heap_alloc_new (w.alloc (.cells (opPC opP0) 52)) (.cells (opPC ⟨6,0,⟨#[]⟩,⟨#[]⟩,id0,.slice none 0 0⟩) 52);simpa using this
  have hb0 : Below w.heap.size w ((w.alloc (.cells (opPC opP0) 52)).alloc (.cells (opPC ⟨6,0,⟨#[]⟩,⟨#[]⟩,id0,.slice none 0 0⟩) 52)):=((Below.refl _ _).alloc (Nat.le_refl _) _).alloc (by simp) _;have hof:=op_of 6 _ (hp.below hb0) (by omega);rw [show partN 6 = 12 from rfl] at hof;have hE:=h.below hb0;have hgl:=h.lt;go_enter Tryz.func134,Tryz.ntmps134
  go_upto_region 2 with fail
  obtain ⟨ga,hga⟩ : ∃ ga,w.heap.size = ga:=⟨_,rfl⟩
  have Hga:=Lib.hid hga;obtain ⟨W,hW⟩ : ∃ W,W = ((w.alloc (.cells (opPC opP0) 52)).alloc (.cells (opPC ⟨6,0,⟨#[]⟩,⟨#[]⟩,id0,.slice none 0 0⟩) 52)):=⟨_,rfl⟩
  rw [← hW] at hb0 hg2 hg3 hE hof ⊢;rw [hga] at hg2 hg3 hgl ⊢;clear hW h hp hga;have hK0 : Keep [g,ga + 1] w W:=(Keep.of_below hb0).mono (by simp);have hngb : g ∉ [ga + 1]:=by simp;omega
  have hnga : ga ∉ [g,ga + 1]:=by simp;omega
  have hngc : ga + 1 ∉ [g]:=by simp;omega
  have hgal : ga + 1 < W.heap.size:=(Array.getElem?_eq_some_iff.1 hg3).1;(go_wp2_with fail);refine hof.mono ?_;rintro en w1 ⟨rfl,rfl⟩;clear hof;(go_wp2_with fail);refine (op_id _ g _ _ hE).mono ?_;rintro en w3 ⟨rfl,hE3,hk23⟩;obtain ⟨d,hd⟩ : ∃ d,idOf (rawV 32 l e) = d:=⟨_,rfl⟩
  rw [hd];have Hd:=Lib.hid hd;clear hd;have h83:=(hk23.block (ga + 1) hgal hngc).trans hg3;have hst:=store_ref d h83;have hg3n:=setRow_heap w3 (ga + 1) _ (opPC ⟨6,0,⟨#[]⟩,⟨#[]⟩,d,.slice none 0 0⟩) _ _ h83;have hks : Keep [ga + 1] w3 (w3.setRow (ga + 1) (opPC ⟨6,0,⟨#[]⟩,⟨#[]⟩,d,.slice none 0 0⟩)):=⟨rfl,rfl,rfl,by simp [World.setRow],fun x _ hx=>setRow_other w3 (ga + 1) x _ (by simpa using hx)⟩
  have hEn:=RdAt.kept hE3 hks hngb;have hg2n:=((Keep.trans (hk23.mono (S':=[g,ga + 1]) (by simp)) (hks.mono (S':=[g,ga + 1]) (by simp)) (fun x hx=>.inl hx)).block ga (by omega) hnga).trans hg2;have hK0n : Keep [g,ga + 1] w (w3.setRow (ga + 1) (opPC ⟨6,0,⟨#[]⟩,⟨#[]⟩,d,.slice none 0 0⟩)):=Keep.trans (Keep.trans hK0 (hk23.mono (S':=[g,ga + 1]) (by simp)) (fun x hx=>.inl hx)) (hks.mono (S':=[g,ga + 1]) (by simp)) (fun x hx=>.inl hx);have hszn : W.heap.size ≤ (w3.setRow (ga + 1) (opPC ⟨6,0,⟨#[]⟩,⟨#[]⟩,d,.slice none 0 0⟩)).heap.size:=Nat.le_trans hk23.size hks.size;clear hE hE3 hk23 hg3 hg2 h83 hks hK0;go_upto_region 5 with fail
  obtain ⟨W',hW'⟩ : ∃ W',W' = w3.setRow (ga + 1) (opPC ⟨6,0,⟨#[]⟩,⟨#[]⟩,d,.slice none 0 0⟩):=⟨_,rfl⟩
  rw [← hW'] at hg3n hEn hg2n hK0n hszn ⊢;clear hW' hst;have hgal' : ga + 1 < W'.heap.size:=by omega
  clear hgal hszn;obtain ⟨W,rfl⟩ : ∃ W : World,W = W':=⟨_,rfl⟩
  have hgal:=hgal';have hE:=hEn;have hg2:=hg2n;have hg3:=hg3n;have hK0:=hK0n;clear hgal' hEn hg2n hg3n hK0n;(go_wp2_with fail);refine (rd_num1 _ g _ _ hE).mono ?_;rintro en w2 ⟨rfl,hr2,hk2⟩;have hn2:=numV_lt 1 (rawL 32 l e) (rawE 32 l e);(go_wp2_with fail);refine (rd_raw _ g _ _ _ hr2 (by omega)).mono ?_;rintro en w3 ⟨rfl,hE3,hk3⟩;replace hE3 : RdAt w3 g (txL (rawL 32 l e) (rawE 32 l e)) (txE (rawL 32 l e) (rawE 32 l e)):=hE3;obtain ⟨val,hkv⟩ : ∃ val,mkB (rawV (numV 1 (rawL 32 l e) (rawE 32 l e)) (rawL 1 (rawL 32 l e) (rawE 32 l e)) (rawE 1 (rawL 32 l e) (rawE 32 l e))) = val:=⟨_,rfl⟩
  have Hval:=Lib.hid (show txV (rawL 32 l e) (rawE 32 l e) = val from hkv);rw [hkv];have hk23 : Keep [g] W w3:=Keep.trans hk2 hk3 (fun x hx=>.inl hx);have h83:=(hk23.block (ga + 1) hgal hngc).trans hg3;have hc83 : ∀ j,w3.frozen? ⟨ga + 1,j,none⟩ = false:=fun j=>(by simp [World.frozen?,h83]);have x0 : w3.cell? ⟨ga + 1,3,none⟩ = some (.string ⟨#[]⟩):=by rw [cell_of_row w3 (ga + 1) _ _ _ _ h83];simp [go_sem]
  have f0:=hc83 3;have hg3n:=heap_setCell_same h83 3 (.string val);rw [opPC_set3] at hg3n;have hks:=Keep.setCell w3 ⟨ga + 1,3,none⟩ (.string val);have hEn:=hE3.kept hks hngb;have hg2n:=((Keep.trans (hk23.mono (S':=[g,ga + 1]) (by simp)) (hks.mono (S':=[g,ga + 1]) (by simp)) (fun x hx=>.inl hx)).block ga (by omega) hnga).trans hg2;have hK0n : Keep [g,ga + 1] w (w3.setCell ⟨ga + 1,3,none⟩ (.string val)):=Keep.trans (Keep.trans hK0 (hk23.mono (S':=[g,ga + 1]) (by simp)) (fun x hx=>.inl hx)) (hks.mono (S':=[g,ga + 1]) (by simp)) (fun x hx=>.inl hx);have hszn : W.heap.size ≤ (w3.setCell ⟨ga + 1,3,none⟩ (.string val)).heap.size:=Nat.le_trans hk23.size hks.size;clear hE hr2 hk2 hn2 hkv hE3 hk3 hk23 hg3 hg2 h83 hc83 hks hK0;go_upto_region 9 with fail
  obtain ⟨W',hW'⟩ : ∃ W',W' = w3.setCell ⟨ga + 1,3,none⟩ (.string val):=⟨_,rfl⟩
  rw [← hW'] at hg3n hEn hg2n hK0n hszn ⊢;clear hW' x0 f0;have hgal' : ga + 1 < W'.heap.size:=by omega
  clear hgal hszn;obtain ⟨W,rfl⟩ : ∃ W : World,W = W':=⟨_,rfl⟩
  have hgal:=hgal';have hE:=hEn;have hg2:=hg2n;have hg3:=hg3n;have hK0:=hK0n;clear hgal' hEn hg2n hg3n hK0n;go_upto_region 16 with fail
  have hrow : rowAt W (ga + 1) 0 37 = some (opPC ⟨6,0,⟨#[]⟩,val,d,.slice none 0 0⟩):=by unfold rowAt;rw [hg3];simp [go_sem]
  have hsto:=run_stS_at (P:=Tryz.prog) infoOpP W ga (opPC opP0) (opPC ⟨6,0,⟨#[]⟩,val,d,.slice none 0 0⟩) _ hg2 (by simp) (by simp) (opPC_one _ rfl);have hkf : Keep [ga] W (W.setRow ga (opPC ⟨6,0,⟨#[]⟩,val,d,.slice none 0 0⟩)):=⟨rfl,rfl,rfl,by simp [World.setRow],fun x _ hx=>setRow_other W ga x _ (by simpa using hx)⟩
  have Hfin:=Lib.hid (setRow_heap W ga _ (opPC ⟨6,0,⟨#[]⟩,val,d,.slice none 0 0⟩) _ _ hg2);have hE4:=hE.kept hkf (by simp;omega);have hkw : Keep [g,ga,ga + 1] w (W.setRow ga (opPC ⟨6,0,⟨#[]⟩,val,d,.slice none 0 0⟩)):=Keep.trans (hK0.mono (S':=[g,ga,ga + 1]) (by intro x hx;simp at hx ⊢;omega)) (hkf.mono (S':=[g,ga,ga + 1]) (by simp)) (fun x hx=>.inl hx);have hkz : Keep [g] w (W.setRow ga (opPC ⟨6,0,⟨#[]⟩,val,d,.slice none 0 0⟩)):=hkw.narrow (fun x hx=>by have:=Hga.out;simp at hx ⊢;omega);have HE4:=Lib.hid hE4;have Hkz:=Lib.hid hkz;clear hE4 hE hkw hkz hkf hg2 hg3 hb0 hK0;(go_wp2_with fail);refine bodyPost_ret (results_cell_row Tryz.results134 _ _ ga 52 (opPC ⟨6,0,⟨#[]⟩,val,d,.slice none 0 0⟩) (0,0) _ rfl Hfin.out Tryz.underlying52 rfl (by rw [opPC_size];exact infoOpP)) rfl ?_;exact ⟨by rw [← Hval.out,← Hd.out];rfl,HE4.out,Hkz.out⟩
set_option maxRecDepth 100000 in
set_option maxHeartbeats 2000000 in
theorem take_7 (w : World) (g : Nat) (l : List UInt8) (e : Int) (h : RdAt w g l e) (hp : PartsVar w) :
    Calls Tryz.prog 134 #[.pointer (some ⟨g,0,none⟩),.int .i64 7] w fun en w'=>en = .returned (.agg (opC (takeO 7 l e).o none 0)) ∧ RdAt w' g (takeO 7 l e).l (takeO 7 l e).e ∧ Keep [g] w w':=by
  have hg2 : ((w.alloc (.cells (opPC opP0) 52)).alloc (.cells (opPC ⟨7,0,⟨#[]⟩,⟨#[]⟩,id0,.slice none 0 0⟩) 52)).heap[w.heap.size]? = some (.cells (opPC opP0) 52 (0,0)):=by
    rw [Below.heap_alloc _ _ _ (by simp)];exact heap_alloc_new w _
  have hg3 : ((w.alloc (.cells (opPC opP0) 52)).alloc (.cells (opPC ⟨7,0,⟨#[]⟩,⟨#[]⟩,id0,.slice none 0 0⟩) 52)).heap[w.heap.size + 1]? = some (.cells (opPC ⟨7,0,⟨#[]⟩,⟨#[]⟩,id0,.slice none 0 0⟩) 52 (0,0)):=by
    have:=heap_alloc_new (w.alloc (.cells (opPC opP0) 52)) (.cells (opPC ⟨7,0,⟨#[]⟩,⟨#[]⟩,id0,.slice none 0 0⟩) 52);simpa using this
  have hb0 : Below w.heap.size w ((w.alloc (.cells (opPC opP0) 52)).alloc (.cells (opPC ⟨7,0,⟨#[]⟩,⟨#[]⟩,id0,.slice none 0 0⟩) 52)):=((Below.refl _ _).alloc (Nat.le_refl _) _).alloc (by simp) _;have hof:=op_of 7 _ (hp.below hb0) (by omega);rw [show partN 7 = 8 from rfl] at hof;have hE:=h.below hb0;have hgl:=h.lt;go_enter Tryz.func134,Tryz.ntmps134
  go_upto_region 2 with fail
  obtain ⟨ga,hga⟩ : ∃ ga,w.heap.size = ga:=⟨_,rfl⟩
  have Hga:=Lib.hid hga;obtain ⟨W,hW⟩ : ∃ W,W = ((w.alloc (.cells (opPC opP0) 52)).alloc (.cells (opPC ⟨7,0,⟨#[]⟩,⟨#[]⟩,id0,.slice none 0 0⟩) 52)):=⟨_,rfl⟩
  rw [← hW] at hb0 hg2 hg3 hE hof ⊢;rw [hga] at hg2 hg3 hgl ⊢;clear hW h hp hga;have hK0 : Keep [g,ga + 1] w W:=(Keep.of_below hb0).mono (by simp);have hngb : g ∉ [ga + 1]:=by simp;omega
  have hnga : ga ∉ [g,ga + 1]:=by simp;omega
  have hngc : ga + 1 ∉ [g]:=by simp;omega
  have hgal : ga + 1 < W.heap.size:=(Array.getElem?_eq_some_iff.1 hg3).1;(go_wp2_with fail);refine hof.mono ?_;rintro en w1 ⟨rfl,rfl⟩;clear hof;(go_wp2_with fail);refine (op_id _ g _ _ hE).mono ?_;rintro en w3 ⟨rfl,hE3,hk23⟩;obtain ⟨d,hd⟩ : ∃ d,idOf (rawV 32 l e) = d:=⟨_,rfl⟩
  rw [hd];have Hd:=Lib.hid hd;clear hd;have h83:=(hk23.block (ga + 1) hgal hngc).trans hg3;have hst:=store_ref d h83;have hg3n:=setRow_heap w3 (ga + 1) _ (opPC ⟨7,0,⟨#[]⟩,⟨#[]⟩,d,.slice none 0 0⟩) _ _ h83;have hks : Keep [ga + 1] w3 (w3.setRow (ga + 1) (opPC ⟨7,0,⟨#[]⟩,⟨#[]⟩,d,.slice none 0 0⟩)):=⟨rfl,rfl,rfl,by simp [World.setRow],fun x _ hx=>setRow_other w3 (ga + 1) x _ (by simpa using hx)⟩
  have hEn:=RdAt.kept hE3 hks hngb;have hg2n:=((Keep.trans (hk23.mono (S':=[g,ga + 1]) (by simp)) (hks.mono (S':=[g,ga + 1]) (by simp)) (fun x hx=>.inl hx)).block ga (by omega) hnga).trans hg2;have hK0n : Keep [g,ga + 1] w (w3.setRow (ga + 1) (opPC ⟨7,0,⟨#[]⟩,⟨#[]⟩,d,.slice none 0 0⟩)):=Keep.trans (Keep.trans hK0 (hk23.mono (S':=[g,ga + 1]) (by simp)) (fun x hx=>.inl hx)) (hks.mono (S':=[g,ga + 1]) (by simp)) (fun x hx=>.inl hx);have hszn : W.heap.size ≤ (w3.setRow (ga + 1) (opPC ⟨7,0,⟨#[]⟩,⟨#[]⟩,d,.slice none 0 0⟩)).heap.size:=Nat.le_trans hk23.size hks.size;clear hE hE3 hk23 hg3 hg2 h83 hks hK0;go_upto_region 5 with fail
  obtain ⟨W',hW'⟩ : ∃ W',W' = w3.setRow (ga + 1) (opPC ⟨7,0,⟨#[]⟩,⟨#[]⟩,d,.slice none 0 0⟩):=⟨_,rfl⟩
  rw [← hW'] at hg3n hEn hg2n hK0n hszn ⊢;clear hW' hst;have hgal' : ga + 1 < W'.heap.size:=by omega
  clear hgal hszn;obtain ⟨W,rfl⟩ : ∃ W : World,W = W':=⟨_,rfl⟩
  have hgal:=hgal';have hE:=hEn;have hg2:=hg2n;have hg3:=hg3n;have hK0:=hK0n;clear hgal' hEn hg2n hg3n hK0n;go_upto_region 16 with fail
  have hrow : rowAt W (ga + 1) 0 37 = some (opPC ⟨7,0,⟨#[]⟩,⟨#[]⟩,d,.slice none 0 0⟩):=by unfold rowAt;rw [hg3];simp [go_sem]
  have hsto:=run_stS_at (P:=Tryz.prog) infoOpP W ga (opPC opP0) (opPC ⟨7,0,⟨#[]⟩,⟨#[]⟩,d,.slice none 0 0⟩) _ hg2 (by simp) (by simp) (opPC_one _ rfl);have hkf : Keep [ga] W (W.setRow ga (opPC ⟨7,0,⟨#[]⟩,⟨#[]⟩,d,.slice none 0 0⟩)):=⟨rfl,rfl,rfl,by simp [World.setRow],fun x _ hx=>setRow_other W ga x _ (by simpa using hx)⟩
  have Hfin:=Lib.hid (setRow_heap W ga _ (opPC ⟨7,0,⟨#[]⟩,⟨#[]⟩,d,.slice none 0 0⟩) _ _ hg2);have hE4:=hE.kept hkf (by simp;omega);have hkw : Keep [g,ga,ga + 1] w (W.setRow ga (opPC ⟨7,0,⟨#[]⟩,⟨#[]⟩,d,.slice none 0 0⟩)):=Keep.trans (hK0.mono (S':=[g,ga,ga + 1]) (by intro x hx;simp at hx ⊢;omega)) (hkf.mono (S':=[g,ga,ga + 1]) (by simp)) (fun x hx=>.inl hx);have hkz : Keep [g] w (W.setRow ga (opPC ⟨7,0,⟨#[]⟩,⟨#[]⟩,d,.slice none 0 0⟩)):=hkw.narrow (fun x hx=>by have:=Hga.out;simp at hx ⊢;omega);have HE4:=Lib.hid hE4;have Hkz:=Lib.hid hkz;clear hE4 hE hkw hkz hkf hg2 hg3 hb0 hK0;(go_wp2_with fail);refine bodyPost_ret (results_cell_row Tryz.results134 _ _ ga 52 (opPC ⟨7,0,⟨#[]⟩,⟨#[]⟩,d,.slice none 0 0⟩) (0,0) _ rfl Hfin.out Tryz.underlying52 rfl (by rw [opPC_size];exact infoOpP)) rfl ?_;exact ⟨by rw [← Hd.out];rfl,HE4.out,Hkz.out⟩
end
section
open Go.RowKit
theorem einfoId : ElemInfo Tryz.prog 50 39 32 32 :=
  .of (z:=.agg (idC id0)) Tryz.underlying50 (by kernel_rfl) (by kernel_rfl) (by kernel_rfl) (idC_size _) (by omega)
@[go_sem ↓] theorem bsId_rw (n : Nat) (parts : Array (Nat × Value)) : Instr.buildSlice 50 n parts = bsS 50 n parts:=rfl
@[go_sem] theorem bsId_run (w : World) (x : Id32) : (bsS 50 1 #[(0,.agg (idC x))]).run Tryz.prog w = .ok (.slice (some ⟨w.heap.size,0,none⟩) 1 1) (w.alloc (.cells (idC x) 39)) :=
  run_bsS1 einfoId (by omega) w (idC x) (idC_size x)
abbrev TagsIn (w : World) (A : Option Addr) (n : Nat) (R : List Id32) : Prop:=SlR w A n 32 (R.map idC)
theorem TagsIn.len {w : World} {A : Option Addr} {n : Nat} {R : List Id32} (h : TagsIn w A n R) : R.length = n:=by simpa using h.1
theorem TagsIn.get {w : World} {A : Option Addr} {n : Nat} {R : List Id32} (h : TagsIn w A n R) {i : Nat} (hi : i < n) (hR : i < R.length) : ∃ g o,A = some ⟨g,o,none⟩ ∧ rowAt w g (o + i * 32) 32 = some (idC R[i]):=by
  obtain ⟨g,o,e,hr⟩:=h.at_ hi;rw [List.getElem_map] at hr;exact ⟨g,o,e,hr⟩
end
section
open Go.RowKit
theorem takeO_3 (l : List UInt8) (e : Int) : takeO 3 l e = ⟨⟨3,0,⟨#[]⟩,txV l e,id0,(refsR (txL l e) (txE l e)).ids⟩,(refsR (txL l e) (txE l e)).l,(refsR (txL l e) (txE l e)).e⟩:=rfl
theorem takeO_5 (l : List UInt8) (e : Int) : takeO 5 l e = ⟨⟨5,0,txV l e,txV (txL l e) (txE l e),id0,(refsR (txL (txL l e) (txE l e)) (txE (txL l e) (txE l e))).ids⟩,(refsR (txL (txL l e) (txE l e)) (txE (txL l e) (txE l e))).l,(refsR (txL (txL l e) (txE l e)) (txE (txL l e) (txE l e))).e⟩:=rfl
set_option maxRecDepth 100000 in
set_option maxHeartbeats 4000000 in
theorem take_3 (w : World) (g : Nat) (l : List UInt8) (e : Int) (h : RdAt w g l e) (hp : PartsVar w) :
    Calls Tryz.prog 134 #[.pointer (some ⟨g,0,none⟩),.int .i64 3] w fun en w'=>∃ A cap,en = .returned (.agg (opC (takeO 3 l e).o A cap)) ∧ Own w' w.heap.size 39 32 A (takeO 3 l e).o.refs.length cap ((takeO 3 l e).o.refs.map idC) ∧ RdAt w' g (takeO 3 l e).l (takeO 3 l e).e ∧ Keep [g] w w':=by
  have hg2 : ((w.alloc (.cells (opPC opP0) 52)).alloc (.cells (opPC ⟨3,0,⟨#[]⟩,⟨#[]⟩,id0,.slice none 0 0⟩) 52)).heap[w.heap.size]? = some (.cells (opPC opP0) 52 (0,0)):=by
    rw [Below.heap_alloc _ _ _ (by simp)];exact heap_alloc_new w _
  have hg3 : ((w.alloc (.cells (opPC opP0) 52)).alloc (.cells (opPC ⟨3,0,⟨#[]⟩,⟨#[]⟩,id0,.slice none 0 0⟩) 52)).heap[w.heap.size + 1]? = some (.cells (opPC ⟨3,0,⟨#[]⟩,⟨#[]⟩,id0,.slice none 0 0⟩) 52 (0,0)):=by
    have:=heap_alloc_new (w.alloc (.cells (opPC opP0) 52)) (.cells (opPC ⟨3,0,⟨#[]⟩,⟨#[]⟩,id0,.slice none 0 0⟩) 52);simpa using this
  have hb0 : Below w.heap.size w ((w.alloc (.cells (opPC opP0) 52)).alloc (.cells (opPC ⟨3,0,⟨#[]⟩,⟨#[]⟩,id0,.slice none 0 0⟩) 52)):=((Below.refl _ _).alloc (Nat.le_refl _) _).alloc (by simp) _;have hof:=op_of 3 _ (hp.below hb0) (by omega);rw [show partN 3 = 20 from rfl] at hof;have hE:=h.below hb0;have hgl:=h.lt;go_enter Tryz.func134,Tryz.ntmps134
  go_upto_region 2 with fail
  obtain ⟨ga,hga⟩ : ∃ ga,w.heap.size = ga:=⟨_,rfl⟩
  have Hga:=Lib.hid hga;obtain ⟨W,hW⟩ : ∃ W,W = ((w.alloc (.cells (opPC opP0) 52)).alloc (.cells (opPC ⟨3,0,⟨#[]⟩,⟨#[]⟩,id0,.slice none 0 0⟩) 52)):=⟨_,rfl⟩
  rw [← hW] at hb0 hg2 hg3 hE hof ⊢;rw [hga] at hg2 hg3 hgl ⊢;clear hW h hp hga;have hK0 : Keep [g,ga + 1] w W:=(Keep.of_below hb0).mono (by simp);have hngb : g ∉ [ga + 1]:=by simp;omega
  have hnga : ga ∉ [g,ga + 1]:=by simp;omega
  have hngc : ga + 1 ∉ [g]:=by simp;omega
  have hgal : ga + 1 < W.heap.size:=(Array.getElem?_eq_some_iff.1 hg3).1;(go_wp2_with fail);refine hof.mono ?_;rintro en w1 ⟨rfl,rfl⟩;clear hof;(go_wp2_with fail);refine (rd_num1 _ g _ _ hE).mono ?_;rintro en w2 ⟨rfl,hr2,hk2⟩;have hn2:=numV_lt 1 (l) (e);(go_wp2_with fail);refine (rd_raw _ g _ _ _ hr2 (by omega)).mono ?_;rintro en w3 ⟨rfl,hE3,hk3⟩;replace hE3 : RdAt w3 g (txL (l) (e)) (txE (l) (e)):=hE3;obtain ⟨val,hkv⟩ : ∃ val,mkB (rawV (numV 1 (l) (e)) (rawL 1 (l) (e)) (rawE 1 (l) (e))) = val:=⟨_,rfl⟩
  have Hval:=Lib.hid (show txV (l) (e) = val from hkv);rw [hkv];have hk23 : Keep [g] W w3:=Keep.trans hk2 hk3 (fun x hx=>.inl hx);have h83:=(hk23.block (ga + 1) hgal hngc).trans hg3;have hc83 : ∀ j,w3.frozen? ⟨ga + 1,j,none⟩ = false:=fun j=>(by simp [World.frozen?,h83]);have x0 : w3.cell? ⟨ga + 1,3,none⟩ = some (.string ⟨#[]⟩):=by rw [cell_of_row w3 (ga + 1) _ _ _ _ h83];simp [go_sem]
  have f0:=hc83 3;have hg3n:=heap_setCell_same h83 3 (.string val);rw [opPC_set3] at hg3n;have hks:=Keep.setCell w3 ⟨ga + 1,3,none⟩ (.string val);have hEn:=hE3.kept hks hngb;have hg2n:=((Keep.trans (hk23.mono (S':=[g,ga + 1]) (by simp)) (hks.mono (S':=[g,ga + 1]) (by simp)) (fun x hx=>.inl hx)).block ga (by omega) hnga).trans hg2;have hK0n : Keep [g,ga + 1] w (w3.setCell ⟨ga + 1,3,none⟩ (.string val)):=Keep.trans (Keep.trans hK0 (hk23.mono (S':=[g,ga + 1]) (by simp)) (fun x hx=>.inl hx)) (hks.mono (S':=[g,ga + 1]) (by simp)) (fun x hx=>.inl hx);have hszn : W.heap.size ≤ (w3.setCell ⟨ga + 1,3,none⟩ (.string val)).heap.size:=Nat.le_trans hk23.size hks.size;clear hE hr2 hk2 hn2 hkv hE3 hk3 hk23 hg3 hg2 h83 hc83 hks hK0;go_upto_region 12 with fail
  obtain ⟨W',hW'⟩ : ∃ W',W' = w3.setCell ⟨ga + 1,3,none⟩ (.string val):=⟨_,rfl⟩
  rw [← hW'] at hg3n hEn hg2n hK0n hszn ⊢;clear hW' x0 f0;have hgal' : ga + 1 < W'.heap.size:=by omega
  clear hgal hszn;obtain ⟨W,rfl⟩ : ∃ W : World,W = W':=⟨_,rfl⟩
  have hgal:=hgal';have hE:=hEn;have hg2:=hg2n;have hg3:=hg3n;have hK0:=hK0n;clear hgal' hEn hg2n hg3n hK0n;(go_wp2_with fail);refine (rd_num1 _ g _ _ hE).mono ?_;rintro en w3 ⟨rfl,hE3,hk23⟩;have hn4:=numV_lt 1 (txL l e) (txE l e);have hRf : Hid (refsR (txL l e) (txE l e) = idLoop (numV 1 (txL l e) (txE l e)) ⟨[],rawL 1 (txL l e) (txE l e),rawE 1 (txL l e) (txE l e)⟩):=by show _ = _;rfl
  obtain ⟨N,hN⟩ : ∃ N,numV 1 (txL l e) (txE l e) = N:=⟨_,rfl⟩
  rw [hN] at hn4 hRf ⊢;clear hN;have hg3n:=(hk23.block (ga + 1) hgal hngc).trans hg3;have hg2n:=(hk23.block ga (by omega) (by simp;omega)).trans hg2;have hK0n : Keep [g,ga + 1] w w3:=Keep.trans hK0 (hk23.mono (S':=[g,ga + 1]) (by simp)) (fun x hx=>.inl hx);have hEn : RdAt w3 g (rawL 1 (txL l e) (txE l e)) (rawE 1 (txL l e) (txE l e)):=hE3;have hb3 : ga + 1 < w3.heap.size:=by have:=hk23.size;omega
  have Hw3 : Hid (w.heap.size ≤ w3.heap.size):=by have h1:=hK0n.size;exact h1
  clear hE hE3 hk23 hg3 hg2 hK0 hgal;obtain ⟨W3,rfl⟩ : ∃ W : World,W = w3:=⟨_,rfl⟩
  (go_wp2_with fail);go_loopw [47] (fun i wr=>∃ (k : Nat) (s : IdsR) (A : Option Addr) (cap : Nat),k ≤ N ∧ i = .int .i64 k ∧ s.ids.length = k ∧ Hid (idLoop N ⟨[],rawL 1 (txL l e) (txE l e),rawE 1 (txL l e) (txE l e)⟩ = idLoop (N - k) s) ∧ wr.heap[ga + 1]? = some (.cells (opPC ⟨3,0,⟨#[]⟩,val,id0,.slice A s.ids.length cap⟩) 52 (0,0)) ∧ wr.heap[ga]? = some (.cells (opPC opP0) 52 (0,0)) ∧ RdAt wr g s.l s.e ∧ Own wr W3.heap.size 39 32 A s.ids.length cap (s.ids.map idC) ∧ Keep [g,ga + 1] w wr ∧ W3.heap.size ≤ wr.heap.size) (fun i _=>N - (intOf i).toNat)
  case atStart=>exact ⟨0,⟨[],rawL 1 (txL l e) (txE l e),rawE 1 (txL l e) (txE l e)⟩,none,0,Nat.zero_le _,rfl,rfl,(show _ = _ from rfl),hg3n,hg2n,hEn,Own.nil _ _ _ _,hK0n,Nat.le_refl _⟩
  case round =>
    clear hg3n hg2n hEn hK0n;obtain ⟨k,s,A,cap,hk,rfl,hsl,hlp,hg3,hg2,hE,hown,hK0,hsz⟩:=hrel;obtain ⟨ids,l3,e3⟩:=s;dsimp only at *;by_cases hlt : k < N
    · have hlp2:=hlp.out;rw [show N - k = (N - (k + 1)) + 1 by omega] at hlp2;have hlp3 : idLoop N ⟨[],rawL 1 (txL l e) (txE l e),rawE 1 (txL l e) (txE l e)⟩ = idLoop (N - (k + 1)) ⟨ids ++ [idOf (rawV 32 l3 e3)],rawL 32 l3 e3,rawE 32 l3 e3⟩:=hlp2;have Hlp:=Lib.hid hlp3;clear hlp hlp2 hlp3;have hAb : ∀ x ∈ blk A,W3.heap.size ≤ x ∧ x < wr.heap.size:=fun x hx=>hown.at_base hx;have hnS : ga + 1 ∉ g :: blk A:=by
        intro hm;rcases List.mem_cons.1 hm with h1 | h1
        · omega
        · have:=(hAb _ h1).1;omega
      have hgA : g ∉ blk A:=fun h1=>(by have:=(hAb _ h1).1;omega);have hgaS : ga ∉ g :: blk A:=by
        intro hm;rcases List.mem_cons.1 hm with h1 | h1
        · omega
        · have:=(hAb _ h1).1;omega
      have x0 : wr.cell? ⟨ga + 1,36,none⟩ = some (.slice A ids.length cap):=by rw [cell_of_row wr (ga + 1) _ _ _ _ hg3];simp [go_sem]
      have cid:=op_id wr.drew g l3 e3 (hE.kept (Keep.drew wr) (by simp));have hids : ids.length ≤ 255:=by omega
      have HSL:=Lib.hid hsl;clear hsl;go_upto_region 14 with fail
      refine wp_region_lexf (Kp (g :: blk A) wr) false (by kernel_rfl) (by kernel_rfl) (by kernel_rfl) (by kernel_rfl) (kp_drew (g :: blk A) wr) ?_;have hne:=kp_some (g :: blk A) wr;have hS:=kp_drew (g :: blk A) wr;have b1:=ksub_cell x0 hnS;repeat (refine wpLx_loose ?_ ?_;(focus (simp only [chainOp];done));intro K hK;go_simp;refine hK _ ?_;clear hK K)
      refine wpLx_chain ?_ ?_ ?_;(focus (exact hS));(focus (simp only [chainOp];done));intro K hK;go_simp;refine cid.mono ?_;rintro en w4 ⟨rfl,hE4,hk4⟩;replace hS:=kp_next hS hk4 (by simp);refine ⟨_,rfl,hS,hK _ _ ?_⟩;clear hK K cid;repeat (refine wpLx_loose ?_ ?_;(focus (simp only [chainOp];done));intro K hK;go_simp;refine hK _ ?_;clear hK K)
      refine wpLx_chain ?_ ?_ ?_;(focus (exact hS));(focus (simp only [chainOp];done));intro K hK;go_simp;refine step_keep (kp_alloc hS _) (fun hS=>?_);refine hK _ _ ?_;clear hK K;obtain ⟨d,hd⟩ : ∃ d,idOf (rawV 32 l3 e3) = d:=⟨_,rfl⟩
      rw [hd] at hS ⊢;have Hd:=Lib.hid hd;clear hd;have hk04 : Keep [g] wr w4:=Keep.trans ((Keep.drew wr).mono (S':=[g]) (by simp)) hk4 (fun x hx=>.inl hx);have hb4:=Keep.alloc w4 (.cells (idC d) 39);have hownr:=(hown.kept hk04 (fun x hx=>by have:=(hAb x hx).1;simp;omega)).kept hb4 (by simp);have hrow2 : rowAt (w4.alloc (.cells (idC d) 39)) w4.heap.size 0 32 = some (idC d):=by simp [go_sem]
      have hsz4:=hk04.size;have hBs : W3.heap.size ≤ (w4.alloc (.cells (idC d) 39)).heap.size:=by simp;omega
      refine Lx_append einfoId rfl hownr rfl hrow2 (idC_one _) (by omega) (by omega) hBs ?_;intro A2 cap2 w5 hown5 hk5 hsub5;have hk45 : Keep (blk A) w4 w5:=Keep.trans (hb4.mono (S':=blk A) (by simp)) hk5 (fun x hx=>.inl hx);have hS5 : Keep (g :: blk A) wr w5:=Keep.trans (hk04.mono (S':=g :: blk A) (by simp)) (hk45.mono (S':=g :: blk A) (fun x hx=>.inl (List.mem_cons_of_mem _ hx))) (fun x hx=>.inl hx);refine step_keep hS5 (fun hS6=>?_);repeat (refine wpLx_loose ?_ ?_;(focus (simp only [chainOp];done));intro K hK;go_simp;refine hK _ ?_;clear hK K)
      have hgl1 : ga + 1 < wr.heap.size:=(Array.getElem?_eq_some_iff.1 hg3).1;have hg35:=(hS5.block (ga + 1) hgl1 hnS).trans hg3;have hg25:=(hS5.block ga (by omega) hgaS).trans hg2;have f0 : w5.frozen? ⟨ga + 1,36,none⟩ = false:=by simp [World.frozen?,hg35]
      have d0 : w5.cell? ⟨ga + 1,36,none⟩ = some (.slice A ids.length cap):=by rw [cell_of_row w5 (ga + 1) _ _ _ _ hg35];simp [go_sem]
      refine wpLx_end ?_ ?_;(focus (simp only [chainOp];done));intro K hK;go_simp;refine hK _ _ ?_;clear hK K;have hk4':=hk4;have hg3n:=heap_setCell_same hg35 36 (.slice A2 (ids.length + 1) cap2);rw [opPC_set36] at hg3n;have hks:=Keep.setCell w5 ⟨ga + 1,36,none⟩ (.slice A2 (ids.length + 1) cap2);have hE6:=(RdAt.kept hE4 hk45 hgA).kept hks hngb;have hg2n:=(hks.block ga (by have:=hS5.size;omega) (by simp)).trans hg25;have hA2 : ∀ x ∈ blk A2,x ∉ [ga + 1]:=fun x hx=>(by have:=(hown5.at_base hx).1;simp;omega);have hown6:=hown5.kept hks hA2;have hKn : Keep [g,ga + 1] w (w5.setCell ⟨ga + 1,36,none⟩ (.slice A2 (ids.length + 1) cap2)):=by
        have h1 : Keep [g,ga + 1] w w5:=(Keep.trans (hK0.mono (S':=g :: (ga + 1) :: blk A) (by intro x hx;simp at hx ⊢;omega)) (hS5.mono (S':=g :: (ga + 1) :: blk A) (fun x hx=>.inl (by rcases List.mem_cons.1 hx with h | h;exact List.mem_cons.2 (.inl h);exact List.mem_cons.2 (.inr (List.mem_cons.2 (.inr h)))))) (fun x hx=>.inl hx)).narrow (fun x hx=>by
          rcases List.mem_cons.1 hx with h | h
          · exact .inl (by simp [h])
          · rcases List.mem_cons.1 h with h | h
            · exact .inl (by simp [h])
            · right;have:=(hAb x h).1;have:=Hw3.out;omega)
        exact Keep.trans h1 (hks.mono (S':=[g,ga + 1]) (by simp)) (fun x hx=>.inl hx)
      have hszn : W3.heap.size ≤ (w5.setCell ⟨ga + 1,36,none⟩ (.slice A2 (ids.length + 1) cap2)).heap.size:=by have:=hS5.size;have:=hks.size;omega
      have hl2 : (ids ++ [d]).length = ids.length + 1:=by simp
      rw [show ids.map idC ++ [idC d] = (ids ++ [d]).map idC by simp] at hown6;have Hl2:=Lib.hid hl2;rw [Hd.out] at Hlp;clear hl2 f0 d0 b1 hne hS hS5 hS6 hk04 hk45 hk4 hk4' hk5 hsub5 hown5 hownr hrow2 hb4 hg35 hg25 hks hE4 hBs hown hE hg3 hg2 x0 hA2 hK0;(go_wp2_with fail);go_roundw
      case rel=>exact ⟨k + 1,⟨ids ++ [d],rawL 32 l3 e3,rawE 32 l3 e3⟩,A2,cap2,by omega,by go_num,by rw [Hl2.out,HSL.out],Hlp,(by rw [Hl2.out];exact hg3n),hg2n,hE6,(by rw [Hl2.out];exact hown6),hKn,hszn⟩
      case measure=>simp [intOf];omega
    · have hfin : refsR (txL l e) (txE l e) = ⟨ids,l3,e3⟩:=by rw [hRf.out,hlp.out,show N - k = 0 by omega];rfl
      have Hrd:=Lib.hid hfin;have HSL:=Lib.hid hsl;clear hsl hfin hlp hRf;have hwr : Hid (w.heap.size ≤ W3.heap.size):=Hw3.out;obtain ⟨W,rfl⟩ : ∃ W : World,W = wr:=⟨_,rfl⟩
      have HOW:=Lib.hid (hown.mono Hw3.out);have Hgl3 : Hid (∀ x ∈ blk A,ga + 1 < x):=fun x hx=>(by have:=(hown.at_base hx).1;omega);clear hown;go_upto_region 16 with fail
      have hrow : rowAt W (ga + 1) 0 37 = some (opPC ⟨3,0,⟨#[]⟩,val,id0,.slice A ids.length cap⟩):=by unfold rowAt;rw [hg3];simp [go_sem]
      have hsto:=run_stS_at (P:=Tryz.prog) infoOpP W ga (opPC opP0) (opPC ⟨3,0,⟨#[]⟩,val,id0,.slice A ids.length cap⟩) _ hg2 (by simp) (by simp) (opPC_one _ rfl);have hkf : Keep [ga] W (W.setRow ga (opPC ⟨3,0,⟨#[]⟩,val,id0,.slice A ids.length cap⟩)):=⟨rfl,rfl,rfl,by simp [World.setRow],fun x _ hx=>setRow_other W ga x _ (by simpa using hx)⟩
      have Hfin:=Lib.hid (setRow_heap W ga _ (opPC ⟨3,0,⟨#[]⟩,val,id0,.slice A ids.length cap⟩) _ _ hg2);have hE4:=hE.kept hkf (by simp;omega);have hkw : Keep [g,ga,ga + 1] w (W.setRow ga (opPC ⟨3,0,⟨#[]⟩,val,id0,.slice A ids.length cap⟩)):=Keep.trans (hK0.mono (S':=[g,ga,ga + 1]) (by intro x hx;simp at hx ⊢;omega)) (hkf.mono (S':=[g,ga,ga + 1]) (by simp)) (fun x hx=>.inl hx);have hkz : Keep [g] w (W.setRow ga (opPC ⟨3,0,⟨#[]⟩,val,id0,.slice A ids.length cap⟩)):=hkw.narrow (fun x hx=>by have:=Hga.out;simp at hx ⊢;omega);have HE4:=Lib.hid hE4;have Hkz:=Lib.hid hkz;have HO4:=Lib.hid (HOW.out.kept hkf (fun x hx=>by have:=(HOW.out.at_base hx).1;have:=Hga.out;have:=Hgl3.out x hx;simp;omega));clear hE4 hE hkw hkz hkf hg2 hg3 hb0 hK0;(go_wp2_with fail);refine bodyPost_ret (results_cell_row Tryz.results134 _ _ ga 52 (opPC ⟨3,0,⟨#[]⟩,val,id0,.slice A ids.length cap⟩) (0,0) _ rfl Hfin.out Tryz.underlying52 rfl (by rw [opPC_size];exact infoOpP)) rfl ?_;have e1 : takeO 3 l e = ⟨⟨3,0,⟨#[]⟩,val,id0,ids⟩,l3,e3⟩:=by
        rw [takeO_3];rw [Hrd.out,Hval.out]
      rw [e1];exact ⟨A,cap,rfl,HO4.out,HE4.out,Hkz.out⟩
set_option maxRecDepth 100000 in
set_option maxHeartbeats 4000000 in
theorem take_5 (w : World) (g : Nat) (l : List UInt8) (e : Int) (h : RdAt w g l e) (hp : PartsVar w) :
    Calls Tryz.prog 134 #[.pointer (some ⟨g,0,none⟩),.int .i64 5] w fun en w'=>∃ A cap,en = .returned (.agg (opC (takeO 5 l e).o A cap)) ∧ Own w' w.heap.size 39 32 A (takeO 5 l e).o.refs.length cap ((takeO 5 l e).o.refs.map idC) ∧ RdAt w' g (takeO 5 l e).l (takeO 5 l e).e ∧ Keep [g] w w':=by
  have hg2 : ((w.alloc (.cells (opPC opP0) 52)).alloc (.cells (opPC ⟨5,0,⟨#[]⟩,⟨#[]⟩,id0,.slice none 0 0⟩) 52)).heap[w.heap.size]? = some (.cells (opPC opP0) 52 (0,0)):=by
    rw [Below.heap_alloc _ _ _ (by simp)];exact heap_alloc_new w _
  have hg3 : ((w.alloc (.cells (opPC opP0) 52)).alloc (.cells (opPC ⟨5,0,⟨#[]⟩,⟨#[]⟩,id0,.slice none 0 0⟩) 52)).heap[w.heap.size + 1]? = some (.cells (opPC ⟨5,0,⟨#[]⟩,⟨#[]⟩,id0,.slice none 0 0⟩) 52 (0,0)):=by
    have:=heap_alloc_new (w.alloc (.cells (opPC opP0) 52)) (.cells (opPC ⟨5,0,⟨#[]⟩,⟨#[]⟩,id0,.slice none 0 0⟩) 52);simpa using this
  have hb0 : Below w.heap.size w ((w.alloc (.cells (opPC opP0) 52)).alloc (.cells (opPC ⟨5,0,⟨#[]⟩,⟨#[]⟩,id0,.slice none 0 0⟩) 52)):=((Below.refl _ _).alloc (Nat.le_refl _) _).alloc (by simp) _;have hof:=op_of 5 _ (hp.below hb0) (by omega);rw [show partN 5 = 22 from rfl] at hof;have hE:=h.below hb0;have hgl:=h.lt;go_enter Tryz.func134,Tryz.ntmps134
  go_upto_region 2 with fail
  obtain ⟨ga,hga⟩ : ∃ ga,w.heap.size = ga:=⟨_,rfl⟩
  have Hga:=Lib.hid hga;obtain ⟨W,hW⟩ : ∃ W,W = ((w.alloc (.cells (opPC opP0) 52)).alloc (.cells (opPC ⟨5,0,⟨#[]⟩,⟨#[]⟩,id0,.slice none 0 0⟩) 52)):=⟨_,rfl⟩
  rw [← hW] at hb0 hg2 hg3 hE hof ⊢;rw [hga] at hg2 hg3 hgl ⊢;clear hW h hp hga;have hK0 : Keep [g,ga + 1] w W:=(Keep.of_below hb0).mono (by simp);have hngb : g ∉ [ga + 1]:=by simp;omega
  have hnga : ga ∉ [g,ga + 1]:=by simp;omega
  have hngc : ga + 1 ∉ [g]:=by simp;omega
  have hgal : ga + 1 < W.heap.size:=(Array.getElem?_eq_some_iff.1 hg3).1;(go_wp2_with fail);refine hof.mono ?_;rintro en w1 ⟨rfl,rfl⟩;clear hof;(go_wp2_with fail);refine (rd_num1 _ g _ _ hE).mono ?_;rintro en w2 ⟨rfl,hr2,hk2⟩;have hn2:=numV_lt 1 (l) (e);(go_wp2_with fail);refine (rd_raw _ g _ _ _ hr2 (by omega)).mono ?_;rintro en w3 ⟨rfl,hE3,hk3⟩;replace hE3 : RdAt w3 g (txL (l) (e)) (txE (l) (e)):=hE3;obtain ⟨key,hkv⟩ : ∃ key,mkB (rawV (numV 1 (l) (e)) (rawL 1 (l) (e)) (rawE 1 (l) (e))) = key:=⟨_,rfl⟩
  have Hkey:=Lib.hid (show txV (l) (e) = key from hkv);rw [hkv];have hk23 : Keep [g] W w3:=Keep.trans hk2 hk3 (fun x hx=>.inl hx);have h83:=(hk23.block (ga + 1) hgal hngc).trans hg3;have hc83 : ∀ j,w3.frozen? ⟨ga + 1,j,none⟩ = false:=fun j=>(by simp [World.frozen?,h83]);have x0 : w3.cell? ⟨ga + 1,2,none⟩ = some (.string ⟨#[]⟩):=by rw [cell_of_row w3 (ga + 1) _ _ _ _ h83];simp [go_sem]
  have f0:=hc83 2;have hg3n:=heap_setCell_same h83 2 (.string key);rw [opPC_set2] at hg3n;have hks:=Keep.setCell w3 ⟨ga + 1,2,none⟩ (.string key);have hEn:=hE3.kept hks hngb;have hg2n:=((Keep.trans (hk23.mono (S':=[g,ga + 1]) (by simp)) (hks.mono (S':=[g,ga + 1]) (by simp)) (fun x hx=>.inl hx)).block ga (by omega) hnga).trans hg2;have hK0n : Keep [g,ga + 1] w (w3.setCell ⟨ga + 1,2,none⟩ (.string key)):=Keep.trans (Keep.trans hK0 (hk23.mono (S':=[g,ga + 1]) (by simp)) (fun x hx=>.inl hx)) (hks.mono (S':=[g,ga + 1]) (by simp)) (fun x hx=>.inl hx);have hszn : W.heap.size ≤ (w3.setCell ⟨ga + 1,2,none⟩ (.string key)).heap.size:=Nat.le_trans hk23.size hks.size;clear hE hr2 hk2 hn2 hkv hE3 hk3 hk23 hg3 hg2 h83 hc83 hks hK0;go_upto_region 7 with fail
  obtain ⟨W',hW'⟩ : ∃ W',W' = w3.setCell ⟨ga + 1,2,none⟩ (.string key):=⟨_,rfl⟩
  rw [← hW'] at hg3n hEn hg2n hK0n hszn ⊢;clear hW' x0 f0;have hgal' : ga + 1 < W'.heap.size:=by omega
  clear hgal hszn;obtain ⟨W,rfl⟩ : ∃ W : World,W = W':=⟨_,rfl⟩
  have hgal:=hgal';have hE:=hEn;have hg2:=hg2n;have hg3:=hg3n;have hK0:=hK0n;clear hgal' hEn hg2n hg3n hK0n;(go_wp2_with fail);refine (rd_num1 _ g _ _ hE).mono ?_;rintro en w2 ⟨rfl,hr2,hk2⟩;have hn2:=numV_lt 1 (txL l e) (txE l e);(go_wp2_with fail);refine (rd_raw _ g _ _ _ hr2 (by omega)).mono ?_;rintro en w3 ⟨rfl,hE3,hk3⟩;replace hE3 : RdAt w3 g (txL (txL l e) (txE l e)) (txE (txL l e) (txE l e)):=hE3;obtain ⟨val,hkv⟩ : ∃ val,mkB (rawV (numV 1 (txL l e) (txE l e)) (rawL 1 (txL l e) (txE l e)) (rawE 1 (txL l e) (txE l e))) = val:=⟨_,rfl⟩
  have Hval:=Lib.hid (show txV (txL l e) (txE l e) = val from hkv);rw [hkv];have hk23 : Keep [g] W w3:=Keep.trans hk2 hk3 (fun x hx=>.inl hx);have h83:=(hk23.block (ga + 1) hgal hngc).trans hg3;have hc83 : ∀ j,w3.frozen? ⟨ga + 1,j,none⟩ = false:=fun j=>(by simp [World.frozen?,h83]);have x0 : w3.cell? ⟨ga + 1,3,none⟩ = some (.string ⟨#[]⟩):=by rw [cell_of_row w3 (ga + 1) _ _ _ _ h83];simp [go_sem]
  have f0:=hc83 3;have hg3n:=heap_setCell_same h83 3 (.string val);rw [opPC_set3] at hg3n;have hks:=Keep.setCell w3 ⟨ga + 1,3,none⟩ (.string val);have hEn:=hE3.kept hks hngb;have hg2n:=((Keep.trans (hk23.mono (S':=[g,ga + 1]) (by simp)) (hks.mono (S':=[g,ga + 1]) (by simp)) (fun x hx=>.inl hx)).block ga (by omega) hnga).trans hg2;have hK0n : Keep [g,ga + 1] w (w3.setCell ⟨ga + 1,3,none⟩ (.string val)):=Keep.trans (Keep.trans hK0 (hk23.mono (S':=[g,ga + 1]) (by simp)) (fun x hx=>.inl hx)) (hks.mono (S':=[g,ga + 1]) (by simp)) (fun x hx=>.inl hx);have hszn : W.heap.size ≤ (w3.setCell ⟨ga + 1,3,none⟩ (.string val)).heap.size:=Nat.le_trans hk23.size hks.size;clear hE hr2 hk2 hn2 hkv hE3 hk3 hk23 hg3 hg2 h83 hc83 hks hK0;go_upto_region 12 with fail
  obtain ⟨W',hW'⟩ : ∃ W',W' = w3.setCell ⟨ga + 1,3,none⟩ (.string val):=⟨_,rfl⟩
  rw [← hW'] at hg3n hEn hg2n hK0n hszn ⊢;clear hW' x0 f0;have hgal' : ga + 1 < W'.heap.size:=by omega
  clear hgal hszn;obtain ⟨W,rfl⟩ : ∃ W : World,W = W':=⟨_,rfl⟩
  have hgal:=hgal';have hE:=hEn;have hg2:=hg2n;have hg3:=hg3n;have hK0:=hK0n;clear hgal' hEn hg2n hg3n hK0n;(go_wp2_with fail);refine (rd_num1 _ g _ _ hE).mono ?_;rintro en w3 ⟨rfl,hE3,hk23⟩;have hn4:=numV_lt 1 (txL (txL l e) (txE l e)) (txE (txL l e) (txE l e));have hRf : Hid (refsR (txL (txL l e) (txE l e)) (txE (txL l e) (txE l e)) = idLoop (numV 1 (txL (txL l e) (txE l e)) (txE (txL l e) (txE l e))) ⟨[],rawL 1 (txL (txL l e) (txE l e)) (txE (txL l e) (txE l e)),rawE 1 (txL (txL l e) (txE l e)) (txE (txL l e) (txE l e))⟩):=by show _ = _;rfl
  obtain ⟨N,hN⟩ : ∃ N,numV 1 (txL (txL l e) (txE l e)) (txE (txL l e) (txE l e)) = N:=⟨_,rfl⟩
  rw [hN] at hn4 hRf ⊢;clear hN;have hg3n:=(hk23.block (ga + 1) hgal hngc).trans hg3;have hg2n:=(hk23.block ga (by omega) (by simp;omega)).trans hg2;have hK0n : Keep [g,ga + 1] w w3:=Keep.trans hK0 (hk23.mono (S':=[g,ga + 1]) (by simp)) (fun x hx=>.inl hx);have hEn : RdAt w3 g (rawL 1 (txL (txL l e) (txE l e)) (txE (txL l e) (txE l e))) (rawE 1 (txL (txL l e) (txE l e)) (txE (txL l e) (txE l e))):=hE3;have hb3 : ga + 1 < w3.heap.size:=by have:=hk23.size;omega
  have Hw3 : Hid (w.heap.size ≤ w3.heap.size):=by have h1:=hK0n.size;exact h1
  clear hE hE3 hk23 hg3 hg2 hK0 hgal;obtain ⟨W3,rfl⟩ : ∃ W : World,W = w3:=⟨_,rfl⟩
  (go_wp2_with fail);go_loopw [47] (fun i wr=>∃ (k : Nat) (s : IdsR) (A : Option Addr) (cap : Nat),k ≤ N ∧ i = .int .i64 k ∧ s.ids.length = k ∧ Hid (idLoop N ⟨[],rawL 1 (txL (txL l e) (txE l e)) (txE (txL l e) (txE l e)),rawE 1 (txL (txL l e) (txE l e)) (txE (txL l e) (txE l e))⟩ = idLoop (N - k) s) ∧ wr.heap[ga + 1]? = some (.cells (opPC ⟨5,0,key,val,id0,.slice A s.ids.length cap⟩) 52 (0,0)) ∧ wr.heap[ga]? = some (.cells (opPC opP0) 52 (0,0)) ∧ RdAt wr g s.l s.e ∧ Own wr W3.heap.size 39 32 A s.ids.length cap (s.ids.map idC) ∧ Keep [g,ga + 1] w wr ∧ W3.heap.size ≤ wr.heap.size) (fun i _=>N - (intOf i).toNat)
  case atStart=>exact ⟨0,⟨[],rawL 1 (txL (txL l e) (txE l e)) (txE (txL l e) (txE l e)),rawE 1 (txL (txL l e) (txE l e)) (txE (txL l e) (txE l e))⟩,none,0,Nat.zero_le _,rfl,rfl,(show _ = _ from rfl),hg3n,hg2n,hEn,Own.nil _ _ _ _,hK0n,Nat.le_refl _⟩
  case round =>
    clear hg3n hg2n hEn hK0n;obtain ⟨k,s,A,cap,hk,rfl,hsl,hlp,hg3,hg2,hE,hown,hK0,hsz⟩:=hrel;obtain ⟨ids,l3,e3⟩:=s;dsimp only at *;by_cases hlt : k < N
    · have hlp2:=hlp.out;rw [show N - k = (N - (k + 1)) + 1 by omega] at hlp2;have hlp3 : idLoop N ⟨[],rawL 1 (txL (txL l e) (txE l e)) (txE (txL l e) (txE l e)),rawE 1 (txL (txL l e) (txE l e)) (txE (txL l e) (txE l e))⟩ = idLoop (N - (k + 1)) ⟨ids ++ [idOf (rawV 32 l3 e3)],rawL 32 l3 e3,rawE 32 l3 e3⟩:=hlp2;have Hlp:=Lib.hid hlp3;clear hlp hlp2 hlp3;have hAb : ∀ x ∈ blk A,W3.heap.size ≤ x ∧ x < wr.heap.size:=fun x hx=>hown.at_base hx;have hnS : ga + 1 ∉ g :: blk A:=by
        intro hm;rcases List.mem_cons.1 hm with h1 | h1
        · omega
        · have:=(hAb _ h1).1;omega
      have hgA : g ∉ blk A:=fun h1=>(by have:=(hAb _ h1).1;omega);have hgaS : ga ∉ g :: blk A:=by
        intro hm;rcases List.mem_cons.1 hm with h1 | h1
        · omega
        · have:=(hAb _ h1).1;omega
      have x0 : wr.cell? ⟨ga + 1,36,none⟩ = some (.slice A ids.length cap):=by rw [cell_of_row wr (ga + 1) _ _ _ _ hg3];simp [go_sem]
      have cid:=op_id wr.drew g l3 e3 (hE.kept (Keep.drew wr) (by simp));have hids : ids.length ≤ 255:=by omega
      have HSL:=Lib.hid hsl;clear hsl;go_upto_region 14 with fail
      refine wp_region_lexf (Kp (g :: blk A) wr) false (by kernel_rfl) (by kernel_rfl) (by kernel_rfl) (by kernel_rfl) (kp_drew (g :: blk A) wr) ?_;have hne:=kp_some (g :: blk A) wr;have hS:=kp_drew (g :: blk A) wr;have b1:=ksub_cell x0 hnS;repeat (refine wpLx_loose ?_ ?_;(focus (simp only [chainOp];done));intro K hK;go_simp;refine hK _ ?_;clear hK K)
      refine wpLx_chain ?_ ?_ ?_;(focus (exact hS));(focus (simp only [chainOp];done));intro K hK;go_simp;refine cid.mono ?_;rintro en w4 ⟨rfl,hE4,hk4⟩;replace hS:=kp_next hS hk4 (by simp);refine ⟨_,rfl,hS,hK _ _ ?_⟩;clear hK K cid;repeat (refine wpLx_loose ?_ ?_;(focus (simp only [chainOp];done));intro K hK;go_simp;refine hK _ ?_;clear hK K)
      refine wpLx_chain ?_ ?_ ?_;(focus (exact hS));(focus (simp only [chainOp];done));intro K hK;go_simp;refine step_keep (kp_alloc hS _) (fun hS=>?_);refine hK _ _ ?_;clear hK K;obtain ⟨d,hd⟩ : ∃ d,idOf (rawV 32 l3 e3) = d:=⟨_,rfl⟩
      rw [hd] at hS ⊢;have Hd:=Lib.hid hd;clear hd;have hk04 : Keep [g] wr w4:=Keep.trans ((Keep.drew wr).mono (S':=[g]) (by simp)) hk4 (fun x hx=>.inl hx);have hb4:=Keep.alloc w4 (.cells (idC d) 39);have hownr:=(hown.kept hk04 (fun x hx=>by have:=(hAb x hx).1;simp;omega)).kept hb4 (by simp);have hrow2 : rowAt (w4.alloc (.cells (idC d) 39)) w4.heap.size 0 32 = some (idC d):=by simp [go_sem]
      have hsz4:=hk04.size;have hBs : W3.heap.size ≤ (w4.alloc (.cells (idC d) 39)).heap.size:=by simp;omega
      refine Lx_append einfoId rfl hownr rfl hrow2 (idC_one _) (by omega) (by omega) hBs ?_;intro A2 cap2 w5 hown5 hk5 hsub5;have hk45 : Keep (blk A) w4 w5:=Keep.trans (hb4.mono (S':=blk A) (by simp)) hk5 (fun x hx=>.inl hx);have hS5 : Keep (g :: blk A) wr w5:=Keep.trans (hk04.mono (S':=g :: blk A) (by simp)) (hk45.mono (S':=g :: blk A) (fun x hx=>.inl (List.mem_cons_of_mem _ hx))) (fun x hx=>.inl hx);refine step_keep hS5 (fun hS6=>?_);repeat (refine wpLx_loose ?_ ?_;(focus (simp only [chainOp];done));intro K hK;go_simp;refine hK _ ?_;clear hK K)
      have hgl1 : ga + 1 < wr.heap.size:=(Array.getElem?_eq_some_iff.1 hg3).1;have hg35:=(hS5.block (ga + 1) hgl1 hnS).trans hg3;have hg25:=(hS5.block ga (by omega) hgaS).trans hg2;have f0 : w5.frozen? ⟨ga + 1,36,none⟩ = false:=by simp [World.frozen?,hg35]
      have d0 : w5.cell? ⟨ga + 1,36,none⟩ = some (.slice A ids.length cap):=by rw [cell_of_row w5 (ga + 1) _ _ _ _ hg35];simp [go_sem]
      refine wpLx_end ?_ ?_;(focus (simp only [chainOp];done));intro K hK;go_simp;refine hK _ _ ?_;clear hK K;have hk4':=hk4;have hg3n:=heap_setCell_same hg35 36 (.slice A2 (ids.length + 1) cap2);rw [opPC_set36] at hg3n;have hks:=Keep.setCell w5 ⟨ga + 1,36,none⟩ (.slice A2 (ids.length + 1) cap2);have hE6:=(RdAt.kept hE4 hk45 hgA).kept hks hngb;have hg2n:=(hks.block ga (by have:=hS5.size;omega) (by simp)).trans hg25;have hA2 : ∀ x ∈ blk A2,x ∉ [ga + 1]:=fun x hx=>(by have:=(hown5.at_base hx).1;simp;omega);have hown6:=hown5.kept hks hA2;have hKn : Keep [g,ga + 1] w (w5.setCell ⟨ga + 1,36,none⟩ (.slice A2 (ids.length + 1) cap2)):=by
        have h1 : Keep [g,ga + 1] w w5:=(Keep.trans (hK0.mono (S':=g :: (ga + 1) :: blk A) (by intro x hx;simp at hx ⊢;omega)) (hS5.mono (S':=g :: (ga + 1) :: blk A) (fun x hx=>.inl (by rcases List.mem_cons.1 hx with h | h;exact List.mem_cons.2 (.inl h);exact List.mem_cons.2 (.inr (List.mem_cons.2 (.inr h)))))) (fun x hx=>.inl hx)).narrow (fun x hx=>by
          rcases List.mem_cons.1 hx with h | h
          · exact .inl (by simp [h])
          · rcases List.mem_cons.1 h with h | h
            · exact .inl (by simp [h])
            · right;have:=(hAb x h).1;have:=Hw3.out;omega)
        exact Keep.trans h1 (hks.mono (S':=[g,ga + 1]) (by simp)) (fun x hx=>.inl hx)
      have hszn : W3.heap.size ≤ (w5.setCell ⟨ga + 1,36,none⟩ (.slice A2 (ids.length + 1) cap2)).heap.size:=by have:=hS5.size;have:=hks.size;omega
      have hl2 : (ids ++ [d]).length = ids.length + 1:=by simp
      rw [show ids.map idC ++ [idC d] = (ids ++ [d]).map idC by simp] at hown6;have Hl2:=Lib.hid hl2;rw [Hd.out] at Hlp;clear hl2 f0 d0 b1 hne hS hS5 hS6 hk04 hk45 hk4 hk4' hk5 hsub5 hown5 hownr hrow2 hb4 hg35 hg25 hks hE4 hBs hown hE hg3 hg2 x0 hA2 hK0;(go_wp2_with fail);go_roundw
      case rel=>exact ⟨k + 1,⟨ids ++ [d],rawL 32 l3 e3,rawE 32 l3 e3⟩,A2,cap2,by omega,by go_num,by rw [Hl2.out,HSL.out],Hlp,(by rw [Hl2.out];exact hg3n),hg2n,hE6,(by rw [Hl2.out];exact hown6),hKn,hszn⟩
      case measure=>simp [intOf];omega
    · have hfin : refsR (txL (txL l e) (txE l e)) (txE (txL l e) (txE l e)) = ⟨ids,l3,e3⟩:=by rw [hRf.out,hlp.out,show N - k = 0 by omega];rfl
      have Hrd:=Lib.hid hfin;have HSL:=Lib.hid hsl;clear hsl hfin hlp hRf;have hwr : Hid (w.heap.size ≤ W3.heap.size):=Hw3.out;obtain ⟨W,rfl⟩ : ∃ W : World,W = wr:=⟨_,rfl⟩
      have HOW:=Lib.hid (hown.mono Hw3.out);have Hgl3 : Hid (∀ x ∈ blk A,ga + 1 < x):=fun x hx=>(by have:=(hown.at_base hx).1;omega);clear hown;go_upto_region 16 with fail
      have hrow : rowAt W (ga + 1) 0 37 = some (opPC ⟨5,0,key,val,id0,.slice A ids.length cap⟩):=by unfold rowAt;rw [hg3];simp [go_sem]
      have hsto:=run_stS_at (P:=Tryz.prog) infoOpP W ga (opPC opP0) (opPC ⟨5,0,key,val,id0,.slice A ids.length cap⟩) _ hg2 (by simp) (by simp) (opPC_one _ rfl);have hkf : Keep [ga] W (W.setRow ga (opPC ⟨5,0,key,val,id0,.slice A ids.length cap⟩)):=⟨rfl,rfl,rfl,by simp [World.setRow],fun x _ hx=>setRow_other W ga x _ (by simpa using hx)⟩
      have Hfin:=Lib.hid (setRow_heap W ga _ (opPC ⟨5,0,key,val,id0,.slice A ids.length cap⟩) _ _ hg2);have hE4:=hE.kept hkf (by simp;omega);have hkw : Keep [g,ga,ga + 1] w (W.setRow ga (opPC ⟨5,0,key,val,id0,.slice A ids.length cap⟩)):=Keep.trans (hK0.mono (S':=[g,ga,ga + 1]) (by intro x hx;simp at hx ⊢;omega)) (hkf.mono (S':=[g,ga,ga + 1]) (by simp)) (fun x hx=>.inl hx);have hkz : Keep [g] w (W.setRow ga (opPC ⟨5,0,key,val,id0,.slice A ids.length cap⟩)):=hkw.narrow (fun x hx=>by have:=Hga.out;simp at hx ⊢;omega);have HE4:=Lib.hid hE4;have Hkz:=Lib.hid hkz;have HO4:=Lib.hid (HOW.out.kept hkf (fun x hx=>by have:=(HOW.out.at_base hx).1;have:=Hga.out;have:=Hgl3.out x hx;simp;omega));clear hE4 hE hkw hkz hkf hg2 hg3 hb0 hK0;(go_wp2_with fail);refine bodyPost_ret (results_cell_row Tryz.results134 _ _ ga 52 (opPC ⟨5,0,key,val,id0,.slice A ids.length cap⟩) (0,0) _ rfl Hfin.out Tryz.underlying52 rfl (by rw [opPC_size];exact infoOpP)) rfl ?_;have e1 : takeO 5 l e = ⟨⟨5,0,key,val,id0,ids⟩,l3,e3⟩:=by
        rw [takeO_5];rw [Hrd.out,Hval.out,Hkey.out]
      rw [e1];exact ⟨A,cap,rfl,HO4.out,HE4.out,Hkz.out⟩
theorem op_take (k : Nat) (w : World) (g : Nat) (l : List UInt8) (e : Int) (h : RdAt w g l e) (hp : PartsVar w) (h1 : 1 ≤ k) (h7 : k ≤ 7) :
    Calls Tryz.prog 134 #[.pointer (some ⟨g,0,none⟩),.int .i64 k] w fun en w'=>∃ A cap,en = .returned (.agg (opC (takeO k l e).o A cap)) ∧ Own w' w.heap.size 39 32 A (takeO k l e).o.refs.length cap ((takeO k l e).o.refs.map idC) ∧ RdAt w' g (takeO k l e).l (takeO k l e).e ∧ Keep [g] w w':=by
  have hk : k = 1 ∨ k = 2 ∨ k = 3 ∨ k = 4 ∨ k = 5 ∨ k = 6 ∨ k = 7:=by omega
  rcases hk with rfl | rfl | rfl | rfl | rfl | rfl | rfl
  · exact (take_1 w g l e h hp).mono fun en w' hh=>⟨none,0,hh.1,Own.nil _ _ _ _,hh.2⟩
  · exact (take_2 w g l e h hp).mono fun en w' hh=>⟨none,0,hh.1,Own.nil _ _ _ _,hh.2⟩
  · exact take_3 w g l e h hp
  · exact (take_4 w g l e h hp).mono fun en w' hh=>⟨none,0,hh.1,Own.nil _ _ _ _,hh.2⟩
  · exact take_5 w g l e h hp
  · exact (take_6 w g l e h hp).mono fun en w' hh=>⟨none,0,hh.1,Own.nil _ _ _ _,hh.2⟩
  · exact (take_7 w g l e h hp).mono fun en w' hh=>⟨none,0,hh.1,Own.nil _ _ _ _,hh.2⟩
end
section
open Go.RowKit
set_option maxRecDepth 100000 in
set_option maxHeartbeats 1000000 in
theorem is_ids (w : World) (A : Option Addr) (n cap : Nat) (R : List Id32) (h : TagsIn w A n R) (hn : n ≤ 4294967296) :
    Calls Tryz.prog 94 #[.slice A n cap] w fun e w'=>e = .returned (.bool (risI R)) ∧ Below w.heap.size w w':=by
  have Hlen:=Lib.hid h.len;go_enter Tryz.func94,Tryz.ntmps94
  (go_wp2_with fail);go_loopw [3] (fun i wr=>∃ j : Nat,(j < n ∨ j = 0) ∧ i = .int .i64 ((j : Int) + 1) ∧ Hid (risI R = risI (R.drop j)) ∧ Below w.heap.size w wr) (fun i _=>n + 1 - (intOf i).toNat)
  case atStart=>exact ⟨0,.inr rfl,rfl,(show _ = _ from rfl),Below.refl _ _⟩
  case round =>
    obtain ⟨j,hj,rfl,hri,hb⟩:=hrel;by_cases hlt : j + 1 < n
    · have hR1 : j + 1 < R.length:=by rw [Hlen.out];exact hlt
      obtain ⟨q,o,rfl,hrow2⟩:=TagsIn.get (SlR.below h hb) hlt hR1;obtain ⟨q',o',hqe,hrow1⟩:=TagsIn.get (SlR.below h hb) (show j < n by omega) (show j < R.length by omega);injection hqe with hqe
      injection hqe with hq1 hq2
      subst hq1;subst hq2;have hri3 : risI R = (decide (cmpId (R[j]'(by omega)) (R[j + 1]'hR1) < 0) && risI (R.drop (j + 1))):=by
        rw [hri.out,List.drop_eq_getElem_cons (show j < R.length by omega),List.drop_eq_getElem_cons hR1];rfl
      obtain ⟨x,hx⟩ : ∃ x,R[j]'(by omega) = x:=⟨_,rfl⟩
      obtain ⟨y,hy⟩ : ∃ y,R[j + 1]'hR1 = y:=⟨_,rfl⟩
      rw [hx] at hrow1 hri3;rw [hy] at hrow2 hri3;clear hri hx hy hR1;have hlt2 : ((j : Int) + 1 < n):=by omega
      have w1' : IntKind.i64.wrap (j : Int) = j:=IntWalk.i64_in _ (by omega);have t1 : ((j : Int) + 1).toNat = j + 1:=by omega
      have t2 : (0 : Int) ≤ (j : Int) + 1:=by omega
      have t3 : (j : Int) < n:=by omega
      have t4 : j < n:=by omega
      have c2:=cmp_id x y wr.drew;by_cases hc : cmpId x y < 0
      · rw [decide_eq_true hc,Bool.true_and] at hri3;have Hri:=Lib.hid hri3;have hcb : ¬ (0 ≤ cmpId x y):=(by omega);obtain ⟨c,hcc⟩ : ∃ c,cmpId x y = c:=⟨_,rfl⟩;rw [hcc] at c2 hcb;clear hcc;clear hri3 hc;go_upto_region 4 with fail
        refine wp_region_lex (Bel wr) false (by kernel_rfl) (by kernel_rfl) (by kernel_rfl) (bel_drew wr) ?_;have hne:=bel_some wr;have hS:=bel_drew wr;have b1:=sub_row hrow1;have b2:=sub_row hrow2;repeat (refine wpLx_loose ?_ ?_;(focus (simp only [chainOp];done));intro K hK;go_simp;refine hK _ ?_;clear hK K)
        refine wpLx_chain ?_ ?_ ?_;(focus (exact hS));(focus (simp only [chainOp];done));intro K hK;go_simp;refine (c2).mono ?_;rintro e w' ⟨rfl,hb⟩;replace hS:=bel_next hS hb;refine ⟨_,rfl,hS,hK _ _ ?_⟩;clear hK K hb;repeat (refine wpLx_loose ?_ ?_;(focus (simp only [chainOp];done));intro K hK;go_simp;refine hK _ ?_;clear hK K)
        refine wpLx_nil ?_;intro hS;have hS' : Below wr.heap.size wr w':=hS;have hbz:=bel2 hb hS';clear b1 b2 hne hS hS' c2 w1';(go_wp2_with fail);go_roundw
        case rel=>exact ⟨j + 1,.inl hlt,by go_num,Hri,hbz⟩
        case measure=>simp [intOf];omega
      · rw [decide_eq_false hc,Bool.false_and] at hri3;have Hri:=Lib.hid hri3;have hcb : 0 ≤ cmpId x y:=(by omega);obtain ⟨c,hcc⟩ : ∃ c,cmpId x y = c:=⟨_,rfl⟩;rw [hcc] at c2 hcb;clear hcc;clear hri3 hc;go_upto_region 4 with fail
        refine wp_region_lex (Bel wr) false (by kernel_rfl) (by kernel_rfl) (by kernel_rfl) (bel_drew wr) ?_;have hne:=bel_some wr;have hS:=bel_drew wr;have b1:=sub_row hrow1;have b2:=sub_row hrow2;repeat (refine wpLx_loose ?_ ?_;(focus (simp only [chainOp];done));intro K hK;go_simp;refine hK _ ?_;clear hK K)
        refine wpLx_chain ?_ ?_ ?_;(focus (exact hS));(focus (simp only [chainOp];done));intro K hK;go_simp;refine (c2).mono ?_;rintro e w' ⟨rfl,hb⟩;replace hS:=bel_next hS hb;refine ⟨_,rfl,hS,hK _ _ ?_⟩;clear hK K hb;repeat (refine wpLx_loose ?_ ?_;(focus (simp only [chainOp];done));intro K hK;go_simp;refine hK _ ?_;clear hK K)
        refine wpLx_nil ?_;intro hS;have hS' : Below wr.heap.size wr w':=hS;have hbz:=bel2 hb hS';clear b1 b2 hne hS hS' c2 w1';(go_wp2_with fail);go_ret;exact ⟨ret_bool (by rw [Hri.out]),hbz⟩
    · have hrt : risI R = true:=by
        rw [hri.out];have hl1 : (R.drop j).length ≤ 1:=by rw [List.length_drop,Hlen.out];omega
        generalize R.drop j = Z at hl1
        match Z,hl1 with
        | [],_=>rfl
        | [_],_=>rfl
      have Hrt:=Lib.hid hrt;have hlt2 : decide ((j : Int) + 1 < n) = false:=by simp;omega
      have hlt3 : decide (j + 1 < n) = false:=by simp;omega
      clear hrt hri hlt hj;(go_wp2_with fail);go_ret;exact ⟨ret_bool (by rw [Hrt.out]),hb⟩
end
section
open Go.RowKit
def plainO (o : OpV) : Prop :=
  (o.k = 1 ∧ o.key = ⟨#[]⟩ ∧ o.val = ⟨#[]⟩ ∧ o.ref = id0 ∧ o.refs = []) ∨ (o.k = 2 ∧ o.n = 0 ∧ o.key = ⟨#[]⟩ ∧ o.ref = id0 ∧ o.refs = []) ∨ (o.k = 3 ∧ o.n = 0 ∧ o.key = ⟨#[]⟩ ∧ o.ref = id0) ∨
  (o.k = 4 ∧ o.ref = id0 ∧ o.refs = []) ∨ (o.k = 5 ∧ o.n = 0 ∧ o.ref = id0) ∨ (o.k = 6 ∧ o.n = 0 ∧ o.key = ⟨#[]⟩ ∧ o.refs = []) ∨ (o.k = 7 ∧ o.n = 0 ∧ o.key = ⟨#[]⟩ ∧ o.val = ⟨#[]⟩ ∧ o.refs = [])
set_option maxRecDepth 100000 in
set_option maxHeartbeats 2000000 in
theorem op_spare (o : OpV) (A : Option Addr) (c : Nat) (w : World) (hp : PartsVar w) (h : plainO o) :
    Calls Tryz.prog 207 #[.agg (opC o A c)] w fun e w'=>e = .returned (.bool false) ∧ Below w.heap.size w w':=by
  obtain ⟨k,n,key,val,ref,refs⟩:=o;unfold plainO at h;dsimp only at h;rcases h with ⟨rfl,rfl,rfl,rfl,rfl⟩ | ⟨rfl,rfl,rfl,rfl,rfl⟩ | ⟨rfl,rfl,rfl,rfl⟩ | ⟨rfl,rfl,rfl⟩ | ⟨rfl,rfl,rfl⟩ | ⟨rfl,rfl,rfl,rfl⟩ | ⟨rfl,rfl,rfl,rfl,rfl⟩
  · show Calls Tryz.prog 207 #[.agg (opPC ⟨1,n,⟨#[]⟩,⟨#[]⟩,id0,.slice A 0 c⟩)] w _;have hB : Below w.heap.size w (w.alloc (.cells (opPC ⟨1,n,⟨#[]⟩,⟨#[]⟩,id0,.slice A 0 c⟩) 52)):=(Below.refl _ _).alloc (Nat.le_refl _) _;have hr : rowAt (w.alloc (.cells (opPC ⟨1,n,⟨#[]⟩,⟨#[]⟩,id0,.slice A 0 c⟩) 52)) w.heap.size 0 37 = some (opPC ⟨1,n,⟨#[]⟩,⟨#[]⟩,id0,.slice A 0 c⟩):=by simp [go_sem]
    have hof:=op_of 1 _ (hp.below hB) (by omega);rw [show partN 1 = 1 from rfl] at hof;have x0:=rowAt_cell hr (j:=0) (by omega);have x1:=rowAt_cell hr (j:=1) (by omega);have x2:=rowAt_cell hr (j:=2) (by omega);have x3:=rowAt_cell hr (j:=3) (by omega);have x4:=rowAt_sub hr (j:=4) (m:=32) (by omega);have x5:=rowAt_cell hr (j:=36) (by omega);simp only [opPC_g0,opPC_g1,opPC_g2,opPC_g3,opPC_g36,opPC_e4,Nat.zero_add] at x0 x1 x2 x3 x4 x5;clear hr hp;go_enter Tryz.func207,Tryz.ntmps207
    go_upto_region 1 with fail
    generalize w.alloc (.cells (opPC ⟨1,n,⟨#[]⟩,⟨#[]⟩,id0,.slice A 0 c⟩) 52) = W at *;(go_wp2_with fail);refine hof.mono ?_;rintro e w1 ⟨rfl,rfl⟩;(go_wp2_with fail);go_ret;exact ⟨rfl,hB⟩
  · show Calls Tryz.prog 207 #[.agg (opPC ⟨2,0,⟨#[]⟩,val,id0,.slice A 0 c⟩)] w _;have hB : Below w.heap.size w (w.alloc (.cells (opPC ⟨2,0,⟨#[]⟩,val,id0,.slice A 0 c⟩) 52)):=(Below.refl _ _).alloc (Nat.le_refl _) _;have hr : rowAt (w.alloc (.cells (opPC ⟨2,0,⟨#[]⟩,val,id0,.slice A 0 c⟩) 52)) w.heap.size 0 37 = some (opPC ⟨2,0,⟨#[]⟩,val,id0,.slice A 0 c⟩):=by simp [go_sem]
    have hof:=op_of 2 _ (hp.below hB) (by omega);rw [show partN 2 = 4 from rfl] at hof;have x0:=rowAt_cell hr (j:=0) (by omega);have x1:=rowAt_cell hr (j:=1) (by omega);have x2:=rowAt_cell hr (j:=2) (by omega);have x3:=rowAt_cell hr (j:=3) (by omega);have x4:=rowAt_sub hr (j:=4) (m:=32) (by omega);have x5:=rowAt_cell hr (j:=36) (by omega);simp only [opPC_g0,opPC_g1,opPC_g2,opPC_g3,opPC_g36,opPC_e4,Nat.zero_add] at x0 x1 x2 x3 x4 x5;clear hr hp;go_enter Tryz.func207,Tryz.ntmps207
    go_upto_region 1 with fail
    generalize w.alloc (.cells (opPC ⟨2,0,⟨#[]⟩,val,id0,.slice A 0 c⟩) 52) = W at *;(go_wp2_with fail);refine hof.mono ?_;rintro e w1 ⟨rfl,rfl⟩;(go_wp2_with fail);go_ret;exact ⟨rfl,hB⟩
  · show Calls Tryz.prog 207 #[.agg (opPC ⟨3,0,⟨#[]⟩,val,id0,.slice A refs.length c⟩)] w _;have hB : Below w.heap.size w (w.alloc (.cells (opPC ⟨3,0,⟨#[]⟩,val,id0,.slice A refs.length c⟩) 52)):=(Below.refl _ _).alloc (Nat.le_refl _) _;have hr : rowAt (w.alloc (.cells (opPC ⟨3,0,⟨#[]⟩,val,id0,.slice A refs.length c⟩) 52)) w.heap.size 0 37 = some (opPC ⟨3,0,⟨#[]⟩,val,id0,.slice A refs.length c⟩):=by simp [go_sem]
    have hof:=op_of 3 _ (hp.below hB) (by omega);rw [show partN 3 = 20 from rfl] at hof;have x0:=rowAt_cell hr (j:=0) (by omega);have x1:=rowAt_cell hr (j:=1) (by omega);have x2:=rowAt_cell hr (j:=2) (by omega);have x3:=rowAt_cell hr (j:=3) (by omega);have x4:=rowAt_sub hr (j:=4) (m:=32) (by omega);have x5:=rowAt_cell hr (j:=36) (by omega);simp only [opPC_g0,opPC_g1,opPC_g2,opPC_g3,opPC_g36,opPC_e4,Nat.zero_add] at x0 x1 x2 x3 x4 x5;clear hr hp;go_enter Tryz.func207,Tryz.ntmps207
    go_upto_region 1 with fail
    generalize w.alloc (.cells (opPC ⟨3,0,⟨#[]⟩,val,id0,.slice A refs.length c⟩) 52) = W at *;(go_wp2_with fail);refine hof.mono ?_;rintro e w1 ⟨rfl,rfl⟩;(go_wp2_with fail);go_ret;exact ⟨rfl,hB⟩
  · show Calls Tryz.prog 207 #[.agg (opPC ⟨4,n,key,val,id0,.slice A 0 c⟩)] w _;have hB : Below w.heap.size w (w.alloc (.cells (opPC ⟨4,n,key,val,id0,.slice A 0 c⟩) 52)):=(Below.refl _ _).alloc (Nat.le_refl _) _;have hr : rowAt (w.alloc (.cells (opPC ⟨4,n,key,val,id0,.slice A 0 c⟩) 52)) w.heap.size 0 37 = some (opPC ⟨4,n,key,val,id0,.slice A 0 c⟩):=by simp [go_sem]
    have hof:=op_of 4 _ (hp.below hB) (by omega);rw [show partN 4 = 7 from rfl] at hof;have x0:=rowAt_cell hr (j:=0) (by omega);have x1:=rowAt_cell hr (j:=1) (by omega);have x2:=rowAt_cell hr (j:=2) (by omega);have x3:=rowAt_cell hr (j:=3) (by omega);have x4:=rowAt_sub hr (j:=4) (m:=32) (by omega);have x5:=rowAt_cell hr (j:=36) (by omega);simp only [opPC_g0,opPC_g1,opPC_g2,opPC_g3,opPC_g36,opPC_e4,Nat.zero_add] at x0 x1 x2 x3 x4 x5;clear hr hp;go_enter Tryz.func207,Tryz.ntmps207
    go_upto_region 1 with fail
    generalize w.alloc (.cells (opPC ⟨4,n,key,val,id0,.slice A 0 c⟩) 52) = W at *;(go_wp2_with fail);refine hof.mono ?_;rintro e w1 ⟨rfl,rfl⟩;(go_wp2_with fail);go_ret;exact ⟨rfl,hB⟩
  · show Calls Tryz.prog 207 #[.agg (opPC ⟨5,0,key,val,id0,.slice A refs.length c⟩)] w _;have hB : Below w.heap.size w (w.alloc (.cells (opPC ⟨5,0,key,val,id0,.slice A refs.length c⟩) 52)):=(Below.refl _ _).alloc (Nat.le_refl _) _;have hr : rowAt (w.alloc (.cells (opPC ⟨5,0,key,val,id0,.slice A refs.length c⟩) 52)) w.heap.size 0 37 = some (opPC ⟨5,0,key,val,id0,.slice A refs.length c⟩):=by simp [go_sem]
    have hof:=op_of 5 _ (hp.below hB) (by omega);rw [show partN 5 = 22 from rfl] at hof;have x0:=rowAt_cell hr (j:=0) (by omega);have x1:=rowAt_cell hr (j:=1) (by omega);have x2:=rowAt_cell hr (j:=2) (by omega);have x3:=rowAt_cell hr (j:=3) (by omega);have x4:=rowAt_sub hr (j:=4) (m:=32) (by omega);have x5:=rowAt_cell hr (j:=36) (by omega);simp only [opPC_g0,opPC_g1,opPC_g2,opPC_g3,opPC_g36,opPC_e4,Nat.zero_add] at x0 x1 x2 x3 x4 x5;clear hr hp;go_enter Tryz.func207,Tryz.ntmps207
    go_upto_region 1 with fail
    generalize w.alloc (.cells (opPC ⟨5,0,key,val,id0,.slice A refs.length c⟩) 52) = W at *;(go_wp2_with fail);refine hof.mono ?_;rintro e w1 ⟨rfl,rfl⟩;(go_wp2_with fail);go_ret;exact ⟨rfl,hB⟩
  · show Calls Tryz.prog 207 #[.agg (opPC ⟨6,0,⟨#[]⟩,val,ref,.slice A 0 c⟩)] w _;have hB : Below w.heap.size w (w.alloc (.cells (opPC ⟨6,0,⟨#[]⟩,val,ref,.slice A 0 c⟩) 52)):=(Below.refl _ _).alloc (Nat.le_refl _) _;have hr : rowAt (w.alloc (.cells (opPC ⟨6,0,⟨#[]⟩,val,ref,.slice A 0 c⟩) 52)) w.heap.size 0 37 = some (opPC ⟨6,0,⟨#[]⟩,val,ref,.slice A 0 c⟩):=by simp [go_sem]
    have hof:=op_of 6 _ (hp.below hB) (by omega);rw [show partN 6 = 12 from rfl] at hof;have x0:=rowAt_cell hr (j:=0) (by omega);have x1:=rowAt_cell hr (j:=1) (by omega);have x2:=rowAt_cell hr (j:=2) (by omega);have x3:=rowAt_cell hr (j:=3) (by omega);have x4:=rowAt_sub hr (j:=4) (m:=32) (by omega);have x5:=rowAt_cell hr (j:=36) (by omega);simp only [opPC_g0,opPC_g1,opPC_g2,opPC_g3,opPC_g36,opPC_e4,Nat.zero_add] at x0 x1 x2 x3 x4 x5;clear hr hp;go_enter Tryz.func207,Tryz.ntmps207
    go_upto_region 1 with fail
    generalize w.alloc (.cells (opPC ⟨6,0,⟨#[]⟩,val,ref,.slice A 0 c⟩) 52) = W at *;(go_wp2_with fail);refine hof.mono ?_;rintro e w1 ⟨rfl,rfl⟩;(go_wp2_with fail);go_ret;exact ⟨rfl,hB⟩
  · show Calls Tryz.prog 207 #[.agg (opPC ⟨7,0,⟨#[]⟩,⟨#[]⟩,ref,.slice A 0 c⟩)] w _;have hB : Below w.heap.size w (w.alloc (.cells (opPC ⟨7,0,⟨#[]⟩,⟨#[]⟩,ref,.slice A 0 c⟩) 52)):=(Below.refl _ _).alloc (Nat.le_refl _) _;have hr : rowAt (w.alloc (.cells (opPC ⟨7,0,⟨#[]⟩,⟨#[]⟩,ref,.slice A 0 c⟩) 52)) w.heap.size 0 37 = some (opPC ⟨7,0,⟨#[]⟩,⟨#[]⟩,ref,.slice A 0 c⟩):=by simp [go_sem]
    have hof:=op_of 7 _ (hp.below hB) (by omega);rw [show partN 7 = 8 from rfl] at hof;have x0:=rowAt_cell hr (j:=0) (by omega);have x1:=rowAt_cell hr (j:=1) (by omega);have x2:=rowAt_cell hr (j:=2) (by omega);have x3:=rowAt_cell hr (j:=3) (by omega);have x4:=rowAt_sub hr (j:=4) (m:=32) (by omega);have x5:=rowAt_cell hr (j:=36) (by omega);simp only [opPC_g0,opPC_g1,opPC_g2,opPC_g3,opPC_g36,opPC_e4,Nat.zero_add] at x0 x1 x2 x3 x4 x5;clear hr hp;go_enter Tryz.func207,Tryz.ntmps207
    go_upto_region 1 with fail
    generalize w.alloc (.cells (opPC ⟨7,0,⟨#[]⟩,⟨#[]⟩,ref,.slice A 0 c⟩) 52) = W at *;(go_wp2_with fail);refine hof.mono ?_;rintro e w1 ⟨rfl,rfl⟩;(go_wp2_with fail);go_ret;exact ⟨rfl,hB⟩
def numO (o : OpV) : Bool:=!(decide (o.k = 4) && decide (o.n < 0)) && (decide (o.n < 2147483648) && decide (-2147483648 ≤ o.n))
set_option maxRecDepth 100000 in
set_option maxHeartbeats 2000000 in
theorem op_number (o : OpV) (A : Option Addr) (c : Nat) (w : World) :
    Calls Tryz.prog 208 #[.agg (opC o A c)] w fun e w'=>e = .returned (.bool (numO o)) ∧ Below w.heap.size w w':=by
  have hB : Below w.heap.size w (w.alloc (.cells (opC o A c) 52)):=(Below.refl _ _).alloc (Nat.le_refl _) _;have hr : rowAt (w.alloc (.cells (opC o A c) 52)) w.heap.size 0 37 = some (opC o A c):=by unfold opC;simp [go_sem]
  have x0:=rowAt_cell hr (j:=0) (by omega);have x1:=rowAt_cell hr (j:=1) (by omega);unfold opC at x0 x1 hB hr ⊢;simp only [opPC_g0,opPC_g1,Nat.zero_add] at x0 x1;clear hr;have hno : numO o = (!(decide (o.k = 4) && decide (o.n < 0)) && (decide (o.n < 2147483648) && decide (-2147483648 ≤ o.n))):=rfl;obtain ⟨k,n,key,val,ref,refs⟩:=o;dsimp only at *;have Hno:=Lib.hid hno;clear hno;by_cases h4 : k = 4
  · subst h4;by_cases hn : n < 0
    · go_enter Tryz.func208,Tryz.ntmps208
      go_upto_region 1 with fail
      generalize w.alloc (.cells (opPC ⟨((4 : Nat) : Int),n,key,val,ref,.slice A refs.length c⟩) 52) = W at *;(go_wp2_with fail);go_ret;exact ⟨ret_bool (by rw [Hno.out];simp [hn]),hB⟩
    · go_enter Tryz.func208,Tryz.ntmps208
      go_upto_region 1 with fail
      generalize w.alloc (.cells (opPC ⟨((4 : Nat) : Int),n,key,val,ref,.slice A refs.length c⟩) 52) = W at *;go_wp2_with fail
      all_goals
        go_ret;exact ⟨ret_bool (by rw [Hno.out,Bool.eq_iff_iff];simp;omega),hB⟩
  · have hk : ((k : Int) == 4) = false:=by simp;omega
    go_enter Tryz.func208,Tryz.ntmps208
    go_upto_region 1 with fail
    generalize w.alloc (.cells (opPC ⟨(k : Int),n,key,val,ref,.slice A refs.length c⟩) 52) = W at *;go_wp2_with fail
    all_goals
      go_ret;exact ⟨ret_bool (by rw [Hno.out,Bool.eq_iff_iff];simp;omega),hB⟩
end
section
open Go.RowKit
def chkN (o : OpV) : Int:=if 16 < o.key.size ∨ 16 < o.val.size then 3 else if numO o = false then 5 else if 8 < o.refs.length then 6 else if risI o.refs = false then 4 else 0
theorem plain_k {o : OpV} (h : plainO o) : 1 ≤ o.k ∧ o.k ≤ 7:=by unfold plainO at h;omega
theorem part_ne {k : Nat} (h1 : 1 ≤ k) (h7 : k ≤ 7) : ((partN k : Int) == 0) = false:=by
  have hk : k = 1 ∨ k = 2 ∨ k = 3 ∨ k = 4 ∨ k = 5 ∨ k = 6 ∨ k = 7:=by omega
  rcases hk with rfl | rfl | rfl | rfl | rfl | rfl | rfl <;> decide
set_option maxRecDepth 100000 in
set_option maxHeartbeats 2000000 in
theorem op_check (o : OpV) (A : Option Addr) (c : Nat) (w : World) (hp : PartsVar w) (h : plainO o) (hT : TagsIn w A o.refs.length o.refs) (hl : o.refs.length ≤ 4294967296) :
    Calls Tryz.prog 136 #[.agg (opC o A c)] w fun e w'=>e = .returned (.int .i64 (chkN o)) ∧ Below w.heap.size w w':=by
  have hB : Below w.heap.size w (w.alloc (.cells (opC o A c) 52)):=(Below.refl _ _).alloc (Nat.le_refl _) _;have hr : rowAt (w.alloc (.cells (opC o A c) 52)) w.heap.size 0 37 = some (opC o A c):=by unfold opC;simp [go_sem]
  have hk:=plain_k h;have hof:=op_of o.k _ (hp.below hB) (by omega);have hne:=part_ne hk.1 hk.2;have csp:=fun w' (hp' : PartsVar w')=>op_spare o A c w' hp' h;have cnu:=fun w'=>op_number o A c w';have hpB:=hp.below hB;have hTB : TagsIn (w.alloc (.cells (opC o A c) 52)) A o.refs.length o.refs:=SlR.below hT hB;have hck : chkN o = if 16 < o.key.size ∨ 16 < o.val.size then 3 else if numO o = false then 5 else if 8 < o.refs.length then 6 else if risI o.refs = false then 4 else 0:=rfl;have x0:=rowAt_cell hr (j:=0) (by omega);have x2:=rowAt_cell hr (j:=2) (by omega);have x3:=rowAt_cell hr (j:=3) (by omega);have x5:=rowAt_cell hr (j:=36) (by omega);unfold opC at x0 x2 x3 x5 hB hr hof csp cnu hpB hTB ⊢;simp only [opPC_g0,opPC_g2,opPC_g3,opPC_g36,Nat.zero_add] at x0 x2 x3 x5;clear hp h hT;obtain ⟨nu,hnu⟩ : ∃ nu,numO o = nu:=⟨_,rfl⟩
  obtain ⟨ck,hckk⟩ : ∃ ck,chkN o = ck:=⟨_,rfl⟩
  rw [hnu] at cnu hck;rw [hckk] at hck ⊢;clear hnu hckk;obtain ⟨k,n,key,val,ref,refs⟩:=o;dsimp only at *;have Hck:=Lib.hid hck;clear hck hk;obtain ⟨pk,hpk⟩ : ∃ pk,partN k = pk:=⟨_,rfl⟩
  rw [hpk] at hof hne;clear hpk;go_enter Tryz.func136,Tryz.ntmps136
  go_upto_region 1 with fail
  obtain ⟨gb,hgb⟩ : ∃ gb,w.heap.size = gb:=⟨_,rfl⟩
  obtain ⟨W,hW⟩ : ∃ W,W = w.alloc (.cells (opPC ⟨(k : Int),n,key,val,ref,.slice A refs.length c⟩) 52):=⟨_,rfl⟩
  rw [← hW] at x0 x2 x3 x5 hB hr hof hpB hTB ⊢;rw [hgb] at x0 x2 x3 x5 hr ⊢;clear hW hgb;(go_wp2_with fail);refine hof.mono ?_;rintro e w1 ⟨rfl,rfl⟩;clear hof;(go_wp2_with fail);refine (csp _ hpB).mono ?_;rintro e w1 ⟨rfl,hb1⟩;have y2:=(hb1.cell (p:=⟨gb,2,none⟩) (rowAt_lt hr)).trans x2;have y3:=(hb1.cell (p:=⟨gb,3,none⟩) (rowAt_lt hr)).trans x3;have y5:=(hb1.cell (p:=⟨gb,36,none⟩) (rowAt_lt hr)).trans x5;have hr1 : rowAt w1 gb 0 37 = _:=(rowAt_of_block (hb1.block gb (rowAt_lt hr)) _ _).trans hr;have hT1 : TagsIn w1 A refs.length refs:=SlR.below hTB hb1;have hb01:=bel2 hB hb1;clear csp x0 x2 x3 x5 hr hTB hpB hB hb1 hne;by_cases h16 : 16 < key.size ∨ 16 < val.size
  · have hc:=Hck.out;rw [if_pos h16] at hc;have Hc:=Lib.hid hc;clear hc Hck;by_cases hk16 : 16 < key.size
    · have hk16' : (16 : Int) < key.size:=by omega
      (go_wp2_with fail);go_ret;exact ⟨ret_int (by rw [Hc.out]),hb01⟩
    · have hk16' : ¬ (16 : Int) < key.size:=by omega
      have hv16' : (16 : Int) < val.size:=by omega
      (go_wp2_with fail);go_ret;exact ⟨ret_int (by rw [Hc.out]),hb01⟩
  · have hc:=Hck.out;rw [if_neg h16] at hc;have Hc:=Lib.hid hc;have hk16' : ¬ (16 : Int) < key.size:=by omega
    have hv16' : ¬ (16 : Int) < val.size:=by omega
    clear hc Hck h16;cases nu with
    | false =>
      have hc2:=Hc.out;rw [if_pos rfl] at hc2;have Hc2:=Lib.hid hc2;clear hc2;(go_wp2_with fail);refine (cnu _).mono ?_;rintro e w2 ⟨rfl,hb2⟩;(go_wp2_with fail);go_ret;exact ⟨ret_int (by rw [Hc2.out]),bel2 hb01 hb2⟩
    | true =>
      have hc2:=Hc.out;rw [if_neg (by simp)] at hc2;have Hc2:=Lib.hid hc2;clear hc2 Hc;have z5:=fun w2 (hb2 : Below w1.heap.size w1 w2)=>(hb2.cell (p:=⟨gb,36,none⟩) (rowAt_lt hr1)).trans y5;(go_wp2_with fail);refine (cnu _).mono ?_;rintro e w2 ⟨rfl,hb2⟩;have v5:=z5 w2 hb2;have hT2 : TagsIn w2 A refs.length refs:=SlR.below hT1 hb2;have hb02:=bel2 hb01 hb2;have cis:=is_ids w2 A refs.length c refs hT2 (by omega);clear z5 cnu y2 y3 y5 hr1 hT1 hb01 hb2 hT2;by_cases h8 : 8 < refs.length
      · have hc:=Hc2.out;rw [if_pos h8] at hc;have Hc:=Lib.hid hc;have h8' : (8 : Int) < refs.length:=by omega
        clear hc;(go_wp2_with fail);go_ret;exact ⟨ret_int (by rw [Hc.out]),hb02⟩
      · have hc:=Hc2.out;rw [if_neg h8] at hc;have h8' : ¬ (8 : Int) < refs.length:=by omega
        cases hri : risI refs with
        | false =>
          rw [hri,if_pos rfl] at hc;rw [hri] at cis;have Hc:=Lib.hid hc;clear hc hri;(go_wp2_with fail);refine cis.mono ?_;rintro e w3 ⟨rfl,hb3⟩;(go_wp2_with fail);go_ret;exact ⟨ret_int (by rw [Hc.out]),bel2 hb02 hb3⟩
        | true =>
          rw [hri,if_neg (by simp)] at hc;rw [hri] at cis;have Hc:=Lib.hid hc;clear hc hri;(go_wp2_with fail);refine cis.mono ?_;rintro e w3 ⟨rfl,hb3⟩;(go_wp2_with fail);go_ret;exact ⟨ret_int (by rw [Hc.out]),bel2 hb02 hb3⟩
end
section
open Go.RowKit
theorem results_cell_tmp {P : Program} {fn : Func} {p q : Tmp} {ty : TypeId} (h : fn.results = #[.cell p ty,.tmp q]) (tmps : Array Value) (w : World) (g : Nat) (t : TypeId) (cs : Array Value) (fr : Nat × Nat) (d : TypeDesc)
    (hp : tmps.getD p undef = .pointer (some ⟨g,0,none⟩)) (hg : w.heap[g]? = some (.cells cs t fr))
    (hu : P.underlying ty = some d) (hd : (match d with | .struct _ | .array _ _=>true | _=>false) = true) (hi : (P.info? ty).map (·.size) = some cs.size) :
    (results fn tmps).run P w = .ok (.tuple #[.agg cs,tmps.getD q undef]) w:=by
  have hp' : tmps[p]?.getD undef = .pointer (some ⟨g,0,none⟩):=by simpa using hp
  simp [results,h,hp',asAddr,run_loadVar_row w g t ty cs fr d hg hu hd hi]
theorem op_belongs (k : Nat) (w : World) (hk : k ≤ 9223372036854775807) : Calls Tryz.prog 63 #[.int .i64 k] w fun e w'=>e = .returned (.int .i64 (belongs k)) ∧ w = w':=by
  have hb : belongs k = if k = 1 then 1 else if k = 2 ∨ k = 3 then 2 else if k = 4 then 3 else if k = 5 then 4 else if k = 6 ∨ k = 7 then 5 else 0:=rfl;have Hb:=Lib.hid hb;clear hb;go_enter Tryz.func63,Tryz.ntmps63
  go_wp2_with fail
  all_goals
    go_ret;exact ⟨ret_int (by rw [Hb.out];simp at *;omega),rfl⟩
theorem plain_take (k : Nat) (l : List UInt8) (e : Int) (h1 : 1 ≤ k) (h7 : k ≤ 7) : plainO (takeO k l e).o ∧ (takeO k l e).o.k = k ∧ (takeO k l e).o.refs.length ≤ 255:=by
  have hk : k = 1 ∨ k = 2 ∨ k = 3 ∨ k = 4 ∨ k = 5 ∨ k = 6 ∨ k = 7:=by omega
  rcases hk with rfl | rfl | rfl | rfl | rfl | rfl | rfl
  · exact ⟨.inl ⟨rfl,rfl,rfl,rfl,rfl⟩,rfl,by simp [takeO]⟩
  · exact ⟨.inr (.inl ⟨rfl,rfl,rfl,rfl,rfl⟩),rfl,by simp [takeO]⟩
  · exact ⟨.inr (.inr (.inl ⟨rfl,rfl,rfl,rfl⟩)),rfl,refsR_len _ _⟩
  · exact ⟨.inr (.inr (.inr (.inl ⟨rfl,rfl,rfl⟩))),rfl,by simp [takeO]⟩
  · exact ⟨.inr (.inr (.inr (.inr (.inl ⟨rfl,rfl,rfl⟩)))),rfl,refsR_len _ _⟩
  · exact ⟨.inr (.inr (.inr (.inr (.inr (.inl ⟨rfl,rfl,rfl,rfl⟩))))),rfl,by simp [takeO]⟩
  · exact ⟨.inr (.inr (.inr (.inr (.inr (.inr ⟨rfl,rfl,rfl,rfl,rfl⟩))))),rfl,by simp [takeO]⟩
theorem num_take (k : Nat) (l : List UInt8) (e : Int) (h1 : 1 ≤ k) (h7 : k ≤ 7) : numO (takeO k l e).o = decide ((takeO k l e).o.n < 2147483648):=by
  have hk : k = 1 ∨ k = 2 ∨ k = 3 ∨ k = 4 ∨ k = 5 ∨ k = 6 ∨ k = 7:=by omega
  have b4:=numV_lt 4 l e;have b5:=numV_lt 4 (txL (txL l e) (txE l e)) (txE (txL l e) (txE l e));rw [Bool.eq_iff_iff];rcases hk with rfl | rfl | rfl | rfl | rfl | rfl | rfl <;> simp [numO,takeO] <;> omega
theorem chk_take (k : Nat) (l : List UInt8) (e : Int) (h1 : 1 ≤ k) (h7 : k ≤ 7) : chkN (takeO k l e).o = chkO (takeO k l e).o:=by
  have h:=num_take k l e h1 h7;unfold chkN chkO;rw [h];by_cases hn : (takeO k l e).o.n < 2147483648
  · rw [if_neg (show ¬ (decide ((takeO k l e).o.n < 2147483648) = false) by simp [hn]),if_neg (show ¬ (2147483648 ≤ (takeO k l e).o.n) by omega)]
  · rw [if_pos (show decide ((takeO k l e).o.n < 2147483648) = false by simp;omega),if_pos (show 2147483648 ≤ (takeO k l e).o.n by omega)]
end
section
open Go.RowKit
theorem part_eq {k : Nat} (h : k = 0 ∨ 7 < k) : partN k = 0:=by
  rcases h with rfl | h
  · rfl
  · unfold partN;simp [List.getD,List.getElem?_eq_none (show [0,1,4,20,7,22,12,8].length ≤ k by simp;omega)]
@[simp] theorem opC_size (o : OpV) (A : Option Addr) (c : Nat) : (opC o A c).size = 37:=by unfold opC;simp
theorem opC_one (o : OpV) (A : Option Addr) (c : Nat) : ∀ u ∈ (opC o A c).toList,u.oneCell' = true:=opPC_one _ rfl
def OfRes (w : World) (l : List UInt8) (en : Ending) (w' : World) : Prop :=
  ∃ V,en = .returned (.tuple #[.agg V,.int .i64 (opE l)]) ∧ (opE l = 0 → ∃ A c,V = opC (opO l) A c ∧ Own w' w.heap.size 39 32 A (opO l).refs.length c ((opO l).refs.map idC)) ∧ (opE l ≠ 0 → V = opPC opP0) ∧ Below w.heap.size w w'
set_option maxRecDepth 100000 in
set_option maxHeartbeats 4000000 in
theorem op_Of (s : ByteArray) (w : World) (hp : PartsVar w) (hs : s.size ≤ 9223372036854775807) :
    Calls Tryz.prog 62 #[.string s] w (OfRes w s.data.toList):=by
  obtain ⟨l,hl⟩ : ∃ l,s.data.toList = l:=⟨_,rfl⟩
  have hsl : s = mkB l:=by rw [← hl];rfl
  have hll : l.length ≤ 9223372036854775807:=by rw [← hl];exact hs
  have hb0 : Below w.heap.size w (w.alloc (.cells (opPC opP0) 52)):=(Below.refl _ _).alloc (Nat.le_refl _) _;have hg2 : (w.alloc (.cells (opPC opP0) 52)).heap[w.heap.size]? = some (.cells (opPC opP0) 52 (0,0)):=heap_alloc_new w _;have cop:=rd_open s (w.alloc (.cells (opPC opP0) 52)) hs;have hp0:=hp.below hb0;rw [hl] at cop ⊢;subst hsl;clear hl hs;have hE : opE l = if rawE 1 l 0 ≠ 0 then rawE 1 l 0
    else if numV 1 l 0 = 0 ∨ 7 < numV 1 l 0 then 10
    else if endE (takeO (numV 1 l 0) (rawL 1 l 0) 0).l (takeO (numV 1 l 0) (rawL 1 l 0) 0).e ≠ 0 then endE (takeO (numV 1 l 0) (rawL 1 l 0) 0).l (takeO (numV 1 l 0) (rawL 1 l 0) 0).e
    else chkO (takeO (numV 1 l 0) (rawL 1 l 0) 0).o:=rfl
  have hO : opO l = (takeO (numV 1 l 0) (rawL 1 l 0) 0).o:=rfl;have hk8:=numV_lt 1 l 0;have hk9 : numV 1 l 0 < 256:=by simpa using hk8
  have HE:=Lib.hid hE;have HO:=Lib.hid hO;clear hE hO hk8 hp;show Calls Tryz.prog 62 #[.string (mkB l)] w _;go_enter Tryz.func62,Tryz.ntmps62
  go_upto_region 1 with fail
  obtain ⟨ga,hga⟩ : ∃ ga,w.heap.size = ga:=⟨_,rfl⟩
  have Hga:=Lib.hid hga;obtain ⟨W,hW⟩ : ∃ W,W = w.alloc (.cells (opPC opP0) 52):=⟨_,rfl⟩
  rw [← hW] at hb0 hg2 cop hp0 ⊢;rw [hga] at hg2 ⊢;have hgl : ga < W.heap.size:=(Array.getElem?_eq_some_iff.1 hg2).1;clear hW hga;(go_wp2_with fail);refine cop.mono ?_;rintro en w1 ⟨rfl,hr1,hb1⟩;obtain ⟨g,hg⟩ : ∃ g,W.heap.size = g:=⟨_,rfl⟩
  rw [hg] at hr1 hgl ⊢;have hg21:=(hb1.block ga (by omega)).trans hg2;have hp1:=hp0.below hb1;have hp00:=hp1.lt;have hb01 : Below ga w w1:=by have:=hb0.trans (hb1.mono hb0.size);rwa [Hga.out] at this
  have hgs:=Hga.out;clear cop hb0 hb1 hg2 hp0 hg;(go_wp2_with fail);refine (rd_num1 w1 g l 0 hr1).mono ?_;rintro en w2 ⟨rfl,hr2,hk2⟩;have hg22:=(hk2.block ga (by have:=hr1.lt;omega) (by simp;omega)).trans hg21;have hp2:=hp1.kept hk2 (by simp;have:=hp00;omega);have hb02 : Below ga w w2:=hb01.trans (hk2.below (by have:=hr1.lt;omega) (by simp;omega));obtain ⟨k,hk⟩ : ∃ k,numV 1 l 0 = k:=⟨_,rfl⟩
  rw [hk] at HE HO hk9 ⊢;clear hr1 hk2 hg21 hp1 hb01 hk;by_cases he : rawE 1 l 0 = 0
  · have hEE:=HE.out;rw [if_neg (by rw [he];simp)] at hEE;rw [he] at hr2;have HEE:=Lib.hid hEE;clear hEE he HE;have hof:=op_of k w2 hp2 (by omega);by_cases hk0 : k = 0 ∨ 7 < k
    · have h2:=HEE.out;rw [if_pos hk0] at h2;rw [part_eq hk0] at hof;have HEE2:=Lib.hid h2;clear h2 HEE HO hk0;(go_wp2_with fail);refine (rd_err w2 g _ 0 hr2).mono ?_;rintro en w3 ⟨rfl,rfl⟩;(go_wp2_with fail);refine hof.mono ?_;rintro en w3 ⟨rfl,rfl⟩;have hsto:=run_stS_at (P:=Tryz.prog) infoOpP w2 ga (opPC opP0) (opPC opP0) _ hg22 (by simp) (by simp) (opPC_one _ rfl);have Hfin:=Lib.hid (setRow_heap w2 ga _ (opPC opP0) _ _ hg22);have hkf : Keep [ga] w2 (w2.setRow ga (opPC opP0)):=⟨rfl,rfl,rfl,by simp [World.setRow],fun x _ hx=>setRow_other w2 ga x _ (by simpa using hx)⟩
      have hbf : Below ga w (w2.setRow ga (opPC opP0)):=hb02.trans (hkf.below (by have:=hr2.lt;omega) (by simp));have Hbf:=Lib.hid hbf;clear hbf hkf hg22 hr2 hb02;(go_wp2_with fail);refine bodyPost_ret (results_cell_tmp Tryz.results62 _ _ ga 52 (opPC opP0) (0,0) _ rfl Hfin.out Tryz.underlying52 rfl (by first | (rw [opPC_size];exact infoOpP) | (rw [opC_size];exact infoOpP))) rfl ?_;exact ⟨_,by rw [HEE2.out];rfl,fun h0=>absurd (HEE2.out.symm.trans h0) (by omega),fun _=>rfl,by rw [Hga.out];exact Hbf.out⟩
    · have h2:=HEE.out;rw [if_neg hk0] at h2;have HEE2:=Lib.hid h2;have hk1 : 1 ≤ k:=by omega
      have hk7 : k ≤ 7:=by omega
      have hpne:=part_ne hk1 hk7;have hpl:=plain_take k (rawL 1 l 0) 0 hk1 hk7;have hck:=chk_take k (rawL 1 l 0) 0 hk1 hk7;have ctk:=op_take k w2 g (rawL 1 l 0) 0 hr2 hp2 hk1 hk7;obtain ⟨pk,hpk⟩ : ∃ pk,partN k = pk:=⟨_,rfl⟩
      rw [hpk] at hof hpne;obtain ⟨R,hR⟩ : ∃ R,takeO k (rawL 1 l 0) 0 = R:=⟨_,rfl⟩
      rw [hR] at HEE2 HO hpl hck ctk;obtain ⟨o,l2,e2⟩:=R;dsimp only at *;have Hpl:=Lib.hid hpl;have Hck:=Lib.hid hck;clear h2 HEE hk0 hpk hR hpl hck;(go_wp2_with fail);refine (rd_err w2 g _ 0 hr2).mono ?_;rintro en w3 ⟨rfl,rfl⟩;(go_wp2_with fail);refine hof.mono ?_;rintro en w3 ⟨rfl,rfl⟩;clear hof;(go_wp2_with fail);refine ctk.mono ?_;rintro en w3 ⟨A,c,rfl,hown,hr3,hk3⟩;have hg23:=(hk3.block ga (by have:=hr2.lt;omega) (by simp;omega)).trans hg22;have hp3:=hp2.kept hk3 (by simp;omega);have hb03 : Below ga w w3:=hb02.trans (hk3.below (by have:=hr2.lt;omega) (by simp;omega));have hg3l : g < w3.heap.size:=hr3.lt;have hs23:=hk3.size;have hg2l : g < w2.heap.size:=hr2.lt;have hbx : Below w3.heap.size w3 (w3.alloc (.cells (opC o A c) 52)):=(Below.refl _ _).alloc (Nat.le_refl _) _;have hg24 : (w3.alloc (.cells (opC o A c) 52)).heap[ga]? = _:=(hbx.block ga (by omega)).trans hg23;have hr4:=hr3.below hbx;have hp4:=hp3.below hbx;have hrow : rowAt (w3.alloc (.cells (opC o A c) 52)) w3.heap.size 0 37 = some (opC o A c):=by unfold opC;simp [go_sem]
      have hown4:=hown.below hbx;have hb04 : Below ga w (w3.alloc (.cells (opC o A c) 52)):=hb03.trans (hbx.mono (by omega));have ce:=rd_end _ g l2 e2 hr4;have hcells : opC o A c = opPC ⟨o.k,o.n,o.key,o.val,o.ref,.slice A o.refs.length c⟩:=rfl;rw [hcells];go_upto_region 8 with fail
      rw [← hcells];have Hcells:=Lib.hid hcells;obtain ⟨gb,hgb⟩ : ∃ gb,w3.heap.size = gb:=⟨_,rfl⟩
      obtain ⟨W4,hW4⟩ : ∃ W4,W4 = w3.alloc (.cells (opC o A c) 52):=⟨_,rfl⟩
      rw [← hW4] at hg24 hr4 hp4 hrow hown4 hb04 ce ⊢;rw [hgb] at hrow hg3l ⊢;clear hW4 hcells hbx hr3 hp3 hb03 hg23 hown ctk hk3 hr2 hp2 hb02 hg22 hgb;(go_wp2_with fail);refine ce.mono ?_;rintro en w5 ⟨rfl,hb5⟩;have hg25:=(hb5.block ga (Array.getElem?_eq_some_iff.1 hg24).1).trans hg24;have hp5:=hp4.below hb5;have hrow5 : rowAt w5 gb 0 37 = some (opC o A c):=(rowAt_of_block (hb5.block gb (rowAt_lt hrow)) _ _).trans hrow;have hown5:=hown4.below hb5;have hb05 : Below ga w w5:=hb04.trans (hb5.mono (by have:=hb04.size;omega));have hga5 : ga ≤ w5.heap.size:=by have:=hb05.size;omega
      clear ce hg24 hr4 hp4 hrow hown4 hb04 hb5;by_cases hee : endE l2 e2 = 0
      · have h2:=HEE2.out;rw [if_neg (by rw [hee];simp),← Hck.out] at h2;rw [hee];have hT5 : TagsIn w5 A o.refs.length o.refs:=hown5.slr;have cc:=op_check o A c w5 hp5 Hpl.out.1 hT5 (by have:=Hpl.out.2.2;omega);obtain ⟨ck,hckk⟩ : ∃ ck,chkN o = ck:=⟨_,rfl⟩
        rw [hckk] at h2 cc;have HEE3:=Lib.hid h2;clear h2 HEE2 hee hckk hT5 hp5;(go_wp2_with fail);refine cc.mono ?_;rintro en w6 ⟨rfl,hb6⟩;have hg26:=(hb6.block ga (Array.getElem?_eq_some_iff.1 hg25).1).trans hg25;have hrow6 : rowAt w6 gb 0 37 = some (opC o A c):=(rowAt_of_block (hb6.block gb (rowAt_lt hrow5)) _ _).trans hrow5;have hown6:=hown5.below hb6;have hb06 : Below ga w w6:=hb05.trans (hb6.mono hga5);have hga6 : ga ≤ w6.heap.size:=by have:=hb06.size;omega
        clear cc hg25 hrow5 hown5 hb05 hb6;cases hc0 : (ck == 0) with
        | true =>
          obtain rfl : ck = 0:=by simpa using hc0
          have hsto:=run_stS_at (P:=Tryz.prog) infoOpP w6 ga (opPC opP0) (opC o A c) _ hg26 (by simp) (by simp) (opC_one o A c);have Hfin:=Lib.hid (setRow_heap w6 ga _ (opC o A c) _ _ hg26);have hkf : Keep [ga] w6 (w6.setRow ga (opC o A c)):=⟨rfl,rfl,rfl,by simp [World.setRow],fun x _ hx=>setRow_other w6 ga x _ (by simpa using hx)⟩
          have hbf : Below ga w (w6.setRow ga (opC o A c)):=hb06.trans (hkf.below hga6 (by simp));have hownf : Own (w6.setRow ga (opC o A c)) w.heap.size 39 32 A o.refs.length c (o.refs.map idC):=(hown6.mono (by have:=Hga.out;omega)).kept hkf (fun x hx=>by have:=(hown6.at_base hx).1;simp;omega);have Hbf:=Lib.hid hbf;have Hownf:=Lib.hid hownf;clear hbf hkf hg26 hb06 hownf hown6;(go_wp2_with fail);refine bodyPost_ret (results_cell_tmp Tryz.results62 _ _ ga 52 (opC o A c) (0,0) _ rfl Hfin.out Tryz.underlying52 rfl (by first | (rw [opPC_size];exact infoOpP) | (rw [opC_size];exact infoOpP))) rfl ?_;exact ⟨_,by rw [HEE3.out];rfl,fun _=>⟨A,c,by rw [HO.out],by rw [HO.out];exact Hownf.out⟩,fun h0=>absurd HEE3.out h0,by rw [Hga.out];exact Hbf.out⟩
        | false =>
          have hcn : ck ≠ 0:=by simpa using hc0
          have hcb : (ck != 0) = true:=by simpa using hc0
          have Hcn:=Lib.hid hcn;clear hcn;have hsto:=run_stS_at (P:=Tryz.prog) infoOpP w6 ga (opPC opP0) (opPC opP0) _ hg26 (by simp) (by simp) (opPC_one _ rfl);have Hfin:=Lib.hid (setRow_heap w6 ga _ (opPC opP0) _ _ hg26);have hkf : Keep [ga] w6 (w6.setRow ga (opPC opP0)):=⟨rfl,rfl,rfl,by simp [World.setRow],fun x _ hx=>setRow_other w6 ga x _ (by simpa using hx)⟩
          have hbf : Below ga w (w6.setRow ga (opPC opP0)):=hb06.trans (hkf.below hga6 (by simp));have Hbf:=Lib.hid hbf;clear hbf hkf hg26 hb06 hown6;(go_wp2_with fail);refine bodyPost_ret (results_cell_tmp Tryz.results62 _ _ ga 52 (opPC opP0) (0,0) _ rfl Hfin.out Tryz.underlying52 rfl (by first | (rw [opPC_size];exact infoOpP) | (rw [opC_size];exact infoOpP))) rfl ?_;exact ⟨_,by rw [HEE3.out];rfl,fun h0=>absurd (HEE3.out.symm.trans h0) Hcn.out,fun _=>rfl,by rw [Hga.out];exact Hbf.out⟩
      · have h2:=HEE2.out;rw [if_pos hee] at h2;obtain ⟨ee,hEe⟩ : ∃ ee,endE l2 e2 = ee:=⟨_,rfl⟩
        rw [hEe] at h2 hee ⊢;have HEE3:=Lib.hid h2;have Hcn:=Lib.hid hee;have hcb : (ee != 0) = true:=by simpa using hee
        have hcc : (ee == 0) = false:=by simpa using hee
        clear h2 HEE2 hee hEe hp5 hrow5 hown5;have hsto:=run_stS_at (P:=Tryz.prog) infoOpP w5 ga (opPC opP0) (opPC opP0) _ hg25 (by simp) (by simp) (opPC_one _ rfl);have Hfin:=Lib.hid (setRow_heap w5 ga _ (opPC opP0) _ _ hg25);have hkf : Keep [ga] w5 (w5.setRow ga (opPC opP0)):=⟨rfl,rfl,rfl,by simp [World.setRow],fun x _ hx=>setRow_other w5 ga x _ (by simpa using hx)⟩
        have hbf : Below ga w (w5.setRow ga (opPC opP0)):=hb05.trans (hkf.below hga5 (by simp));have Hbf:=Lib.hid hbf;clear hbf hkf hg25 hb05;(go_wp2_with fail);refine bodyPost_ret (results_cell_tmp Tryz.results62 _ _ ga 52 (opPC opP0) (0,0) _ rfl Hfin.out Tryz.underlying52 rfl (by first | (rw [opPC_size];exact infoOpP) | (rw [opC_size];exact infoOpP))) rfl ?_;exact ⟨_,by rw [HEE3.out];rfl,fun h0=>absurd (HEE3.out.symm.trans h0) Hcn.out,fun _=>rfl,by rw [Hga.out];exact Hbf.out⟩
  · have hEE:=HE.out;rw [if_pos he] at hEE;obtain ⟨e1,he1⟩ : ∃ e1,rawE 1 l 0 = e1:=⟨_,rfl⟩
    rw [he1] at hEE he hr2;have HEE:=Lib.hid hEE;have He:=Lib.hid he;have hen : (e1 != 0) = true:=by simpa using he
    have hee : (e1 == 0) = false:=by simpa using he
    clear hEE he HE HO he1;(go_wp2_with fail);refine (rd_err w2 g _ e1 hr2).mono ?_;rintro en w3 ⟨rfl,rfl⟩;(go_wp2_with fail);refine (rd_err w2 g _ e1 hr2).mono ?_;rintro en w3 ⟨rfl,rfl⟩;have hsto:=run_stS_at (P:=Tryz.prog) infoOpP w2 ga (opPC opP0) (opPC opP0) _ hg22 (by simp) (by simp) (opPC_one _ rfl);have Hfin:=Lib.hid (setRow_heap w2 ga _ (opPC opP0) _ _ hg22);have hkf : Keep [ga] w2 (w2.setRow ga (opPC opP0)):=⟨rfl,rfl,rfl,by simp [World.setRow],fun x _ hx=>setRow_other w2 ga x _ (by simpa using hx)⟩
    have hbf : Below ga w (w2.setRow ga (opPC opP0)):=hb02.trans (hkf.below (by have:=hr2.lt;omega) (by simp));have Hbf:=Lib.hid hbf;clear hbf hkf hg22 hr2 hb02;(go_wp2_with fail);refine bodyPost_ret (results_cell_tmp Tryz.results62 _ _ ga 52 (opPC opP0) (0,0) _ rfl Hfin.out Tryz.underlying52 rfl (by first | (rw [opPC_size];exact infoOpP) | (rw [opC_size];exact infoOpP))) rfl ?_;exact ⟨_,by rw [HEE.out];rfl,fun h0=>absurd (HEE.out.symm.trans h0) He.out,fun _=>rfl,by rw [Hga.out];exact Hbf.out⟩
end
section
open Go.RowKit
def markC (m : MarkV) : Array Value:=markVC m
def fits (t : ByteArray) (m : MarkV) : Prop:=opE m.body.data.toList = 0 ∧ belongs (opO m.body.data.toList).k = kindB t
instance (t : ByteArray) (m : MarkV) : Decidable (fits t m):=by unfold fits;infer_instance
@[go_sem] theorem storeOp0_run (w : World) (g : Nat) (hg : g = w.heap.size) (z : Array Value) (hz : z.size = 37) (e : TypeId) : (stS 52 ⟨g,0,none⟩ (.agg (opPC opP0))).run Tryz.prog (w.alloc (.cells z e)) = .ok () (w.alloc (.cells (opPC opP0) e)):=storeOpP_run w g hg z hz opP0 rfl e
theorem opO_ok (l : List UInt8) (h : opE l = 0) : plainO (opO l) ∧ 1 ≤ (opO l).k ∧ (opO l).k ≤ 7 ∧ (opO l).key.size ≤ 16 ∧ (opO l).val.size ≤ 16 ∧ (opO l).refs.length ≤ 8 ∧ risI (opO l).refs = true ∧ (opO l).n < 2147483648:=by
  unfold opE at h;split at h
  · contradiction
  split at h
  · cases h
  split at h
  · contradiction
  rename_i h1 h2 h3
  have hp:=plain_take (numV 1 l 0) (rawL 1 l 0) 0 (by omega) (by omega);unfold chkO at h;have e : (takeO (numV 1 l 0) (rawL 1 l 0) 0).o = opO l:=rfl;rw [e] at h hp;split at h
  · cases h
  split at h
  · cases h
  split at h
  · cases h
  split at h
  · cases h
  rename_i k1 k2 k3 k4
  refine ⟨hp.1,by omega,by omega,by omega,by omega,by omega,?_,by omega⟩;cases hr : risI (opO l).refs with
  | true=>rfl
  | false=>exact absurd hr k4
end
section
open Go.RowKit
def TallyAt (w : World) (g : Nat) (n : Int) : Prop:=w.heap[g]? = some (.cells #[.int .i64 n,.bool true] 164 (0,0))
end
section
open Go.RowKit
@[go_sem] theorem storeValA_run (w : World) (g : Nat) (hg : g = w.heap.size) (z : Array Value) (hz : z.size = 3) (k n : Int) (A : Option Addr) (m c : Nat) (e : TypeId) : (stS 25 ⟨g,0,none⟩ (.agg (valVC ⟨k,n,.slice A m c⟩))).run Tryz.prog (w.alloc (.cells z e)) = .ok () (w.alloc (.cells (valVC ⟨k,n,.slice A m c⟩) e)):=storeValV_run w g hg z hz _ rfl e
end
section
open Go.RowKit
abbrev okR (x : BRow) : Prop:=x.val.size ≤ maxLen
abbrev RowSet (w : World) (b : Nat) (L : List BRow) : Prop:=SetAt w b rowV okR L
def small (x : BRow) : Prop:=x.val.size ≤ 16
section
variable {w : World} {b : Nat} {X : List BRow} {x : BRow}
end
structure BagAt (w : World) (g bl bg : Nat) (L G : List BRow) : Prop where
  blk : w.heap[g]? = some (.cells #[.map (some bl),.map (some bg)] 169 (0,0))
  live : RowSet w bl L
  gone : RowSet w bg G
  ne : bl ≠ bg
  risL : Ris cmpRow L
  risG : Ris cmpRow G
  smL : ∀ x ∈ L,small x
  smG : ∀ x ∈ G,small x
  apart : ∀ x ∈ L,x ∉ G
section
variable {w w' : World} {g bl bg : Nat} {L G : List BRow}
end
def longE (s : ByteArray) : Int:=if 16 < s.size then 3 else 0
def addB (L G : List BRow) (x : BRow) : List BRow:=if 16 < x.val.size then L else if x ∈ G then L else insC cmpRow L x
end
section
open Go.RowKit
def remG (G : List BRow) (v : ByteArray) (tags : List Id32) : List BRow:=tags.foldl (fun G t=>insC cmpRow G ⟨t,v⟩) G
def remL (L : List BRow) (v : ByteArray) (tags : List Id32) : List BRow:=tags.foldl (fun L t=>L.filter fun y=>decide (y ≠ (⟨t,v⟩ : BRow))) L
theorem mem_remG {v : ByteArray} : ∀ {tags : List Id32} {G : List BRow} {x : BRow},x ∈ remG G v tags ↔ x ∈ G ∨ (x.val = v ∧ x.tag ∈ tags)
  | [],G,x=>by simp [remG]
  | t :: tags,G,x=>by
    show x ∈ remG (insC cmpRow G ⟨t,v⟩) v tags ↔ _;rw [mem_remG,mem_insC totRow,List.mem_cons];constructor
    · rintro ((h | h) | ⟨h1,h2⟩)
      · subst h;exact .inr ⟨rfl,.inl rfl⟩
      · exact .inl h
      · exact .inr ⟨h1,.inr h2⟩
    · rintro (h | ⟨h1,h | h⟩)
      · exact .inl (.inr h)
      · exact .inl (.inl (by cases x;simp_all))
      · exact .inr ⟨h1,h⟩
theorem mem_remL {v : ByteArray} : ∀ {tags : List Id32} {L : List BRow} {x : BRow},x ∈ remL L v tags ↔ x ∈ L ∧ ¬ (x.val = v ∧ x.tag ∈ tags)
  | [],L,x=>by simp [remL]
  | t :: tags,L,x=>by
    show x ∈ remL (L.filter fun y=>decide (y ≠ (⟨t,v⟩ : BRow))) v tags ↔ _;rw [mem_remL,List.mem_filter,List.mem_cons,decide_eq_true_eq];constructor
    · rintro ⟨⟨h1,h2⟩,h3⟩;refine ⟨h1,?_⟩;rintro ⟨e1,e2 | e2⟩
      · exact h2 (by cases x;simp_all)
      · exact h3 ⟨e1,e2⟩
    · rintro ⟨h1,h2⟩;refine ⟨⟨h1,fun e=>h2 (by subst e;exact ⟨rfl,.inl rfl⟩)⟩,fun h=>h2 ⟨h.1,.inr h.2⟩⟩
theorem ris_remG {v : ByteArray} : ∀ {tags : List Id32} {G : List BRow},Ris cmpRow G → Ris cmpRow (remG G v tags)
  | [],_,h=>h
  | t :: tags,G,h=>by
    show Ris cmpRow (remG (insC cmpRow G ⟨t,v⟩) v tags);exact ris_remG (ris_insC totRow h)
theorem ris_remL {v : ByteArray} : ∀ {tags : List Id32} {L : List BRow},Ris cmpRow L → Ris cmpRow (remL L v tags)
  | [],_,h=>h
  | t :: tags,L,h=>by
    show Ris cmpRow (remL (L.filter fun y=>decide (y ≠ (⟨t,v⟩ : BRow))) v tags);exact ris_remL (h.filter _)
end
section
open Go.RowKit
structure Setting where
  val : ByteArray
  n : Int
  id : Id32
def settingC (x : Setting) : Array Value:=#[.string x.val] ++ #[.int .i64 x.n] ++ idC x.id
def setting0 : Setting:=⟨⟨#[]⟩,0,id0⟩
theorem Setting_ext {x y : Setting} (h : x.val = y.val ∧ x.n = y.n ∧ x.id = y.id) : x = y:=by cases x;cases y;simp_all
instance : DecidableEq Setting:=fun x y=>if h : x.val = y.val ∧ x.n = y.n ∧ x.id = y.id then isTrue (Setting_ext h) else isFalse (fun e=>h (by subst e;simp))
@[go_sem ↓] theorem loadSetting_rw (a : Addr) : loadVar 180 a = ldS 180 a:=rfl
@[go_sem ↓] theorem storeSetting_rw (a : Addr) (v : Value) : storeVar 180 a v = stS 180 a v:=rfl
@[go_sem ↓] theorem buildSetting_rw (parts : Array (Nat × Value)) : Instr.build 180 parts = bdS 180 parts:=rfl
def cmpSet (x y : Setting) : Int:=orL [cmpI x.n y.n,cmpId x.id y.id,cmpS x.val y.val]
end
end Go.Proofs.YtgfpjjppeldhbaaGreatDoor
