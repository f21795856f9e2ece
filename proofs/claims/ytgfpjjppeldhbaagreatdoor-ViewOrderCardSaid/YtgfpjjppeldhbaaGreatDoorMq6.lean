/- Part 6 of the texts that lead to this claim: the walks of the functions and the plain law, in order. -/
import Derived.Test.YtgfpjjppeldhbaaGreatDoorMq5
import Derived.Shelf.SlSortCmp.NoneTotal
import Derived.Test.YtgfpjjppeldhbaaGreatDoorLayBag
import Derived.Shelf.Slices.CompactS
import Derived.Test.YtgfpjjppeldhbaaGreatDoorLayKeys
import Derived.Test.YtgfpjjppeldhbaaGreatDoorLayView
import Derived.IntWalk
import Derived.ArgAppend
import Derived.Laws.StructEq
namespace Go.Proofs.YtgfpjjppeldhbaaGreatDoor
section
open Go.RowKit
set_option maxRecDepth 100000 in
set_option maxHeartbeats 1000000 in
theorem vdoes_l (m : MarkV) (o : OpV) (A : Option Addr) (c : Nat) (w : World) (g gt bl : Nat) (t : ByteArray) (b : Nat) (I : List Id32) (L : List LRow) (h : ViewAt w g t b I (.iface 104 (.pointer (some ⟨gt,0,none⟩)))) (hT : LastAt w gt bl L) (hk : o.key.size ≤ 16) (hv : o.val.size ≤ 16) :
    Calls Tryz.prog 64 #[.pointer (some ⟨g,0,none⟩),.agg (markVC m),.agg (opC o A c)] w fun e w'=>e = .returned (.tuple #[]) ∧ LastAt w' gt bl (setL L o.key ⟨o.val,o.n,m.id⟩) ∧ Keep [bl] w w':=by
  obtain ⟨k,n,key,val,ref,refs⟩:=o;dsimp only at *;unfold opC at *;dsimp only at *;have hB : Below w.heap.size w ((w.alloc (.cells (markVC m) 41)).alloc (.cells (opPC ⟨k,n,key,val,ref,.slice A refs.length c⟩) 52)):=((Below.refl _ _).alloc (Nat.le_refl _) _).alloc (by simp) _;have hc:=(h.below hB).cell2;have hT1:=hT.below hB;have hrm : rowAt ((w.alloc (.cells (markVC m) 41)).alloc (.cells (opPC ⟨k,n,key,val,ref,.slice A refs.length c⟩) 52)) w.heap.size 0 34 = some (markVC m):=((Keep.alloc (w.alloc (.cells (markVC m) 41)) _).row (by simp) (by simp) 0 34).trans (by simp [go_sem]);have hr0 : rowAt ((w.alloc (.cells (markVC m) 41)).alloc (.cells (opPC ⟨k,n,key,val,ref,.slice A refs.length c⟩) 52)) w.heap.size 0 32 = some (idC m.id):=by have:=rowAt_sub hrm (j:=0) (m:=32) (by omega);rwa [markVC_e0] at this
  have ci:=fun w' (h' : LastAt w' gt bl L)=>lset key val n m.id w' gt bl L h' (by omega) (by omega);clear hT h;have Hv:=Lib.hid (And.intro hk hv);clear hv hk;go_enter Tryz.func64,Tryz.ntmps64
  (go_wp2_with fail);refine (ci _ hT1).mono ?_;rintro e w1 ⟨rfl,h1,hk1⟩;have hfin : Keep [bl] w w1:=Keep.trans ((Keep.of_below hB).mono (S':=[bl]) (by simp)) hk1 (fun x hx=>.inl hx);clear hB hc hT1 ci hk1 hrm hr0;(go_wp2_with fail);go_end0;exact ⟨rfl,h1,hfin⟩
end
section
open Go.RowKit
set_option maxRecDepth 100000 in
set_option maxHeartbeats 1000000 in
theorem vdoes_m (m : MarkV) (o : OpV) (A : Option Addr) (c : Nat) (w : World) (g gt bl bo : Nat) (t : ByteArray) (b : Nat) (I : List Id32) (X : List MRow) (O : List Id32) (h : ViewAt w g t b I (.iface 105 (.pointer (some ⟨gt,0,none⟩)))) (hT : MultiAt w gt bl bo X O) (hk : o.key.size ≤ 16) (hv : o.val.size ≤ 16) (hA : TagsIn w A o.refs.length o.refs) (hn : o.refs.length ≤ 8) (hX : X.length < 1000000) :
    Calls Tryz.prog 64 #[.pointer (some ⟨g,0,none⟩),.agg (markVC m),.agg (opC o A c)] w fun e w'=>e = .returned (.tuple #[]) ∧ MultiAt w' gt bl bo (setX X O ⟨m.id,o.key,o.val⟩ o.refs) (putO O o.refs) ∧ Keep [bl,bo] w w':=by
  obtain ⟨k,n,key,val,ref,refs⟩:=o;dsimp only at *;unfold opC at *;dsimp only at *;have hB : Below w.heap.size w ((w.alloc (.cells (markVC m) 41)).alloc (.cells (opPC ⟨k,n,key,val,ref,.slice A refs.length c⟩) 52)):=((Below.refl _ _).alloc (Nat.le_refl _) _).alloc (by simp) _;have hc:=(h.below hB).cell2;have hT1:=hT.below hB;have hrm : rowAt ((w.alloc (.cells (markVC m) 41)).alloc (.cells (opPC ⟨k,n,key,val,ref,.slice A refs.length c⟩) 52)) w.heap.size 0 34 = some (markVC m):=((Keep.alloc (w.alloc (.cells (markVC m) 41)) _).row (by simp) (by simp) 0 34).trans (by simp [go_sem]);have hr0 : rowAt ((w.alloc (.cells (markVC m) 41)).alloc (.cells (opPC ⟨k,n,key,val,ref,.slice A refs.length c⟩) 52)) w.heap.size 0 32 = some (idC m.id):=by have:=rowAt_sub hrm (j:=0) (m:=32) (by omega);rwa [markVC_e0] at this
  have hA1 : TagsIn _ A refs.length refs:=SlR.below hA hB;have ci:=fun w' (h' : MultiAt w' gt bl bo X O) (hA' : TagsIn w' A refs.length refs)=>mset m.id key val A refs.length c refs w' gt bl bo X O h' hA' hk hv (by omega) hX;have HA:=Lib.hid hA1;clear hT h hA hn hA1 hX;have Hv:=Lib.hid (And.intro hk hv);clear hv hk;go_enter Tryz.func64,Tryz.ntmps64
  (go_wp2_with fail);refine (ci _ hT1 HA.out).mono ?_;rintro e w1 ⟨rfl,h1,hk1⟩;have hfin : Keep [bl,bo] w w1:=Keep.trans ((Keep.of_below hB).mono (S':=[bl,bo]) (by simp)) hk1 (fun x hx=>.inl hx);clear hB hc hT1 ci hk1 hrm hr0 HA;(go_wp2_with fail);go_end0;exact ⟨rfl,h1,hfin⟩
end
section
open Go.RowKit
set_option maxRecDepth 100000 in
set_option maxHeartbeats 1000000 in
theorem vdoes_s6 (m : MarkV) (o : OpV) (A : Option Addr) (c : Nat) (w : World) (g gt bn bb bg : Nat) (t : ByteArray) (b : Nat) (I : List Id32) (M : List Nat) (N : List NodeV) (G : List Id32) (h : ViewAt w g t b I (.iface 106 (.pointer (some ⟨gt,0,none⟩)))) (hT : SeqAt w M gt bn bb bg N G) (hM : ∀ x ∈ M,x < w.heap.size) (hk : o.k = 6) (hv : o.val.size ≤ 16) (hN : N.length ≤ 100000) :
    Calls Tryz.prog 64 #[.pointer (some ⟨g,0,none⟩),.agg (markVC m),.agg (opC o A c)] w fun e w'=>e = .returned (.tuple #[]) ∧ SeqAt w' M gt bn bb bg (addN N ⟨m.id,m.h,o.ref,o.val⟩) G ∧ Keep [bn,bb] w w':=by
  obtain ⟨k,n,key,val,ref,refs⟩:=o;dsimp only at *;unfold opC at *;dsimp only at *;have hB : Below w.heap.size w ((w.alloc (.cells (markVC m) 41)).alloc (.cells (opPC ⟨k,n,key,val,ref,.slice A refs.length c⟩) 52)):=((Below.refl _ _).alloc (Nat.le_refl _) _).alloc (by simp) _;have hc:=(h.below hB).cell2;have hT1:=hT.below hB;have hrm : rowAt ((w.alloc (.cells (markVC m) 41)).alloc (.cells (opPC ⟨k,n,key,val,ref,.slice A refs.length c⟩) 52)) w.heap.size 0 34 = some (markVC m):=((Keep.alloc (w.alloc (.cells (markVC m) 41)) _).row (by simp) (by simp) 0 34).trans (by simp [go_sem]);have hr0 : rowAt ((w.alloc (.cells (markVC m) 41)).alloc (.cells (opPC ⟨k,n,key,val,ref,.slice A refs.length c⟩) 52)) w.heap.size 0 32 = some (idC m.id):=by have:=rowAt_sub hrm (j:=0) (m:=32) (by omega);rwa [markVC_e0] at this
  have hk2 : ((k : Int) == 6) = true:=by rw [hk];rfl
  clear hk;have hM1 : Hid (∀ x ∈ M,x < _):=Lib.hid fun x hx=>Nat.lt_of_lt_of_le (hM x hx) hB.size;have hr1:=rowAt_cell hrm (j:=33 - 1) (by omega);have ci:=fun w' (h' : SeqAt w' M gt bn bb bg N G) (hM' : ∀ x ∈ M,x < w'.heap.size)=>sqinsert ⟨m.id,m.h,ref,val⟩ w' M gt bn bb bg N G h' hM' (by simp only;omega) hN;clear hT h hM hN;have Hv:=Lib.hid hv;clear hv;go_enter Tryz.func64,Tryz.ntmps64
  (go_wp2_with fail);refine (ci _ hT1 hM1.out).mono ?_;rintro e w1 ⟨rfl,h1,hk1⟩;have hfin : Keep [bn,bb] w w1:=Keep.trans ((Keep.of_below hB).mono (S':=[bn,bb]) (by simp)) hk1 (fun x hx=>.inl hx);clear hB hc hT1 ci hk1 hrm hr0 hr1 hM1;(go_wp2_with fail);go_end0;exact ⟨rfl,h1,hfin⟩
set_option maxRecDepth 100000 in
set_option maxHeartbeats 1000000 in
theorem vdoes_s7 (m : MarkV) (o : OpV) (A : Option Addr) (c : Nat) (w : World) (g gt bn bb bg : Nat) (t : ByteArray) (b : Nat) (I : List Id32) (M : List Nat) (N : List NodeV) (G : List Id32) (h : ViewAt w g t b I (.iface 106 (.pointer (some ⟨gt,0,none⟩)))) (hT : SeqAt w M gt bn bb bg N G) (hk : (o.k == 6) = false) :
    Calls Tryz.prog 64 #[.pointer (some ⟨g,0,none⟩),.agg (markVC m),.agg (opC o A c)] w fun e w'=>e = .returned (.tuple #[]) ∧ SeqAt w' M gt bn bb bg N (insC cmpId G o.ref) ∧ Keep [bg] w w':=by
  obtain ⟨k,n,key,val,ref,refs⟩:=o;dsimp only at *;unfold opC at *;dsimp only at *;have hB : Below w.heap.size w ((w.alloc (.cells (markVC m) 41)).alloc (.cells (opPC ⟨k,n,key,val,ref,.slice A refs.length c⟩) 52)):=((Below.refl _ _).alloc (Nat.le_refl _) _).alloc (by simp) _;have hc:=(h.below hB).cell2;have hT1:=hT.below hB;have hrm : rowAt ((w.alloc (.cells (markVC m) 41)).alloc (.cells (opPC ⟨k,n,key,val,ref,.slice A refs.length c⟩) 52)) w.heap.size 0 34 = some (markVC m):=((Keep.alloc (w.alloc (.cells (markVC m) 41)) _).row (by simp) (by simp) 0 34).trans (by simp [go_sem]);have hr0 : rowAt ((w.alloc (.cells (markVC m) 41)).alloc (.cells (opPC ⟨k,n,key,val,ref,.slice A refs.length c⟩) 52)) w.heap.size 0 32 = some (idC m.id):=by have:=rowAt_sub hrm (j:=0) (m:=32) (by omega);rwa [markVC_e0] at this
  have ci:=fun w' (h' : SeqAt w' M gt bn bb bg N G)=>sqdel ref w' M gt bn bb bg N G h';clear hT h;go_enter Tryz.func64,Tryz.ntmps64
  (go_wp2_with fail);refine (ci _ hT1).mono ?_;rintro e w1 ⟨rfl,h1,hk1⟩;have hfin : Keep [bg] w w1:=Keep.trans ((Keep.of_below hB).mono (S':=[bg]) (by simp)) hk1 (fun x hx=>.inl hx);clear hB hc hT1 ci hk1 hrm hr0;(go_wp2_with fail);go_end0;exact ⟨rfl,h1,hfin⟩
end
section
open Go.RowKit
structure Pair where
  key : ByteArray
  val : ByteArray
def pairC (x : Pair) : Array Value:=#[.string x.key] ++ #[.string x.val]
@[simp] theorem pairC_size (x : Pair) : (pairC x).size = 2:=by simp [pairC]
@[go_sem] theorem pairC_g0 (x : Pair) : (pairC x)[0]? = some (.string x.key):=by first | (simp [pairC,Array.getElem?_append];done) | (rw [show pairC x = ((#[] : Array Value)) ++ #[.string x.key] ++ (#[.string x.val]) from by apply Array.ext';simp [pairC]];exact arr_at _ _ _ _ (by simp))
@[go_sem] theorem pairC_gg0 (x : Pair) (h : 0 < (pairC x).size) : (pairC x)[0]'h = .string x.key:=Option.some.inj ((Array.getElem?_eq_getElem h).symm.trans (pairC_g0 x))
@[go_sem] theorem pairC_g1 (x : Pair) : (pairC x)[1]? = some (.string x.val):=by first | (simp [pairC,Array.getElem?_append];done) | (rw [show pairC x = (#[.string x.key]) ++ #[.string x.val] ++ ((#[] : Array Value)) from by apply Array.ext';simp [pairC]];exact arr_at _ _ _ _ (by simp))
@[go_sem] theorem pairC_gg1 (x : Pair) (h : 1 < (pairC x).size) : (pairC x)[1]'h = .string x.val:=Option.some.inj ((Array.getElem?_eq_getElem h).symm.trans (pairC_g1 x))
@[go_sem] theorem pairC_all (x : Pair) : (pairC x).extract 0 2 = pairC x:=by have:=Array.extract_size (xs:=pairC x);rwa [pairC_size] at this
theorem pairC_one (x : Pair) : ∀ u ∈ (pairC x).toList,u.oneCell' = true:=by
  intro u hu;simp only [pairC,Array.toList_append,List.mem_append] at hu;rcases hu with hu | hu
  · simp at hu;subst hu;rfl
  · simp at hu;subst hu;rfl
def pair0 : Pair:=⟨⟨#[]⟩,⟨#[]⟩⟩
theorem Pair_ext {x y : Pair} (h : x.key = y.key ∧ x.val = y.val) : x = y:=by cases x;cases y;simp_all
instance : DecidableEq Pair:=fun x y=>if h : x.key = y.key ∧ x.val = y.val then isTrue (Pair_ext h) else isFalse (fun e=>h (by subst e;simp))
theorem infoPair : (Tryz.prog.info? 98).map (·.size) = some 2:=by kernel_rfl
@[go_sem ↓] theorem zeroPair_run (w : World) : (zeroValue 98).run Tryz.prog w = .ok (.agg (pairC pair0)) w:=by
  have h : (Tryz.prog.info? 98).bind (·.zero) = some (.agg (pairC pair0)):=by kernel_rfl
  cases hi : Tryz.prog.info? 98 with
  | none=>rw [hi] at h;cases h
  | some i =>
    rw [hi] at h;have hz : i.zero = some (.agg (pairC pair0)):=h;simp [zeroValue,typeInfo,hi,hz]
@[go_sem ↓] theorem loadPair_rw (a : Addr) : loadVar 98 a = ldS 98 a:=rfl
@[go_sem ↓] theorem storePair_rw (a : Addr) (v : Value) : storeVar 98 a v = stS 98 a v:=rfl
@[go_sem] theorem loadPair_run (w : World) (g o : Nat) : (ldS 98 ⟨g,o,none⟩).run Tryz.prog w = match rowAt w g o 2 with | some cs=>.ok (.agg cs) w | none=>(loadVar 98 ⟨g,o,none⟩).run Tryz.prog w :=
  run_ldS Tryz.underlying98 rfl infoPair w g o
theorem fieldsPair : Tryz.prog.underlying 98 = some (.struct (Tryz.prog.fieldsOf 98)):=by kernel_rfl
theorem placesPair (w : World) : ((Tryz.prog.fieldsOf 98).mapM fun (f : Field)=>do pure (f.offset,← sizeOf f.type)).run Tryz.prog w = .ok #[(0,1),(1,1)] w:=by kernel_rfl
@[go_sem ↓] theorem buildPair_rw (parts : Array (Nat × Value)) : Instr.build 98 parts = bdS 98 parts:=rfl
@[go_sem] theorem buildPair (a0 : ByteArray) (a1 : ByteArray) (w : World) : (bdS 98 #[(0,.string a0),(1,.string a1)]).run Tryz.prog w = .ok (.agg (pairC ⟨a0,a1⟩)) w:=by
  refine run_build w fieldsPair _ (zeroPair_run w) _ (placesPair w) [(0,.string a0),(1,.string a1)] _ ?_;rw [show pairC pair0 = (#[] : Array Value) ++ #[.string ⟨#[]⟩] ++ (#[.string ⟨#[]⟩]) from by first | (simp [pairC,pair0,Array.append_assoc];done) | (apply Array.ext';simp [pairC,pair0])];rw [fill_step (off:=0) (size:=1) rfl (by simp) (by simp) (by simp [Value.cells])];rw [show (#[] : Array Value) ++ (Value.string a0).cells ++ (#[.string ⟨#[]⟩]) = (#[.string a0]) ++ #[.string ⟨#[]⟩] ++ (#[] : Array Value) from by first | (simp [Value.cells,Array.append_assoc];done) | (apply Array.ext';simp [Value.cells];done) | (apply Array.ext';simp only [Array.toList_append];simp [Value.cells])];rw [fill_step (off:=1) (size:=1) rfl (by simp) (by simp) (by simp [Value.cells])];first | (simp [Instr.fill,pairC,Array.append_assoc,Value.cells];done) | (simp only [Instr.fill,pairC];congr 1;apply Array.ext';simp [Value.cells];done) | (simp only [Instr.fill,pairC];congr 1;done) | (simp only [Instr.fill,pairC];done)
@[go_sem] theorem buildPair_0 (a0 : ByteArray) (w : World) : (bdS 98 #[(0,.string a0)]).run Tryz.prog w = .ok (.agg (pairC ⟨a0,⟨#[]⟩⟩)) w:=by
  refine run_build w fieldsPair _ (zeroPair_run w) _ (placesPair w) [(0,.string a0)] _ ?_;rw [show pairC pair0 = (#[] : Array Value) ++ #[.string ⟨#[]⟩] ++ (#[.string ⟨#[]⟩]) from by first | (simp [pairC,pair0,Array.append_assoc];done) | (apply Array.ext';simp [pairC,pair0])];rw [fill_step (off:=0) (size:=1) rfl (by simp) (by simp) (by simp [Value.cells])];first | (simp [Instr.fill,pairC,Array.append_assoc,Value.cells];done) | (simp only [Instr.fill,pairC];congr 1;apply Array.ext';simp [Value.cells];done) | (simp only [Instr.fill,pairC];congr 1;done) | (simp only [Instr.fill,pairC];done)
theorem einfoPair : ElemInfo Tryz.prog 23 98 2 32 :=
  .of (z:=.agg (pairC pair0)) Tryz.underlying23 (by kernel_rfl) (by kernel_rfl) (by kernel_rfl) (pairC_size _) (by omega)
@[go_sem ↓] theorem bsPair_rw (n : Nat) (parts : Array (Nat × Value)) : Instr.buildSlice 23 n parts = bsS 23 n parts:=rfl
@[go_sem] theorem bsPair_run (w : World) (x : Pair) : (bsS 23 1 #[(0,.agg (pairC x))]).run Tryz.prog w = .ok (.slice (some ⟨w.heap.size,0,none⟩) 1 1) (w.alloc (.cells (pairC x) 98)) :=
  run_bsS1 einfoPair (by omega) w (pairC x) (pairC_size x)
end
section
open Go.RowKit
set_option maxRecDepth 100000 in
set_option maxHeartbeats 1000000 in
theorem vvalue_b (w : World) (g gt : Nat) (t : ByteArray) (b : Nat) (I : List Id32) (h : ViewAt w g t b I (.iface 102 (.pointer (some ⟨gt,0,none⟩)))) (ht : t.size ≤ 9223372036854775807) (hk : kindB t = 2) (n : Nat) (L : List (Array Value))
    (hl : ∀ w',Below w.heap.size w w' → Calls Tryz.prog 58 #[.pointer (some ⟨gt,0,none⟩)] w' fun e w''=>∃ A cap,e = .returned (.slice A n cap) ∧ Own w'' w'.heap.size 98 2 A n cap L ∧ Below w'.heap.size w' w'') :
    Calls Tryz.prog 24 #[.pointer (some ⟨g,0,none⟩)] w fun e w'=>∃ A cap,e = .returned (.agg (valVC ⟨2,0,.slice A n cap⟩)) ∧ Own w' w.heap.size 98 2 A n cap L ∧ Below w.heap.size w w':=by
  have hB : Below w.heap.size w (w.alloc (.cells (valVC valV0) 25)):=(Below.refl _ _).alloc (Nat.le_refl _) _;have h1:=h.below hB;have hg1 : (w.alloc (.cells (valVC valV0) 25)).heap[w.heap.size]? = some (.cells (valVC valV0) 25 (0,0)):=heap_alloc_new w _;have c2:=fun w=>kind_any t w ht;rw [hk] at c2;go_enter Tryz.func24,Tryz.ntmps24
  go_upto_region 1 with fail
  obtain ⟨ga,hga⟩ : ∃ ga,w.heap.size = ga:=⟨_,rfl⟩
  have Hga:=Lib.hid hga;rw [hga] at hg1 hB hl ⊢;obtain ⟨W,hW⟩ : ∃ W,W = w.alloc (.cells (valVC valV0) 25):=⟨_,rfl⟩
  rw [← hW] at h1 hg1 hB ⊢;clear hW hga;have hc1:=h1.cell1;(go_wp2_with fail);refine (vnone_live W g b hc1).mono ?_;rintro e w1 ⟨rfl,rfl⟩;have hc0:=h1.cell0;(go_wp2_with fail);refine (c2 _).mono ?_;rintro e w2 ⟨rfl,hb2⟩;have h2:=h1.below hb2;have hg2:=(hb2.block ga (Array.getElem?_eq_some_iff.1 hg1).1).trans hg1;have hB2 : Below ga w w2:=hB.trans (hb2.mono (by have:=hB.size;have:=Hga.out;omega));have hs2 : ga < w2.heap.size:=(Array.getElem?_eq_some_iff.1 hg2).1;clear hc0 hc1 h1 hg1 hB hb2 h c2;have hb3 : Below w2.heap.size w2 (w2.alloc (.cells (valVC ⟨2,0,.slice none 0 0⟩) 25)):=(Below.refl _ _).alloc (Nat.le_refl _) _;have h3:=h2.below hb3;have hg3:=(hb3.block ga hs2).trans hg2;have hB3 : Below ga w (w2.alloc (.cells (valVC ⟨2,0,.slice none 0 0⟩) 25)):=hB2.trans (hb3.mono (by omega));have hv3 : (w2.alloc (.cells (valVC ⟨2,0,.slice none 0 0⟩) 25)).heap[w2.heap.size]? = some (.cells (valVC ⟨2,0,.slice none 0 0⟩) 25 (0,0)):=heap_alloc_new w2 _;obtain ⟨gv,hgv⟩ : ∃ gv,w2.heap.size = gv:=⟨_,rfl⟩
  have Hgv:=Lib.hid hgv;clear h2 hg2 hB2 hb3;go_upto_region 4 with fail
  rw [hgv] at hv3 hs2;obtain ⟨W3,hW3⟩ : ∃ W3,W3 = (w2.alloc (.cells (valVC ⟨2,0,.slice none 0 0⟩) 25)):=⟨_,rfl⟩
  rw [← hW3] at h3 hg3 hB3 hv3 ⊢;clear hW3 hgv;have hc2:=h3.cell2;go_upto_region 10 with fail
  have hl3:=hl W3 hB3;(go_wp2_with fail);refine hl3.mono ?_;rintro e w4 ⟨A,cap,rfl,hown,hb4⟩;have hgv3 : gv < W3.heap.size:=(Array.getElem?_eq_some_iff.1 hv3).1;have hga3 : ga < W3.heap.size:=(Array.getElem?_eq_some_iff.1 hg3).1;have hvx:=(hb4.block gv hgv3).trans hv3;have hgx:=(hb4.block ga hga3).trans hg3;have hs4:=hb4.size;have hBx : Below ga w w4:=hB3.trans (hb4.mono (by omega));have hf : w4.frozen? ⟨gv,2,none⟩ = false:=by simp [World.frozen?,hvx]
  have hcv : w4.cell? ⟨gv,2,none⟩ = some (.slice none 0 0):=by rw [cell_of_row w4 gv 2 _ _ _ hvx];simp [go_sem]
  have hset : (valVC ⟨2,0,.slice none 0 0⟩).setIfInBounds 2 (.slice A n cap) = valVC ⟨2,0,.slice A n cap⟩:=by apply Array.ext';simp [valVC]
  have hv4 : (w4.setCell ⟨gv,2,none⟩ (.slice A n cap)).heap[gv]? = some (.cells (valVC ⟨2,0,.slice A n cap⟩) 25 (0,0)):=by rw [heap_setCell_same hvx,hset]
  have hks:=Keep.setCell w4 ⟨gv,2,none⟩ (.slice A n cap);have hg4 : (w4.setCell ⟨gv,2,none⟩ (.slice A n cap)).heap[ga]? = some (.cells (valVC valV0) 25 (0,0)):=(hks.block ga (by omega) (by simp;omega)).trans hgx;have hB4 : Below ga w (w4.setCell ⟨gv,2,none⟩ (.slice A n cap)):=hBx.trans (hks.below (by omega) (by simp;omega));have hown4:=hown.kept hks (fun x hx=>by have:=hown.at_base hx;simp;omega);clear hset hks hgx hBx h3 hc2 hown hb4 hg3 hB3 hl hl3;go_upto_region 20 with fail
  obtain ⟨W4,hW4⟩ : ∃ W4,W4 = w4.setCell ⟨gv,2,none⟩ (.slice A n cap):=⟨_,rfl⟩
  rw [← hW4] at hv4 hg4 hB4 hown4 ⊢;clear hW4 hf hvx hcv hv3;have Hsz:=Lib.hid (And.intro hga3 hs4);have hrow : rowAt W4 gv 0 3 = some (valVC ⟨2,0,.slice A n cap⟩):=by unfold rowAt;rw [hv4];simp [go_sem]
  have hsto:=run_stS_at (P:=Tryz.prog) infoValV W4 ga (valVC valV0) (valVC ⟨2,0,.slice A n cap⟩) _ hg4 (by simp) (by simp) (valVC_one _ rfl);have hkf : Keep [ga] W4 (W4.setRow ga (valVC ⟨2,0,.slice A n cap⟩)):=⟨rfl,rfl,rfl,by simp [World.setRow],fun x _ hx=>setRow_other W4 ga x _ (by simpa using hx)⟩
  have Hfin:=Lib.hid (setRow_heap W4 ga _ (valVC ⟨2,0,.slice A n cap⟩) _ _ hg4);have HBf:=Lib.hid (hB4.trans (hkf.below (by have:=hB4.size;have:=Hga.out;omega) (by simp)));have HO:=Lib.hid (hown4.kept hkf (fun x hx=>by have:=hown4.at_base hx;simp;omega));clear hkf hg4 hB4 hv4 hown4;(go_wp2_with fail);refine bodyPost_ret (results_cell_row Tryz.results24 _ _ ga 25 (valVC ⟨2,0,.slice A n cap⟩) (0,0) _ rfl Hfin.out Tryz.underlying25 rfl (by rw [valVC_size];exact infoValV)) rfl ?_;exact ⟨A,cap,rfl,HO.out.mono (by have:=Hsz.out;have:=Hga.out;omega),by rw [Hga.out];exact HBf.out⟩
set_option maxRecDepth 100000 in
set_option maxHeartbeats 1000000 in
theorem vvalue_l (w : World) (g gt : Nat) (t : ByteArray) (b : Nat) (I : List Id32) (h : ViewAt w g t b I (.iface 104 (.pointer (some ⟨gt,0,none⟩)))) (ht : t.size ≤ 9223372036854775807) (hk : kindB t = 3) (n : Nat) (L : List (Array Value))
    (hl : ∀ w',Below w.heap.size w w' → Calls Tryz.prog 59 #[.pointer (some ⟨gt,0,none⟩)] w' fun e w''=>∃ A cap,e = .returned (.slice A n cap) ∧ Own w'' w'.heap.size 98 2 A n cap L ∧ Below w'.heap.size w' w'') :
    Calls Tryz.prog 24 #[.pointer (some ⟨g,0,none⟩)] w fun e w'=>∃ A cap,e = .returned (.agg (valVC ⟨3,0,.slice A n cap⟩)) ∧ Own w' w.heap.size 98 2 A n cap L ∧ Below w.heap.size w w':=by
  have hB : Below w.heap.size w (w.alloc (.cells (valVC valV0) 25)):=(Below.refl _ _).alloc (Nat.le_refl _) _;have h1:=h.below hB;have hg1 : (w.alloc (.cells (valVC valV0) 25)).heap[w.heap.size]? = some (.cells (valVC valV0) 25 (0,0)):=heap_alloc_new w _;have c2:=fun w=>kind_any t w ht;rw [hk] at c2;go_enter Tryz.func24,Tryz.ntmps24
  go_upto_region 1 with fail
  obtain ⟨ga,hga⟩ : ∃ ga,w.heap.size = ga:=⟨_,rfl⟩
  have Hga:=Lib.hid hga;rw [hga] at hg1 hB hl ⊢;obtain ⟨W,hW⟩ : ∃ W,W = w.alloc (.cells (valVC valV0) 25):=⟨_,rfl⟩
  rw [← hW] at h1 hg1 hB ⊢;clear hW hga;have hc1:=h1.cell1;(go_wp2_with fail);refine (vnone_live W g b hc1).mono ?_;rintro e w1 ⟨rfl,rfl⟩;have hc0:=h1.cell0;(go_wp2_with fail);refine (c2 _).mono ?_;rintro e w2 ⟨rfl,hb2⟩;have h2:=h1.below hb2;have hg2:=(hb2.block ga (Array.getElem?_eq_some_iff.1 hg1).1).trans hg1;have hB2 : Below ga w w2:=hB.trans (hb2.mono (by have:=hB.size;have:=Hga.out;omega));have hs2 : ga < w2.heap.size:=(Array.getElem?_eq_some_iff.1 hg2).1;clear hc0 hc1 h1 hg1 hB hb2 h c2;have hb3 : Below w2.heap.size w2 (w2.alloc (.cells (valVC ⟨3,0,.slice none 0 0⟩) 25)):=(Below.refl _ _).alloc (Nat.le_refl _) _;have h3:=h2.below hb3;have hg3:=(hb3.block ga hs2).trans hg2;have hB3 : Below ga w (w2.alloc (.cells (valVC ⟨3,0,.slice none 0 0⟩) 25)):=hB2.trans (hb3.mono (by omega));have hv3 : (w2.alloc (.cells (valVC ⟨3,0,.slice none 0 0⟩) 25)).heap[w2.heap.size]? = some (.cells (valVC ⟨3,0,.slice none 0 0⟩) 25 (0,0)):=heap_alloc_new w2 _;obtain ⟨gv,hgv⟩ : ∃ gv,w2.heap.size = gv:=⟨_,rfl⟩
  have Hgv:=Lib.hid hgv;clear h2 hg2 hB2 hb3;go_upto_region 4 with fail
  rw [hgv] at hv3 hs2;obtain ⟨W3,hW3⟩ : ∃ W3,W3 = (w2.alloc (.cells (valVC ⟨3,0,.slice none 0 0⟩) 25)):=⟨_,rfl⟩
  rw [← hW3] at h3 hg3 hB3 hv3 ⊢;clear hW3 hgv;have hc2:=h3.cell2;go_upto_region 13 with fail
  have hl3:=hl W3 hB3;(go_wp2_with fail);refine hl3.mono ?_;rintro e w4 ⟨A,cap,rfl,hown,hb4⟩;have hgv3 : gv < W3.heap.size:=(Array.getElem?_eq_some_iff.1 hv3).1;have hga3 : ga < W3.heap.size:=(Array.getElem?_eq_some_iff.1 hg3).1;have hvx:=(hb4.block gv hgv3).trans hv3;have hgx:=(hb4.block ga hga3).trans hg3;have hs4:=hb4.size;have hBx : Below ga w w4:=hB3.trans (hb4.mono (by omega));have hf : w4.frozen? ⟨gv,2,none⟩ = false:=by simp [World.frozen?,hvx]
  have hcv : w4.cell? ⟨gv,2,none⟩ = some (.slice none 0 0):=by rw [cell_of_row w4 gv 2 _ _ _ hvx];simp [go_sem]
  have hset : (valVC ⟨3,0,.slice none 0 0⟩).setIfInBounds 2 (.slice A n cap) = valVC ⟨3,0,.slice A n cap⟩:=by apply Array.ext';simp [valVC]
  have hv4 : (w4.setCell ⟨gv,2,none⟩ (.slice A n cap)).heap[gv]? = some (.cells (valVC ⟨3,0,.slice A n cap⟩) 25 (0,0)):=by rw [heap_setCell_same hvx,hset]
  have hks:=Keep.setCell w4 ⟨gv,2,none⟩ (.slice A n cap);have hg4 : (w4.setCell ⟨gv,2,none⟩ (.slice A n cap)).heap[ga]? = some (.cells (valVC valV0) 25 (0,0)):=(hks.block ga (by omega) (by simp;omega)).trans hgx;have hB4 : Below ga w (w4.setCell ⟨gv,2,none⟩ (.slice A n cap)):=hBx.trans (hks.below (by omega) (by simp;omega));have hown4:=hown.kept hks (fun x hx=>by have:=hown.at_base hx;simp;omega);clear hset hks hgx hBx h3 hc2 hown hb4 hg3 hB3 hl hl3;go_upto_region 20 with fail
  obtain ⟨W4,hW4⟩ : ∃ W4,W4 = w4.setCell ⟨gv,2,none⟩ (.slice A n cap):=⟨_,rfl⟩
  rw [← hW4] at hv4 hg4 hB4 hown4 ⊢;clear hW4 hf hvx hcv hv3;have Hsz:=Lib.hid (And.intro hga3 hs4);have hrow : rowAt W4 gv 0 3 = some (valVC ⟨3,0,.slice A n cap⟩):=by unfold rowAt;rw [hv4];simp [go_sem]
  have hsto:=run_stS_at (P:=Tryz.prog) infoValV W4 ga (valVC valV0) (valVC ⟨3,0,.slice A n cap⟩) _ hg4 (by simp) (by simp) (valVC_one _ rfl);have hkf : Keep [ga] W4 (W4.setRow ga (valVC ⟨3,0,.slice A n cap⟩)):=⟨rfl,rfl,rfl,by simp [World.setRow],fun x _ hx=>setRow_other W4 ga x _ (by simpa using hx)⟩
  have Hfin:=Lib.hid (setRow_heap W4 ga _ (valVC ⟨3,0,.slice A n cap⟩) _ _ hg4);have HBf:=Lib.hid (hB4.trans (hkf.below (by have:=hB4.size;have:=Hga.out;omega) (by simp)));have HO:=Lib.hid (hown4.kept hkf (fun x hx=>by have:=hown4.at_base hx;simp;omega));clear hkf hg4 hB4 hv4 hown4;(go_wp2_with fail);refine bodyPost_ret (results_cell_row Tryz.results24 _ _ ga 25 (valVC ⟨3,0,.slice A n cap⟩) (0,0) _ rfl Hfin.out Tryz.underlying25 rfl (by rw [valVC_size];exact infoValV)) rfl ?_;exact ⟨A,cap,rfl,HO.out.mono (by have:=Hsz.out;have:=Hga.out;omega),by rw [Hga.out];exact HBf.out⟩
set_option maxRecDepth 100000 in
set_option maxHeartbeats 1000000 in
theorem vvalue_m (w : World) (g gt : Nat) (t : ByteArray) (b : Nat) (I : List Id32) (h : ViewAt w g t b I (.iface 105 (.pointer (some ⟨gt,0,none⟩)))) (ht : t.size ≤ 9223372036854775807) (hk : kindB t = 4) (n : Nat) (L : List (Array Value))
    (hl : ∀ w',Below w.heap.size w w' → Calls Tryz.prog 60 #[.pointer (some ⟨gt,0,none⟩)] w' fun e w''=>∃ A cap,e = .returned (.slice A n cap) ∧ Own w'' w'.heap.size 98 2 A n cap L ∧ Below w'.heap.size w' w'') :
    Calls Tryz.prog 24 #[.pointer (some ⟨g,0,none⟩)] w fun e w'=>∃ A cap,e = .returned (.agg (valVC ⟨4,0,.slice A n cap⟩)) ∧ Own w' w.heap.size 98 2 A n cap L ∧ Below w.heap.size w w':=by
  have hB : Below w.heap.size w (w.alloc (.cells (valVC valV0) 25)):=(Below.refl _ _).alloc (Nat.le_refl _) _;have h1:=h.below hB;have hg1 : (w.alloc (.cells (valVC valV0) 25)).heap[w.heap.size]? = some (.cells (valVC valV0) 25 (0,0)):=heap_alloc_new w _;have c2:=fun w=>kind_any t w ht;rw [hk] at c2;go_enter Tryz.func24,Tryz.ntmps24
  go_upto_region 1 with fail
  obtain ⟨ga,hga⟩ : ∃ ga,w.heap.size = ga:=⟨_,rfl⟩
  have Hga:=Lib.hid hga;rw [hga] at hg1 hB hl ⊢;obtain ⟨W,hW⟩ : ∃ W,W = w.alloc (.cells (valVC valV0) 25):=⟨_,rfl⟩
  rw [← hW] at h1 hg1 hB ⊢;clear hW hga;have hc1:=h1.cell1;(go_wp2_with fail);refine (vnone_live W g b hc1).mono ?_;rintro e w1 ⟨rfl,rfl⟩;have hc0:=h1.cell0;(go_wp2_with fail);refine (c2 _).mono ?_;rintro e w2 ⟨rfl,hb2⟩;have h2:=h1.below hb2;have hg2:=(hb2.block ga (Array.getElem?_eq_some_iff.1 hg1).1).trans hg1;have hB2 : Below ga w w2:=hB.trans (hb2.mono (by have:=hB.size;have:=Hga.out;omega));have hs2 : ga < w2.heap.size:=(Array.getElem?_eq_some_iff.1 hg2).1;clear hc0 hc1 h1 hg1 hB hb2 h c2;have hb3 : Below w2.heap.size w2 (w2.alloc (.cells (valVC ⟨4,0,.slice none 0 0⟩) 25)):=(Below.refl _ _).alloc (Nat.le_refl _) _;have h3:=h2.below hb3;have hg3:=(hb3.block ga hs2).trans hg2;have hB3 : Below ga w (w2.alloc (.cells (valVC ⟨4,0,.slice none 0 0⟩) 25)):=hB2.trans (hb3.mono (by omega));have hv3 : (w2.alloc (.cells (valVC ⟨4,0,.slice none 0 0⟩) 25)).heap[w2.heap.size]? = some (.cells (valVC ⟨4,0,.slice none 0 0⟩) 25 (0,0)):=heap_alloc_new w2 _;obtain ⟨gv,hgv⟩ : ∃ gv,w2.heap.size = gv:=⟨_,rfl⟩
  have Hgv:=Lib.hid hgv;clear h2 hg2 hB2 hb3;go_upto_region 4 with fail
  rw [hgv] at hv3 hs2;obtain ⟨W3,hW3⟩ : ∃ W3,W3 = (w2.alloc (.cells (valVC ⟨4,0,.slice none 0 0⟩) 25)):=⟨_,rfl⟩
  rw [← hW3] at h3 hg3 hB3 hv3 ⊢;clear hW3 hgv;have hc2:=h3.cell2;go_upto_region 16 with fail
  have hl3:=hl W3 hB3;(go_wp2_with fail);refine hl3.mono ?_;rintro e w4 ⟨A,cap,rfl,hown,hb4⟩;have hgv3 : gv < W3.heap.size:=(Array.getElem?_eq_some_iff.1 hv3).1;have hga3 : ga < W3.heap.size:=(Array.getElem?_eq_some_iff.1 hg3).1;have hvx:=(hb4.block gv hgv3).trans hv3;have hgx:=(hb4.block ga hga3).trans hg3;have hs4:=hb4.size;have hBx : Below ga w w4:=hB3.trans (hb4.mono (by omega));have hf : w4.frozen? ⟨gv,2,none⟩ = false:=by simp [World.frozen?,hvx]
  have hcv : w4.cell? ⟨gv,2,none⟩ = some (.slice none 0 0):=by rw [cell_of_row w4 gv 2 _ _ _ hvx];simp [go_sem]
  have hset : (valVC ⟨4,0,.slice none 0 0⟩).setIfInBounds 2 (.slice A n cap) = valVC ⟨4,0,.slice A n cap⟩:=by apply Array.ext';simp [valVC]
  have hv4 : (w4.setCell ⟨gv,2,none⟩ (.slice A n cap)).heap[gv]? = some (.cells (valVC ⟨4,0,.slice A n cap⟩) 25 (0,0)):=by rw [heap_setCell_same hvx,hset]
  have hks:=Keep.setCell w4 ⟨gv,2,none⟩ (.slice A n cap);have hg4 : (w4.setCell ⟨gv,2,none⟩ (.slice A n cap)).heap[ga]? = some (.cells (valVC valV0) 25 (0,0)):=(hks.block ga (by omega) (by simp;omega)).trans hgx;have hB4 : Below ga w (w4.setCell ⟨gv,2,none⟩ (.slice A n cap)):=hBx.trans (hks.below (by omega) (by simp;omega));have hown4:=hown.kept hks (fun x hx=>by have:=hown.at_base hx;simp;omega);clear hset hks hgx hBx h3 hc2 hown hb4 hg3 hB3 hl hl3;go_upto_region 20 with fail
  obtain ⟨W4,hW4⟩ : ∃ W4,W4 = w4.setCell ⟨gv,2,none⟩ (.slice A n cap):=⟨_,rfl⟩
  rw [← hW4] at hv4 hg4 hB4 hown4 ⊢;clear hW4 hf hvx hcv hv3;have Hsz:=Lib.hid (And.intro hga3 hs4);have hrow : rowAt W4 gv 0 3 = some (valVC ⟨4,0,.slice A n cap⟩):=by unfold rowAt;rw [hv4];simp [go_sem]
  have hsto:=run_stS_at (P:=Tryz.prog) infoValV W4 ga (valVC valV0) (valVC ⟨4,0,.slice A n cap⟩) _ hg4 (by simp) (by simp) (valVC_one _ rfl);have hkf : Keep [ga] W4 (W4.setRow ga (valVC ⟨4,0,.slice A n cap⟩)):=⟨rfl,rfl,rfl,by simp [World.setRow],fun x _ hx=>setRow_other W4 ga x _ (by simpa using hx)⟩
  have Hfin:=Lib.hid (setRow_heap W4 ga _ (valVC ⟨4,0,.slice A n cap⟩) _ _ hg4);have HBf:=Lib.hid (hB4.trans (hkf.below (by have:=hB4.size;have:=Hga.out;omega) (by simp)));have HO:=Lib.hid (hown4.kept hkf (fun x hx=>by have:=hown4.at_base hx;simp;omega));clear hkf hg4 hB4 hv4 hown4;(go_wp2_with fail);refine bodyPost_ret (results_cell_row Tryz.results24 _ _ ga 25 (valVC ⟨4,0,.slice A n cap⟩) (0,0) _ rfl Hfin.out Tryz.underlying25 rfl (by rw [valVC_size];exact infoValV)) rfl ?_;exact ⟨A,cap,rfl,HO.out.mono (by have:=Hsz.out;have:=Hga.out;omega),by rw [Hga.out];exact HBf.out⟩
set_option maxRecDepth 100000 in
set_option maxHeartbeats 1000000 in
theorem vvalue_s (w : World) (g gt : Nat) (t : ByteArray) (b : Nat) (I : List Id32) (h : ViewAt w g t b I (.iface 106 (.pointer (some ⟨gt,0,none⟩)))) (ht : t.size ≤ 9223372036854775807) (hk : kindB t = 5) (n : Nat) (L : List (Array Value))
    (hl : ∀ w',Below w.heap.size w w' → Calls Tryz.prog 61 #[.pointer (some ⟨gt,0,none⟩)] w' fun e w''=>∃ A cap,e = .returned (.slice A n cap) ∧ Own w'' w'.heap.size 98 2 A n cap L ∧ Below w'.heap.size w' w'') :
    Calls Tryz.prog 24 #[.pointer (some ⟨g,0,none⟩)] w fun e w'=>∃ A cap,e = .returned (.agg (valVC ⟨5,0,.slice A n cap⟩)) ∧ Own w' w.heap.size 98 2 A n cap L ∧ Below w.heap.size w w':=by
  have hB : Below w.heap.size w (w.alloc (.cells (valVC valV0) 25)):=(Below.refl _ _).alloc (Nat.le_refl _) _;have h1:=h.below hB;have hg1 : (w.alloc (.cells (valVC valV0) 25)).heap[w.heap.size]? = some (.cells (valVC valV0) 25 (0,0)):=heap_alloc_new w _;have c2:=fun w=>kind_any t w ht;rw [hk] at c2;go_enter Tryz.func24,Tryz.ntmps24
  go_upto_region 1 with fail
  obtain ⟨ga,hga⟩ : ∃ ga,w.heap.size = ga:=⟨_,rfl⟩
  have Hga:=Lib.hid hga;rw [hga] at hg1 hB hl ⊢;obtain ⟨W,hW⟩ : ∃ W,W = w.alloc (.cells (valVC valV0) 25):=⟨_,rfl⟩
  rw [← hW] at h1 hg1 hB ⊢;clear hW hga;have hc1:=h1.cell1;(go_wp2_with fail);refine (vnone_live W g b hc1).mono ?_;rintro e w1 ⟨rfl,rfl⟩;have hc0:=h1.cell0;(go_wp2_with fail);refine (c2 _).mono ?_;rintro e w2 ⟨rfl,hb2⟩;have h2:=h1.below hb2;have hg2:=(hb2.block ga (Array.getElem?_eq_some_iff.1 hg1).1).trans hg1;have hB2 : Below ga w w2:=hB.trans (hb2.mono (by have:=hB.size;have:=Hga.out;omega));have hs2 : ga < w2.heap.size:=(Array.getElem?_eq_some_iff.1 hg2).1;clear hc0 hc1 h1 hg1 hB hb2 h c2;have hb3 : Below w2.heap.size w2 (w2.alloc (.cells (valVC ⟨5,0,.slice none 0 0⟩) 25)):=(Below.refl _ _).alloc (Nat.le_refl _) _;have h3:=h2.below hb3;have hg3:=(hb3.block ga hs2).trans hg2;have hB3 : Below ga w (w2.alloc (.cells (valVC ⟨5,0,.slice none 0 0⟩) 25)):=hB2.trans (hb3.mono (by omega));have hv3 : (w2.alloc (.cells (valVC ⟨5,0,.slice none 0 0⟩) 25)).heap[w2.heap.size]? = some (.cells (valVC ⟨5,0,.slice none 0 0⟩) 25 (0,0)):=heap_alloc_new w2 _;obtain ⟨gv,hgv⟩ : ∃ gv,w2.heap.size = gv:=⟨_,rfl⟩
  have Hgv:=Lib.hid hgv;clear h2 hg2 hB2 hb3;go_upto_region 4 with fail
  rw [hgv] at hv3 hs2;obtain ⟨W3,hW3⟩ : ∃ W3,W3 = (w2.alloc (.cells (valVC ⟨5,0,.slice none 0 0⟩) 25)):=⟨_,rfl⟩
  rw [← hW3] at h3 hg3 hB3 hv3 ⊢;clear hW3 hgv;have hc2:=h3.cell2;go_upto_region 19 with fail
  have hl3:=hl W3 hB3;(go_wp2_with fail);refine hl3.mono ?_;rintro e w4 ⟨A,cap,rfl,hown,hb4⟩;have hgv3 : gv < W3.heap.size:=(Array.getElem?_eq_some_iff.1 hv3).1;have hga3 : ga < W3.heap.size:=(Array.getElem?_eq_some_iff.1 hg3).1;have hvx:=(hb4.block gv hgv3).trans hv3;have hgx:=(hb4.block ga hga3).trans hg3;have hs4:=hb4.size;have hBx : Below ga w w4:=hB3.trans (hb4.mono (by omega));have hf : w4.frozen? ⟨gv,2,none⟩ = false:=by simp [World.frozen?,hvx]
  have hcv : w4.cell? ⟨gv,2,none⟩ = some (.slice none 0 0):=by rw [cell_of_row w4 gv 2 _ _ _ hvx];simp [go_sem]
  have hset : (valVC ⟨5,0,.slice none 0 0⟩).setIfInBounds 2 (.slice A n cap) = valVC ⟨5,0,.slice A n cap⟩:=by apply Array.ext';simp [valVC]
  have hv4 : (w4.setCell ⟨gv,2,none⟩ (.slice A n cap)).heap[gv]? = some (.cells (valVC ⟨5,0,.slice A n cap⟩) 25 (0,0)):=by rw [heap_setCell_same hvx,hset]
  have hks:=Keep.setCell w4 ⟨gv,2,none⟩ (.slice A n cap);have hg4 : (w4.setCell ⟨gv,2,none⟩ (.slice A n cap)).heap[ga]? = some (.cells (valVC valV0) 25 (0,0)):=(hks.block ga (by omega) (by simp;omega)).trans hgx;have hB4 : Below ga w (w4.setCell ⟨gv,2,none⟩ (.slice A n cap)):=hBx.trans (hks.below (by omega) (by simp;omega));have hown4:=hown.kept hks (fun x hx=>by have:=hown.at_base hx;simp;omega);clear hset hks hgx hBx h3 hc2 hown hb4 hg3 hB3 hl hl3;go_upto_region 20 with fail
  obtain ⟨W4,hW4⟩ : ∃ W4,W4 = w4.setCell ⟨gv,2,none⟩ (.slice A n cap):=⟨_,rfl⟩
  rw [← hW4] at hv4 hg4 hB4 hown4 ⊢;clear hW4 hf hvx hcv hv3;have Hsz:=Lib.hid (And.intro hga3 hs4);have hrow : rowAt W4 gv 0 3 = some (valVC ⟨5,0,.slice A n cap⟩):=by unfold rowAt;rw [hv4];simp [go_sem]
  have hsto:=run_stS_at (P:=Tryz.prog) infoValV W4 ga (valVC valV0) (valVC ⟨5,0,.slice A n cap⟩) _ hg4 (by simp) (by simp) (valVC_one _ rfl);have hkf : Keep [ga] W4 (W4.setRow ga (valVC ⟨5,0,.slice A n cap⟩)):=⟨rfl,rfl,rfl,by simp [World.setRow],fun x _ hx=>setRow_other W4 ga x _ (by simpa using hx)⟩
  have Hfin:=Lib.hid (setRow_heap W4 ga _ (valVC ⟨5,0,.slice A n cap⟩) _ _ hg4);have HBf:=Lib.hid (hB4.trans (hkf.below (by have:=hB4.size;have:=Hga.out;omega) (by simp)));have HO:=Lib.hid (hown4.kept hkf (fun x hx=>by have:=hown4.at_base hx;simp;omega));clear hkf hg4 hB4 hv4 hown4;(go_wp2_with fail);refine bodyPost_ret (results_cell_row Tryz.results24 _ _ ga 25 (valVC ⟨5,0,.slice A n cap⟩) (0,0) _ rfl Hfin.out Tryz.underlying25 rfl (by rw [valVC_size];exact infoValV)) rfl ?_;exact ⟨A,cap,rfl,HO.out.mono (by have:=Hsz.out;have:=Hga.out;omega),by rw [Hga.out];exact HBf.out⟩
end
section
open Go.RowKit Go.Sort Go.Shelf
section
variable {α : Type} [Inhabited α] {enc : α → Array Value} {k : Nat}
theorem own_holds {w : World} {B : Nat} {E : TypeId} {g n cap : Nat} {L : List α} (hk : 0 < k) (hs : ∀ x,(enc x).size = k) (h : Own w B E k (some ⟨g,0,none⟩) n cap (L.map enc)) :
    HoldsK (fun x=>(enc x).toList) k w g 0 L.toArray:=by
  intro j hj;have hj' : j < L.length * k:=by simpa using hj
  have hi : j / k < L.length:=Nat.div_lt_of_lt_mul (by rw [Nat.mul_comm];exact hj');have hr : j % k < k:=Nat.mod_lt _ hk;have he : j / k * k + j % k = j:=by rw [Nat.mul_comm];exact Nat.div_add_mod j k
  have hl : L.length = n:=by simpa using h.len
  obtain ⟨g',o,e,hrow⟩:=h.slr.at_ (i:=j / k) (by omega);injection e with e
  injection e with e1 e2
  subst e1;subst e2;rw [List.getElem_map] at hrow;have hc:=rowAt_cell hrow hr;rw [Nat.zero_add,he] at hc;refine ⟨?_,?_⟩
  · rw [Nat.zero_add,hc,get_flatK _ _ _ j (by simpa using hj'),getElem!_pos L.toArray (j / k) (by simpa using hi)];have hsz : j % k < (enc L[j / k]).toList.length:=by simpa [hs] using hr
    rw [getElem!_pos _ (j % k) (by simpa using hsz)];simp [hs,hr]
  · obtain ⟨⟨_,h2⟩,_,_⟩:=h;rcases h2 with ⟨h2,_⟩ | ⟨g',c,cur,hv,hb,hg,_⟩
    · cases h2
    · injection hv with hA
      injection hA with hA
      injection hA with hA
      subst hA;simp [World.frozen?,hg]
theorem own_putF {w : World} {B : Nat} {E : TypeId} {g n n' cap : Nat} {L L' : List (Array Value)} (h : Own w B E k (some ⟨g,0,none⟩) n cap L) (hn' : n' ≤ n) (m : Nat) (F : Array Value) (hF : F.size = n * k) (hL : F.toList.take (n' * k) = L'.flatMap Array.toList) (hl : L'.length = n') (hs : ∀ c ∈ L',c.size = k) (os : Array Obj) :
    Own (grow (putRow id (Sort.ahead w m) g 0 F) os) B E k (some ⟨g,0,none⟩) n' cap L' ∧ Keep [g] w (grow (putRow id (Sort.ahead w m) g 0 F) os):=by
  obtain ⟨⟨_,h2⟩,_,_⟩:=h;rcases h2 with ⟨h2,_⟩ | ⟨g',c,cur,hv,hb,hg,hnc,hcm,hcs,htake⟩
  · cases h2
  injection hv with hA _ hc
  injection hA with hA
  injection hA with hA
  subst hA;subst hc;have hgl : g < w.heap.size:=(Array.getElem?_eq_some_iff.1 hg).1;have hheap : (grow (putRow id (Sort.ahead w m) g 0 F) os).heap[g]? = some (.cells (putCells id 0 F cur) E (0,0)):=by
    rw [heap_grow_old _ _ (by simpa [putRow,mapBlock,Sort.ahead] using hgl)];show (w.heap.modify g _)[g]? = _;rw [Array.getElem?_modify,if_pos rfl,hg];rfl
  have hle : n * k ≤ cur.size:=by rw [hcs];exact Nat.mul_le_mul_right k hnc
  have hle' : n' * k ≤ n * k:=Nat.mul_le_mul_right k hn';refine ⟨⟨⟨?_,.inr ⟨g,cap,_,rfl,hb,hheap,by omega,hcm,?_,?_⟩⟩,hl,hs⟩,?_⟩
  · rw [flat_len _ k hs,hl]
  · simp [putCells,hcs]
  · rw [← hL];apply List.ext_getElem?;intro j;by_cases hj : j < n' * k
    · rw [List.getElem?_take,List.getElem?_take,if_pos hj,if_pos hj,Array.getElem?_toList,Array.getElem?_toList];unfold putCells;rw [Array.getElem?_mapIdx,Array.getElem?_eq_getElem (show j < cur.size by omega),Array.getElem?_eq_getElem (show j < F.size by omega)];simp only [Option.map_some,Nat.zero_le,true_and,Nat.zero_add,Nat.sub_zero,hF];rw [if_pos (by omega),getElem!_pos _ j (by omega)];rfl
    · rw [List.getElem?_eq_none (by simp;omega),List.getElem?_eq_none (by simp;omega)]
  · refine ⟨rfl,rfl,rfl,?_,fun x hx hn=>?_⟩
    · rw [size_grow];simp [putRow,mapBlock,Sort.ahead]
    · rw [heap_grow_old _ _ (by simpa [putRow,mapBlock,Sort.ahead] using hx)];show (w.heap.modify g _)[x]? = _;rw [Array.getElem?_modify,if_neg (by simpa [eq_comm] using hn)]
theorem own_sorted {w : World} {B : Nat} {E : TypeId} {g n cap : Nat} {L : List α} (hk : 0 < k) (hs : ∀ x,(enc x).size = k) (h : Own w B E k (some ⟨g,0,none⟩) n cap (L.map enc)) (m : Nat) (L' : List α) (hl : L'.length = L.length) (os : Array Obj) :
    Own (sortWorldK (fun x=>(enc x).toList) k w g 0 m L'.toArray os) B E k (some ⟨g,0,none⟩) n cap (L'.map enc) ∧ Keep [g] w (sortWorldK (fun x=>(enc x).toList) k w g 0 m L'.toArray os):=by
  have hn : L.length = n:=by simpa using h.len
  have hsz : ∀ c ∈ L'.map enc,c.size = k:=fun c hc=>(by obtain ⟨x,_,rfl⟩:=List.mem_map.1 hc;exact hs x);have hflat : (L'.map enc).flatMap Array.toList = (flatK (fun x=>(enc x).toList) k L'.toArray).toList:=by
    apply List.ext_getElem?;intro j;have hfl:=flat_len (L'.map enc) k hsz;rw [List.length_map] at hfl;by_cases hj : j < L'.length * k
    · have hi : j / k < L'.length:=Nat.div_lt_of_lt_mul (by rw [Nat.mul_comm];exact hj);have hr : j % k < k:=Nat.mod_lt _ hk;have he : j / k * k + j % k = j:=by rw [Nat.mul_comm];exact Nat.div_add_mod j k
      have e1:=flat_get (L'.map enc) k hsz (j / k) (j % k) (by simpa using hi) hr;rw [he] at e1;rw [e1];have hsz : j < (flatK (fun x=>(enc x).toList) k L'.toArray).size:=by simpa using hj
      rw [Array.getElem?_toList,Array.getElem?_eq_getElem hsz,← getElem!_pos _ j hsz,get_flatK _ _ _ j (by simpa using hj),getElem!_pos L'.toArray (j / k) (by simpa using hi)];have hsz2 : j % k < (enc L'[j / k]).toList.length:=by simpa [hs] using hr
      rw [List.getElem_map,List.getElem_toArray,getElem!_pos _ (j % k) hsz2];simp [hs,hr]
    · rw [List.getElem?_eq_none (by omega),List.getElem?_eq_none (by simpa using hj)]
  have hF : (flatK (fun x=>(enc x).toList) k L'.toArray).size = n * k:=by simp [hl,hn]
  exact own_putF h (Nat.le_refl _) m (flatK (fun x=>(enc x).toList) k L'.toArray) hF (by rw [hflat,List.take_of_length_le (by simpa using Nat.le_of_eq hF)]) (by simp [hl,hn]) hsz os
end
section
variable {α : Type} [Inhabited α] {f : α → Value}
theorem own_holds1 {w : World} {B : Nat} {E : TypeId} {g n cap : Nat} {L : List α} (h : Own w B E 1 (some ⟨g,0,none⟩) n cap (L.map fun x=>#[f x])) : Holds f w g 0 L.toArray:=by
  intro j hj;have hj' : j < L.length:=by simpa using hj
  have hl : L.length = n:=by simpa using h.len
  obtain ⟨g',o,e,hrow⟩:=h.slr.at_ (i:=j) (by omega);injection e with e
  injection e with e1 e2
  subst e1;subst e2;rw [List.getElem_map] at hrow;have hc:=rowAt_cell hrow (j:=0) (by omega);refine ⟨?_,?_⟩
  · rw [getElem!_pos L.toArray j (by simpa using hj')];simpa using hc
  · obtain ⟨⟨_,h2⟩,_,_⟩:=h;rcases h2 with ⟨h2,_⟩ | ⟨g',c,cur,hv,hb,hg,_⟩
    · cases h2
    · injection hv with hA
      injection hA with hA
      injection hA with hA
      subst hA;simp [World.frozen?,hg]
theorem putRow_id {w : World} {g : Nat} (d : Array α) : putRow f w g 0 d = putRow id w g 0 (d.map f):=by
  unfold putRow;refine mapBlock_congr w g _ _ fun c e fr _=>?_;unfold putCells;apply Array.ext
  · simp
  · intro i h1 h2;simp only [Array.getElem_mapIdx,Array.size_map];split
    · rename_i h
      have hi : i - 0 < d.size:=by omega
      rw [getElem!_pos d (i - 0) hi,getElem!_pos (d.map f) (i - 0) (by simpa using hi)]
      simp
    · rfl
theorem own_put1 {w : World} {B : Nat} {E : TypeId} {g n n' cap : Nat} {L : List (Array Value)} (h : Own w B E 1 (some ⟨g,0,none⟩) n cap L) (hn' : n' ≤ n) (m : Nat) (D L' : List α) (hD : D.length = n) (hL : D.take n' = L') (os : Array Obj) :
    Own (grow (putRow f (Sort.ahead w m) g 0 D.toArray) os) B E 1 (some ⟨g,0,none⟩) n' cap (L'.map fun x=>#[f x]) ∧ Keep [g] w (grow (putRow f (Sort.ahead w m) g 0 D.toArray) os):=by
  rw [putRow_id];refine own_putF h hn' m _ (by simp [hD]) ?_ (by rw [List.length_map,← hL,List.length_take];omega) (fun c hc=>by obtain ⟨x,_,rfl⟩:=List.mem_map.1 hc;rfl) os;rw [← hL,Nat.mul_one];have e : ∀ l : List α,(l.map fun x=>#[f x]).flatMap Array.toList = l.map f:=fun l=>(by induction l <;> simp_all);rw [e];simp [List.map_take]
end
end
section
open Go.RowKit Go.Sort Go.Shelf
instance : Inhabited BRow:=⟨bRow0⟩
theorem einfoBRow : ElemInfo Tryz.prog 304 171 33 48 :=
  .of (z:=.agg (bRowC bRow0)) Tryz.underlying304 (by kernel_rfl) (by kernel_rfl) (by kernel_rfl) (bRowC_size _) (by omega)
@[go_sem ↓] theorem bsBRow_rw (n : Nat) (parts : Array (Nat × Value)) : Instr.buildSlice 304 n parts = bsS 304 n parts:=rfl
@[go_sem] theorem bsBRow_run (w : World) (x : BRow) : (bsS 304 1 #[(0,.agg (bRowC x))]).run Tryz.prog w = .ok (.slice (some ⟨w.heap.size,0,none⟩) 1 1) (w.alloc (.cells (bRowC x) 171)) :=
  run_bsS1 einfoBRow (by omega) w (bRowC x) (bRowC_size x)
theorem isAggRow (w : World) : (isAgg 171).run Tryz.prog w = .ok true w:=by simp [isAgg,run_underlying Tryz.underlying171]
theorem sizeRow (w : World) : (Go.sizeOf 171).run Tryz.prog w = .ok 33 w:=by
  have h:=infoBRow;cases hi : Tryz.prog.info? 171 with
  | none=>rw [hi] at h;cases h
  | some i =>
    rw [hi] at h;have hk : i.size = 33:=by simpa using h
    simp [Go.sizeOf,typeInfo,hi,hk]
theorem sort_rows (w : World) (B : Nat) (A : Option Addr) (n cap : Nat) (S L : List BRow) (hown : Own w B 171 33 A n cap (S.map bRowC)) (hp : S.Perm L) (hr : Ris cmpRow L) (hn : L.length ≤ 1000000) :
    Calls Tryz.prog 328 #[.slice A n cap,.func (.func 275) #[] #[]] w fun e w'=>e = .returned (.tuple #[]) ∧ Own w' B 171 33 A n cap (L.map bRowC) ∧ Keep (blk A) w w':=by
  have hl : S.length = n:=by simpa using hown.len
  have hSL:=hp.length_eq;rcases hown.addr with rfl | ⟨g,rfl⟩
  · have hn0 : n = 0:=(hown.cap_le.2 rfl).1;subst hn0;have hS : S = []:=List.eq_nil_of_length_eq_zero hl;subst hS;have hL : L = []:=List.eq_nil_of_length_eq_zero hSL.symm;subst hL;refine (AnyF.slices_SortFunc_none Tryz.laySortRow none cap (.func (.func 275) #[] #[]) w).mono ?_;rintro e w' ⟨rfl,rfl⟩;exact ⟨rfl,hown,Keep.refl _ _⟩
  · subst hl;have hH:=own_holds (enc:=bRowC) (by omega) bRowC_size hown;have hcmp : CmpLays Tryz.prog 275 #[] (fun x : BRow=>(bRowC x).toList) 33 cmpRow g 0 S.toArray.size w:=fun m os dk _ x y=>rorder x y _;have hgl : g < w.heap.size:=(hown.at_base (x:=g) (by simp [blk])).2;have hcon:=AnyQ.slices_SortFunc_total Tryz.laySortRow 33 isAggRow sizeRow (fun x : BRow=>(bRowC x).toList) (by simp) (fun x v hv=>bRowC_one x v hv) cmpRow (swo_of totRow) 275 #[] g 0 cap S.toArray w
      (enters_of Tryz.func275 (by kernel_rfl) rfl) hcmp hH hgl (by simp;omega) (fun x y h1 h2=>by
        simp only [ltOf,decide_eq_false_iff_not] at h1 h2;exact Classical.byContradiction fun e=>h2 (totRow.flip h1 e))
    have e1 : S.toArray.size = S.length:=by simp
    rw [e1] at hcon;refine hcon.mono ?_;rintro e w' ⟨rfl,n,os,rfl⟩;have e2 : (S.toArray.toList.mergeSort fun x y=>!(ltOf cmpRow y x)) = L:=mergeSort_ris totRow hr hp;rw [e2];obtain ⟨h1,h2⟩:=own_sorted (enc:=bRowC) (by omega) bRowC_size hown n L hSL.symm os;exact ⟨rfl,h1,h2.mono (by simp [blk])⟩
set_option maxRecDepth 100000 in
set_option maxHeartbeats 1000000 in
theorem bsorted (w : World) (b : Nat) (L : List BRow) (h : RowSet w b L) (hr : Ris cmpRow L) (hn : L.length ≤ 1000000) :
    Calls Tryz.prog 327 #[.map (some b)] w fun e w'=>∃ A cap,e = .returned (.slice A L.length cap) ∧ Own w' w.heap.size 171 33 A L.length cap (L.map bRowC) ∧ Below w.heap.size w w':=by
  have hbl:=h.lt;obtain ⟨w0,hrun,hR,hb0,hs0⟩:=SetAt.range (P:=Tryz.prog) (kv:=rowV) (ok:=okR) h Tryz.underlying167;go_enter Tryz.func327,Tryz.ntmps327
  (go_wp2_with fail);clear hrun;go_loopw [3] (fun out wr=>∃ S A cap,out = .slice A S.length cap ∧ SetRange wr b w.heap.size rowV okR L S ∧ Own wr w0.heap.size 171 33 A S.length cap (S.map bRowC) ∧ Below w.heap.size w wr ∧ w0.heap.size ≤ wr.heap.size) (fun _ wr=>wr.rangeLeft b w.heap.size)
  case atStart=>exact ⟨[],none,0,rfl,hR,Own.nil _ _ _ _,hb0,Nat.le_refl _⟩
  case round =>
    obtain ⟨S,A,cap,rfl,hR,hown,hb,hsz⟩:=hrel;rcases hR.next (P:=Tryz.prog) 0 with ⟨hall,hnd,hrun⟩ | ⟨x,w1,hxL,hxS,hrun,hR1,hk1,hs1,hl1,hen⟩
    · have hp : S.Perm L:=(List.perm_ext_iff_of_nodup hnd (hr.nodup totRow)).2 hall;have hSL:=hp.length_eq;have hsort:=sort_rows wr w0.heap.size A S.length cap S L hown hp hr hn;have Hall:=Lib.hid hall;have HSL:=Lib.hid hSL;clear hall hSL hp;(go_wp2_with fail);refine hsort.mono ?_;rintro e w2 ⟨rfl,hown2,hk2⟩;clear hrun;(go_wp2_with fail);go_ret;rw [HSL.out] at hown2 ⊢;refine ⟨A,cap,rfl,hown2.mono (by omega),hb.trans (hk2.below (B:=w.heap.size) (by omega) fun x hx=>by have:=(hown.at_base hx).1;omega)⟩
    · have hSn : S.length + 1 ≤ 1000000:=by
        obtain ⟨M,Z,hZ,hks,_,hZS,hnd⟩:=hR1;have h1:=hZ.length;have h2 : (Z.map (·.1)).length = (S ++ [x]).length:=by rw [hZS]
        have h3 : (M.map (·.1)).length ≤ L.length:=nodup_len hnd (fun y hy=>(hks y).1 hy);simp at h2 h3;omega
      have hownr : Own w1 w0.heap.size 171 33 A S.length cap (S.map bRowC):=hown.kept hk1 (fun y hy=>by have:=(hown.at_base hy).1;simp;omega);have hb1 : Below w.heap.size w w1:=hb.trans (hk1.below (B:=w.heap.size) (by omega) (by simp));have hbx : Below w1.heap.size w1 ((w1.alloc (.cells (bRowC x) 171)).alloc (.cells (bRowC x) 171)):=((Below.refl _ _).alloc (Nat.le_refl _) _).alloc (by simp) _;have hown2:=hownr.below hbx;have hrow2 : rowAt ((w1.alloc (.cells (bRowC x) 171)).alloc (.cells (bRowC x) 171)) (w1.heap.size + 1) 0 33 = some (bRowC x):=by simp [go_sem]
      change (Instr.next _ _ _).run Tryz.prog wr = .ok (.tuple #[.bool true,.agg (bRowC x),.bool true]) w1 at hrun;change (Instr.entry _).run Tryz.prog w1 = .ok (.tuple #[.agg (bRowC x),.bool true]) w1 at hen;have Hs1:=Lib.hid hs1;clear hs1;go_wp2_with (at_builtin;refine L_append einfoBRow rfl hown2 rfl hrow2 (bRowC_one _) (by omega) (by omega) (by simp;have:=Hs1.out;omega) ?_;intro A' cap' w2 hownA hkA hsubA)
      have hbA : b ∉ blk A:=fun hx=>(by have:=(hown.at_base hx).1;omega);have hrA : w.heap.size ∉ blk A:=fun hx=>(by have:=(hown.at_base hx).1;omega);have hR1x:=hR1.kept (Keep.of_below hbx) (by simp) (by simp);have hR2:=hR1x.kept hkA hbA hrA;have hl2 : w2.rangeLeft b w.heap.size = w1.rangeLeft b w.heap.size :=
        (rangeLeft_kept hkA hbA hrA hR1x.lt.2 hR1x.lt.1).trans (rangeLeft_kept (Keep.of_below hbx) (by simp) (by simp) hR1.lt.2 hR1.lt.1)
      have hsz2 : w0.heap.size ≤ w2.heap.size:=by
        have e1:=hbx.size;have e2:=hkA.size;have e3:=Hs1.out;omega
      have hb2 : Below w.heap.size w w2:=hb1.trans ((hbx.mono (by have:=Hs1.out;omega)).trans (hkA.below (B:=w.heap.size) (by simp;have:=Hs1.out;omega) fun y hy=>by have:=(hown.at_base hy).1;omega));clear hrun hen;(go_wp2_with fail);go_roundw
      case rel=>exact ⟨S ++ [x],A',cap',by simp,hR2,by simpa using hownA,hb2,hsz2⟩
      case measure=>omega
def tagsOf (L : List BRow) (v : ByteArray) : List Id32:=(L.filter fun x=>decide (x.val = v)).map (·.tag)
end
section
open Go.RowKit Go.Sort
section
variable {α : Type} [Inhabited α] [DecidableEq α] {c : α → α → Int}
theorem compact_upTo (T : TotC c) (d : Array α) (hs : ∀ i j,i < j → j < d.size → ¬ c d[j]! d[i]! < 0) : ∀ m,m ≤ d.size →
    Ris c (Lib.compactUpTo d m) ∧ (∀ z,z ∈ Lib.compactUpTo d m ↔ ∃ j,j < m ∧ d[j]! = z) ∧ (0 < m → ∀ y ∈ Lib.compactUpTo d m,¬ c d[m - 1]! y < 0)
  | 0,_=>⟨by simp [Lib.compactUpTo,Ris],by simp [Lib.compactUpTo],by simp⟩
  | m + 1,hm=>by
    obtain ⟨h1,h2,h3⟩:=compact_upTo T d hs m (by omega);rw [Lib.compactUpTo_succ];by_cases hk : Lib.keeps d m = true
    · rw [if_pos hk];have hlt : ∀ y ∈ Lib.compactUpTo d m,c y d[m]! < 0:=by
        intro y hy;have hm0 : 0 < m:=by
          rcases Nat.eq_zero_or_pos m with h | h
          · subst h;simp [Lib.compactUpTo] at hy
          · exact h
        have hne : d[m]! ≠ d[m - 1]!:=by
          have : m = 0 ∨ d[m]! ≠ d[m - 1]!:=by simpa [Lib.keeps] using hk
          rcases this with h | h
          · omega
          · exact h
        exact T.le_trans (h3 hm0 y hy) (T.flip (hs (m - 1) m (by omega) (by omega)) hne)
      refine ⟨?_,fun z=>?_,fun _ y hy=>?_⟩
      · refine List.pairwise_append.2 ⟨h1,by simp,fun y hy z hz=>?_⟩;simp at hz;subst hz;exact hlt y hy
      · rw [List.mem_append,h2,List.mem_singleton];constructor
        · rintro (⟨j,hj,e⟩ | e)
          · exact ⟨j,by omega,e⟩
          · exact ⟨m,by omega,e.symm⟩
        · rintro ⟨j,hj,e⟩;by_cases hjm : j = m
          · subst hjm;exact .inr e.symm
          · exact .inl ⟨j,by omega,e⟩
      · rw [Nat.add_sub_cancel];rcases List.mem_append.1 hy with hy | hy
        · exact T.asym (hlt y hy)
        · simp at hy;subst hy;exact T.irr _
    · rw [if_neg hk,List.append_nil];have hm0 : ¬ m = 0:=fun e=>hk (by simp [Lib.keeps,e]);have heq : d[m]! = d[m - 1]!:=Classical.byContradiction fun e=>hk (Lib.keeps_pos e);refine ⟨h1,fun z=>?_,fun _ y hy=>?_⟩
      · rw [h2];constructor
        · rintro ⟨j,hj,e⟩;exact ⟨j,by omega,e⟩
        · rintro ⟨j,hj,e⟩;by_cases hjm : j = m
          · subst hjm;exact ⟨j - 1,by omega,by rw [← heq];exact e⟩
          · exact ⟨j,by omega,e⟩
      · rw [Nat.add_sub_cancel,heq];exact h3 (by omega) y hy
theorem compact_sorted (T : TotC c) (l : List α) (hs : l.Pairwise (fun x y=>¬ c y x < 0)) : Lib.compact l = sortC c l:=by
  have h:=compact_upTo T l.toArray (fun i j hij hj=>by
    have hj' : j < l.length:=by simpa using hj
    rw [getElem!_pos l.toArray i (by simp;omega),getElem!_pos l.toArray j hj];exact List.pairwise_iff_getElem.1 hs i j (by omega) hj' hij) l.length (by simp)
  refine ris_ext T h.1 (ris_sortC T l) fun z=>?_;rw [mem_sortC T];refine (h.2.1 z).trans ⟨?_,?_⟩
  · rintro ⟨j,hj,e⟩;rw [getElem!_pos l.toArray j (by simpa using hj)] at e;rw [← e];exact List.getElem_mem hj
  · intro hz;obtain ⟨j,hj,e⟩:=List.mem_iff_getElem.1 hz;exact ⟨j,hj,by rw [getElem!_pos l.toArray j (by simpa using hj)];simpa using e⟩
end
end
section
open Go.RowKit Go.Sort Go.Shelf
theorem einfoStr : ElemInfo Tryz.prog 166 9 1 16 :=
  .of (z:=.string ⟨#[]⟩) Tryz.underlying166 (by kernel_rfl) (by kernel_rfl) (by kernel_rfl) rfl (by omega)
def strR (s : ByteArray) : Array Value:=#[.string s]
theorem strR_one (s : ByteArray) : ∀ u ∈ (strR s).toList,u.oneCell' = true:=by simp [strR,Value.oneCell']
def bl (s : ByteArray) : List UInt8:=s.data.toList
theorem bl_toList (s : ByteArray) : s.toList = bl s:=ByteArray.toList_eq s
theorem encStr_bl (s : ByteArray) : encStr (bl s) = .string s:=by cases s;rfl
theorem leB_cmpS (x y : List UInt8) : decide (x ≤ y) = true ↔ ¬ cmpB y x < 0:=by
  have h:=bytesLess_eq y x;rw [bytesLess_cmp] at h;have h2 : (cmpB y x < 0) ↔ y < x:=by simpa using h
  rw [decide_eq_true_eq,h2];exact Iff.rfl
theorem totB : TotC cmpB:=⟨cmpB_zero,cmpB_anti,cmpB_trans⟩
theorem mergeSort_le (l : List (List UInt8)) : (l.mergeSort fun x y=>decide (x ≤ y)).Pairwise (fun x y=>¬ cmpB y x < 0):=by
  have htr : ∀ a b d : List UInt8,decide (a ≤ b) = true → decide (b ≤ d) = true → decide (a ≤ d) = true:=fun a b d h1 h2=>by
    rw [leB_cmpS] at *;intro h3;exact h2 (totB.le_trans (a:=d) (b:=a) (d:=b) (totB.asym h3) (by
      by_cases e : a = b
      · subst e;exact absurd h3 h2
      · exact totB.flip h1 (fun e'=>e e'.symm)))
  have htot : ∀ a b : List UInt8,(decide (a ≤ b) || decide (b ≤ a)) = true:=fun a b=>by
    by_cases h : cmpB b a < 0
    · have:=(leB_cmpS b a).2 (totB.asym h);simp only [this,Bool.or_true]
    · have:=(leB_cmpS a b).2 h;simp only [this,Bool.true_or]
  exact List.Pairwise.imp (fun {a b} h=>(leB_cmpS a b).1 h) (List.pairwise_mergeSort htr htot l)
theorem compact_texts (l : List ByteArray) : Lib.compact ((l.map bl).mergeSort fun x y=>decide (x ≤ y)) = (sortC cmpS l).map bl:=by
  rw [compact_sorted totB _ (mergeSort_le _)];have hR : Ris cmpB ((sortC cmpS l).map bl):=by
    refine List.pairwise_map.2 (List.Pairwise.imp (fun {a b} h=>?_) (ris_sortC totS l));have h' : cmpB a.toList b.toList < 0:=h
    rwa [bl_toList,bl_toList] at h'
  refine ris_ext totB (ris_sortC totB _) hR fun z=>?_;rw [mem_sortC totB,(List.mergeSort_perm _ _).mem_iff];simp only [List.mem_map,mem_sortC totS]
def listB (L : List BRow) : List ByteArray:=sortC cmpS (L.map (·.val))
def pairV (s : ByteArray) : Pair:=⟨s,⟨#[]⟩⟩
theorem listB_len (L : List BRow) : (listB L).length ≤ L.length:=by have:=sortC_length (c:=cmpS) (L.map (·.val));simpa [listB] using this
end
section
open Go.RowKit Go.Sort Go.Shelf Go.Lib
@[go_sem ↓] theorem bsStr_rw (n : Nat) (parts : Array (Nat × Value)) : Instr.buildSlice 166 n parts = bsS 166 n parts:=rfl
@[go_sem] theorem bsStr_run (w : World) (x : ByteArray) : (bsS 166 1 #[(0,.string x)]).run Tryz.prog w = .ok (.slice (some ⟨w.heap.size,0,none⟩) 1 1) (w.alloc (.cells (strR x) 9)):=by kernel_rfl
def zR (z : List UInt8) : Array Value:=#[encStr z]
theorem strR_zR (S : List ByteArray) : S.map strR = (S.map bl).map zR:=by
  rw [List.map_map];exact List.map_congr_left fun s _=>by simp [strR,zR,encStr_bl]
theorem sort_strs (w : World) (B : Nat) (A : Option Addr) (n cap : Nat) (zs : List (List UInt8)) (hown : Own w B 9 1 A n cap (zs.map zR)) (hn : n ≤ 1000000) :
    Calls Tryz.prog 123 #[.slice A n cap] w fun e w'=>e = .returned (.tuple #[]) ∧ Own w' B 9 1 A n cap ((zs.mergeSort fun x y=>decide (x ≤ y)).map zR) ∧ Keep (blk A) w w':=by
  have hl : zs.length = n:=by simpa using hown.len
  rcases hown.addr with rfl | ⟨g,rfl⟩
  · have hn0 : n = 0:=(hown.cap_le.2 rfl).1;subst hn0;have hS : zs = []:=List.eq_nil_of_length_eq_zero hl;subst hS;refine (AnyM.slices_Sort_string_none Tryz.laySortStr none cap w).mono ?_;rintro e w' ⟨rfl,rfl⟩;exact ⟨rfl,by simpa using hown,Keep.refl _ _⟩
  · subst hl;have hgl : g < w.heap.size:=(hown.at_base (x:=g) (by simp [blk])).2;refine (AnyM.slices_Sort_string Tryz.laySortStr g 0 cap zs w (own_holds1 (f:=encStr) hown) hgl (by omega)).mono ?_;rintro e w' ⟨rfl,m,os,rfl⟩;obtain ⟨h1,h2⟩:=own_put1 (f:=encStr) hown (Nat.le_refl _) m (zs.mergeSort fun x y=>decide (x ≤ y)) (zs.mergeSort fun x y=>decide (x ≤ y)) (List.mergeSort_perm _ _).length_eq (List.take_of_length_le (Nat.le_of_eq (List.mergeSort_perm _ _).length_eq)) os;exact ⟨rfl,h1,h2.mono (by simp [blk])⟩
theorem compact_len (zs : List (List UInt8)) : (Lib.compact zs).length ≤ zs.length:=by
  unfold Lib.compact Lib.compactUpTo;rw [List.length_map];exact Nat.le_trans (List.length_filter_le _ _) (by simp)
theorem comp_strs (w : World) (B : Nat) (A : Option Addr) (n cap : Nat) (zs : List (List UInt8)) (hown : Own w B 9 1 A n cap (zs.map zR)) (hn : n ≤ 1000000) :
    Calls Tryz.prog 124 #[.slice A n cap] w fun e w'=>e = .returned (.slice A (Lib.compact zs).length cap) ∧ Own w' B 9 1 A (Lib.compact zs).length cap ((Lib.compact zs).map zR) ∧ Keep (blk A) w w':=by
  have hl : zs.length = n:=by simpa using hown.len
  rcases hown.addr with rfl | ⟨g,rfl⟩
  · have hn0 : n = 0:=(hown.cap_le.2 rfl).1;subst hn0;have hS : zs = []:=List.eq_nil_of_length_eq_zero hl;subst hS;refine (Any.slices_Compact_string_empty Tryz.layCompStr none cap w).mono ?_;rintro e w' ⟨rfl,rfl⟩;exact ⟨rfl,hown,Keep.refl _ _⟩
  · subst hl;refine (Any.slices_Compact_string Tryz.layCompStr g 0 cap zs w (own_holds1 (f:=encStr) hown) (by omega) (hown.cap_le.1)).mono ?_;rintro e w' ⟨rfl,m,rfl⟩;have hcl:=compact_len zs;obtain ⟨h1,h2⟩:=own_put1 (f:=encStr) hown hcl m (Lib.compact zs ++ List.replicate (zs.length - (Lib.compact zs).length) []) (Lib.compact zs) (by simp;omega) (by simp) #[];rw [grow_empty] at h1 h2;exact ⟨rfl,h1,h2.mono (by simp [blk])⟩
abbrev OwnL (w : World) (B : Nat) (A : Option Addr) (n cap : Nat) (L : List ByteArray) : Prop:=Own w B 98 2 A n cap (L.map fun s=>pairC (pairV s))
set_option maxRecDepth 100000 in
set_option maxHeartbeats 2000000 in
theorem blist (w : World) (g bl_ bg : Nat) (L G : List BRow) (h : BagAt w g bl_ bg L G) (hn : L.length ≤ 1000000) :
    Calls Tryz.prog 58 #[.pointer (some ⟨g,0,none⟩)] w fun e w'=>∃ A cap,e = .returned (.slice A (listB L).length cap) ∧ OwnL w' w.heap.size A (listB L).length cap (listB L) ∧ Below w.heap.size w w':=by
  have hc:=h.cell0;have hlt:=h.lt;have hr:=h.risL;obtain ⟨w0,hrun,hR,hb0,hs0⟩:=SetAt.range (P:=Tryz.prog) (kv:=rowV) (ok:=okR) h.live Tryz.underlying167;go_enter Tryz.func58,Tryz.ntmps58
  (go_wp2_with fail);refine (bnone_live _ _ _ hc).mono ?_;rintro e w' ⟨rfl,rfl⟩;(go_wp2_with fail);clear hrun hc;go_loopw [3] (fun out wr=>∃ (S : List BRow) (A : Option Addr) (cap : Nat),out = .slice A S.length cap ∧ SetRange wr bl_ w.heap.size rowV okR L S ∧ Own wr w0.heap.size 9 1 A S.length cap ((S.map fun x=>bl x.val).map zR) ∧ Below w.heap.size w wr ∧ w0.heap.size ≤ wr.heap.size) (fun _ wr=>wr.rangeLeft bl_ w.heap.size)
  case atStart=>exact ⟨[],none,0,rfl,hR,Own.nil _ _ _ _,hb0,Nat.le_refl _⟩
  case round =>
    obtain ⟨S,A,cap,rfl,hR,hown,hb,hsz⟩:=hrel;rcases hR.next (P:=Tryz.prog) 0 with ⟨hall,hnd,hrun⟩ | ⟨x,w1,hxL,hxS,hrun,hR1,hk1,hs1,hl1,hen⟩
    · have hp : S.Perm L:=(List.perm_ext_iff_of_nodup hnd (hr.nodup totRow)).2 hall;have hSL:=hp.length_eq;have hsort:=sort_strs wr w0.heap.size A S.length cap _ hown (by omega);have Hall:=Lib.hid hall;have HSL:=Lib.hid hSL;clear hall hSL hp;(go_wp2_with fail);refine hsort.mono ?_;rintro e w2 ⟨rfl,hown2,hk2⟩;clear hrun;have hcomp:=comp_strs w2 w0.heap.size A S.length cap _ hown2 (by have:=HSL.out;omega);have hz : Lib.compact ((S.map fun x=>bl x.val).mergeSort fun x y=>decide (x ≤ y)) = (listB L).map bl:=by
        have e1 : (S.map fun x=>bl x.val) = (S.map (·.val)).map bl:=by rw [List.map_map];rfl
        rw [e1,compact_texts];congr 1
        exact sortC_congr totS fun z=>by simp only [List.mem_map,Hall.out]
      rw [hz,← strR_zR,List.length_map] at hcomp;have hll:=listB_len L;obtain ⟨N,hN⟩ : ∃ N,listB L = N:=⟨_,rfl⟩
      rw [hN] at hcomp hll;have HN:=Lib.hid hN;clear hz hsort hN;(go_wp2_with fail);refine hcomp.mono ?_;rintro e w3 ⟨rfl,hown3,hk3⟩;have hb3 : Below w.heap.size w w3:=(hb.trans (hk2.below (B:=w.heap.size) (by omega) fun x hx=>by have:=(hown.at_base hx).1;omega)).trans (hk3.below (B:=w.heap.size) (by have:=hb.size;have:=hk2.size;omega) fun x hx=>by have:=(hown.at_base hx).1;omega);have hsl:=hown3.slr;have haddr:=hown3.addr;clear hown2 hown3 hown hcomp;(go_wp2_with fail);go_loopw [5,29] (fun out i wr=>∃ (k : Nat) (A : Option Addr) (cap : Nat),k ≤ N.length ∧ i = .int .i64 k ∧ out = .slice A k cap ∧ OwnL wr w3.heap.size A k cap (N.take k) ∧ Below w3.heap.size w3 wr) (fun _ i _=>N.length - (intOf i).toNat)
      case atStart=>exact ⟨0,none,0,Nat.zero_le _,rfl,rfl,Own.nil _ _ _ _,Below.refl _ _⟩
      case round =>
        obtain ⟨k,A',cap',hk,rfl,rfl,hown,hbr⟩:=hrel;by_cases hlt : k < N.length
        · obtain ⟨q,o,rfl,hrw⟩:=(hsl.below hbr).at_ hlt;obtain rfl : o = 0:=by
            rcases haddr with e | ⟨g',e⟩
            · cases e
            · injection e with e;injection e
          rw [List.getElem_map] at hrw;have hcell:=rowAt_cell hrw (j:=0) (by omega);have htk : N.take (k + 1) = N.take k ++ [N[k]]:=by rw [List.take_add_one,List.getElem?_eq_getElem hlt];rfl
          obtain ⟨x,hx⟩ : ∃ x,N[k]'hlt = x:=⟨_,rfl⟩
          rw [hx] at hcell htk;have hcell' : wr.cell? ⟨q,k,none⟩ = some (.string x):=by simpa [strR] using hcell
          have Htk:=Lib.hid htk;clear hx hcell hrw htk;have hszr:=hbr.size;have hbx : Below wr.heap.size wr (wr.alloc (.cells (pairC ⟨x,⟨#[]⟩⟩) 98)):=(Below.refl _ _).alloc (Nat.le_refl _) _;have hown2:=hown.below hbx;have hrow2 : rowAt (wr.alloc (.cells (pairC ⟨x,⟨#[]⟩⟩) 98)) wr.heap.size 0 2 = some (pairC ⟨x,⟨#[]⟩⟩):=by simp [go_sem]
          go_wp2_with (at_builtin;refine L_append einfoPair rfl hown2 rfl hrow2 (pairC_one _) (by omega) (by omega) (by simp;omega) ?_;intro A2 cap2 w4 hownA hkA hsubA)
          have hbA : Below w3.heap.size w3 w4:=hbr.trans ((hbx.mono hszr).trans (hkA.below (B:=w3.heap.size) (by simp;omega) fun y hy=>(hown.at_base hy).1));(go_wp2_with fail);go_roundw
          case rel=>exact ⟨k + 1,A2,cap2,by omega,by go_num,rfl,by rw [Htk.out];show Own _ _ _ _ _ _ _ _;rw [List.map_append];exact hownA,hbA⟩
          case measure=>simp [intOf];omega
        · (go_wp2_with fail);go_ret;have e : k = N.length:=by omega
          subst e;rw [List.take_length] at hown;rw [HN.out];exact ⟨A',cap',rfl,hown.mono hb3.size,bel2 hb3 hbr⟩
    · have hSn : S.length + 1 ≤ 1000000:=by
        obtain ⟨M,Z,hZ,hks,_,hZS,hnd⟩:=hR1;have h1:=hZ.length;have h2 : (Z.map (·.1)).length = (S ++ [x]).length:=by rw [hZS]
        have h3 : (M.map (·.1)).length ≤ L.length:=nodup_len hnd (fun y hy=>(hks y).1 hy);simp at h2 h3;omega
      have hownr : Own w1 w0.heap.size 9 1 A S.length cap ((S.map fun x=>bl x.val).map zR):=hown.kept hk1 (fun y hy=>by have:=(hown.at_base hy).1;simp;omega);have hb1 : Below w.heap.size w w1:=hb.trans (hk1.below (B:=w.heap.size) (by omega) (by simp));have hbx : Below w1.heap.size w1 ((w1.alloc (.cells (bRowC x) 171)).alloc (.cells (strR x.val) 9)):=((Below.refl _ _).alloc (Nat.le_refl _) _).alloc (by simp) _;have hown2:=hownr.below hbx;have hrow2 : rowAt ((w1.alloc (.cells (bRowC x) 171)).alloc (.cells (strR x.val) 9)) (w1.heap.size + 1) 0 1 = some (strR x.val):=by simp [go_sem,strR]
      change (Instr.next _ _ _).run Tryz.prog wr = .ok (.tuple #[.bool true,.agg (bRowC x),.bool true]) w1 at hrun;change (Instr.entry _).run Tryz.prog w1 = .ok (.tuple #[.agg (bRowC x),.bool true]) w1 at hen;have Hs1:=Lib.hid hs1;clear hs1;go_wp2_with (at_builtin;refine L_append einfoStr rfl hown2 rfl hrow2 (strR_one _) (by omega) (by omega) (by simp;have:=Hs1.out;omega) ?_;intro A' cap' w2 hownA hkA hsubA)
      have hbA : bl_ ∉ blk A:=fun hx=>(by have:=(hown.at_base hx).1;omega);have hrA : w.heap.size ∉ blk A:=fun hx=>(by have:=(hown.at_base hx).1;omega);have hR1x:=hR1.kept (Keep.of_below hbx) (by simp) (by simp);have hR2:=hR1x.kept hkA hbA hrA;have hl2 : w2.rangeLeft bl_ w.heap.size = w1.rangeLeft bl_ w.heap.size :=
        (rangeLeft_kept hkA hbA hrA hR1x.lt.2 hR1x.lt.1).trans (rangeLeft_kept (Keep.of_below hbx) (by simp) (by simp) hR1.lt.2 hR1.lt.1)
      have hsz2 : w0.heap.size ≤ w2.heap.size:=by
        have e1:=hbx.size;have e2:=hkA.size;have e3:=Hs1.out;omega
      have hb2 : Below w.heap.size w w2:=hb1.trans ((hbx.mono (by have:=Hs1.out;omega)).trans (hkA.below (B:=w.heap.size) (by simp;have:=Hs1.out;omega) fun y hy=>by have:=(hown.at_base hy).1;omega));have hL' : (S.map fun x=>bl x.val).map zR ++ [strR x.val] = ((S ++ [x]).map fun x=>bl x.val).map zR:=by simp [zR,strR,encStr_bl]
      rw [hL'] at hownA;clear hrun hen hL';(go_wp2_with fail);go_roundw
      case rel=>exact ⟨S ++ [x],A',cap',by simp,hR2,by simpa using hownA,hb2,hsz2⟩
      case measure=>omega
end
section
open Go.RowKit Go.Sort Go.Maps
def unitR (_ : Value) : Option (DataW Unit × List MemPlace):=some (.nil,[])
theorem LastAt.owns {w : World} {g b : Nat} {L : List LRow} (h : LastAt w g b L) (hn : L.length ≤ 1000000) :
    ∃ D0 : DataW Unit,w.ownsMap Tryz.prog 9 unitR b L.length D0 ∧ Maps.size D0 ≤ 1000000 ∧ (strKeys D0).Perm (L.map fun p=>p.1.data.toList):=by
  obtain ⟨M,es,clk,hm,hp⟩:=h.map;have hlen : es.size = L.length:=by rw [hm.length,hp.length_eq]
  have hkey : ∀ e ∈ es.toList,∃ k : ByteArray,e.key = .string k ∧ k.size ≤ maxLen:=by
    intro e he;obtain ⟨j,hj,rfl⟩:=List.mem_iff_getElem.1 he;obtain ⟨p,hp,hk,_⟩:=hm.at_key (List.getElem?_eq_getElem hj);exact ⟨p.1,hk,hm.okk p (List.mem_of_getElem? hp)⟩
  have hrd : ∀ e ∈ es.toList,∀ k : ByteArray,e.key = .string k → k.size ≤ maxLen → WideElems.rd Tryz.prog 9 unitR e = some (.string k.data.toList,.nil):=by
    intro e _ k hk hks;simp [WideElems.rd,hk,keyOf,mapKey,Tryz.underlying9,hks,unitR]
  refine ⟨_,⟨es,clk,hm.heap,⟨?_,?_,?_⟩,by omega,rfl⟩,?_,?_⟩
  · simp only [maxLen];omega
  · rw [MapKept.stamped_iff];refine ⟨hm.clock,hm.born,?_⟩;have hnd : (es.toList.map (·.key)).Pairwise (· ≠ ·):=by
      rw [hm.keys];have h2:=hm.nodup;rw [List.Nodup,List.pairwise_map] at h2;rw [List.pairwise_map];exact h2.imp fun h e=>h (by injection e)
    rw [List.pairwise_map] at hnd;exact hnd
  · intro e he;obtain ⟨k,hk,hks⟩:=hkey e he;exact ⟨_,hrd e he k hk hks⟩
  · show (List.foldr DataW.insert [] _).length ≤ _;rw [(WideShapes.sorted_perm _).length_eq]
    simp;omega
  · have h1 : (strKeys (DataW.map (List.foldr DataW.insert [] (es.toList.map (WideElems.rg Tryz.prog 9 unitR))))).Perm ((es.toList.map (WideElems.rg Tryz.prog 9 unitR)).map fun p=>strOf p.1) :=
      (WideShapes.sorted_perm _).map _
    refine h1.trans ?_;have h2 : ((es.toList.map (WideElems.rg Tryz.prog 9 unitR)).map fun p=>strOf p.1) = M.map fun p=>p.1.data.toList:=by
      rw [List.map_map];apply List.ext_getElem?;intro n;rw [List.getElem?_map,List.getElem?_map];cases he : es.toList[n]? with
      | none =>
        have : M[n]? = none:=by
          rw [List.getElem?_eq_none_iff] at he ⊢;have:=hm.length;simp at he;omega
        rw [this];rfl
      | some e =>
        obtain ⟨p,hp',hk,_⟩:=hm.at_key he;rw [hp'];have hr:=hrd e (List.mem_of_getElem? he) p.1 hk (hm.okk p (List.mem_of_getElem? hp'));simp [WideElems.rg_of hr,strOf]
    rw [h2];exact hp.map _
theorem leB_cmp (x y : List UInt8) : leB x y = true ↔ ¬ cmpB y x < 0:=by
  have h:=bytesLess_eq y x;rw [bytesLess_cmp] at h;have h2 : (cmpB y x < 0) ↔ y < x:=by simpa using h
  show decide (x ≤ y) = true ↔ _;rw [decide_eq_true_eq,h2];exact Iff.rfl
theorem rising_sorted : ∀ {L : List LRow},Rising L → (L.map fun p=>p.1.data.toList).Pairwise (fun x y=>leB x y = true)
  | [],_=>by simp
  | x :: l,h=>by
    rw [List.map_cons,List.pairwise_cons];refine ⟨fun y hy=>?_,rising_sorted h.2⟩;obtain ⟨z,hz,rfl⟩:=List.mem_map.1 hy;rw [leB_cmp];have h1:=h.1 z hz;have h2:=cmpS_asym h1;unfold cmpS at h2
    rwa [ByteArray.toList_eq,ByteArray.toList_eq] at h2
theorem sorted_keys {L : List LRow} (h : Rising L) {ss : List (List UInt8)} (hp : ss.Perm (L.map fun p=>p.1.data.toList)) :
    (ss.mergeSort (fun x y=>decide (x ≤ y))).map encStr = L.map fun p=>Value.string p.1:=by
  have e : ss.mergeSort leB = (L.map fun p=>p.1.data.toList).mergeSort leB:=mergeSort_of_perm hp;have e2 : (L.map fun p=>p.1.data.toList).mergeSort leB = L.map fun p=>p.1.data.toList:=List.mergeSort_of_pairwise (rising_sorted h);have e3 : ss.mergeSort (fun x y=>decide (x ≤ y)) = L.map fun p=>p.1.data.toList:=e.trans e2;rw [e3,List.map_map];rfl
set_option maxHeartbeats 1000000 in
theorem lkeys (w : World) (g b : Nat) (L : List LRow) (h : LastAt w g b L) (hn : L.length ≤ 1000000) :
    Calls Tryz.prog 126 #[.map (some b)] w fun e w'=>∃ v,e = .returned v ∧ w'.ownsRow w.heap.size 9 1 v L.length (L.map fun p=>.string p.1) ∧ Below w.heap.size w w':=by
  obtain ⟨D0,hown,hsz,hperm⟩:=h.owns hn;have c1:=callsIn_wide.1 (Tryz.maps_Keys_197 (some b) w);have c2:=callsIn_wide.1 (Tryz.slices_Sorted_keys_196_197 b L.length D0 unitR w hown (by simp only [maxLen];omega) (by omega));go_enter Tryz.func126,Tryz.ntmps126
  (go_wp2_with fail);refine c1.mono ?_;rintro e w' ⟨rfl,rfl⟩;(go_wp2_with fail);refine c2.mono ?_;rintro e w' ⟨v,ss,rfl,hS,hrow,hnil,hb⟩;(go_wp2_with fail);go_ret;have hSL:=hS.trans hperm;rw [sorted_keys h.rows.1 hSL] at hrow;have hlen : ss.length = L.length:=by rw [hSL.length_eq,List.length_map]
  rw [hlen] at hrow;have hb0 : Below w.heap.size w (w.alloc (.cells #[.map (some b)] 175)):=(Below.refl _ _).alloc (Nat.le_refl _) _;refine ⟨v,rfl,?_,bel2 hb0 hb⟩;obtain ⟨r1,r2⟩:=hrow;refine ⟨r1,?_⟩;rcases r2 with r2 | ⟨q,cap,cur,hv,hq,rest⟩
  · exact .inl r2
  · exact .inr ⟨q,cap,cur,hv,by simp at hq;omega,rest⟩
end
section
open Go.RowKit
theorem LastAt.look1 {w : World} {g b : Nat} {L : List LRow} (h : LastAt w g b L) {p : LRow} (hp : p ∈ L) :
    (Instr.lookup 175 (.map (some b)) (.string p.1) false).run Tryz.prog w = .ok (.agg (settingC p.2)) w:=by
  obtain ⟨M,es,clk,hm,hperm⟩:=h.map;have hk:=(checkE_bd (h.rows.2 p hp)).1;exact hm.hit strKey Tryz.underlying175 (by simp only [maxLen];omega) (hperm.mem_iff.2 hp) false
def pairOf (p : LRow) : Pair:=⟨p.1,p.2.val⟩
def listC (L : List LRow) : List (Array Value):=L.map fun p=>pairC (pairOf p)
theorem row_keys {w : World} {B : Nat} {v : Value} {n : Nat} {L : List LRow} (h : w.ownsRow B 9 1 v n (L.map fun p=>.string p.1)) (hn : n = L.length) :
    ∃ A cap,v = .slice A n cap ∧ ((A = none ∧ n = 0) ∨ ∃ g,A = some ⟨g,0,none⟩ ∧ B ≤ g ∧ g < w.heap.size ∧ ∀ i (hi : i < L.length),w.cell? ⟨g,i,none⟩ = some (.string (L[i]).1)):=by
  obtain ⟨h1,h2⟩:=h;rcases h2 with ⟨rfl,h0⟩ | ⟨g,c,cur,rfl,hb,hg,hnc,hcm,hcs,htake⟩
  · exact ⟨none,0,by rw [h0],.inl ⟨rfl,h0⟩⟩
  · refine ⟨some ⟨g,0,none⟩,c,rfl,.inr ⟨g,rfl,hb,(Array.getElem?_eq_some_iff.1 hg).1,?_⟩⟩;intro i hi;rw [cell_of_row w g i _ _ _ hg];have e1:=congrArg (fun l=>l[i]?) htake;simp only [List.getElem?_take,List.getElem?_map] at e1;rw [if_pos (by omega),List.getElem?_eq_getElem hi] at e1;simpa using e1
set_option maxRecDepth 100000 in
set_option maxHeartbeats 1000000 in
theorem llist (w : World) (g b : Nat) (L : List LRow) (h : LastAt w g b L) (hn : L.length ≤ 1000000) :
    Calls Tryz.prog 59 #[.pointer (some ⟨g,0,none⟩)] w fun e w'=>∃ A cap,e = .returned (.slice A L.length cap) ∧ Own w' w.heap.size 98 2 A L.length cap (listC L) ∧ Below w.heap.size w w':=by
  have hc:=h.cell;go_enter Tryz.func59,Tryz.ntmps59
  (go_wp2_with fail);refine (lnone_live _ _ _ hc).mono ?_;rintro e w' ⟨rfl,rfl⟩;(go_wp2_with fail);refine (lkeys _ _ _ _ h hn).mono ?_;rintro e w1 ⟨v,rfl,hrow,hb⟩;obtain ⟨KA,kc,rfl,hkeys⟩:=row_keys hrow rfl;have h1:=h.below hb;have Hk:=Lib.hid hkeys;clear hkeys hrow hc;(go_wp2_with fail);go_loopw [3,14] (fun out i wr=>∃ k A cap,k ≤ L.length ∧ i = .int .i64 (k : Nat) ∧ out = .slice A k cap ∧ Own wr w1.heap.size 98 2 A k cap (listC (L.take k)) ∧ Below w1.heap.size w1 wr) (fun _ i _=>L.length - (intOf i).toNat)
  case atStart=>exact ⟨0,none,0,Nat.zero_le _,rfl,rfl,Own.nil _ _ _ _,Below.refl _ _⟩
  case round =>
    obtain ⟨k,A,cap,hk,rfl,rfl,hown,hbr⟩:=hrel;by_cases hlt : k < L.length
    · obtain ⟨q,rfl,hq,hqw,hkeys⟩ : ∃ q,KA = some ⟨q,0,none⟩ ∧ w.heap.size ≤ q ∧ q < w1.heap.size ∧ Hid (∀ i (hi : i < L.length),w1.cell? ⟨q,i,none⟩ = some (.string (L[i]).1)):=by
        rcases Hk.out with ⟨_,h0⟩ | h
        · omega
        · exact h
      have hcell:=(hbr.cell (p:=⟨q,k,none⟩) hqw).trans (hkeys.out k hlt);have hr:=h1.below hbr;have hcr:=hr.cell;have hl:=hr.look1 (List.getElem_mem hlt);have htk : listC (L.take (k + 1)) = listC (L.take k) ++ [pairC (pairOf L[k])]:=by rw [List.take_add_one,List.getElem?_eq_getElem hlt];exact List.map_append
      have Htk:=Lib.hid htk;clear htk hr hkeys Hk;obtain ⟨⟨pk,ps⟩,hp⟩ : ∃ p,L[k] = p:=⟨_,rfl⟩
      have Hp:=Lib.hid hp;rw [hp] at hcell hl Htk;clear hp;have hbx : Below wr.heap.size wr (wr.alloc (.cells (pairC ⟨pk,ps.val⟩) 98)):=(Below.refl _ _).alloc (Nat.le_refl _) _;have hown2:=hown.below hbx;have hrow2 : rowAt (wr.alloc (.cells (pairC ⟨pk,ps.val⟩) 98)) wr.heap.size 0 2 = some (pairC ⟨pk,ps.val⟩):=by simp [go_sem]
      have hsz:=hbr.size;go_wp2_with (at_builtin;refine L_append einfoPair rfl hown2 rfl hrow2 (pairC_one _) (by omega) (by omega) (by simp;omega) ?_;intro A' cap' w2 hownA hkA hsubA)
      have hbA : Below w1.heap.size w1 w2:=hbr.trans ((hbx.mono hsz).trans (hkA.below (B:=w1.heap.size) (by simp;omega) fun x hx=>(hown.at_base hx).1));(go_wp2_with fail);go_roundw
      case rel=>exact ⟨k + 1,A',cap',by omega,by go_num,rfl,by rw [Htk.out];exact hownA,hbA⟩
      case measure=>simp [intOf];omega
    · (go_wp2_with fail);go_ret;have e : k = L.length:=by omega
      subst e;rw [List.take_length] at hown;exact ⟨A,cap,rfl,hown.mono hb.size,bel2 hb hbr⟩
end
section
open Go.RowKit Go.Sort Go.Shelf
@[go_sem] theorem bsIdZ_run (w : World) : (bsS 50 0 #[]).run Tryz.prog w = .ok (.slice (some ⟨w.heap.size,0,none⟩) 0 0) (w.alloc (.cells #[] 39)):=run_bsS0 einfoId w
instance : Inhabited Id32:=⟨id0⟩
theorem isAgg_sort_ids (w : World) : (isAgg 39).run Tryz.prog w = .ok true w:=by simp [isAgg,run_underlying Tryz.underlying39]
theorem size_sort_ids (w : World) : (Go.sizeOf 39).run Tryz.prog w = .ok 32 w:=by
  have h:=infoId;cases hi : Tryz.prog.info? 39 with
  | none=>rw [hi] at h;cases h
  | some i =>
    rw [hi] at h;have hk : i.size = 32:=by simpa using h
    simp [Go.sizeOf,typeInfo,hi,hk]
theorem tot_sort_ids : TotC cmpId:=totId
theorem sort_ids (w : World) (B : Nat) (A : Option Addr) (n cap : Nat) (S L : List (Id32)) (hown : Own w B 39 32 A n cap (S.map idC)) (hp : S.Perm L) (hr : Ris cmpId L) (hn : L.length ≤ 1000000) :
    Calls Tryz.prog 155 #[.slice A n cap,.func (.func 108) #[] #[]] w fun e w'=>e = .returned (.tuple #[]) ∧ Own w' B 39 32 A n cap (L.map idC) ∧ Keep (blk A) w w':=by
  have hl : S.length = n:=by simpa using hown.len
  have hSL:=hp.length_eq;rcases hown.addr with rfl | ⟨g,rfl⟩
  · have hn0 : n = 0:=(hown.cap_le.2 rfl).1;subst hn0;have hS : S = []:=List.eq_nil_of_length_eq_zero hl;subst hS;have hL : L = []:=List.eq_nil_of_length_eq_zero hSL.symm;subst hL;refine (AnyF.slices_SortFunc_none Tryz.laySortId none cap (.func (.func 108) #[] #[]) w).mono ?_;rintro e w' ⟨rfl,rfl⟩;exact ⟨rfl,hown,Keep.refl _ _⟩
  · subst hl;have hH:=own_holds (enc:=idC) (by omega) idC_size hown;have hcmp : CmpLays Tryz.prog 108 #[] (fun x : Id32=>(idC x).toList) 32 cmpId g 0 S.toArray.size w:=fun m os dk _ x y=>cmp_id_gr x y _;have hgl : g < w.heap.size:=(hown.at_base (x:=g) (by simp [blk])).2;have hcon:=AnyQ.slices_SortFunc_total Tryz.laySortId 32 isAgg_sort_ids size_sort_ids (fun x : Id32=>(idC x).toList) (by simp) (fun x v hv=>idC_one x v hv) cmpId (swo_of tot_sort_ids) 108 #[] g 0 cap S.toArray w
      (enters_of Tryz.func108 (by kernel_rfl) rfl) hcmp hH hgl (by simp;omega) (fun x y h1 h2=>by
        simp only [ltOf,decide_eq_false_iff_not] at h1 h2;exact Classical.byContradiction fun e=>h2 ((tot_sort_ids).flip h1 e))
    have e1 : S.toArray.size = S.length:=by simp
    rw [e1] at hcon;refine hcon.mono ?_;rintro e w' ⟨rfl,n,os,rfl⟩;have e2 : (S.toArray.toList.mergeSort fun x y=>!(ltOf cmpId y x)) = L:=mergeSort_ris tot_sort_ids hr hp;rw [e2];obtain ⟨h1,h2⟩:=own_sorted (enc:=idC) (by omega) idC_size hown n L hSL.symm os;exact ⟨rfl,h1,h2.mono (by simp [blk])⟩
theorem clone_ids (w : World) (A : Option Addr) (n cap : Nat) (R : List Id32) (h : TagsIn w A n R) (hn : n ≤ 1000000) (hA : A = none → cap = 0) :
    Calls Tryz.prog 154 #[.slice A n cap] w fun e w'=>∃ A' cap',e = .returned (.slice A' n cap') ∧ Own w' w.heap.size 39 32 A' n cap' (R.map idC) ∧ Below w.heap.size w w':=by
  have hnil : ∀ (w : World) (a : Option Addr) (n c n' c' : Nat),(binOp .eql 50 (.slice a n c) (.slice none n' c') ).run Tryz.prog w = .ok (.bool a.isNone) w:=fun w a n c n' c'=>Lib.run_eql_slice_nil w _ _ a n c n' c' Tryz.underlying50;have hlen : R.length = n:=by simpa using h.1
  cases A with
  | none =>
    have hn0 : n = 0:=by
      rcases Nat.eq_zero_or_pos n with e | e
      · exact e
      · obtain ⟨g,o,e',_⟩:=h.2 e;cases e'
    subst hn0;have hR : R = []:=List.eq_nil_of_length_eq_zero hlen;subst hR;clear h hlen;go_enter Tryz.func154,Tryz.ntmps154
    (go_wp2_with fail);go_ret;exact ⟨none,0,rfl,Own.nil _ _ _ _,Below.refl _ _⟩
  | some a =>
    have hb0 : Below w.heap.size w (w.alloc (.cells #[] 39)):=(Below.refl _ _).alloc (Nat.le_refl _) _;have hown0:=Own.empty w w.heap.size 39 32 (Nat.le_refl _);have hs0 : SlR (w.alloc (.cells #[] 39)) (some a) n 32 (R.map idC):=SlR.below h hb0;have hone : ∀ r ∈ R.map idC,∀ u ∈ r.toList,u.oneCell' = true:=by
      intro r hr;obtain ⟨x,_,rfl⟩:=List.mem_map.1 hr;exact idC_one x
    clear hlen;go_enter Tryz.func154,Tryz.ntmps154
    go_wp2_with (at_builtin;refine L_appends einfoId rfl hown0 rfl hs0 hA hone (by omega) (by omega) (by simp) ?_;intro A2 cap2 w2 hown2 hk2 hsub2)
    simp only [Nat.zero_add,List.nil_append] at hown2;have hb2 : Below w.heap.size w w2:=hb0.trans (hk2.below (by simp) (by simp [blk]));clear hown0 hs0 hk2 hsub2 h;(go_wp2_with fail);go_ret;exact ⟨A2,cap2,by simp,hown2,hb2⟩
theorem compact_ids (w : World) (A : Option Addr) (n cap : Nat) (R : List Id32) (h : TagsIn w A n R) (hr : Ris cmpId R) (hn : n ≤ 1000000) :
    Calls Tryz.prog 156 #[.slice A n cap] w fun e w'=>e = .returned (.slice A n cap) ∧ Below w.heap.size w w':=by
  have hlen : R.length = n:=h.len;have Hlen:=Lib.hid hlen;clear hlen;go_enter Tryz.func156,Tryz.ntmps156
  by_cases h2 : n < 2
  · (go_wp2_with fail);go_ret;exact ⟨rfl,Below.refl _ _⟩
  · (go_wp2_with fail);go_loopw [3] (fun i wr=>∃ k : Nat,1 ≤ k ∧ k ≤ n ∧ i = .int .i64 k ∧ Below w.heap.size w wr) (fun i _=>n - (intOf i).toNat)
    case atStart=>exact ⟨1,Nat.le_refl _,by omega,rfl,Below.refl _ _⟩
    case round =>
      obtain ⟨k,hk1,hk,rfl,hb⟩:=hrel;by_cases hlt : k < n
      · obtain ⟨q,o,rfl,hrow⟩:=TagsIn.get (SlR.below h hb) hlt (by rw [Hlen.out];exact hlt);obtain ⟨q',o',e',hrow'⟩:=TagsIn.get (SlR.below h hb) (i:=k - 1) (by omega) (by rw [Hlen.out];omega);injection e' with e'
        injection e' with e1 e2
        subst e1;subst e2;have hne : R[k]'(by rw [Hlen.out];exact hlt) ≠ R[k - 1]'(by rw [Hlen.out];omega):=fun e=>by
          have:=ris_get hr (i:=k - 1) (j:=k) (by omega) (by rw [Hlen.out];exact hlt);rw [e,cmpId_self] at this;omega
        obtain ⟨x,hx⟩ : ∃ x,R[k]'(by rw [Hlen.out];exact hlt) = x:=⟨_,rfl⟩
        obtain ⟨y,hy⟩ : ∃ y,R[k - 1]'(by rw [Hlen.out];omega) = y:=⟨_,rfl⟩
        rw [hx] at hrow hne;rw [hy] at hrow' hne;have hxy : (x == y) = false:=by rw [beq_eq_false_iff_ne];exact hne
        have hk1' : ((k : Int) - 1) = ((k - 1 : Nat) : Int):=by omega
        obtain ⟨k1,hkk⟩ : ∃ k1,k - 1 = k1:=⟨_,rfl⟩
        rw [hkk] at hrow' hk1';have hk1n : k1 < n:=by omega
        have hwr : IntKind.i64.wrap (k1 : Int) = (k1 : Int):=IntWalk.i64_in _ (by omega);have Hkk:=Lib.hid hkk;clear hx hy hne hkk;go_upto_region 6 with fail
        refine wp_region_lex (Bel wr) false (by kernel_rfl) (by kernel_rfl) (by kernel_rfl) (bel_drew wr) ?_;have hne:=bel_some wr;have hS:=bel_drew wr;have b1:=sub_row hrow;have b2:=sub_row hrow';repeat (refine wpLx_loose ?_ ?_;(focus (simp only [chainOp];done));intro K hK;go_simp;refine hK _ ?_;clear hK K)
        refine wpLx_nil ?_;intro hS;clear hne hS b1 b2 hrow hrow';(go_wp2_with fail);go_roundw
        case rel=>exact ⟨k + 1,by omega,by omega,by go_num,hb.drew⟩
        case measure=>simp [intOf];omega
      · (go_wp2_with fail);go_ret;exact ⟨rfl,hb⟩
theorem ident_set (w : World) (A : Option Addr) (n cap : Nat) (S L : List Id32) (h : TagsIn w A n S) (hp : S.Perm L) (hr : Ris cmpId L) (hn : n ≤ 1000000) (hA : A = none → cap = 0) :
    Calls Tryz.prog 78 #[.slice A n cap] w fun e w'=>∃ A' cap',e = .returned (.slice A' L.length cap') ∧ Own w' w.heap.size 39 32 A' L.length cap' (L.map idC) ∧ Below w.heap.size w w':=by
  have hln : L.length = n:=by rw [← hp.length_eq];exact h.len
  have c1:=clone_ids w A n cap S h hn hA;go_enter Tryz.func78,Tryz.ntmps78
  (go_wp2_with fail);refine c1.mono ?_;rintro e w1 ⟨A1,cap1,rfl,hown1,hb1⟩;have c2:=sort_ids w1 w.heap.size A1 n cap1 S L hown1 hp hr (by omega);clear c1;(go_wp2_with fail);refine c2.mono ?_;rintro e w2 ⟨rfl,hown2,hk2⟩;have hb2 : Below w.heap.size w w2:=hb1.trans (hk2.below hb1.size (fun x hx=>(hown1.at_base hx).1));have c3:=compact_ids w2 A1 n cap1 L hown2.slr hr hn;clear c2;(go_wp2_with fail);refine c3.mono ?_;rintro e w3 ⟨rfl,hb3⟩;have hown3:=hown2.below hb3;have hbf:=bel2 hb2 hb3;have Hln:=Lib.hid hln;clear c3 hln;(go_wp2_with fail);go_ret;exact ⟨A1,cap1,by rw [Hln.out];rfl,by rw [Hln.out];exact hown3,hbf⟩
end
section
open Go.RowKit Go.Sort Go.Shelf
theorem isAgg_sort_mrows (w : World) : (isAgg 184).run Tryz.prog w = .ok true w:=by simp [isAgg,run_underlying Tryz.underlying184]
theorem size_sort_mrows (w : World) : (Go.sizeOf 184).run Tryz.prog w = .ok 34 w:=by
  have h:=infoMRow;cases hi : Tryz.prog.info? 184 with
  | none=>rw [hi] at h;cases h
  | some i =>
    rw [hi] at h;have hk : i.size = 34:=by simpa using h
    simp [Go.sizeOf,typeInfo,hi,hk]
theorem tot_sort_mrows : TotC cmpMR:=totMR
theorem sort_mrows (w : World) (B : Nat) (A : Option Addr) (n cap : Nat) (S L : List (MRow)) (hown : Own w B 184 34 A n cap (S.map mRowC)) (hp : S.Perm L) (hr : Ris cmpMR L) (hn : L.length ≤ 1000000) :
    Calls Tryz.prog 199 #[.slice A n cap,.func (.func 200) #[] #[]] w fun e w'=>e = .returned (.tuple #[]) ∧ Own w' B 184 34 A n cap (L.map mRowC) ∧ Keep (blk A) w w':=by
  have hl : S.length = n:=by simpa using hown.len
  have hSL:=hp.length_eq;rcases hown.addr with rfl | ⟨g,rfl⟩
  · have hn0 : n = 0:=(hown.cap_le.2 rfl).1;subst hn0;have hS : S = []:=List.eq_nil_of_length_eq_zero hl;subst hS;have hL : L = []:=List.eq_nil_of_length_eq_zero hSL.symm;subst hL;refine (AnyF.slices_SortFunc_none Tryz.laySortW none cap (.func (.func 200) #[] #[]) w).mono ?_;rintro e w' ⟨rfl,rfl⟩;exact ⟨rfl,hown,Keep.refl _ _⟩
  · subst hl;have hH:=own_holds (enc:=mRowC) (by omega) mRowC_size hown;have hcmp : CmpLays Tryz.prog 200 #[] (fun x : MRow=>(mRowC x).toList) 34 cmpMR g 0 S.toArray.size w:=fun m os dk _ x y=>morder x y _;have hgl : g < w.heap.size:=(hown.at_base (x:=g) (by simp [blk])).2;have hcon:=AnyQ.slices_SortFunc_total Tryz.laySortW 34 isAgg_sort_mrows size_sort_mrows (fun x : MRow=>(mRowC x).toList) (by simp) (fun x v hv=>mRowC_one x v hv) cmpMR (swo_of tot_sort_mrows) 200 #[] g 0 cap S.toArray w
      (enters_of Tryz.func200 (by kernel_rfl) rfl) hcmp hH hgl (by simp;omega) (fun x y h1 h2=>by
        simp only [ltOf,decide_eq_false_iff_not] at h1 h2;exact Classical.byContradiction fun e=>h2 ((tot_sort_mrows).flip h1 e))
    have e1 : S.toArray.size = S.length:=by simp
    rw [e1] at hcon;refine hcon.mono ?_;rintro e w' ⟨rfl,n,os,rfl⟩;have e2 : (S.toArray.toList.mergeSort fun x y=>!(ltOf cmpMR y x)) = L:=mergeSort_ris tot_sort_mrows hr hp;rw [e2];obtain ⟨h1,h2⟩:=own_sorted (enc:=mRowC) (by omega) mRowC_size hown n L hSL.symm os;exact ⟨rfl,h1,h2.mono (by simp [blk])⟩
set_option maxRecDepth 100000 in
set_option maxHeartbeats 1000000 in
theorem msorted (wS : World) (g b bo : Nat) (L : List MRow) (O : List Id32) (h : MultiAt wS g b bo L O) (hn : L.length ≤ 1000000) :
    Calls Tryz.prog 127 #[.pointer (some ⟨g,0,none⟩)] wS fun e w'=>∃ A cap,e = .returned (.slice A L.length cap) ∧ Own w' wS.heap.size 184 34 A L.length cap (L.map mRowC) ∧ Below wS.heap.size wS w':=by
  have hbl:=h.live.lt;have hc:=h.cell0;have hr:=h.risX;obtain ⟨w0,hrun,hR,hb0,hs0⟩:=SetAt.range (P:=Tryz.prog) (kv:=mrowV) (ok:=okM) h.live Tryz.underlying269;go_enter Tryz.func127,Tryz.ntmps127
  (go_wp2_with fail);refine (mnone_live wS g b hc).mono ?_;rintro e w1 ⟨rfl,rfl⟩;(go_wp2_with fail);clear hrun hc h;go_loopw [3] (fun out wr=>∃ S A cap,out = .slice A S.length cap ∧ SetRange wr b wS.heap.size mrowV okM L S ∧ Own wr w0.heap.size 184 34 A S.length cap (S.map mRowC) ∧ Below wS.heap.size wS wr ∧ w0.heap.size ≤ wr.heap.size) (fun _ wr=>wr.rangeLeft b wS.heap.size)
  case atStart=>exact ⟨[],none,0,rfl,hR,Own.nil _ _ _ _,hb0,Nat.le_refl _⟩
  case round =>
    obtain ⟨S,A,cap,rfl,hR,hown,hb,hsz⟩:=hrel;rcases hR.next (P:=Tryz.prog) 0 with ⟨hall,hnd,hrun⟩ | ⟨x,w1,hxL,hxS,hrun,hR1,hk1,hs1,hl1,hen⟩
    focus
      have hp : S.Perm L:=(List.perm_ext_iff_of_nodup hnd (hr.nodup totMR)).2 hall;have hSL:=hp.length_eq;have Hall:=Lib.hid hall;have HSL:=Lib.hid hSL;clear hall hSL;have hsort:=sort_mrows wr w0.heap.size A S.length cap S L hown hp hr hn;(go_wp2_with fail);refine hsort.mono ?_;rintro e w2 ⟨rfl,hown2,hk2⟩;clear hrun;(go_wp2_with fail);go_ret;rw [HSL.out] at hown2 ⊢;exact ⟨A,cap,rfl,hown2.mono (by omega),hb.trans (hk2.below (B:=wS.heap.size) (by omega) fun x hx=>by have:=(hown.at_base hx).1;omega)⟩
    have hSn : S.length + 1 ≤ 1000000:=by
      obtain ⟨M,Z,hZ,hks,_,hZS,hnd⟩:=hR1;have h1:=hZ.length;have h2 : (Z.map (·.1)).length = (S ++ [x]).length:=by rw [hZS]
      have h3 : (M.map (·.1)).length ≤ L.length:=nodup_len hnd (fun y hy=>(hks y).1 hy);simp at h2 h3;omega
    have hownr : Own w1 w0.heap.size 184 34 A S.length cap (S.map mRowC):=hown.kept hk1 (fun y hy=>by have:=(hown.at_base hy).1;simp;omega);have hb1 : Below wS.heap.size wS w1:=hb.trans (hk1.below (B:=wS.heap.size) (by omega) (by simp));have hbx : Below w1.heap.size w1 ((w1.alloc (.cells (mRowC x) 184)).alloc (.cells (mRowC x) 184)):=((Below.refl _ _).alloc (Nat.le_refl _) _).alloc (by simp) _;have hown2:=hownr.below hbx;have hrow2 : rowAt ((w1.alloc (.cells (mRowC x) 184)).alloc (.cells (mRowC x) 184)) (w1.heap.size + 1) 0 34 = some (mRowC x):=by simp [go_sem]
    change (Instr.next _ _ _).run Tryz.prog wr = .ok (.tuple #[.bool true,.agg (mRowC x),.bool true]) w1 at hrun;change (Instr.entry _).run Tryz.prog w1 = .ok (.tuple #[.agg (mRowC x),.bool true]) w1 at hen;have Hs1:=Lib.hid hs1;clear hs1;go_wp2_with (at_builtin;refine L_append einfoMRow rfl hown2 rfl hrow2 (mRowC_one _) (by omega) (by omega) (by simp;have:=Hs1.out;omega) ?_;intro A' cap' w2 hownA hkA hsubA)
    have hbA : b ∉ blk A:=fun hx=>(by have:=(hown.at_base hx).1;omega);have hrA : wS.heap.size ∉ blk A:=fun hx=>(by have:=(hown.at_base hx).1;omega);have hR1x:=hR1.kept (Keep.of_below hbx) (by simp) (by simp);have hR2:=hR1x.kept hkA hbA hrA;have hl2 : w2.rangeLeft b wS.heap.size = w1.rangeLeft b wS.heap.size :=
      (rangeLeft_kept hkA hbA hrA hR1x.lt.2 hR1x.lt.1).trans (rangeLeft_kept (Keep.of_below hbx) (by simp) (by simp) hR1.lt.2 hR1.lt.1)
    have hsz2 : w0.heap.size ≤ w2.heap.size:=by
      have e1:=hbx.size;have e2:=hkA.size;have e3:=Hs1.out;omega
    have hb2 : Below wS.heap.size wS w2:=hb1.trans ((hbx.mono (by have:=Hs1.out;omega)).trans (hkA.below (B:=wS.heap.size) (by simp;have:=Hs1.out;omega) fun y hy=>by have:=(hown.at_base hy).1;omega));clear hrun hen;(go_wp2_with fail);go_roundw
    case rel=>exact ⟨S ++ [x],A',cap',by simp,hR2,by simpa using hownA,hb2,hsz2⟩
    case measure=>omega
end
section
open Go.RowKit
@[go_sem ↓] theorem slPair_rw (x : Value) (lo hi mx : Option Value) : Instr.sliceAt 23 x lo hi mx = slS 23 x lo hi mx:=rfl
end
section
open Go.RowKit
section
variable {P : Program} {T E : TypeId} {k bytes : Nat}
theorem zeroCells_one {z : Array Value} {n : Nat} (hz : 0 < z.size) (h1 : ∀ u ∈ z.toList,u.oneCell' = true) : ∀ u ∈ (Builtin.zeroCells z n).toList,u.oneCell' = true:=by
  intro u hu;unfold Builtin.zeroCells at hu;simp only [Array.toList_map,List.mem_map] at hu;obtain ⟨i,_,rfl⟩:=hu;have hi : i % z.size < z.size:=Nat.mod_lt _ hz;rw [getElem!_pos z _ hi];exact h1 _ (by simp)
theorem own_clear (I : ElemInfo P T E k bytes) {z : Value} (hz : (P.info? E).bind (·.zero) = some z) (hz1 : ∀ u ∈ z.cells.toList,u.oneCell' = true) {w : World} {B g n cap m : Nat} {L : List (Array Value)} (h : Own w B E k (some ⟨g,0,none⟩) n cap L) (hm : m ≤ n) (ty : TypeId) :
    ∃ A2 c2,(∀ w0 : World,(slS T (.slice (some ⟨g,0,none⟩) n cap) (some (.int .i64 m)) none none).run P w0 = .ok (.slice A2 (n - m) c2) w0) ∧
      ∃ w',(Builtin.clear_ #[T] ty #[.slice A2 (n - m) c2]).run P w = .ok (.tuple #[]) w' ∧ Own w' B E k (some ⟨g,0,none⟩) m cap (L.take m) ∧ Keep [g] w w':=by
  have hA:=h.cap_le;have hrun : ∀ w0 : World,(slS T (.slice (some ⟨g,0,none⟩) n cap) (some (.int .i64 m)) none none).run P w0 = .ok (.slice (if cap = m then some ⟨g,0,none⟩ else some ⟨g,m * k,none⟩) (n - m) (cap - m)) w0:=by
    intro w0;rw [run_slS I];unfold Instr.slice Instr.sliceBounds;simp only [Sem.run_bind,run_underlying I.und,Result.andThen_ok,Sem.run_pure,run_bound w0 m n hm,I.sizeOf_run w0,Option.isSome_none,Bool.false_eq_true,if_false];congr 3
    show some ((⟨g,0,none⟩ : Addr).add (m * k)) = _;unfold Addr.add;split <;> simp_all
  refine ⟨_,_,hrun,?_⟩;have hown2:=h;have hlen:=flat_len L k h.size;have hL:=h.len;have hsz:=h.size;obtain ⟨⟨h1,h2⟩,_,hs⟩:=h;rcases h2 with ⟨h2,_⟩ | ⟨g',c,cur,hv,hb,hg,hnc,hcm,hcsz,htake⟩
  · cases h2
  injection hv with hA' _ hc
  injection hA' with hA'
  injection hA' with hA'
  subst hA';subst hc;have hmk : m * k ≤ n * k:=Nat.mul_le_mul_right k hm;have hnk : n * k ≤ cur.size:=by rw [hcsz];exact Nat.mul_le_mul_right k hnc
  have htk : (L.take m).flatMap Array.toList = (L.flatMap Array.toList).take (m * k):=by
    apply List.ext_getElem?;intro j;have hlt : (L.take m).length = m:=by simp;omega
    have hl2:=flat_len (L.take m) k (fun c hc=>hs c (List.mem_of_mem_take hc));rw [hlt] at hl2;by_cases hj : j < m * k
    · rw [List.getElem?_take,if_pos hj];have hk0:=I.pos;have hi : j / k < m:=Nat.div_lt_of_lt_mul (by rw [Nat.mul_comm];exact hj);have hr : j % k < k:=Nat.mod_lt _ hk0;have he : j = j / k * k + j % k:=by rw [Nat.mul_comm];exact (Nat.div_add_mod j k).symm
      rw [he,flat_get (L.take m) k (fun c hc=>hs c (List.mem_of_mem_take hc)) (j / k) (j % k) (by rw [hlt];exact hi) hr,flat_get L k hs (j / k) (j % k) (by omega) hr];congr 1
      rw [List.getElem_take]
    · rw [List.getElem?_eq_none (by omega),List.getElem?_eq_none (by simp;omega)]
  have hfin : ∀ w' cur',w'.heap[g]? = some (.cells cur' E (0,0)) → cur'.size = cap * k → cur'.toList.take (m * k) = cur.toList.take (m * k) → Own w' B E k (some ⟨g,0,none⟩) m cap (L.take m):=by
    intro w' cur' hg' hcs' htk';refine ⟨⟨?_,.inr ⟨g,cap,cur',rfl,hb,hg',by omega,hcm,hcs',?_⟩⟩,by simp;omega,fun c hc=>hs c (List.mem_of_mem_take hc)⟩
    · rw [flat_len _ k (fun c hc=>hs c (List.mem_of_mem_take hc)),List.length_take,hL,Nat.min_eq_left hm]
    · rw [htk',htk,← htake,List.take_take,Nat.min_eq_left hmk]
  by_cases hmn : m = n
  · subst hmn;refine ⟨w,?_,hfin w cur hg hcsz rfl,(Keep.refl _ _)⟩;rw [Nat.sub_self];obtain ⟨A2,hA2⟩ : ∃ A2,(if cap = m then (some ⟨g,0,none⟩ : Option Addr) else some ⟨g,m * k,none⟩) = A2:=⟨_,rfl⟩
    rw [hA2];cases A2 <;> simp [Builtin.clear_,run_underlying I.und]
  · have hcm' : ¬ cap = m:=by omega
    rw [if_neg hcm'];obtain ⟨inf,z',hinf,hz',hisz,hby,hzs⟩:=I.info;have hzz : z' = z:=by
      rw [hinf] at hz;have : inf.zero = some z:=hz;rw [hz'] at this;injection this
    subst hzz;have hk0:=I.pos;have hst:=run_storeCells_at P g (m * k) E (Builtin.zeroCells z'.cells (n - m)).toList 0 cur w hg (by
      simp only [Nat.add_zero,Array.length_toList,size_zeroCells,hzs];have : m * k + (n - m) * k = n * k:=by rw [← Nat.add_mul];congr 1;omega
      omega) (zeroCells_one (by omega) hz1)
    simp only [Nat.add_zero,Array.length_toList,size_zeroCells,hzs] at hst;have hsum : m * k + (n - m) * k = n * k:=by rw [← Nat.add_mul];congr 1;omega
    have hzl : (Builtin.zeroCells z'.cells (n - m)).toList.length = (n - m) * k:=by rw [Array.length_toList,size_zeroCells,hzs]
    have hcl : cur.toList.length = cap * k:=by rw [Array.length_toList];exact hcsz
    obtain ⟨NC,hNC⟩ : ∃ NC,(cur.toList.take (m * k) ++ (Builtin.zeroCells z'.cells (n - m)).toList ++ cur.toList.drop (m * k + (n - m) * k)).toArray = NC:=⟨_,rfl⟩
    rw [hNC] at hst;have hNs : NC.size = cap * k:=by
      rw [← hNC];simp only [List.size_toArray,List.length_append,List.length_take,List.length_drop,hzl,hcl];omega
    have hNt : NC.toList.take (m * k) = cur.toList.take (m * k):=by
      rw [← hNC];show List.take (m * k) (cur.toList.take (m * k) ++ (Builtin.zeroCells z'.cells (n - m)).toList ++ cur.toList.drop (m * k + (n - m) * k)) = _;rw [List.append_assoc,List.take_append_of_le_length (by rw [List.length_take,hcl];omega),List.take_take,Nat.min_self]
    refine ⟨w.setRow g NC,?_,hfin _ _ (setRow_heap w g cur NC E (0,0) hg) hNs hNt,⟨rfl,rfl,rfl,by simp [World.setRow],fun x _ hx=>setRow_other w g x _ (by simpa using hx)⟩⟩;obtain ⟨d,hd⟩ : ∃ d,n - m = d + 1:=⟨n - m - 1,by omega⟩
    rw [hd] at hst ⊢;have hzr : (zeroValue E).run P w = .ok z' w:=by simp [zeroValue,typeInfo,hinf,hz']
    simp [Builtin.clear_,run_underlying I.und,hzr,hst]
end
end
section
open Go.RowKit
def pairEqB (x y : Pair) : Bool:=(x.key.toList == y.key.toList) && (x.val.toList == y.val.toList)
theorem pairEqB_eq (x y : Pair) : pairEqB x y = true ↔ x = y:=by
  unfold pairEqB;simp only [Bool.and_eq_true,beq_iff_eq,toList_inj];exact ⟨fun h=>Pair_ext h,fun h=>by subst h;exact ⟨rfl,rfl⟩⟩
theorem eqPair_in (x y : Pair) (w : World) : (Op.equalIn 10000 98 (.agg (pairC x)) (.agg (pairC y))).run Tryz.prog w = .ok (pairEqB x y) w:=by
  rw [show (10000 : Nat) = 9999 + 1 from rfl,run_equalIn_agg w 9999 98 _ _ fieldsPair (by kernel_rfl)];unfold pairEqB;have e1:=run_equalIn_string (P:=Tryz.prog) w 9998 9 x.key y.key Tryz.underlying9;have e2:=run_equalIn_string (P:=Tryz.prog) w 9998 9 x.val y.val Tryz.underlying9;simp only [Program.fieldsOf,Tryz.underlying98];simp [Op.eqFields,part,asAgg,isAgg,go_sem,Tryz.underlying9,e1,e2];by_cases h1 : x.key.toList = y.key.toList <;> by_cases h2 : x.val.toList = y.val.toList <;> simp [h1,h2]
@[go_sem ↓] theorem neqPair_run (x y : Pair) (w : World) : (binOp .neq 98 (.agg (pairC x)) (.agg (pairC y))).run Tryz.prog w = .ok (.bool (!(pairEqB x y))) w:=by
  rw [run_neq_struct,eqPair_in];rfl
def PairsIn (w : World) (A : Option Addr) (n : Nat) (L : List Pair) : Prop:=SlR w A n 2 (L.map pairC)
theorem PairsIn.get {w : World} {A : Option Addr} {n : Nat} {R : List Pair} (h : PairsIn w A n R) {i : Nat} (hi : i < n) (hR : i < R.length) :
    ∃ g o,A = some ⟨g,o,none⟩ ∧ rowAt w g (o + i * 2) 2 = some (pairC R[i]) ∧ w.cell? ⟨g,o + i * 2,none⟩ = some (.string (R[i]).key) ∧ w.cell? ⟨g,o + i * 2 + 1,none⟩ = some (.string (R[i]).val):=by
  obtain ⟨g,o,e,hr⟩:=SlR.at_ h hi;rw [List.getElem_map] at hr;refine ⟨g,o,e,hr,?_,?_⟩
  · have:=rowAt_cell hr (j:=0) (by omega)
    rwa [pairC_g0] at this
  · have:=rowAt_cell hr (j:=1) (by omega)
    rwa [pairC_g1] at this
theorem PairsIn.len {w : World} {A : Option Addr} {n : Nat} {R : List Pair} (h : PairsIn w A n R) : R.length = n:=by simpa using h.1
set_option maxHeartbeats 1000000 in
theorem rpairs (w : World) (A B : Option Addr) (n m cap cap' : Nat) (X Y : List Pair) (hx : PairsIn w A n X) (hy : PairsIn w B m Y) (hn : n ≤ 1000000) (hm : m ≤ 1000000) :
    Calls Tryz.prog 50 #[.slice A n cap,.slice B m cap'] w fun e w'=>e = .returned (.bool (decide (X = Y))) ∧ Below w.heap.size w w':=by
  have hlx:=hx.len;have hly:=hy.len;have Hlx:=Lib.hid hlx;have Hly:=Lib.hid hly;by_cases hnm : n = m
  · subst hnm;clear hlx hly;go_enter Tryz.func50,Tryz.ntmps50
    (go_wp2_with fail);go_loopw [5] (fun i wr=>∃ k : Nat,k ≤ n ∧ i = .int .i64 k ∧ Hid (X.take k = Y.take k) ∧ Below w.heap.size w wr) (fun i _=>n - (intOf i).toNat)
    case atStart=>exact ⟨0,Nat.zero_le _,rfl,rfl,Below.refl _ _⟩
    case round =>
      obtain ⟨k,hk,rfl,heq,hb⟩:=hrel;by_cases hlt : k < n
      · obtain ⟨q,o,rfl,hr,_,_⟩:=PairsIn.get (SlR.below hx hb) hlt (by rw [Hlx.out];exact hlt);obtain ⟨q2,o2,rfl,hr2,_,_⟩:=PairsIn.get (SlR.below hy hb) hlt (by rw [Hly.out];exact hlt);have hX : X.take (k + 1) = X.take k ++ [X[k]'(by rw [Hlx.out];exact hlt)]:=by rw [List.take_add_one,List.getElem?_eq_getElem (by rw [Hlx.out];exact hlt)];rfl
        have hY : Y.take (k + 1) = Y.take k ++ [Y[k]'(by rw [Hly.out];exact hlt)]:=by rw [List.take_add_one,List.getElem?_eq_getElem (by rw [Hly.out];exact hlt)];rfl
        obtain ⟨x,hx'⟩ : ∃ x,X[k]'(by rw [Hlx.out];exact hlt) = x:=⟨_,rfl⟩
        obtain ⟨y,hy'⟩ : ∃ y,Y[k]'(by rw [Hly.out];exact hlt) = y:=⟨_,rfl⟩
        rw [hx'] at hr hX;rw [hy'] at hr2 hY;have HX:=Lib.hid hX;have HY:=Lib.hid hY;clear hX hY;have HX':=Lib.hid hx';have HY':=Lib.hid hy';clear hx' hy';go_upto_region 6 with fail
        refine wp_region_lex (Bel wr) false (by kernel_rfl) (by kernel_rfl) (by kernel_rfl) (bel_drew wr) ?_;have hne:=bel_some wr;have hS:=bel_drew wr;have b1:=sub_row hr;have b2:=sub_row hr2;repeat (refine wpLx_loose ?_ ?_;(focus (simp only [chainOp];done));intro K hK;go_simp;refine hK _ ?_;clear hK K)
        refine wpLx_nil ?_;intro hS;clear hne hS b1 b2 hr hr2;have hb' : Below w.heap.size w wr.drew:=hb.drew;cases hpe : pairEqB x y with
        | true =>
          have e:=(pairEqB_eq x y).1 hpe;have E:=Lib.hid e;clear e;(go_wp2_with fail);go_roundw
          case rel=>exact ⟨k + 1,by omega,by go_num,(show X.take (k + 1) = Y.take (k + 1) by rw [HX.out,HY.out,heq.out,E.out]),hb'⟩
          case measure=>simp [intOf];omega
        | false =>
          have hne : X ≠ Y:=by
            intro e;subst e;have : x = y:=HX'.out.symm.trans HY'.out;rw [(pairEqB_eq x y).2 this] at hpe;cases hpe
          have hd:=Lib.hid (decide_eq_false hne);clear hne;(go_wp2_with fail);go_ret;exact ⟨ret_bool (by rw [hd.out]),hb'⟩
      · have hkn : k = n:=by omega
        have e : X = Y:=by
          have:=heq.out
          rwa [List.take_of_length_le (by rw [Hlx.out];omega),List.take_of_length_le (by rw [Hly.out];omega)] at this
        have E:=Lib.hid (decide_eq_true e);clear e hkn;(go_wp2_with fail);go_ret;exact ⟨ret_bool (by rw [E.out]),hb⟩
  · have hne : X ≠ Y:=by intro e;subst e;exact hnm (hlx.symm.trans hly)
    have hd:=Lib.hid (decide_eq_false hne);have hnm2 : (n == m) = false:=by simpa using hnm
    have hnm3 : ((n : Int) == (m : Int)) = false:=by rw [beq_eq_false_iff_ne];omega
    clear hlx hly hne;go_enter Tryz.func50,Tryz.ntmps50
    (go_wp2_with fail);go_ret;exact ⟨ret_bool (by rw [hd.out]),Below.refl _ _⟩
end
section
open Go.RowKit Go.Sort Go.Shelf
instance : Inhabited Pair:=⟨pair0⟩
@[go_sem ↓] theorem eqPair_run (x y : Pair) (w : World) : (Op.equalIn 10000 98 (.agg (pairC x)) (.agg (pairC y))).run Tryz.prog w = .ok (pairEqB x y) w:=eqPair_in x y w
def cmpPair (x y : Pair) : Int:=orL [cmpS x.key y.key,cmpS x.val y.val]
theorem totPair : TotC cmpPair:=(totS.pair totS).of (fun x : Pair=>(x.key,x.val)) (fun x y h=>by
  cases x;cases y
  simp only [Prod.mk.injEq] at h;obtain ⟨h1,h2⟩:=h;subst h1;subst h2;rfl) (fun x y=>orL2 _ _)
theorem Own.hi_at {P : Program} {T E : TypeId} {k bytes : Nat} (I : ElemInfo P T E k bytes) {w : World} {B g n cap : Nat} {L : List (Array Value)} (h : Own w B E k (some ⟨g,0,none⟩) n cap L) {m : Nat} (hm : m < n) (w0 : World) :
    (slS T (.slice (some ⟨g,0,none⟩) n cap) (some (.int .i64 m)) none none).run P w0 = .ok (.slice (some ⟨g,m * k,none⟩) (n - m) (cap - m)) w0:=by
  have hA:=h.cap_le;rw [run_slS I];unfold Instr.slice Instr.sliceBounds;simp only [Sem.run_bind,run_underlying I.und,Result.andThen_ok,Sem.run_pure,run_bound w0 m n (Nat.le_of_lt hm),I.sizeOf_run w0,Option.isSome_none,Bool.false_eq_true,if_false];rw [if_neg (by omega)];congr 2
  show some ((⟨g,0,none⟩ : Addr).add (m * k)) = _;unfold Addr.add;split <;> simp_all
theorem Own.get {α : Type} [Inhabited α] {enc : α → Array Value} {w : World} {B g n cap k : Nat} {E : TypeId} {d : Array α} (h : Own w B E k (some ⟨g,0,none⟩) n cap (d.toList.map enc)) {j : Nat} (hj : j < n) : rowAt w g (j * k) k = some (enc d[j]!):=by
  have hl : d.size = n:=by simpa using h.len
  obtain ⟨q,o,e,hr⟩:=h.slr.at_ hj;injection e with e;injection e with e1 e2
  subst e1;subst e2;rw [Nat.zero_add] at hr;rw [hr,List.getElem_map,getElem!_pos d j (by omega)]
  simp
set_option maxRecDepth 100000 in
set_option maxHeartbeats 4000000 in
theorem compact_pairs (w : World) (B g n cap : Nat) (R : List Pair) (hown : Own w B 98 2 (some ⟨g,0,none⟩) n cap (R.map pairC)) (hn : n ≤ 1000000) (hs : R.Pairwise (fun x y=>¬ cmpPair y x < 0)) :
    Calls Tryz.prog 131 #[.slice (some ⟨g,0,none⟩) n cap] w fun e w'=>e = .returned (.slice (some ⟨g,0,none⟩) (sortC cmpPair R).length cap) ∧ Own w' B 98 2 (some ⟨g,0,none⟩) (sortC cmpPair R).length cap ((sortC cmpPair R).map pairC) ∧ Keep [g] w w':=by
  have hlen : R.length = n:=by simpa using hown.len
  rw [← compact_sorted totPair R hs];obtain ⟨d,hd⟩ : ∃ d,R.toArray = d:=⟨_,rfl⟩
  have hRd : R = d.toList:=by rw [← hd]
  have hdn : d.size = n:=by rw [← hd];simpa using hlen
  have hcd : Lib.compact R = Lib.compactUpTo d n:=by unfold Lib.compact;rw [hd,hlen]
  rw [hcd];rw [hRd] at hown;have hfin : (∀ j,j < n → Lib.keeps d j = true) → Lib.compactUpTo d n = d.toList:=fun h=>by
    rw [Lib.compactUpTo_all d n h,← hdn];exact Lib.range_map_get d
  have Hdn:=Lib.hid hdn;clear hd hRd hcd hs hlen hdn;have hgl : g < w.heap.size:=(hown.at_base (x:=g) (by simp [blk])).2;go_enter Tryz.func131,Tryz.ntmps131
  by_cases h2 : n < 2
  · have he:=hfin (fun j hj=>by
      have : j = 0:=by
        by_cases h1 : j = 0
        · exact h1
        · have hj1 : j = 1:=by omega
          omega
      subst this;simp [Lib.keeps])
    have He:=Lib.hid he;clear he hfin;(go_wp2_with fail);go_ret;rw [He.out];have hl : d.toList.length = n:=by rw [Array.length_toList];exact Hdn.out
    exact ⟨by rw [hl];rfl,by rw [hl];exact hown,Keep.refl _ _⟩
  · (go_wp2_with fail);go_loopw [3] (fun i wr=>∃ k : Nat,1 ≤ k ∧ k ≤ n ∧ i = .int .i64 k ∧ Hid (∀ j,j < k → Lib.keeps d j = true) ∧ Below w.heap.size w wr) (fun i _=>n - (intOf i).toNat)
    case atStart=>exact ⟨1,Nat.le_refl _,by omega,rfl,(show ∀ j,j < 1 → _ from Lib.keeps_lt_one d),Below.refl _ _⟩
    case round =>
      obtain ⟨k,hk1,hk,rfl,hall,hb⟩:=hrel;have hownr:=hown.below hb;by_cases hlt : k < n
      · have hr1:=hownr.get hlt;have hr2:=hownr.get (j:=k - 1) (by omega);obtain ⟨x,hx⟩ : ∃ x,d[k]! = x:=⟨_,rfl⟩
        obtain ⟨y,hy⟩ : ∃ y,d[k - 1]! = y:=⟨_,rfl⟩
        rw [hx] at hr1;rw [hy] at hr2;obtain ⟨k1,hkk⟩ : ∃ k1,k - 1 = k1:=⟨_,rfl⟩
        have hk1' : ((k : Int) - 1) = (k1 : Int):=by omega
        have hk1n : k1 < n:=by omega
        have hwr : IntKind.i64.wrap (k1 : Int) = (k1 : Int):=IntWalk.i64_in _ (by omega);rw [hkk] at hr2;obtain ⟨eb,heb⟩ : ∃ eb,pairEqB x y = eb:=⟨_,rfl⟩
        have Heb:=Lib.hid heb;have Hx:=Lib.hid hx;have Hy:=Lib.hid hy;have Hkk:=Lib.hid hkk;clear hx hy hkk;go_upto_region 6 with fail
        refine wp_region_lex (Bel wr) false (by kernel_rfl) (by kernel_rfl) (by kernel_rfl) (bel_drew wr) ?_;have hne:=bel_some wr;have hS:=bel_drew wr;have b1:=sub_row hr1;have b2:=sub_row hr2;repeat (refine wpLx_loose ?_ ?_;(focus (simp only [chainOp];done));intro K hK;go_simp;refine hK _ ?_;clear hK K)
        refine wpLx_nil ?_;intro hS;have hb' : Below w.heap.size w wr.drew:=hb.drew;have hown' : Own wr.drew B 98 2 (some ⟨g,0,none⟩) n cap (d.toList.map pairC):=hownr.kept (Keep.drew wr) (by simp);clear hne hS b1 b2 hr1 hr2 heb hb hownr;obtain ⟨W,hW⟩ : ∃ W,wr.drew = W:=⟨_,rfl⟩
        rw [hW] at hb' hown' ⊢;clear hW;cases eb with
        | false =>
          have hne : d[k]! ≠ d[k - 1]!:=by
            rw [Hx.out,Hy.out];intro e;have:=(pairEqB_eq x y).2 e;rw [Heb.out] at this;cases this
          have hkp:=Lib.keeps_pos hne;have Hkp:=Lib.hid hkp;clear hne hkp;(go_wp2_with fail);go_roundw
          case rel=>exact ⟨k + 1,by omega,by omega,by go_num,(show ∀ j,j < k + 1 → Lib.keeps d j = true from fun j hj=>by
            by_cases e : j = k
            · rw [e];exact Hkp.out
            · exact hall.out j (by omega)),hb'⟩
          case measure=>simp [intOf];omega
        | true =>
          have heq : d[k]! = d[k - 1]!:=by rw [Hx.out,Hy.out];exact (pairEqB_eq x y).1 Heb.out
          have hinv:=Lib.CompInv.start hall.out (Lib.keeps_neg (by omega) heq);have Hinv:=Lib.hid hinv;have hsl:=fun w0=>hown'.hi_at (P:=Tryz.prog) einfoPair hlt w0;clear heq hinv;(go_wp2_with fail);go_loopw [3,5] (fun kv iv ws=>∃ (k2 kk : Nat) (dk : Array Pair),1 ≤ k2 ∧ k2 ≤ n - k ∧ iv = .int .i64 k2 ∧ kv = .int .i64 kk ∧ Hid (Lib.CompInv d (k + k2) kk dk) ∧ Own ws B 98 2 (some ⟨g,0,none⟩) n cap (dk.toList.map pairC) ∧ Keep [g] w ws ∧ kk < k + k2) (fun _ iv _=>(n - k) - (intOf iv).toNat)
          case atStart=>exact ⟨1,k,d,Nat.le_refl _,by omega,rfl,rfl,Hinv,hown',(Keep.of_below hb').mono (by simp),by omega⟩
          case round =>
            obtain ⟨k2,kk,dk,hk21,hk2n,rfl,rfl,hinv,hownk,hkw,hkk2⟩:=hrel;by_cases hlt2 : k2 < n - k
            · have hdk : dk.size = n:=by simpa using hownk.len
              have hr1:=hownk.get (j:=k + k2) (by omega);have hr2:=hownk.get (j:=k + k2 - 1) (by omega);obtain ⟨x2,hx2⟩ : ∃ x2,dk[k + k2]! = x2:=⟨_,rfl⟩
              obtain ⟨y2,hy2⟩ : ∃ y2,dk[k + k2 - 1]! = y2:=⟨_,rfl⟩
              have hdx : d[k + k2]! = x2:=by rw [← hx2];exact (hinv.out.high _ (by omega)).symm
              have hdy : d[k + k2 - 1]! = y2:=by rw [← hy2];exact (hinv.out.high _ (by omega)).symm
              rw [hx2] at hr1;rw [hy2] at hr2;obtain ⟨j1,hj1⟩ : ∃ j1,k2 - 1 = j1:=⟨_,rfl⟩
              have hj1' : ((k2 : Int) - 1) = (j1 : Int):=by omega
              have hj1n : j1 < n - k:=by omega
              have hwr1 : IntKind.i64.wrap (j1 : Int) = (j1 : Int):=IntWalk.i64_in _ (by omega);rw [show k + k2 - 1 = k + j1 by omega,Nat.add_mul] at hr2;rw [Nat.add_mul] at hr1;obtain ⟨nb,hnb⟩ : ∃ nb,pairEqB x2 y2 = nb:=⟨_,rfl⟩
              have Hnb:=Lib.hid hnb;have Hdx:=Lib.hid hdx;have Hdy:=Lib.hid hdy;have Hj1:=Lib.hid hj1;have Hdk:=Lib.hid hdk;clear hx2 hy2 hj1 hdx hdy hdk;go_upto_region 11 with fail
              refine wp_region_lex (Bel wr) false (by kernel_rfl) (by kernel_rfl) (by kernel_rfl) (bel_drew wr) ?_;have hne:=bel_some wr;have hS:=bel_drew wr;have b1:=sub_row hr1;have b2:=sub_row hr2;repeat (refine wpLx_loose ?_ ?_;(focus (simp only [chainOp];done));intro K hK;go_simp;refine hK _ ?_;clear hK K)
              refine wpLx_nil ?_;intro hS;have hkw' : Keep [g] w wr.drew:=Keep.trans hkw (Keep.drew wr) (by simp);have hownk' : Own wr.drew B 98 2 (some ⟨g,0,none⟩) n cap (dk.toList.map pairC):=hownk.kept (Keep.drew wr) (by simp);have hr1' : rowAt wr.drew g (k * 2 + k2 * 2) 2 = some (pairC x2):=hr1;clear hne hS b1 b2 hr1 hr2 hnb hkw hownk;obtain ⟨W2,hW2⟩ : ∃ W2,wr.drew = W2:=⟨_,rfl⟩
              rw [hW2] at hkw' hownk' hr1' ⊢;clear hW2;cases nb with
              | true =>
                have heq : d[k + k2]! = d[k + k2 - 1]!:=by rw [Hdx.out,Hdy.out];exact (pairEqB_eq x2 y2).1 Hnb.out
                have hsk:=hinv.out.skip (Lib.keeps_neg (by omega) heq);have Hsk:=Lib.hid hsk;clear heq hsk;(go_wp2_with fail);go_roundw
                case rel=>exact ⟨k2 + 1,kk,dk,by omega,by omega,by go_num,rfl,(show Lib.CompInv d (k + (k2 + 1)) kk dk from Hsk.out),hownk',hkw',by omega⟩
                case measure=>simp [intOf];omega
              | false =>
                have hneq : d[k + k2]! ≠ d[k + k2 - 1]!:=by
                  rw [Hdx.out,Hdy.out];intro e;have:=(pairEqB_eq x2 y2).2 e;rw [Hnb.out] at this;cases this
                have hkp:=hinv.out.keep (by rw [Hdn.out];omega) (Lib.keeps_pos hneq);rw [Hdx.out] at hkp;have Hkp:=Lib.hid hkp;clear hneq hkp;obtain ⟨w7,hst,hown7,hk7⟩:=own_store einfoPair hownk' (i:=kk) (by omega) (cs:=pairC x2) (by simp) (pairC_one x2);have hl7 : (dk.toList.map pairC).set kk (pairC x2) = (dk.setIfInBounds kk x2).toList.map pairC:=by
                  rw [Array.toList_setIfInBounds,List.map_set]
                rw [hl7] at hown7;have hkw7:=Keep.trans hkw' hk7 (fun x hx=>.inl hx);have hkn : kk < n:=by omega
                clear hl7 hk7 hownk';(go_wp2_with fail);go_roundw
                case rel=>exact ⟨k2 + 1,kk + 1,_,by omega,by omega,by go_num,by go_num,(show Lib.CompInv d (k + (k2 + 1)) (kk + 1) _ from Hkp.out),hown7,hkw7,by omega⟩
                case measure=>simp [intOf];omega
            · have hm : k + k2 = n:=by omega
              have hinv':=hinv.out;rw [hm] at hinv';have hkn : kk < n:=by have:=hinv'.lt;omega
              have hdk : dk.size = n:=by simpa using hownk.len
              have hcu : dk.toList.take kk = Lib.compactUpTo d n:=by
                apply List.ext_getElem?;intro j;by_cases hj : j < kk
                · rw [hinv'.low j hj,List.getElem?_take,if_pos hj,Array.getElem?_toList,getElem!_pos dk j (by omega),Array.getElem?_eq_getElem (by omega)]
                · rw [List.getElem?_eq_none (by simp;omega),List.getElem?_eq_none (by rw [hinv'.len];omega)]
              obtain ⟨A2,c2,hsl2,w8,hclr,hown8,hk8⟩:=own_clear einfoPair (z:=.agg (pairC pair0)) (by kernel_rfl) (pairC_one pair0) hownk (m:=kk) (by omega) 0;rw [← List.map_take,hcu] at hown8;have hlk : (Lib.compactUpTo d n).length = kk:=hinv'.len;have hlo:=fun w0=>SlW.lo (P:=Tryz.prog) einfoPair hownk.slw (m:=kk) (by omega) w0;have hkf:=Keep.trans hkw hk8 (fun x hx=>.inl hx);have Hlk:=Lib.hid hlk;have Hown8:=Lib.hid hown8;clear hcu hinv' hlk hown8 hdk hm hk8 hownk;(go_wp2_with fail);go_ret;exact ⟨by rw [Hlk.out];rfl,by rw [Hlk.out];exact Hown8.out,hkf⟩
      · have he:=hfin (fun j hj=>hall.out j (by omega));have He:=Lib.hid he;clear he hfin;(go_wp2_with fail);go_ret;rw [He.out];have hl : d.toList.length = n:=by rw [Array.length_toList];exact Hdn.out
        exact ⟨by rw [hl];rfl,by rw [hl];exact hownr,(Keep.of_below hb).mono (by simp)⟩
end
end Go.Proofs.YtgfpjjppeldhbaaGreatDoor
