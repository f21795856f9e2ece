/- Part 1 of the texts that lead to this claim: the walks of the functions and the plain law, in order. -/
import Derived.Test.YtgedpfebepdcmaaGreatDoorProg
import Derived.WalkKit
import Derived.WalkSpells
import Derived.WalkLawsBesides
import Derived.BigQuiet
import Derived.Deep.QuietTactic
import Derived.Lib.Hide
import Derived.Lib.ConvBytes
import Derived.Deep.DeepCutAuto
import Derived.Laws.AppendOwn
import Derived.Laws.OwnMore
import Derived.Stop.BytesEq
import Derived.Laws.BitsAllLaws
import Derived.Deep.Quiet
import Derived.StillTail
import Derived.Maps.AppendAt
import Derived.Lib.AppendStr
import Derived.Laws.BytesString
import Derived.Lib.BufferRead
import Derived.Defers
import Derived.IntWalk
import Derived.Lib.Bytealg
import Derived.Sort.LotA
namespace Go.Proofs.YtgedpfebepdcmaaGreatDoor
section
open Go.RowKit
theorem below_drewN {B : Nat} {a w : World} (h : Below B a w) (n : Nat) : Below B a (w.drewN n):=⟨h.os,h.tape,h.output,h.size,h.block⟩
theorem quiet_eq {P : Program} {f : FuncId} {args : Array Value} {w : World} {n : Nat} {v : Value}
    (h : Calls P f args (w.drewN n) fun e w'=>e = .returned v ∧ w.drewN n = w') : Calls P f args (w.drewN n) fun e w''=>e = .returned v ∧ ∃ m,w'' = w.drewN m :=
  h.mono fun _ _ ⟨he,hm⟩=>⟨he,n,hm.symm⟩
theorem ret_int {k : IntKind} {a b : Int} (h : a = b) : Ending.returned (.int k a) = .returned (.int k b):=by rw [h]
def bt (s : ByteArray) (k : Nat) : Int:=if h : k < s.size then ((s[k]'h).toNat : Int) else 0
theorem bt_get {s : ByteArray} {k : Nat} (h : k < s.size) : ((s[k]'h).toNat : Int) = bt s k:=by unfold bt;rw [dif_pos h]
theorem bt_nonneg (s : ByteArray) (k : Nat) : 0 ≤ bt s k:=by unfold bt;split <;> omega
theorem ret_bool {a b : Bool} (h : a = b) : Ending.returned (.bool a) = .returned (.bool b):=by rw [h]
theorem bel2 {w w1 w2 : World} (h : Below w.heap.size w w1) (k : Below w1.heap.size w1 w2) : Below w.heap.size w w2:=h.trans (k.mono h.size)
end
section
open Go.RowKit
structure Keep (S : List Nat) (w w' : World) : Prop where
  os : w'.os = w.os
  tape : w'.tape = w.tape
  output : w'.output = w.output
  size : w.heap.size ≤ w'.heap.size
  block : ∀ k,k < w.heap.size → k ∉ S → w'.heap[k]? = w.heap[k]?
theorem Keep.refl (S : List Nat) (w : World) : Keep S w w:=⟨rfl,rfl,rfl,Nat.le_refl _,fun _ _ _=>rfl⟩
theorem Keep.trans {S S' : List Nat} {a b c : World} (h : Keep S a b) (k : Keep S' b c) (hs : ∀ x ∈ S',x ∈ S ∨ a.heap.size ≤ x) : Keep S a c :=
  ⟨k.os.trans h.os,k.tape.trans h.tape,k.output.trans h.output,Nat.le_trans h.size k.size,fun i hi hn =>
    (k.block i (Nat.lt_of_lt_of_le hi h.size) (fun hm=>(hs i hm).elim hn (by omega))).trans (h.block i hi hn)⟩
theorem Keep.mono {S S' : List Nat} {a b : World} (h : Keep S a b) (hs : ∀ x ∈ S,x ∈ S' ∨ a.heap.size ≤ x) : Keep S' a b :=
  ⟨h.os,h.tape,h.output,h.size,fun i hi hn=>h.block i hi (fun hm=>(hs i hm).elim hn (by omega))⟩
theorem Keep.alloc (w : World) (o : Obj) : Keep [] w (w.alloc o):=⟨rfl,rfl,rfl,by simp,fun k hk _=>Below.heap_alloc _ _ _ hk⟩
theorem Keep.drew (w : World) : Keep [] w w.drew:=⟨rfl,rfl,rfl,Nat.le_refl _,fun _ _ _=>rfl⟩
theorem Keep.setCell (w : World) (p : Addr) (u : Value) : Keep [p.block] w (w.setCell p u) :=
  ⟨rfl,rfl,rfl,by simp [World.setCell],fun k _ hn=>Below.heap_setCell _ _ _ _ (by simpa using hn)⟩
theorem Keep.below {B : Nat} {S : List Nat} {w w' : World} (h : Keep S w w') (hB : B ≤ w.heap.size) (hs : ∀ x ∈ S,B ≤ x) : Below B w w' :=
  ⟨h.os,h.tape,h.output,h.size,fun k hk=>h.block k (by omega) (fun hm=>by have:=hs k hm;omega)⟩
theorem Keep.of_below {w w' : World} (h : Below w.heap.size w w') : Keep [] w w':=⟨h.os,h.tape,h.output,h.size,fun k hk _=>h.block k hk⟩
theorem Keep.grown {w w' : World} {row : Option Nat} (h : w.grownBy w' row) : Keep row.toList w w' :=
  ⟨h.os,h.tape,h.output,h.size,fun k hk hn=>h.block k hk (fun e=>hn (by rw [← e];simp))⟩
theorem Keep.cell {S : List Nat} {w w' : World} (h : Keep S w w') {p : Addr} (hp : p.block < w.heap.size) (hn : p.block ∉ S) : w'.cell? p = w.cell? p:=World.cell?_of_block (w:=w) (h.block p.block hp hn)
theorem not_later {S S' : List Nat} {w : World} {q : Nat} (h : q ∉ S) (hq : q < w.heap.size) (hs : ∀ x ∈ S',x ∈ S ∨ w.heap.size ≤ x) : q ∉ S' :=
  fun hm=>(hs q hm).elim h (by omega)
def rowAt (w : World) (g o k : Nat) : Option (Array Value) :=
  match w.heap[g]? with
  | some (.cells c _ _)=>if o + k ≤ c.size then some (c.extract o (o + k)) else none
  | _=>none
def ldS (t : TypeId) (a : Addr) : Sem Value:=loadVar t a
def bdS (t : TypeId) (parts : Array (Nat × Value)) : Sem Value:=Instr.build t parts
def stS (t : TypeId) (a : Addr) (v : Value) : Sem Unit:=storeVar t a v
theorem rowAt_of_block {w w' : World} {g : Nat} (h : w'.heap[g]? = w.heap[g]?) (o k : Nat) : rowAt w' g o k = rowAt w g o k:=by unfold rowAt;rw [h]
theorem Keep.row {S : List Nat} {w w' : World} (h : Keep S w w') {g : Nat} (hg : g < w.heap.size) (hn : g ∉ S) (o k : Nat) : rowAt w' g o k = rowAt w g o k:=rowAt_of_block (h.block g hg hn) o k
theorem rowAt_lt {w : World} {g o k : Nat} {cs : Array Value} (h : rowAt w g o k = some cs) : g < w.heap.size:=by
  rcases Nat.lt_or_ge g w.heap.size with hl | hl
  · exact hl
  · unfold rowAt at h;rw [Array.getElem?_eq_none hl] at h;cases h
theorem rowAt_size {w : World} {g o k : Nat} {cs : Array Value} (h : rowAt w g o k = some cs) : cs.size = k:=by
  unfold rowAt at h;split at h
  · split at h
    · injection h with h;subst h;simp;omega
    · cases h
  · cases h
theorem rowAt_cell {w : World} {g o k : Nat} {cs : Array Value} (h : rowAt w g o k = some cs) {j : Nat} (hj : j < k) : w.cell? ⟨g,o + j,none⟩ = cs[j]?:=by
  unfold rowAt at h;split at h
  · rename_i c t f hg
    split at h
    · injection h with h;subst h
      simp only [World.cell?,hg,Option.isSome_none,Bool.false_eq_true,if_false,Array.getElem?_extract];rw [if_pos (by omega)]
    · cases h
  · cases h
theorem rowAt_sub {w : World} {g o k : Nat} {cs : Array Value} (h : rowAt w g o k = some cs) {j m : Nat} (hj : j + m ≤ k) : rowAt w g (o + j) m = some (cs.extract j (j + m)):=by
  unfold rowAt at h ⊢;split at h
  · rename_i c t f hg
    split at h
    · rename_i hle
      injection h with h;subst h
      rw [if_pos (by omega)];congr 1
      rw [Array.extract_extract];congr 1 <;> omega
    · cases h
  · cases h
@[simp,go_sem] theorem rowAt_drew (w : World) (g o k : Nat) : rowAt (w.drew) g o k = rowAt w g o k:=rfl
@[simp,go_sem] theorem rowAt_drewN (w : World) (n g o k : Nat) : rowAt (w.drewN n) g o k = rowAt w g o k:=rfl
@[go_sem] theorem rowAt_alloc (w : World) (c : Array Value) (e : TypeId) (fr : Nat × Nat) (g o k : Nat) :
    rowAt (w.alloc (.cells c e fr)) g o k = if g = w.heap.size then (if o + k ≤ c.size then some (c.extract o (o + k)) else none) else rowAt w g o k:=by
  by_cases h : g = w.heap.size
  · subst h;unfold rowAt;rw [heap_alloc_new];simp
  · rw [if_neg h];refine rowAt_of_block ?_ o k;show (w.heap.push _)[g]? = _;rw [Array.getElem?_push,if_neg h]
section
variable {P : Program}
theorem run_ldS {t : TypeId} {d : TypeDesc} {k : Nat} (hu : P.underlying t = some d) (hd : (match d with | .struct _ | .array _ _=>true | _=>false) = true) (hi : (P.info? t).map (·.size) = some k) (w : World) (g o : Nat) :
    (ldS t ⟨g,o,none⟩).run P w = match rowAt w g o k with | some cs=>.ok (.agg cs) w | none=>(loadVar t ⟨g,o,none⟩).run P w:=by
  cases h : rowAt w g o k with
  | none=>rfl
  | some cs =>
    have hsz:=rowAt_size h;have hl : (loadCells ⟨g,o,none⟩ cs.toList.length).run P w = .ok cs.toList.toArray w :=
      run_loadCells_list (P:=P) w ⟨g,o,none⟩ cs.toList (fun j v hv=>by
        have hadd : (⟨g,o,none⟩ : Addr).add j = ⟨g,o + j,none⟩:=by unfold Addr.add;split <;> simp_all
        have hj : j < k:=by
          have:=(List.getElem?_eq_some_iff.1 hv).1;simp at this;omega
        rw [hadd,rowAt_cell h hj];simpa using hv)
    simp only [Array.length_toList,hsz] at hl;have hagg : (isAgg t).run P w = .ok true w:=by
      cases d <;> simp_all [isAgg,run_underlying hu]
    unfold ldS loadVar;simp only [Sem.run_bind,hagg,Result.andThen_ok];cases hinfo : P.info? t with
    | none=>rw [hinfo] at hi;cases hi
    | some i =>
      rw [hinfo] at hi;have hk : i.size = k:=by simpa using hi
      simp [sizeOf,typeInfo,hinfo,hk,hl]
theorem setRow_alloc (w : World) (z c : Array Value) (e : TypeId) (fr : Nat × Nat) : (w.alloc (.cells z e fr)).setRow w.heap.size c = w.alloc (.cells c e fr):=by
  show ({ w with heap:=(w.heap.push (.cells z e fr)).modify w.heap.size _ } : World) = { w with heap:=w.heap.push (.cells c e fr) }
  congr 1
  apply Array.ext
  · simp
  · intro i h1 h2;simp only [Array.getElem_modify,Array.getElem_push];by_cases h : w.heap.size = i
    · subst h;simp
    · have hi : i < w.heap.size:=by simp at h1;omega
      simp [h,hi]
theorem run_stS_new {t e : TypeId} {k : Nat} (hi : (P.info? t).map (·.size) = some k) (w : World) (z cs : Array Value) (hz : z.size = k) (hc : cs.size = k) (h1 : ∀ u ∈ cs.toList,u.oneCell' = true) :
    (stS t ⟨w.heap.size,0,none⟩ (.agg cs)).run P (w.alloc (.cells z e)) = .ok () (w.alloc (.cells cs e)):=by
  unfold stS storeVar;cases hinfo : P.info? t with
  | none=>rw [hinfo] at hi;cases hi
  | some i =>
    rw [hinfo] at hi;have hk : i.size = k:=by simpa using hi
    have hst:=run_storeCells_at P w.heap.size 0 e cs.toList 0 z (w.alloc (.cells z e)) (heap_alloc_new w _) (by simp;omega) h1;have hE : (z.toList.take (0 + 0) ++ cs.toList ++ z.toList.drop (0 + 0 + cs.toList.length)).toArray = cs:=by
      rw [List.drop_of_length_le (by simp;omega)]
      simp
    rw [hE,setRow_alloc] at hst;simp [Value.cells,sizeOf,typeInfo,hinfo,hk,hc];exact hst
end
theorem arr_mid (A B C : Array Value) (i j : Nat) (hi : A.size = i) (hj : i + B.size = j) : (A ++ B ++ C).extract i j = B:=by
  subst hi;subst hj;rw [Array.append_assoc];apply Array.ext'
  simp
theorem arr_at (A C : Array Value) (v : Value) (i : Nat) (hi : A.size = i) : (A ++ #[v] ++ C)[i]? = some v:=by
  subst hi;rw [Array.getElem?_append_left (by simp),Array.getElem?_append_right (by omega)]
  simp
theorem fold_seg (v : List Value) : ∀ (A B C : List Value) (n : Nat),B.length = v.length →
    (v.zipIdx n).foldl (fun (cs : Array Value) (p : Value × Nat)=>cs.setIfInBounds (A.length - n + p.2) p.1) (A ++ B ++ C).toArray = (A ++ v ++ C).toArray ∨ A.length < n:=by
  induction v with
  | nil=>intro A B C n h;left;have : B = []:=List.eq_nil_of_length_eq_zero h;subst this;rfl
  | cons u v ih =>
    intro A B C n h
    match B,h with
    | b :: B,h =>
      by_cases hn : A.length < n
      · exact .inr hn
      · left
        have h1:=ih (A ++ [u]) B C (n + 1) (by simpa using h);rcases h1 with h1 | h1
        · simp only [List.zipIdx_cons,List.foldl_cons];have e : (A ++ b :: B ++ C).toArray.setIfInBounds (A.length - n + n) u = (A ++ [u] ++ B ++ C).toArray:=by
            rw [Nat.sub_add_cancel (by omega)]
            simp
          rw [e];have e2 : (A ++ [u]).length - (n + 1) = A.length - n:=by simp
          rw [e2] at h1;rw [h1];simp
        · simp at h1;omega
theorem fill_step {place : Nat → Option (Nat × Nat)} {A B C : Array Value} {i off size : Nat} {v : Value} {rest : List (Nat × Value)} (hp : place i = some (off,size)) (hA : A.size = off) (hB : B.size = size) (hv : v.cells.size = size) :
    Instr.fill place (A ++ B ++ C) ((i,v) :: rest) = Instr.fill place (A ++ v.cells ++ C) rest:=by
  have hd : v.cells.zipIdx.foldl (fun (cs : Array Value) (p : Value × Nat)=>cs.setIfInBounds (off + p.2) p.1) (A ++ B ++ C) = A ++ v.cells ++ C:=by
    have:=fold_seg v.cells.toList A.toList B.toList C.toList 0 (by simp;omega);rcases this with h | h
    · simp only [Array.length_toList,Nat.sub_zero,hA] at h;have eA : (A.toList ++ B.toList ++ C.toList).toArray = A ++ B ++ C:=by apply Array.ext';simp
      have eB : (A.toList ++ v.cells.toList ++ C.toList).toArray = A ++ v.cells ++ C:=by apply Array.ext';simp
      rw [eA,eB] at h;rw [← Array.foldl_toList,Array.toList_zipIdx];exact h
    · omega
  simp only [Instr.fill,hp];rw [if_neg (by simp [hv,hB,hA])];exact congrArg (fun cs=>Instr.fill place cs rest) hd
theorem run_build {P : Program} {t : TypeId} (w : World) (hu : P.underlying t = some (.struct (P.fieldsOf t))) (z : Array Value) (hz : (zeroValue t).run P w = .ok (.agg z) w) (pl : Array (Nat × Nat))
    (hpl : ((P.fieldsOf t).mapM fun (f : Field)=>do pure (f.offset,← sizeOf f.type)).run P w = .ok pl w) (parts : List (Nat × Value)) (cs : Array Value) (hf : Instr.fill (pl[·]?) z parts = some cs) :
    (Instr.build t parts.toArray).run P w = .ok (.agg cs) w:=by
  unfold Instr.build;simp only [Sem.run_bind,hz,Result.andThen_ok,run_underlying hu,hpl,Value.cells,hf,Sem.run_pure]
end
section
open Go.RowKit
structure Id32 where
  l : List UInt8
  h : l.length = 32
def byteC (c : UInt8) : Value:=.int .u8 c.toNat
def idC (x : Id32) : Array Value:=(x.l.map byteC).toArray
theorem Id32.ext' {a b : Id32} (h : a.l = b.l) : a = b:=by cases a;cases b;simp_all
instance : DecidableEq Id32:=fun a b=>if h : a.l = b.l then isTrue (Id32.ext' h) else isFalse (fun e=>h (by rw [e]))
@[simp] theorem idC_size (x : Id32) : (idC x).size = 32:=by simp [idC,x.h]
theorem idC_inj {a b : Id32} (h : idC a = idC b) : a = b:=by
  apply Id32.ext';have h2 : a.l.map byteC = b.l.map byteC:=by simpa [idC] using h
  have inj : ∀ x y : UInt8,byteC x = byteC y → x = y:=fun x y e=>by
    unfold byteC at e;injection e with _ e;exact UInt8.toNat_inj.1 (by omega)
  exact (List.map_inj_right inj).1 h2
def idB (x : Id32) (i : Nat) : Int:=((x.l.getD i 0).toNat : Int)
theorem idB_bd (x : Id32) (i : Nat) : 0 ≤ idB x i ∧ idB x i ≤ 255:=by
  have:=(x.l.getD i 0).toNat_lt;unfold idB;omega
@[go_sem] theorem idC_get (x : Id32) (i : Nat) : (idC x)[i]? = if i < 32 then some (.int .u8 (idB x i)) else none:=by
  by_cases h : i < 32
  · rw [if_pos h];have hl : i < x.l.length:=by rw [x.h];exact h
    simp [idC,idB,byteC,List.getD,hl]
  · rw [if_neg h];exact Array.getElem?_eq_none (by rw [idC_size];omega)
@[go_sem] theorem idC_getElem (x : Id32) (i : Nat) (h : i < (idC x).size) : (idC x)[i]'h = .int .u8 (idB x i):=by
  have h1 : i < 32:=by rw [idC_size] at h;exact h
  have h2:=idC_get x i;rw [if_pos h1,Array.getElem?_eq_getElem h] at h2;exact Option.some.inj h2
@[go_sem] theorem idC_all (x : Id32) : (idC x).extract 0 32 = idC x:=by
  have:=Array.extract_size (xs:=idC x);rwa [idC_size] at this
theorem idC_one (x : Id32) : ∀ u ∈ (idC x).toList,u.oneCell' = true:=by
  intro u hu;simp [idC] at hu;obtain ⟨c,_,rfl⟩:=hu;rfl
def id0 : Id32:=⟨List.replicate 32 0,by simp⟩
section
theorem infoId : (Tryz.prog.info? 24).map (·.size) = some 32:=by kernel_rfl
theorem zeroId_run (w : World) : (zeroValue 24).run Tryz.prog w = .ok (.agg (idC id0)) w:=by
  have h : (Tryz.prog.info? 24).bind (·.zero) = some (.agg (idC id0)):=by kernel_rfl
  cases hi : Tryz.prog.info? 24 with
  | none=>rw [hi] at h;cases h
  | some i =>
    rw [hi] at h;have hz : i.zero = some (.agg (idC id0)):=h;simp [zeroValue,typeInfo,hi,hz]
attribute [go_sem ↓] zeroId_run
@[go_sem ↓] theorem loadId_rw (a : Addr) : loadVar 24 a = ldS 24 a:=rfl
@[go_sem ↓] theorem storeId_rw (a : Addr) (v : Value) : storeVar 24 a v = stS 24 a v:=rfl
@[go_sem] theorem loadId_run (w : World) (g o : Nat) : (ldS 24 ⟨g,o,none⟩).run Tryz.prog w = match rowAt w g o 32 with | some cs=>.ok (.agg cs) w | none=>(loadVar 24 ⟨g,o,none⟩).run Tryz.prog w :=
  run_ldS Tryz.underlying24 rfl infoId w g o
@[go_sem] theorem storeId_run (w : World) (g : Nat) (hg : g = w.heap.size) (z : Array Value) (hz : z.size = 32) (x : Id32) (e : TypeId) : (stS 24 ⟨g,0,none⟩ (.agg (idC x))).run Tryz.prog (w.alloc (.cells z e)) = .ok () (w.alloc (.cells (idC x) e)) :=
  hg ▸ run_stS_new infoId w z (idC x) hz (idC_size x) (idC_one x)
theorem sizeByte (w : World) : (sizeOf 5).run Tryz.prog w = .ok 1 w:=by
  have h : (Tryz.prog.info? 5).map (·.size) = some 1:=by kernel_rfl
  cases hi : Tryz.prog.info? 5 with
  | none=>rw [hi] at h;cases h
  | some i =>
    rw [hi] at h;have hk : i.size = 1:=by simpa using h
    simp [sizeOf,typeInfo,hi,hk]
theorem eqId_in (d : Nat) (x y : Id32) (w : World) : (Op.equalIn (d + 2) 24 (.agg (idC x)) (.agg (idC y))).run Tryz.prog w = .ok (x == y) w:=by
  have e : ∀ z : Id32,idC z = (z.l.map Extern.Stop.cell).toArray:=fun _=>rfl;have hb : (x.l == y.l) = (x == y):=by
    rw [Bool.eq_iff_iff];simp only [beq_iff_eq];exact ⟨Id32.ext',fun h=>by rw [h]⟩
  rw [e x,e y,run_equalIn_bytes (P:=Tryz.prog) w d 24 5 32 Tryz.underlying24 Tryz.underlying5 sizeByte x.l y.l x.h y.h,hb]
@[go_sem ↓] theorem eqId_run (x y : Id32) (w : World) : (Op.equalIn 10000 24 (.agg (idC x)) (.agg (idC y))).run Tryz.prog w = .ok (x == y) w:=eqId_in 9998 x y w
end
end
section
open Go.RowKit
def nU (x : UInt32) : Int:=((x.toNat : Nat) : Int)
@[go_sem] theorem u_xor (x y : UInt32) : bits .xor .u32 (nU x) (nU y) = nU (x ^^^ y):=by
  unfold nU;rw [u32_xor_nat _ _ x.toNat_lt y.toNat_lt,UInt32.toNat_xor]
@[go_sem] theorem u_and (x y : UInt32) : bits .and .u32 (nU x) (nU y) = nU (x &&& y):=by
  unfold nU;rw [u32_and_nat _ _ x.toNat_lt y.toNat_lt,UInt32.toNat_and]
@[go_sem] theorem u_or (x y : UInt32) : bits .or .u32 (nU x) (nU y) = nU (x ||| y):=by
  unfold nU;rw [u32_or_nat _ _ x.toNat_lt y.toNat_lt,UInt32.toNat_or]
@[go_sem] theorem u_add (x y : UInt32) : IntKind.u32.wrap (nU x + nU y) = nU (x + y):=by
  rw [IntKind.wrap_u32',nU,nU,nU,UInt32.toNat_add];omega
@[go_sem] theorem u_not (x : UInt32) : bits .xor .u32 4294967295 (nU x) = nU (~~~x):=by
  have h:=u_xor 4294967295 x;rw [show nU 4294967295 = 4294967295 from rfl] at h;rw [h,show (4294967295 : UInt32) = -1 from rfl,UInt32.neg_one_xor]
theorem u_shr (x : UInt32) (n : Nat) (hn : n < 32) : nU x / 2 ^ n = nU (x >>> UInt32.ofNat n):=by
  rw [nU,nU,UInt32.toNat_shiftRight,UInt32.toNat_ofNat',Nat.mod_eq_of_lt (a:=n) (by omega),Nat.mod_eq_of_lt (a:=n) hn,Nat.shiftRight_eq_div_pow]
  push_cast;rfl
theorem u_shl (x : UInt32) (n : Nat) (hn : n < 32) : IntKind.u32.wrap (nU x * 2 ^ n) = nU (x <<< UInt32.ofNat n):=by
  rw [nU,nU,UInt32.toNat_shiftLeft,UInt32.toNat_ofNat',Nat.mod_eq_of_lt (a:=n) (by omega),Nat.mod_eq_of_lt (a:=n) hn,Nat.shiftLeft_eq,IntKind.wrap_u32',Int.natCast_emod,Int.natCast_mul,Int.natCast_pow];rfl
def rotU (x : UInt32) (n : Nat) : UInt32:=(x >>> UInt32.ofNat n) ||| (x <<< UInt32.ofNat (32 - n))
def sg0 (x : UInt32) : UInt32:=rotU x 7 ^^^ rotU x 18 ^^^ (x >>> 3)
def sg1 (x : UInt32) : UInt32:=rotU x 17 ^^^ rotU x 19 ^^^ (x >>> 10)
def up0 (x : UInt32) : UInt32:=rotU x 2 ^^^ rotU x 13 ^^^ rotU x 22
def up1 (x : UInt32) : UInt32:=rotU x 6 ^^^ rotU x 11 ^^^ rotU x 25
def kU : List UInt32:=[0x428a2f98,0x71374491,0xb5c0fbcf,0xe9b5dba5,0x3956c25b,0x59f111f1,0x923f82a4,0xab1c5ed5,
  0xd807aa98,0x12835b01,0x243185be,0x550c7dc3,0x72be5d74,0x80deb1fe,0x9bdc06a7,0xc19bf174,
  0xe49b69c1,0xefbe4786,0x0fc19dc6,0x240ca1cc,0x2de92c6f,0x4a7484aa,0x5cb0a9dc,0x76f988da,
  0x983e5152,0xa831c66d,0xb00327c8,0xbf597fc7,0xc6e00bf3,0xd5a79147,0x06ca6351,0x14292967,
  0x27b70a85,0x2e1b2138,0x4d2c6dfc,0x53380d13,0x650a7354,0x766a0abb,0x81c2c92e,0x92722c85,
  0xa2bfe8a1,0xa81a664b,0xc24b8b70,0xc76c51a3,0xd192e819,0xd6990624,0xf40e3585,0x106aa070,
  0x19a4c116,0x1e376c08,0x2748774c,0x34b0bcb5,0x391c0cb3,0x4ed8aa4a,0x5b9cca4f,0x682e6ff3,
  0x748f82ee,0x78a5636f,0x84c87814,0x8cc70208,0x90befffa,0xa4506ceb,0xbef9a3f7,0xc67178f2]
def hU : List UInt32:=[0x6a09e667,0xbb67ae85,0x3c6ef372,0xa54ff53a,0x510e527f,0x9b05688c,0x1f83d9ab,0x5be0cd19]
def byU (b : List UInt8) (i : Nat) : UInt32:=(b.getD i 0).toUInt32
def wordU (b : List UInt8) (i : Nat) : UInt32:=((byU b i <<< 24 ||| byU b (i+1) <<< 16) ||| byU b (i+2) <<< 8) ||| byU b (i+3)
def nextU (b : List UInt8) (l : List UInt32) (i : Nat) : UInt32 :=
  if i < 16 then wordU b (4 * i) else l.getD (i - 16) 0 + sg0 (l.getD (i - 15) 0) + l.getD (i - 7) 0 + sg1 (l.getD (i - 2) 0)
def schedU (b : List UInt8) : Nat → List UInt32
  | 0=>[]
  | i + 1=>schedU b i ++ [nextU b (schedU b i) i]
structure StU where
  a : UInt32
  b : UInt32
  c : UInt32
  d : UInt32
  e : UInt32
  f : UInt32
  g : UInt32
  h : UInt32
deriving DecidableEq
def rndU (s : StU) (k w : UInt32) : StU :=
  let t:=s.h + up1 s.e + ((s.e &&& s.f) ^^^ (~~~s.e &&& s.g)) + k + w
  let u:=up0 s.a + (((s.a &&& s.b) ^^^ (s.a &&& s.c)) ^^^ (s.b &&& s.c))
  ⟨t + u,s.a,s.b,s.c,s.d + t,s.e,s.f,s.g⟩
def rndsU (ws : List UInt32) (s : StU) : Nat → StU
  | 0=>s
  | i + 1=>rndU (rndsU ws s i) (kU.getD i 0) (ws.getD i 0)
def addU (s t : StU) : StU:=⟨s.a + t.a,s.b + t.b,s.c + t.c,s.d + t.d,s.e + t.e,s.f + t.f,s.g + t.g,s.h + t.h⟩
def turnU (s : StU) (b : List UInt8) : StU:=addU s (rndsU (schedU b 64) s 64)
def blkU : Nat → StU → List UInt8 → StU
  | 0,s,_=>s
  | n + 1,s,l=>blkU n (turnU s (l.take 64)) (l.drop 64)
def firstU : StU:=⟨0x6a09e667,0xbb67ae85,0x3c6ef372,0xa54ff53a,0x510e527f,0x9b05688c,0x1f83d9ab,0x5be0cd19⟩
def lenU (n : Nat) : List UInt8:=(List.range 8).map fun i=>UInt8.ofNat (n * 8 % 18446744073709551616 / 2 ^ (8 * (7 - i)))
def padU (n : Nat) : List UInt8:=128 :: (List.replicate ((119 - n % 64) % 64) 0 ++ lenU n)
def b4U (x : UInt32) : List UInt8:=[(x >>> 24).toUInt8,(x >>> 16).toUInt8,(x >>> 8).toUInt8,x.toUInt8]
def outU (s : StU) : List UInt8:=b4U s.a ++ b4U s.b ++ b4U s.c ++ b4U s.d ++ b4U s.e ++ b4U s.f ++ b4U s.g ++ b4U s.h
def shaU (l : List UInt8) : List UInt8:=outU (blkU ((l ++ padU l.length).length / 64) firstU (l ++ padU l.length))
theorem schedU_length (b : List UInt8) : ∀ n,(schedU b n).length = n
  | 0=>rfl
  | n + 1=>by rw [schedU,List.length_append,schedU_length b n];rfl
theorem getD_appL {α : Type} (d : α) (l m : List α) {j : Nat} (h : j < l.length) : (l ++ m).getD j d = l.getD j d:=by rw [List.getD_eq_getElem?_getD,List.getD_eq_getElem?_getD,List.getElem?_append_left h]
def wsU (b : List UInt8) (n : Nat) : List UInt32:=schedU b n ++ List.replicate (64 - n) 0
theorem wsU_length (b : List UInt8) {n : Nat} (h : n ≤ 64) : (wsU b n).length = 64:=by rw [wsU,List.length_append,schedU_length,List.length_replicate];omega
theorem wsU_get (b : List UInt8) {n j : Nat} (h : j < n) : (wsU b n).getD j 0 = (schedU b n).getD j 0:=getD_appL _ _ _ (by rw [schedU_length];omega)
theorem wsU_set (b : List UInt8) {n : Nat} (h : n < 64) : (wsU b n).set n (nextU b (schedU b n) n) = wsU b (n + 1):=by
  unfold wsU;rw [List.set_append_right _ _ (by rw [schedU_length];omega),schedU_length,Nat.sub_self,show 64 - n = (64 - (n + 1)) + 1 by omega,List.replicate_succ,List.set_cons_zero,schedU,List.append_assoc];rfl
theorem wsU_all (b : List UInt8) : wsU b 64 = schedU b 64:=by simp [wsU]
theorem blkU_add (m : Nat) : ∀ (n : Nat) (s : StU) (l : List UInt8),blkU (n + m) s l = blkU m (blkU n s l) (l.drop (64 * n))
  | 0,s,l=>by simp [blkU]
  | n + 1,s,l=>by
    rw [show n + 1 + m = (n + m) + 1 by omega,blkU,blkU,blkU_add m n,List.drop_drop,show 64 + 64 * n = 64 * (n + 1) by omega]
theorem blkU_app (p : List UInt8) : ∀ (n : Nat) (s : StU) (l : List UInt8),64 * n ≤ l.length → blkU n s (l ++ p) = blkU n s l
  | 0,_,_,_=>rfl
  | n + 1,s,l,h=>by
    rw [blkU,blkU,List.take_append_of_le_length (by omega),List.drop_append_of_le_length (by omega),blkU_app p n _ _ (by rw [List.length_drop];omega)]
theorem blkU_snoc (n : Nat) (s : StU) (l : List UInt8) : blkU (n + 1) s l = turnU (blkU n s l) ((l.drop (64 * n)).take 64):=by
  rw [blkU_add 1 n];rfl
theorem lenU_length (n : Nat) : (lenU n).length = 8:=by simp [lenU]
theorem padU_length (n : Nat) : (padU n).length = 9 + (119 - n % 64) % 64:=by simp [padU,lenU_length];omega
theorem padU_whole (n : Nat) : (n + (padU n).length) % 64 = 0:=by rw [padU_length];omega
theorem shaU_parts (l : List UInt8) :
    shaU l = outU (blkU (((l.drop (64 * (l.length / 64))) ++ padU l.length).length / 64) (blkU (l.length / 64) firstU l) ((l.drop (64 * (l.length / 64))) ++ padU l.length)):=by
  unfold shaU;have h1:=padU_whole l.length;have h2 : (l ++ padU l.length).length / 64 = l.length / 64 + ((l.drop (64 * (l.length / 64))) ++ padU l.length).length / 64:=by
    simp only [List.length_append,List.length_drop] at *;omega
  rw [h2,blkU_add,blkU_app _ _ _ _ (by omega),List.drop_append_of_le_length (by omega)]
theorem b4U_length (x : UInt32) : (b4U x).length = 4:=rfl
theorem outU_length (s : StU) : (outU s).length = 32:=by simp [outU,b4U_length]
def shaI (l : List UInt8) : Id32:=⟨shaU l,outU_length _⟩
end
section
open Go.RowKit
def chainOp (cv : Bool) (o : Oper) : Bool :=
  match o.op with
  | .call c=>(match c.callee with | .builtin .len=>false | .builtin .cap=>false | _=>true)
  | .alloc _ | .box _ _ | .buildSlice _ _ _ | .store _ _ _ | .insert _ _ _ _ | .mapUpdate _ _ _ _ | .mapEntry _ _ _ | .entryStore _ _ _ _ | .makeMap _ _ | .makeChan _ _ | .makeSlice _ _ _ | .range _ _ | .next _ _=>true
  | .convert _ _ _=>cv
  | _=>false
def chainAt (cv : Bool) (ops : Array Oper) (i : Nat) : Bool:=((ops[i]?).map (chainOp cv)).getD false
def waitsB (md : Region.Mode) (ops : Array Oper) (j p : Nat) : Bool :=
  match ops[j]? with
  | some oj=>oj.after.any fun e=>Region.binds md e && e.on == p
  | none=>false
def chainB (md : Region.Mode) (cv : Bool) (ops : Array Oper) : Bool :=
  (List.range ops.size).all fun j=>!chainAt cv ops j || (match (List.range j).reverse.find? (chainAt cv ops) with | some p=>waitsB md ops j p | none=>true)
section
variable {P : Program} {ops : Array Oper} {md : Region.Mode} {S : World → Prop} {cv fb : Bool}
def looseRes (w : World) (v : Value) : Result Next → Prop
  | .ok (.value u) w'=>w' = w ∧ u = v
  | .ok .skip w'=>w' = w ∧ v = undef
  | _=>False
theorem looseRes_uniq {w : World} {v u : Value} {r : Result Next} (h : looseRes w v r) (k : looseRes w u r) : v = u:=by
  cases r with
  | ok n w'=>cases n <;> simp only [looseRes] at h k <;> first | exact h.2.symm.trans k.2 | exact h.2.trans k.2.symm | exact h.elim
  | halt x w'=>exact h.elim
def chainRes (P : Program) (S : World → Prop) (K : Value → World → Prop) : Result Next → Prop
  | .ok (.value u) w'=>S w' ∧ K u w'
  | .ok .skip w'=>S w' ∧ K undef w'
  | .ok (.enter f args) w'=>Calls P f args w' (fun e w''=>∃ v,e = .returned v ∧ S w'' ∧ K v w'')
  | _=>False
theorem chainRes_mono {K K' : Value → World → Prop} {r : Result Next} (hk : ∀ v w,S w → K v w → K' v w) (h : chainRes P S K r) : chainRes P S K' r:=by
  cases r with
  | ok n w' =>
    cases n <;> simp only [chainRes] at h ⊢
    case value u=>exact ⟨h.1,hk _ _ h.1 h.2⟩
    case skip=>exact ⟨h.1,hk _ _ h.1 h.2⟩
    case enter f args=>exact h.mono fun e w'' ⟨v,he,hs,h2⟩=>⟨v,he,hs,hk _ _ hs h2⟩
  | halt x w'=>exact h.elim
theorem chainRes_weaken {S' : World → Prop} {K K' : Value → World → Prop} {r : Result Next} (hs : ∀ w,S w → S' w) (hk : ∀ v w,S w → K v w → K' v w) (h : chainRes P S K r) : chainRes P S' K' r:=by
  cases r with
  | ok n w' =>
    cases n <;> simp only [chainRes] at h ⊢
    case value u=>exact ⟨hs _ h.1,hk _ _ h.1 h.2⟩
    case skip=>exact ⟨hs _ h.1,hk _ _ h.1 h.2⟩
    case enter f args=>exact h.mono fun e w'' ⟨v,he,hs',h2⟩=>⟨v,he,hs _ hs',hk _ _ hs' h2⟩
  | halt x w'=>exact h.elim
theorem chainRes_some {K : Value → World → Prop} {r : Result Next} (h : chainRes P S K r) : ∃ v w,S w ∧ K v w:=by
  cases r with
  | ok n w' =>
    cases n <;> simp only [chainRes] at h
    case value u=>exact ⟨_,_,h.1,h.2⟩
    case skip=>exact ⟨_,_,h.1,h.2⟩
    case enter f args =>
      obtain ⟨e,w'',fr,⟨v,_,hs,hk⟩,_⟩:=h [];exact ⟨v,w'',hs,hk⟩
  | halt x w'=>exact h.elim
def cls (ops : Array Oper) (S : World → Prop) (fb : Bool) (i : Nat) : World → Prop:=fun w=>S w ∨ (fb = true ∧ i + 1 = ops.size)
def endB (md : Region.Mode) (ops : Array Oper) : Bool:=decide (0 < ops.size) && Region.sinkB md ops (ops.size - 1)
def lxOp (P : Program) (ops : Array Oper) (S : World → Prop) (cv fb : Bool) (i : Nat) (K : Act → World → Prop) (a : Act) (w : World) : Prop :=
  match ops[i]? with
  | none=>K a w
  | some o =>
    if Region.wanted o (yielded ops a.tmps) then
      (if chainOp cv o then chainRes P (cls ops S fb i) (fun v w'=>K (a.put o.dst v) w') ((execOp a.eval o).run P w)
       else ∃ v,(∀ w',S w' → looseRes w' v ((execOp a.eval o).run P w')) ∧ K (a.put o.dst v) w)
    else K (a.put o.dst undef) w
theorem lxOp_mono {i : Nat} {a : Act} {w : World} {K K' : Act → World → Prop} (hS : S w) (h : ∀ a w,cls ops S fb i w → K a w → K' a w) (hh : lxOp P ops S cv fb i K a w) : lxOp P ops S cv fb i K' a w:=by
  have hSi : cls ops S fb i w:=.inl hS;unfold lxOp at *;split
  · exact h _ _ hSi (by simpa [*] using hh)
  · rename_i o ho
    simp only [ho] at hh;split
    · rename_i hw
      rw [if_pos hw] at hh;split
      · rename_i hc;rw [if_pos hc] at hh;exact chainRes_mono (fun v w hs hk=>h _ _ hs hk) hh
      · rename_i hc;rw [if_neg hc] at hh;obtain ⟨v,h1,h2⟩:=hh;exact ⟨v,h1,h _ _ hSi h2⟩
    · rename_i hw;rw [if_neg hw] at hh;exact h _ _ hSi hh
def wpAnyX (P : Program) (md : Region.Mode) (ops : Array Oper) (S : World → Prop) (cv fb : Bool) (Q : Act → World → Prop) : Nat → Array Bool → Act → World → Prop
  | 0,listed,a,w=>Region.ready md ops listed = [] ∧ Q a w
  | fuel + 1,listed,a,w =>
    (Region.ready md ops listed = [] → Q a w) ∧
    ∀ i ∈ Region.ready md ops listed,lxOp P ops S cv fb i (wpAnyX P md ops S cv fb Q fuel (listed.setIfInBounds i true)) a w
theorem wpOp_of_lxOp {Q' : Exit → Act → World → Prop} {i : Nat} {a : Act} {w : World} {K K' : Act → World → Prop} (hS : S w) (h : ∀ a w,cls ops S fb i w → K a w → K' a w) (hh : lxOp P ops S cv fb i K a w) : wpOp P ops Q' i K' a w:=by
  have hSi : cls ops S fb i w:=.inl hS;unfold lxOp at hh;unfold wpOp;split
  · rename_i ho;simp only [ho] at hh;exact h _ _ hSi hh
  · rename_i o ho
    simp only [ho] at hh;split
    · rename_i hw
      rw [if_pos hw] at hh;refine .inl ?_;unfold Oper.wp;split at hh
      · generalize (execOp a.eval o).run P w = r at *;cases r with
        | ok n w' =>
          cases n <;> simp only [chainRes] at hh <;> simp only [Oper.upon]
          case value u=>exact h _ _ hh.1 hh.2
          case skip=>exact h _ _ hh.1 hh.2
          case enter f args=>exact hh.mono fun e w'' ⟨v,he,hs,hk⟩=>by subst he;exact h _ _ hs hk
        | halt x w'=>exact hh.elim
      · obtain ⟨v,h1,h2⟩:=hh;have h3:=h1 w hS;generalize (execOp a.eval o).run P w = r at *;cases r with
        | ok n w' =>
          cases n <;> simp only [looseRes] at h3 <;> simp only [Oper.upon]
          case value u=>obtain ⟨e1,e2⟩:=h3;rw [e1,e2];exact h _ _ hSi h2
          case skip=>obtain ⟨e1,e2⟩:=h3;rw [e1,← e2];exact h _ _ hSi h2
        | halt x w'=>exact h3.elim
    · rename_i hw;rw [if_neg hw] at hh;exact h _ _ hSi hh
structure EndInv (md : Region.Mode) (ops : Array Oper) (fb : Bool) (listed : Array Bool) : Prop where
  inv : fb = true → endB md ops = true ∧ (HeadInv md ops (ops.size - 1) listed ∨ Region.ready md ops listed = [])
theorem EndInv.end_ {listed : Array Bool} (h : EndInv md ops fb listed) (hfb : fb = true) {i : Nat} (hi : i ∈ Region.ready md ops listed) (he : i + 1 = ops.size) : ∀ j ∈ Region.ready md ops listed,j = i:=by
  obtain ⟨hB,h1⟩:=h.inv hfb;rcases h1 with h1 | h1
  · intro j hj;simp only [endB,Bool.and_eq_true,decide_eq_true_eq] at hB;obtain ⟨hjun,oj,hoj,_⟩:=mem_ready.1 hj;have hjs : j < ops.size:=(Array.getElem?_eq_some_iff.1 hoj).1;rcases Nat.lt_or_ge j i with hlt | hge
    · exfalso
      have hch : Region.chainB md ops (ops.size - 1) = true:=by
        unfold Region.chainB;rw [List.all_eq_true];intro t ht;have:=List.mem_range.1 ht
        simp;left;omega
      exact tail_waits hB.2 hch (by omega) h1 (ops.size - 1 - j) j rfl (by omega) hjun i (by omega) hi
    · omega
  · rw [h1] at hi;cases hi
theorem EndInv.set {listed : Array Bool} (h : EndInv md ops fb listed) {i : Nat} (hi : i ∈ Region.ready md ops listed) : EndInv md ops fb (listed.setIfInBounds i true):=by
  refine ⟨fun hfb=>?_⟩;obtain ⟨hB,h1⟩:=h.inv hfb;refine ⟨hB,?_⟩;rcases h1 with h1 | h1
  · by_cases he : i + 1 = ops.size
    · right
      have hall:=h.end_ hfb hi he;apply List.eq_nil_iff_forall_not_mem.2;intro j hj;obtain ⟨hjun,oj,hoj,hallj⟩:=mem_ready.1 hj;have hjs : j < ops.size:=(Array.getElem?_eq_some_iff.1 hoj).1;have hji : j ≠ i:=by
        rintro rfl;have hsz : j < listed.size:=by rw [h1.size];exact hjs
        simp [hsz] at hjun
      simp only [endB,Bool.and_eq_true,decide_eq_true_eq] at hB;have hch : Region.chainB md ops (ops.size - 1) = true:=by
        unfold Region.chainB;rw [List.all_eq_true];intro t ht;have:=List.mem_range.1 ht
        simp;left;omega
      rw [getD_set_ne true (Ne.symm hji)] at hjun;exact tail_waits hB.2 hch (by omega) h1 (ops.size - 1 - j) j rfl (by omega) hjun i (by omega) hi
    · left
      obtain ⟨_,oi,hoi,_⟩:=mem_ready.1 hi;have his : i < ops.size:=(Array.getElem?_eq_some_iff.1 hoi).1;exact h1.set hi (by omega)
  · rw [h1] at hi;cases hi
theorem EndInv.cls {listed : Array Bool} {w : World} (h : EndInv md ops fb listed) {i j : Nat} (hi : i ∈ Region.ready md ops listed) (hj : j ∈ Region.ready md ops listed) (hji : j ≠ i) (hc : cls ops S fb j w) : S w:=by
  rcases hc with hc | ⟨hfb,he⟩
  · exact hc
  · exact absurd (h.end_ hfb hj he i hi).symm hji
theorem wpAny_of_X {Q : Act → World → Prop} {Q' : Exit → Act → World → Prop} (hQ : ∀ a w,(S w ∨ fb = true) → Q a w → Q' .normal a w) : ∀ (fuel : Nat) (listed : Array Bool) (a : Act) (w : World),EndInv md ops fb listed → (S w ∨ (fb = true ∧ Region.ready md ops listed = [])) →
    wpAnyX P md ops S cv fb Q fuel listed a w → wpAny P md ops Q' fuel listed a w
  | 0,_,_,_,_,hS,h=>⟨h.1,hQ _ _ (hS.imp id (·.1)) h.2⟩
  | fuel + 1,listed,_,_,hI,hS,h=>⟨fun h0=>hQ _ _ (hS.imp id (·.1)) (h.1 h0),fun i hi=>by
      rcases hS with hS | ⟨_,h0⟩
      · refine wpOp_of_lxOp hS (fun a' w' hS'=>wpAny_of_X hQ fuel _ a' w' (hI.set hi) ?_) (h.2 i hi);rcases hS' with hS' | ⟨hfb,he⟩
        · exact .inl hS'
        · right
          refine ⟨hfb,?_⟩;rcases ((hI.set hi).inv hfb).2 with h1 | h1
          · exfalso
            have:=h1.tail i (by omega) (by omega);have hsz : i < (listed.setIfInBounds i true).size:=by rw [h1.size];omega
            have hsz' : i < listed.size:=by simpa using hsz
            simp [hsz'] at this
          · exact h1
      · rw [h0] at hi;cases hi⟩
def YieldsX (P : Program) (ops : Array Oper) (S : World → Prop) (cv : Bool) (o : Oper) (v : Value) (a : Act) : Prop :=
  (Region.wanted o (yielded ops a.tmps) = true ∧ chainOp cv o = false ∧ ∀ w,S w → looseRes w v ((execOp a.eval o).run P w)) ∨
  (Region.wanted o (yielded ops a.tmps) = false ∧ v = undef)
theorem YieldsX.lxOp {i : Nat} {o : Oper} {v : Value} {a : Act} {w : World} (hi : ops[i]? = some o) (hy : YieldsX P ops S cv o v a) {K : Act → World → Prop} (h : K (a.put o.dst v) w) : lxOp P ops S cv fb i K a w:=by
  unfold Proofs.YtgedpfebepdcmaaGreatDoor.lxOp;simp only [hi];rcases hy with ⟨hw,hc,hv⟩ | ⟨hw,rfl⟩
  · rw [if_pos hw,hc];exact ⟨v,hv,h⟩
  · rw [if_neg (by rw [hw];simp)];exact h
theorem YieldsX.of_same {o : Oper} {v : Value} {a a' : Act} (hy : YieldsX P ops S cv o v a) (he : execOp a'.eval o = execOp a.eval o)
    (hw : Region.wanted o (yielded ops a'.tmps) = Region.wanted o (yielded ops a.tmps)) : YieldsX P ops S cv o v a':=by
  unfold YieldsX at *;rw [he,hw];exact hy
theorem YieldsX.uniq {o : Oper} {v u : Value} {a : Act} {w : World} (hS : S w) (h : YieldsX P ops S cv o v a) (k : YieldsX P ops S cv o u a) : v = u:=by
  rcases h with ⟨h1,_,h2⟩ | ⟨h1,h2⟩ <;> rcases k with ⟨k1,_,k2⟩ | ⟨k1,k2⟩
  · exact looseRes_uniq (h2 w hS) (k2 w hS)
  · rw [h1] at k1;cases k1
  · rw [h1] at k1;cases k1
  · rw [h2,k2]
theorem lxOp_put {j : Nat} {oi oj : Oper} {v : Value} (hj : ops[j]? = some oj) (hap : oi.apart ops oj = true)
    (hsi : ∀ cs b,oi.op ≠ .select cs b) (hsj : ∀ cs b,oj.op ≠ .select cs b) {K : Act → World → Prop} {a : Act} {w : World}
    (hy : YieldsX P ops S cv oi v a) (h : lxOp P ops S cv fb j K (a.put oi.dst v) w) :
    lxOp P ops S cv fb j (fun a' w'=>YieldsX P ops S cv oi v a' ∧ K (a'.put oi.dst v) w') a w:=by
  obtain ⟨h1,h2,h3⟩:=Oper.apart_spec hap;have keep : ∀ (a : Act),YieldsX P ops S cv oi v a → ∀ u,YieldsX P ops S cv oi v (a.put oj.dst u):=fun a hy u =>
    hy.of_same (execOp_put oi hsi a oj.dst u h3) (wanted_put oi a oj.dst u h3)
  unfold lxOp at *;simp only [hj] at *;rw [wanted_put oj a oi.dst v h1,execOp_put oj hsj a oi.dst v h1] at h;split
  · rename_i hw
    rw [if_pos hw] at h;split
    · rename_i hc
      rw [if_pos hc] at h;exact chainRes_mono (fun u w' _ hk=>⟨keep a hy u,by rw [← Act.put_comm a v u h2];exact hk⟩) h
    · rename_i hc
      rw [if_neg hc] at h;obtain ⟨u,hu,hk⟩:=h;exact ⟨u,hu,keep a hy u,by rw [← Act.put_comm a v u h2];exact hk⟩
  · rename_i hw
    rw [if_neg hw] at h;exact ⟨keep a hy _,by rw [← Act.put_comm a v undef h2];exact h⟩
theorem X_first_loose {Q : Act → World → Prop} {i : Nat} {oi : Oper} {v : Value} (hi : ops[i]? = some oi) (hsel : ∀ (j : Nat) (o : Oper) cs b,ops[j]? = some o → o.op ≠ .select cs b) :
    ∀ (fuel : Nat) (listed : Array Bool) (a : Act) (w : World),EndInv md ops fb listed → S w →
      (∀ j oj,ops[j]? = some oj → j ≠ i → listed.getD j true = false → (∀ e ∈ oj.after,Region.binds md e = true → e.on ≠ i) → oi.apart ops oj = true) →
      i ∈ Region.ready md ops listed → YieldsX P ops S cv oi v a →
      wpAnyX P md ops S cv fb Q fuel (listed.setIfInBounds i true) (a.put oi.dst v) w → wpAnyX P md ops S cv fb Q (fuel + 1) listed a w:=by
  intro fuel;induction fuel with
  | zero =>
    intro listed a w _ _ _ hr hy H;refine ⟨fun h=>(by rw [h] at hr;cases hr),fun j hj=>?_⟩;by_cases hji : j = i
    · subst hji;exact hy.lxOp hi H
    · have:=ready_mono hj hji;rw [H.1] at this;cases this
  | succ fuel ih =>
    intro listed a w hI hS hfree hr hy H;refine ⟨fun h=>(by rw [h] at hr;cases hr),fun j hj=>?_⟩;by_cases hji : j = i
    · subst hji;exact hy.lxOp hi H
    · have h1:=H.2 j (ready_mono hj hji);obtain ⟨hjun,oj,hoj,hall⟩:=mem_ready.1 hj;have hnot : ∀ e ∈ oj.after,Region.binds md e = true → e.on ≠ i:=fun e he hb heq=>by
        have h1:=hall e he hb;have h0:=(mem_ready.1 hr).1;rw [heq] at h1;rcases Nat.lt_or_ge i listed.size with h' | h'
        · simp [h'] at h0 h1;rw [h0] at h1;cases h1
        · simp [Array.getElem?_eq_none h'] at h1
      have h2:=lxOp_put hoj (hfree j oj hoj hji hjun hnot) (fun cs b=>hsel i oi cs b hi) (fun cs b=>hsel j oj cs b hoj) hy h1;have hfree' : ∀ k ok,ops[k]? = some ok → k ≠ i → (listed.setIfInBounds j true).getD k true = false →
          (∀ e ∈ ok.after,Region.binds md e = true → e.on ≠ i) → oi.apart ops ok = true:=fun k ok hk hki hun hno=>by
        refine hfree k ok hk hki ?_ hno;by_cases hjk : j = k
        · subst hjk;exact hjun
        · rw [getD_set_ne true hjk] at hun;exact hun
      refine lxOp_mono hS (fun a' w' hS' h3=>ih (listed.setIfInBounds j true) a' w' (hI.set hj) (hI.cls hr hj hji hS') hfree' (ready_mono hr (Ne.symm hji)) h3.1 ?_) h2;rw [Array.setIfInBounds_comm _ _ hji];exact h3.2
theorem X_first_chain {Q : Act → World → Prop} {i : Nat} {oi : Oper} (hi : ops[i]? = some oi) (hc : chainOp cv oi = true) (hsel : ∀ (j : Nat) (o : Oper) cs b,ops[j]? = some o → o.op ≠ .select cs b)
    (hch : chainB md cv ops = true) :
    ∀ (fuel : Nat) (listed : Array Bool) (a : Act) (w : World),EndInv md ops fb listed → S w →
      (∀ j oj,ops[j]? = some oj → j ≠ i → listed.getD j true = false → (∀ e ∈ oj.after,Region.binds md e = true → e.on ≠ i) → oi.apart ops oj = true) →
      (∀ j,chainAt cv ops j = true → (j < i → listed.getD j true = true) ∧ (i ≤ j → listed.getD j false = false)) →
      i ∈ Region.ready md ops listed → Region.wanted oi (yielded ops a.tmps) = true →
      chainRes P (cls ops S fb i) (fun v w'=>wpAnyX P md ops S cv fb Q fuel (listed.setIfInBounds i true) (a.put oi.dst v) w') ((execOp a.eval oi).run P w) → wpAnyX P md ops S cv fb Q (fuel + 1) listed a w:=by
  have key : ∀ (listed : Array Bool),(∀ j,chainAt cv ops j = true → (j < i → listed.getD j true = true) ∧ (i ≤ j → listed.getD j false = false)) →
      ∀ j ∈ Region.ready md ops listed,j ≠ i → ∀ oj,ops[j]? = some oj → chainOp cv oj = false:=by
    intro listed hinv j hj hji oj hoj;cases hcj : chainOp cv oj with
    | false=>rfl
    | true =>
      exfalso
      have hcat : chainAt cv ops j = true:=by unfold chainAt;rw [hoj];exact hcj
      have hciat : chainAt cv ops i = true:=by unfold chainAt;rw [hi];exact hc
      obtain ⟨hjun,o',ho',hall⟩:=mem_ready.1 hj;obtain ⟨i1,i2⟩:=hinv j hcat;rcases Nat.lt_or_ge j i with hlt | hge
      · rw [i1 hlt] at hjun;cases hjun
      · have hgt : i < j:=by omega
        have hjs : j < ops.size:=(Array.getElem?_eq_some_iff.1 hoj).1;have h1:=List.all_eq_true.1 hch j (List.mem_range.2 hjs);rw [hcat] at h1;simp only [Bool.not_true,Bool.false_or] at h1;cases hf : (List.range j).reverse.find? (chainAt cv ops) with
        | none =>
          have:=List.find?_eq_none.1 hf i (by simp;omega);exact this hciat
        | some p =>
          rw [hf] at h1;have hp1 : chainAt cv ops p = true:=List.find?_some hf;have hpi : i ≤ p:=by
            rcases Nat.lt_or_ge p i with hlt | hge'
            · exfalso
              have hrev : (List.range j).reverse = ((List.range j).reverse.take (j - 1 - i)) ++ (i :: (List.range j).reverse.drop (j - i)):=by
                apply List.ext_getElem?;intro n;have hle : ((List.range j).reverse.take (j - 1 - i)).length = j - 1 - i:=by simp;omega
                by_cases h1n : n < j - 1 - i
                · rw [List.getElem?_append_left (by omega),List.getElem?_take,if_pos h1n]
                · rw [List.getElem?_append_right (by omega),hle];by_cases h2n : n = j - 1 - i
                  · subst h2n;rw [Nat.sub_self,List.getElem?_cons_zero,List.getElem?_reverse (by simp;omega)];simp only [List.length_range];rw [List.getElem?_range (by omega)];congr 1;omega
                  · have : n - (j - 1 - i) = (n - (j - i)) + 1:=by omega
                    rw [this,List.getElem?_cons_succ,List.getElem?_drop];congr 1;omega
              rw [hrev,List.find?_append] at hf;cases ht : ((List.range j).reverse.take (j - 1 - i)).find? (chainAt cv ops) with
              | some q =>
                rw [ht] at hf;have e : q = p:=by simpa using hf
                subst e;have hm:=List.mem_of_find?_eq_some ht;obtain ⟨n,hn,hq⟩:=List.mem_iff_getElem.1 hm;simp only [List.getElem_take,List.getElem_reverse,List.getElem_range,List.length_range] at hq;simp at hn;omega
              | none =>
                rw [ht] at hf;simp only [Option.none_or,List.find?_cons,hciat] at hf;have e : i = p:=by simpa using hf
                omega
            · exact hge'
          unfold waitsB at h1;rw [hoj] at h1;obtain ⟨e,he,hb⟩:=Array.any_eq_true'.1 h1;simp only [Bool.and_eq_true,beq_iff_eq] at hb;have e2 : o' = oj:=Option.some.inj (ho'.symm.trans hoj);subst e2;have h3:=hall e he hb.1;rw [hb.2,(hinv p hp1).2 hpi] at h3;cases h3
  intro fuel;induction fuel with
  | zero =>
    intro listed a w hI hS hfree hinv hr hw H;refine ⟨fun h=>(by rw [h] at hr;cases hr),fun j hj=>?_⟩;by_cases hji : j = i
    · subst hji;unfold lxOp;simp only [hi];rw [if_pos hw,if_pos hc];exact H
    · obtain ⟨v,w',_,hK⟩:=chainRes_some H;have:=ready_mono hj hji;rw [hK.1] at this;cases this
  | succ fuel ih =>
    intro listed a w hI hS hfree hinv hr hw H;refine ⟨fun h=>(by rw [h] at hr;cases hr),fun j hj=>?_⟩;by_cases hji : j = i
    · subst hji;unfold lxOp;simp only [hi];rw [if_pos hw,if_pos hc];exact H
    · obtain ⟨hjun,oj,hoj,hall⟩:=mem_ready.1 hj;have hcj:=key listed hinv j hj hji oj hoj;have hnot : ∀ e ∈ oj.after,Region.binds md e = true → e.on ≠ i:=fun e he hb heq=>by
        have h1:=hall e he hb;have h0:=(mem_ready.1 hr).1;rw [heq] at h1;rcases Nat.lt_or_ge i listed.size with h' | h'
        · simp [h'] at h0 h1;rw [h0] at h1;cases h1
        · simp [Array.getElem?_eq_none h'] at h1
      have hap:=hfree j oj hoj hji hjun hnot;obtain ⟨h1,h2,h3⟩:=Oper.apart_spec hap;have hsi:=fun cs b=>hsel i oi cs b hi;have hsj:=fun cs b=>hsel j oj cs b hoj;have both : ∀ u w',True → wpAnyX P md ops S cv fb Q (fuel + 1) (listed.setIfInBounds i true) (a.put oi.dst u) w' →
          ∃ v,YieldsX P ops S cv oj v a ∧ wpAnyX P md ops S cv fb Q fuel ((listed.setIfInBounds i true).setIfInBounds j true) ((a.put oi.dst u).put oj.dst v) w':=by
        intro u w' _ hK;have hx:=hK.2 j (ready_mono hj hji);unfold lxOp at hx;simp only [hoj] at hx;rw [wanted_put oj a oi.dst u h1,execOp_put oj hsj a oi.dst u h1,hcj] at hx;by_cases hwj : Region.wanted oj (yielded ops a.tmps) = true
        · rw [if_pos hwj] at hx;obtain ⟨v,hv,hk⟩:=hx;exact ⟨v,.inl ⟨hwj,hcj,hv⟩,hk⟩
        · rw [if_neg hwj] at hx;exact ⟨undef,.inr ⟨by simpa using hwj,rfl⟩,hx⟩
      obtain ⟨u0,w0,hS0,hK0⟩:=chainRes_some H;obtain ⟨v,hy,_⟩:=both u0 w0 trivial hK0;refine hy.lxOp hoj ?_;have hfree' : ∀ k ok,ops[k]? = some ok → k ≠ i → (listed.setIfInBounds j true).getD k true = false →
          (∀ e ∈ ok.after,Region.binds md e = true → e.on ≠ i) → oi.apart ops ok = true:=fun k ok hk hki hun hno=>by
        refine hfree k ok hk hki ?_ hno;by_cases hjk : j = k
        · subst hjk;exact hjun
        · rw [getD_set_ne true hjk] at hun;exact hun
      have hinv' : ∀ k,chainAt cv ops k = true → (k < i → (listed.setIfInBounds j true).getD k true = true) ∧ (i ≤ k → (listed.setIfInBounds j true).getD k false = false):=fun k hk=>by
        have hjk : j ≠ k:=by
          rintro rfl;have : chainAt cv ops j = chainOp cv oj:=by unfold chainAt;rw [hoj];rfl
          rw [this,hcj] at hk;cases hk
        rw [getD_set_ne true hjk,getD_set_ne false hjk];exact hinv k hk
      refine ih (listed.setIfInBounds j true) _ w (hI.set hj) hS hfree' hinv' (ready_mono hr (Ne.symm hji)) ?_ ?_
      · rw [wanted_put oi a oj.dst v h3];exact hw
      · rw [execOp_put oi hsi a oj.dst v h3];refine chainRes_mono (fun u w' hs hk=>?_) H;obtain ⟨v',hy',hk'⟩:=both u w' trivial hk;obtain rfl:=YieldsX.uniq hS hy hy';rw [Array.setIfInBounds_comm _ _ hji,← Act.put_comm a u v h2];exact hk'
def wpL0 (P : Program) (ops : Array Oper) (S : World → Prop) (cv fb : Bool) (Q : Act → World → Prop) : List Oper → Act → World → Prop
  | [],a,w=>Q a w
  | o :: rest,a,w =>
    if Region.wanted o (yielded ops a.tmps) then
      (if chainOp cv o then S w → chainRes P (fun w'=>S w' ∨ (fb = true ∧ rest = [])) (fun v w'=>wpL0 P ops S cv fb Q rest (a.put o.dst v) w') ((execOp a.eval o).run P w)
       else ∃ v,(∀ w',S w' → looseRes w' v ((execOp a.eval o).run P w')) ∧ wpL0 P ops S cv fb Q rest (a.put o.dst v) w)
    else wpL0 P ops S cv fb Q rest (a.put o.dst undef) w
theorem wpAnyX_lex {Q : Act → World → Prop} (hs : Region.noSelect ops = true) (hch : chainB md cv ops = true) : ∀ (l : List Oper) (k : Nat) (listed : Array Bool) (a : Act) (w : World),EndInv md ops fb listed → S w → (∀ j,l[j]? = ops[k + j]?) →
    (∀ j,j < ops.size → listed[j]? = some (decide (j < k))) →
    Region.lexFrom md ops l.length k listed = true → wpL0 P ops S cv fb Q l a w → wpAnyX P md ops S cv fb Q l.length listed a w
  | [],_,_,_,_,_,_,_,_,hB,h=>⟨by simpa [Region.lexFrom] using hB,h⟩
  | o :: l,k,listed,a,w,hI,hS,hl,hlst,hB,h=>by
    have h0 : ops[k]? = some o:=by simpa using (hl 0).symm
    have hk : k < ops.size:=(Array.getElem?_eq_some_iff.1 h0).1;simp only [List.length_cons,Region.lexFrom,Bool.and_eq_true] at hB;obtain ⟨⟨hr,hf⟩,hB'⟩:=hB;have hr' : k ∈ Region.ready md ops listed:=by simpa using hr
    have hl' : ∀ j,l[j]? = ops[k + 1 + j]?:=fun j=>(by have:=hl (j + 1);simpa [Nat.add_assoc,Nat.add_comm 1 j] using this);have hlst' : ∀ j,j < ops.size → (listed.setIfInBounds k true)[j]? = some (decide (j < k + 1)):=by
      intro j hj;by_cases e : k = j
      · subst e;have hsz : k < listed.size:=by
          rcases Nat.lt_or_ge k listed.size with h' | h'
          · exact h'
          · have:=hlst k hk;rw [Array.getElem?_eq_none h'] at this;cases this
        rw [Array.getElem?_setIfInBounds_self_of_lt hsz];simp
      · rw [Array.getElem?_setIfInBounds_ne e,hlst j hj];have : decide (j < k) = decide (j < k + 1):=by
          rw [Bool.eq_iff_iff];simp only [decide_eq_true_eq];omega
        rw [this]
    have hinv : ∀ j,chainAt cv ops j = true → (j < k → listed.getD j true = true) ∧ (k ≤ j → listed.getD j false = false):=by
      intro j hj;have hjs : j < ops.size:=by
        rcases Nat.lt_or_ge j ops.size with h' | h'
        · exact h'
        · unfold chainAt at hj;rw [Array.getElem?_eq_none h'] at hj;cases hj
      have e:=hlst j hjs;have ed : ∀ d,listed.getD j d = decide (j < k):=fun d=>by
        simp [e]
      refine ⟨fun hlt=>by rw [ed];simpa using hlt,fun hge=>by rw [ed];simpa using hge⟩
    unfold wpL0 at h;have hfr:=Region.free_spec h0 hf;by_cases hw : Region.wanted o (yielded ops a.tmps) = true
    · rw [if_pos hw] at h;cases hc : chainOp cv o with
      | true =>
        rw [hc,if_pos rfl] at h;refine X_first_chain h0 hc (Region.noSelect_spec hs) hch l.length listed a w hI hS hfr hinv hr' hw
          (chainRes_weaken (fun w' hw'=>?_) (fun v w' hs' hk'=>?_) (h hS))
        · rcases hw' with hw' | ⟨e1,e2⟩
          · exact .inl hw'
          · right
            subst e2;have:=hl 1;simp at this;exact ⟨e1,by have:=this;omega⟩
        · rcases hs' with hs' | ⟨e1,e2⟩
          · exact wpAnyX_lex hs hch l (k + 1) _ _ w' (hI.set hr') hs' hl' hlst' hB' hk'
          · subst e2;exact ⟨by simpa [Region.lexFrom] using hB',hk'⟩
      | false =>
        rw [hc] at h;obtain ⟨v,hv,hK⟩:=h;exact X_first_loose h0 (Region.noSelect_spec hs) l.length listed a w hI hS hfr hr' (.inl ⟨hw,hc,hv⟩)
          (wpAnyX_lex hs hch l (k + 1) _ _ w (hI.set hr') hS hl' hlst' hB' hK)
    · rw [if_neg hw] at h;exact X_first_loose h0 (Region.noSelect_spec hs) l.length listed a w hI hS hfr hr' (.inr ⟨by simpa using hw,rfl⟩)
        (wpAnyX_lex hs hch l (k + 1) _ _ w (hI.set hr') hS hl' hlst' hB' h)
structure wpLx (P : Program) (ops : Array Oper) (S : World → Prop) (cv fb : Bool) (Q : Act → World → Prop) (l : List Oper) (a : Act) (w : World) : Prop where
  out : wpL0 P ops S cv fb Q l a w
theorem wp_region_lex {id : Nat} {Q : Exit → Act → World → Prop} {a : Act} {w : World} {l : List Oper} (S : World → Prop) (cv : Bool) (hm : P.follows .mixedOrders = true) (hB : Region.lexB .any l.toArray = true) (hC : chainB .any cv l.toArray = true) (hS : S w.drew)
    (h : wpLx P l.toArray S cv false (fun a' w'=>S w' → Q .normal a' w') l a w.drew) : (Code.region id l.toArray true).wp P Q a w:=by
  simp only [Region.lexB,Bool.and_eq_true] at hB;have hI : EndInv .any l.toArray false (Array.replicate l.toArray.size false):=⟨by simp⟩
  refine wp_region_any hm (wpAny_of_X (S:=S) (cv:=cv) (fb:=false) (Q:=fun a' w'=>S w' → Q .normal a' w') (fun _ w' hw' h=>h (hw'.elim (fun h=>h) (by simp))) _ _ _ _ hI (.inl hS) ?_);have:=wpAnyX_lex (S:=S) (md:=.any) hB.1 hC l 0 (Array.replicate l.toArray.size false) a w.drew hI hS (by simp) (by intro j hj;simp at hj;simp [hj]) (by simpa using hB.2) h.out;simpa using this
theorem wp_region_lexf {id : Nat} {Q : Exit → Act → World → Prop} {a : Act} {w : World} {l : List Oper} (S : World → Prop) (cv : Bool) (hm : P.follows .mixedOrders = true) (hB : Region.lexB .any l.toArray = true) (hC : chainB .any cv l.toArray = true) (hE : endB .any l.toArray = true) (hS : S w.drew)
    (h : wpLx P l.toArray S cv true (fun a' w'=>Q .normal a' w') l a w.drew) : (Code.region id l.toArray true).wp P Q a w:=by
  simp only [Region.lexB,Bool.and_eq_true] at hB;have hI : EndInv .any l.toArray true (Array.replicate l.toArray.size false):=⟨fun _=>⟨hE,.inl ⟨by simp,fun j oj _ hj=>(by rw [getD_replicate_false] at hj;cases hj),fun t ht hts=>by simp at hts;simp [hts]⟩⟩⟩
  refine wp_region_any hm (wpAny_of_X (S:=S) (cv:=cv) (fb:=true) (Q:=fun a' w'=>Q .normal a' w') (fun _ w' _ h=>h) _ _ _ _ hI (.inl hS) ?_);have:=wpAnyX_lex (S:=S) (md:=.any) hB.1 hC l 0 (Array.replicate l.toArray.size false) a w.drew hI hS (by simp) (by intro j hj;simp at hj;simp [hj]) (by simpa using hB.2) h.out;simpa using this
theorem wpLx_nil {Q : Act → World → Prop} {a : Act} {w : World} (h : Q a w) : wpLx P ops S cv fb Q [] a w:=⟨h⟩
theorem wpLx_loose {Q : Act → World → Prop} {a : Act} {w : World} {o : Oper} {rest : List Oper} (hc : chainOp cv o = false)
    (h : ∀ K : Act → Prop,(∀ a,wpLx P ops S cv fb Q rest a w → K a) → if Region.wanted o (yielded ops a.tmps) then (∃ v,(∀ x : Subtype S,looseRes x.1 v ((execOp a.eval o).run P x.1)) ∧ K (a.put o.dst v)) else K (a.put o.dst undef)) : wpLx P ops S cv fb Q (o :: rest) a w:=by
  have:=h _ (fun _ h=>h);refine ⟨?_⟩;unfold wpL0;rw [hc];split
  · rename_i hw
    rw [if_pos hw] at this;obtain ⟨v,hv,hk⟩:=this;exact ⟨v,fun w' hs=>hv ⟨w',hs⟩,hk.out⟩
  · rename_i hw;rw [if_neg hw] at this;exact this.out
theorem wpLx_chain {Q : Act → World → Prop} {a : Act} {w : World} {o : Oper} {rest : List Oper} (hS : S w) (hc : chainOp cv o = true)
    (h : ∀ K : Act → World → Prop,(∀ a w,wpLx P ops S cv fb Q rest a w → K a w) → if Region.wanted o (yielded ops a.tmps) then chainRes P S (fun v w'=>K (a.put o.dst v) w') ((execOp a.eval o).run P w) else K (a.put o.dst undef) w) : wpLx P ops S cv fb Q (o :: rest) a w:=by
  have:=h _ (fun _ _ h=>h);refine ⟨?_⟩;unfold wpL0;rw [hc];split
  · rename_i hw;rw [if_pos hw] at this;exact fun _=>chainRes_weaken (fun _ h=>.inl h) (fun _ _ _ h=>h.out) this
  · rename_i hw;rw [if_neg hw] at this;exact this.out
theorem wpLx_end {Q : Act → World → Prop} {a : Act} {w : World} {o : Oper} (hc : chainOp cv o = true)
    (h : ∀ K : Act → World → Prop,(∀ a w,Q a w → K a w) → if Region.wanted o (yielded ops a.tmps) then chainRes P (fun _=>True) (fun v w'=>K (a.put o.dst v) w') ((execOp a.eval o).run P w) else K (a.put o.dst undef) w) : wpLx P ops S cv true Q [o] a w:=by
  have:=h _ (fun _ _ h=>h);refine ⟨?_⟩;unfold wpL0;rw [hc];split
  · rename_i hw;rw [if_pos hw] at this;exact fun _=>chainRes_weaken (fun _ _=>.inr ⟨rfl,rfl⟩) (fun _ _ _ h=>h) this
  · rename_i hw;rw [if_neg hw] at this;exact this
end
section
variable (P : Program) (S : World → Prop) (w w' : World) (v u : Value) (K : Value → World → Prop) (f : FuncId) (args : Array Value)
@[go_sem] theorem looseRes_value : looseRes w v (.ok (.value u) w') = (w' = w ∧ u = v):=rfl
@[go_sem] theorem looseRes_skip : looseRes w v (.ok .skip w') = (w' = w ∧ v = undef):=rfl
@[go_sem] theorem chainRes_value : chainRes P S K (.ok (.value u) w') = (S w' ∧ K u w'):=rfl
@[go_sem] theorem chainRes_skip : chainRes P S K (.ok .skip w') = (S w' ∧ K undef w'):=rfl
@[go_sem] theorem chainRes_enter : chainRes P S K (.ok (.enter f args) w') = Calls P f args w' (fun e w''=>∃ v,e = .returned v ∧ S w'' ∧ K v w''):=rfl
end
abbrev Bel (W : World) : World → Prop:=fun w'=>Below W.heap.size W w'
theorem bel_some (W : World) : Nonempty (Subtype (Bel W)):=⟨⟨W,Below.refl _ _⟩⟩
theorem bel_drew (W : World) : Bel W W.drew:=(Below.refl _ _).drew
theorem sub_cell {W : World} {p : Addr} {v : Value} (h : W.cell? p = some v) : ∀ x : Subtype (Bel W),x.1.cell? p = some v :=
  fun x=>(x.2.cell (World.block_lt_of_cell? W p h)).trans h
theorem sub_row {W : World} {g o k : Nat} {cs : Array Value} (h : rowAt W g o k = some cs) : ∀ x : Subtype (Bel W),rowAt x.1 g o k = some cs :=
  fun x=>(rowAt_of_block (x.2.block g (rowAt_lt h)) o k).trans h
theorem step_keep {A B : Prop} (h : A) (k : A → B) : A ∧ B:=⟨h,k h⟩
theorem bel_next {W w w' : World} (h : Bel W w) (k : Below w.heap.size w w') : Bel W w':=h.trans (k.mono h.size)
abbrev Kp (S : List Nat) (W : World) : World → Prop:=fun w'=>Keep S W w'
theorem kp_some (S : List Nat) (W : World) : Nonempty (Subtype (Kp S W)):=⟨⟨W,Keep.refl _ _⟩⟩
theorem kp_drew (S : List Nat) (W : World) : Kp S W W.drew:=(Keep.drew W).mono (by simp)
theorem ksub_cell {S : List Nat} {W : World} {p : Addr} {v : Value} (h : W.cell? p = some v) (hn : p.block ∉ S) : ∀ x : Subtype (Kp S W),x.1.cell? p = some v :=
  fun x=>(x.2.cell (World.block_lt_of_cell? W p h) hn).trans h
theorem ksub_row {S : List Nat} {W : World} {g o k : Nat} {cs : Array Value} (h : rowAt W g o k = some cs) (hn : g ∉ S) : ∀ x : Subtype (Kp S W),rowAt x.1 g o k = some cs :=
  fun x=>(x.2.row (rowAt_lt h) hn o k).trans h
theorem kp_next {S S' : List Nat} {W w w' : World} (h : Kp S W w) (k : Keep S' w w') (hs : ∀ x ∈ S',x ∈ S ∨ W.heap.size ≤ x) : Kp S W w':=Keep.trans h k hs
theorem kp_below {S : List Nat} {W w w' : World} (h : Kp S W w) (k : Below w.heap.size w w') : Kp S W w':=Keep.trans h (Keep.of_below k) (by simp)
end
section
open Go.RowKit
def SlR (w : World) (A : Option Addr) (n k : Nat) (L : List (Array Value)) : Prop :=
  L.length = n ∧ (0 < n → ∃ g o,A = some ⟨g,o,none⟩ ∧ ∀ i (h : i < L.length),rowAt w g (o + i * k) k = some L[i])
def blk (A : Option Addr) : List Nat:=(A.map (·.block)).toList
structure Own (w : World) (B : Nat) (E : TypeId) (k : Nat) (A : Option Addr) (n cap : Nat) (L : List (Array Value)) : Prop where
  row : w.ownsRow B E k (.slice A n cap) n (L.flatMap Array.toList)
  len : L.length = n
  size : ∀ c ∈ L,c.size = k
section
variable {w w' : World} {A : Option Addr} {n k B cap : Nat} {E : TypeId} {L : List (Array Value)}
theorem SlR.at_ (h : SlR w A n k L) {i : Nat} (hi : i < n) : ∃ g o,A = some ⟨g,o,none⟩ ∧ rowAt w g (o + i * k) k = some (L[i]'(by rw [h.1];exact hi)):=by
  obtain ⟨g,o,e,hc⟩:=h.2 (by omega);exact ⟨g,o,e,hc i (by rw [h.1];exact hi)⟩
theorem SlR.old (h : SlR w A n k L) {g o : Nat} (e : A = some ⟨g,o,none⟩) (hn : 0 < n) : g < w.heap.size:=by
  obtain ⟨g',o',e',hr⟩:=h.at_ hn;rw [e] at e';injection e' with e';injection e' with e1 e2
  subst e1;exact rowAt_lt hr
theorem SlR.nil_ : SlR w none 0 k []:=⟨rfl,fun h=>absurd h (by omega)⟩
theorem SlR.kept {S : List Nat} (h : SlR w A n k L) (hk : Keep S w w') (hn : ∀ x ∈ blk A,x ∉ S) : SlR w' A n k L :=
  ⟨h.1,fun h0=>by
    obtain ⟨g,o,e,hc⟩:=h.2 h0;refine ⟨g,o,e,fun i hi=>?_⟩;rw [hk.row (rowAt_lt (hc i hi)) (hn g (by simp [blk,e])) _ _];exact hc i hi⟩
theorem SlR.below (h : SlR w A n k L) (hb : Below w.heap.size w w') : SlR w' A n k L:=h.kept (Keep.of_below hb) (by simp)
theorem flat_get : ∀ (L : List (Array Value)) (k : Nat),(∀ c ∈ L,c.size = k) → ∀ (i j : Nat) (hi : i < L.length),j < k → (L.flatMap Array.toList)[i * k + j]? = (L[i])[j]?
  | c :: L,k,hs,0,j,_,hj=>by
    have hc:=hs c (by simp);simp only [List.flatMap_cons,Nat.zero_mul,Nat.zero_add,List.getElem_cons_zero];rw [List.getElem?_append_left (by simp;omega)]
    simp
  | c :: L,k,hs,i + 1,j,hi,hj=>by
    have hc:=hs c (by simp);have hl : c.toList.length = k:=by simp [hc]
    simp only [List.flatMap_cons,List.getElem_cons_succ];rw [List.getElem?_append_right (by rw [hl,Nat.add_mul];omega),hl];have e : (i + 1) * k + j - k = i * k + j:=by rw [Nat.add_mul];omega
    rw [e];exact flat_get L k (fun c h=>hs c (by simp [h])) i j (by simpa using hi) hj
theorem flat_len : ∀ (L : List (Array Value)) (k : Nat),(∀ c ∈ L,c.size = k) → (L.flatMap Array.toList).length = L.length * k
  | [],_,_=>by simp
  | c :: L,k,hs=>by
    have hc:=hs c (by simp);simp only [List.flatMap_cons,List.length_append,List.length_cons];rw [flat_len L k (fun c h=>hs c (by simp [h])),Nat.add_mul];simp [hc];omega
theorem Own.nil (w : World) (B : Nat) (E : TypeId) (k : Nat) : Own w B E k none 0 0 []:=⟨World.ownsRow_nil w B E k,rfl,by simp⟩
theorem Own.kept {S : List Nat} (h : Own w B E k A n cap L) (hk : Keep S w w') (hn : ∀ x ∈ blk A,x ∉ S) : Own w' B E k A n cap L:=by
  obtain ⟨⟨h1,h2⟩,hl,hs⟩:=h;refine ⟨⟨h1,?_⟩,hl,hs⟩;rcases h2 with h2 | ⟨g,c,cur,hv,hb,hg,rest⟩
  · exact .inl h2
  · refine .inr ⟨g,c,cur,hv,hb,?_,rest⟩;have hA : A = some ⟨g,0,none⟩:=by injection hv
    have hlt : g < w.heap.size:=(Array.getElem?_eq_some_iff.1 hg).1;rw [hk.block g hlt (hn g (by simp [blk,hA]))];exact hg
theorem Own.below (h : Own w B E k A n cap L) (hb : Below w.heap.size w w') : Own w' B E k A n cap L:=h.kept (Keep.of_below hb) (by simp)
theorem Own.mono (h : Own w B E k A n cap L) {B' : Nat} (hB : B' ≤ B) : Own w B' E k A n cap L:=by
  obtain ⟨⟨h1,h2⟩,hl,hs⟩:=h;refine ⟨⟨h1,?_⟩,hl,hs⟩;rcases h2 with h2 | ⟨g,c,cur,hv,hb,rest⟩
  · exact .inl h2
  · exact .inr ⟨g,c,cur,hv,by omega,rest⟩
theorem Own.at_base (h : Own w B E k A n cap L) {x : Nat} (hx : x ∈ blk A) : B ≤ x ∧ x < w.heap.size:=by
  obtain ⟨⟨h1,h2⟩,hl,hs⟩:=h;rcases h2 with ⟨h2,_⟩ | ⟨g,c,cur,hv,hb,hg,rest⟩
  · have hA : A = none:=by injection h2
    subst hA;simp [blk] at hx
  · have hA : A = some ⟨g,0,none⟩:=by injection hv
    subst hA;have : x = g:=by simpa [blk] using hx
    subst this;exact ⟨hb,(Array.getElem?_eq_some_iff.1 hg).1⟩
theorem Own.addr (h : Own w B E k A n cap L) : A = none ∨ ∃ g,A = some ⟨g,0,none⟩:=by
  obtain ⟨⟨h1,h2⟩,hl,hs⟩:=h;rcases h2 with ⟨h2,_⟩ | ⟨g,c,cur,hv,_⟩
  · left;injection h2
  · right;exact ⟨g,by injection hv⟩
theorem Own.slr (h : Own w B E k A n cap L) : SlR w A n k L:=by
  have hlen:=flat_len L k h.size;obtain ⟨⟨h1,h2⟩,hl,hs⟩:=h;refine ⟨hl,fun h0=>?_⟩;rcases h2 with ⟨_,h2⟩ | ⟨g,c,cur,hv,hb,hg,hnc,hcm,hcs,htake⟩
  · omega
  · have hA : A = some ⟨g,0,none⟩:=by injection hv
    refine ⟨g,0,hA,fun i hi=>?_⟩;have hle : i * k + k ≤ n * k:=by
      have : (i + 1) * k ≤ n * k:=Nat.mul_le_mul_right k (by omega);rw [Nat.add_mul] at this;omega
    have hle2 : n * k ≤ cur.size:=by rw [hcs];exact Nat.mul_le_mul_right k hnc
    unfold rowAt;rw [hg];simp only [Nat.zero_add];rw [if_pos (by omega)];congr 1
    apply Array.ext';rw [Array.toList_extract];apply List.ext_getElem?;intro j;by_cases hj : j < k
    · have e1:=flat_get L k hs i j hi hj;rw [← htake,List.getElem?_take,if_pos (by omega)] at e1;simp only [List.extract_eq_take_drop,List.getElem?_take,List.getElem?_drop];rw [if_pos (by omega),e1]
      simp
    · have hsz:=hs L[i] (List.getElem_mem hi);rw [List.getElem?_eq_none (by simp;omega),List.getElem?_eq_none (by simp;omega)]
end
structure ElemInfo (P : Program) (T E : TypeId) (k bytes : Nat) : Prop where
  und : P.underlying T = some (.slice E)
  info : ∃ i z,P.info? E = some i ∧ i.zero = some z ∧ i.size = k ∧ i.bytes = bytes ∧ z.cells.size = k
  pos : 0 < k
theorem ElemInfo.of {P : Program} {T E : TypeId} {k bytes : Nat} {z : Value} (und : P.underlying T = some (.slice E)) (hz : (P.info? E).bind (·.zero) = some z) (hs : (P.info? E).map (·.size) = some k) (hb : (P.info? E).map (·.bytes) = some bytes) (hzs : z.cells.size = k) (pos : 0 < k) :
    ElemInfo P T E k bytes:=by
  cases hi : P.info? E with
  | none=>rw [hi] at hz;cases hz
  | some i =>
    rw [hi] at hz hs hb;exact ⟨und,⟨i,z,hi,hz,by simpa using hs,by simpa using hb,hzs⟩,pos⟩
theorem append_one {P : Program} {T E : TypeId} {k bytes : Nat} (I : ElemInfo P T E k bytes) {w : World} {B : Nat} {A : Option Addr} {n cap : Nat} {L : List (Array Value)} (hown : Own w B E k A n cap L)
    {q o c : Nat} {cs : Array Value} (hrow : rowAt w q o k = some cs) (hone : ∀ u ∈ cs.toList,u.oneCell' = true) (hbytes : (n + 1) * bytes ≤ 140737488355328) (hn : n + 1 ≤ 9223372036854775807) (hB : B ≤ w.heap.size) (ty : TypeId) :
    ∃ A' cap' w',(Builtin.append_ #[T,T] ty #[.slice A n cap,.slice (some ⟨q,o,none⟩) 1 c]).run P w = .ok (.slice A' (n + 1) cap') w' ∧ Own w' B E k A' (n + 1) cap' (L ++ [cs]) ∧ Keep (blk A) w w' ∧ (∀ x ∈ blk A',x ∈ blk A ∨ w.heap.size ≤ x):=by
  obtain ⟨i,z,hi,hz,hsz,hby,hzs⟩:=I.info;have hcs:=rowAt_size hrow;obtain ⟨v',w',hrun,hown',hg,_,hblk⟩:=run_append_own_at (P:=P) w B T ty E i z k bytes I.und hi hz hsz hby hzs I.pos (.slice A n cap) n _ hown.row ⟨q,o,none⟩ 1 c cs.toList (by simp [hcs])
    (fun j u hu=>by
      have hj : j < k:=by
        have:=(List.getElem?_eq_some_iff.1 hu).1;simp at this;omega
      have hadd : (⟨q,o,none⟩ : Addr).add j = ⟨q,o + j,none⟩:=by unfold Addr.add;split <;> simp_all
      rw [hadd,rowAt_cell hrow hj];simpa using hu) hone (by simp only [maxLen];omega) hbytes hB
  have hform : ∃ A' cap',v' = .slice A' (n + 1) cap':=by
    rcases hown'.2 with ⟨_,h0⟩ | ⟨g,c',cur,hv,_⟩
    · omega
    · exact ⟨_,_,hv⟩
  obtain ⟨A',cap',rfl⟩:=hform;have hb : (Value.slice A n cap).ownBlock = (A.map (·.block)):=by cases A <;> rfl
  have hb' : (Value.slice A' (n + 1) cap').ownBlock = (A'.map (·.block)):=by cases A' <;> rfl
  refine ⟨A',cap',w',hrun,⟨by simpa using hown',by simp [hown.len],fun c' hc'=>?_⟩,?_,?_⟩
  · rcases List.mem_append.1 hc' with h | h
    · exact hown.size c' h
    · simp at h;subst h;exact hcs
  · have:=Keep.grown hg
    rwa [hb] at this
  · intro x hx;rw [hb,hb'] at hblk;rcases hblk with e | e
    · left;unfold blk at hx ⊢;rw [e] at hx;exact hx
    · right
      unfold blk at hx;rw [e] at hx;have : x = w.heap.size:=by simpa using hx
      omega
theorem exec_append {P : Program} {w : World} (ρ : Operand → Value) {dst : Option Tmp} {s x : Operand} {ats : Array TypeId} {ty : TypeId} {pos : String} {after : Array Edge} {guard : Option (Nat × Bool)} {v u r : Value} {w' : World} (hs : ρ s = v) (hx : ρ x = u)
    (h : (Builtin.append_ ats ty #[v,u]).run P w = .ok r w') :
    (execOp ρ { dst:=dst,op:=.call { callee:=.builtin .append,args:=#[s,x],argTypes:=ats },type:=ty,pos:=pos,after:=after,guard:=guard }).run P w = .ok (.value r) w':=by
  rw [BigFrame.execOp_builtin,BigFrame.builtin_append];have e : (#[s,x].map ρ : Array Value) = #[v,u]:=by simp [hs,hx]
  rw [e,Sem.run_bind,h];rfl
theorem L_of_append {P : Program} {ops : Array Oper} {Q : Exit → Act → World → Prop} {a : Act} {w : World} {rest : List Oper} {dst : Option Tmp} {s x : Operand} {ats : Array TypeId} {ty : TypeId} {pos : String} {after : Array Edge} {v u r : Value} {w' : World} (hs : a.eval s = v) (hx : a.eval x = u)
    (hr : (Builtin.append_ ats ty #[v,u]).run P w = .ok r w') (h : wpList P ops Q rest (a.put dst r) w') :
    wpList P ops Q ({ dst:=dst,op:=.call { callee:=.builtin .append,args:=#[s,x],argTypes:=ats },type:=ty,pos:=pos,after:=after,guard:=none } :: rest) a w:=by
  refine wpList_plain rfl fun K hK=>?_;unfold Oper.wp;rw [exec_append a.eval hs hx hr];exact hK _ _ h
theorem wpLx_append {P : Program} {ops : Array Oper} {S : World → Prop} {cv fb : Bool} {Q : Act → World → Prop} {a : Act} {w : World} {rest : List Oper} {dst : Option Tmp} {s x : Operand} {ats : Array TypeId} {ty : TypeId} {pos : String} {after : Array Edge} {v u r : Value} {w' : World} (hs : a.eval s = v) (hx : a.eval x = u)
    (hr : (Builtin.append_ ats ty #[v,u]).run P w = .ok r w') (hS' : S w') (h : wpLx P ops S cv fb Q rest (a.put dst r) w') :
    wpLx P ops S cv fb Q ({ dst:=dst,op:=.call { callee:=.builtin .append,args:=#[s,x],argTypes:=ats },type:=ty,pos:=pos,after:=after,guard:=none } :: rest) a w:=by
  refine ⟨?_⟩;unfold wpL0;rw [if_pos (by rfl),if_pos (by rfl)];intro _;rw [exec_append a.eval hs hx hr];exact ⟨.inl hS',h.out⟩
theorem L_append {P : Program} {ops : Array Oper} {Q : Exit → Act → World → Prop} {a : Act} {w : World} {rest : List Oper} {dst : Option Tmp} {s x : Operand} {ty : TypeId} {pos : String} {after : Array Edge} {T E : TypeId} {k bytes : Nat} (I : ElemInfo P T E k bytes)
    {B : Nat} {A : Option Addr} {n cap : Nat} {L : List (Array Value)} (hs : a.eval s = .slice A n cap) (hown : Own w B E k A n cap L)
    {q o c : Nat} {cs : Array Value} (hx : a.eval x = .slice (some ⟨q,o,none⟩) 1 c) (hrow : rowAt w q o k = some cs) (hone : ∀ u ∈ cs.toList,u.oneCell' = true) (hbytes : (n + 1) * bytes ≤ 140737488355328) (hn : n + 1 ≤ 9223372036854775807) (hB : B ≤ w.heap.size)
    (h : ∀ A' cap' w',Own w' B E k A' (n + 1) cap' (L ++ [cs]) → Keep (blk A) w w' → (∀ x ∈ blk A',x ∈ blk A ∨ w.heap.size ≤ x) → wpList P ops Q rest (a.put dst (.slice A' (n + 1) cap')) w') :
    wpList P ops Q ({ dst:=dst,op:=.call { callee:=.builtin .append,args:=#[s,x],argTypes:=#[T,T] },type:=ty,pos:=pos,after:=after,guard:=none } :: rest) a w:=by
  obtain ⟨A',cap',w',hrun,h1,h2,h3⟩:=append_one I hown (c:=c) hrow hone hbytes hn hB ty;refine wpList_plain rfl fun K hK=>?_;unfold Oper.wp;rw [exec_append a.eval hs hx hrun];exact hK _ _ (h A' cap' w' h1 h2 h3)
theorem Lx_append {P : Program} {ops : Array Oper} {S : World → Prop} {cv fb : Bool} {Q : Act → World → Prop} {a : Act} {w : World} {rest : List Oper} {dst : Option Tmp} {s x : Operand} {ty : TypeId} {pos : String} {after : Array Edge} {T E : TypeId} {k bytes : Nat} (I : ElemInfo P T E k bytes)
    {B : Nat} {A : Option Addr} {n cap : Nat} {L : List (Array Value)} (hs : a.eval s = .slice A n cap) (hown : Own w B E k A n cap L)
    {q o c : Nat} {cs : Array Value} (hx : a.eval x = .slice (some ⟨q,o,none⟩) 1 c) (hrow : rowAt w q o k = some cs) (hone : ∀ u ∈ cs.toList,u.oneCell' = true) (hbytes : (n + 1) * bytes ≤ 140737488355328) (hn : n + 1 ≤ 9223372036854775807) (hB : B ≤ w.heap.size)
    (h : ∀ A' cap' w',Own w' B E k A' (n + 1) cap' (L ++ [cs]) → Keep (blk A) w w' → (∀ x ∈ blk A',x ∈ blk A ∨ w.heap.size ≤ x) → S w' ∧ wpLx P ops S cv fb Q rest (a.put dst (.slice A' (n + 1) cap')) w') :
    wpLx P ops S cv fb Q ({ dst:=dst,op:=.call { callee:=.builtin .append,args:=#[s,x],argTypes:=#[T,T] },type:=ty,pos:=pos,after:=after,guard:=none } :: rest) a w:=by
  obtain ⟨A',cap',w',hrun,h1,h2,h3⟩:=append_one I hown (c:=c) hrow hone hbytes hn hB ty;obtain ⟨k1,k2⟩:=h A' cap' w' h1 h2 h3;exact wpLx_append hs hx hrun k1 k2
def bsS (T : TypeId) (n : Nat) (parts : Array (Nat × Value)) : Sem Value:=Instr.buildSlice T n parts
theorem run_bsS1 {P : Program} {T E : TypeId} {k bytes : Nat} (I : ElemInfo P T E k bytes) (hk : k ≤ 16777216) (w : World) (cs : Array Value) (hcs : cs.size = k) :
    (bsS T 1 #[(0,.agg cs)]).run P w = .ok (.slice (some ⟨w.heap.size,0,none⟩) 1 1) (w.alloc (.cells cs E)):=by
  obtain ⟨i,z,hi,hz,hsz,hby,hzs⟩:=I.info;have hpos:=I.pos;unfold bsS Instr.buildSlice;have hf : Instr.fill (fun i=>some (i * k,k)) (Array.map (fun x=>z.cells[x % z.cells.size]!) (Array.range (1 * k))) [(0,Value.agg cs)] = some cs:=by
    have e : Array.map (fun x=>z.cells[x % z.cells.size]!) (Array.range (1 * k)) = (#[] : Array Value) ++ Array.map (fun x=>z.cells[x % z.cells.size]!) (Array.range (1 * k)) ++ #[]:=by simp
    rw [e,fill_step (off:=0) (size:=k) (by simp) rfl (by simp) (by simp [Value.cells,hcs])];simp [Instr.fill,Value.cells]
  have hne : ¬ (1 * k > 16777216):=by omega
  have hn0 : ¬ (1 * k = 0):=by omega
  simp only [Sem.run_bind,run_underlying I.und,Result.andThen_ok,sizeOf,typeInfo,hi,hsz];simp [hi,hz,zeroValue,typeInfo,hsz,Nat.not_lt.2 (show k ≤ 16777216 from hk),Nat.pos_iff_ne_zero.1 hpos,hf,newRow];rw [Nat.one_mul] at hf;rw [hf];rfl
end
section
open Go.RowKit
def byteR (c : UInt8) : Array Value:=#[byteC c]
def bytesR (bs : List UInt8) : List (Array Value):=bs.map byteR
theorem bytesR_flat (bs : List UInt8) : (bytesR bs).flatMap Array.toList = bs.map byteC:=by
  induction bs with
  | nil=>rfl
  | cons b bs ih=>simp only [bytesR,List.map_cons,List.flatMap_cons] at ih ⊢;rw [ih];rfl
theorem strCells_eq (s : ByteArray) : Go.Lib.strCells s = s.data.toList.map byteC:=rfl
theorem append_str {P : Program} {T U E : TypeId} {i : TypeInfo} (ht : P.underlying T = some (.slice E)) (hu : P.underlying U = some .string) (hi : P.info? E = some i) (hz : i.zero = some (.int .u8 0)) (hsize : i.size = 1) (hby : i.bytes = 1)
    {w : World} {B : Nat} {A : Option Addr} {n cap : Nat} {bs : List UInt8} (hown : Own w B E 1 A n cap (bytesR bs)) (s : ByteArray) (hbytes : n + s.size ≤ 140737488355328) (hB : B ≤ w.heap.size) (ty : TypeId) :
    ∃ A' cap' w',(Builtin.append_ #[T,U] ty #[.slice A n cap,.string s]).run P w = .ok (.slice A' (n + s.size) cap') w' ∧ Own w' B E 1 A' (n + s.size) cap' (bytesR (bs ++ s.data.toList)) ∧ Keep (blk A) w w' ∧ (∀ x ∈ blk A',x ∈ blk A ∨ w.heap.size ≤ x):=by
  have hrow:=hown.row;rw [bytesR_flat] at hrow;have hml : n + s.size ≤ maxLen:=by simp only [maxLen];omega
  obtain ⟨v',w',hr,h2,h3,h4⟩:=Go.Lib.run_append_own_string (P:=P) w B T U ty E i ht hu hi hz hsize hby _ n _ hrow s hml hbytes hB;have hform : ∃ A' cap',v' = .slice A' (n + s.size) cap':=by
    rcases h2.2 with ⟨h0,h00⟩ | ⟨g,c',cur,hv,_⟩
    · exact ⟨none,0,by rw [h0,h00]⟩
    · exact ⟨_,_,hv⟩
  obtain ⟨A',cap',rfl⟩:=hform;have hb : (Value.slice A n cap).ownBlock = (A.map (·.block)):=by cases A <;> rfl
  have hk:=Keep.grown h3;rw [hb] at hk;refine ⟨A',cap',w',hr,⟨?_,?_,?_⟩,hk,?_⟩
  · rw [bytesR_flat,List.map_append];rw [strCells_eq] at h2;exact h2
  · have:=hown.len;simp only [bytesR,List.length_map,List.length_append] at this ⊢;rw [this];rfl
  · intro c hc;simp only [bytesR,List.mem_map] at hc;obtain ⟨b,_,rfl⟩:=hc;rfl
  · rcases hrow.2 with ⟨h0,h00⟩ | ⟨g,c,cur,hv,hbg,hg,hnc,hcm,hcs,htake⟩
    · intro x hx;right
      have hr1 : w.ownsRow w.heap.size E 1 (.slice A n cap) n (bs.map byteC):=⟨hrow.1,.inl ⟨h0,h00⟩⟩
      obtain ⟨v2,w2,hr2,g2,_,_⟩:=Go.Lib.run_append_own_string (P:=P) w w.heap.size T U ty E i ht hu hi hz hsize hby _ n _ hr1 s hml hbytes (Nat.le_refl _);rw [hr] at hr2;injection hr2 with e1 e2
      subst e1;subst e2;rcases g2.2 with ⟨k0,_⟩ | ⟨g,c',cur,hv,hbg,_⟩
      · injection k0 with k0;subst k0;simp [blk] at hx
      · injection hv with hv;subst hv
        have : x = g:=by simpa [blk] using hx
        omega
    · injection hv with hA hc1 hc2
      subst hA;subst hc2;by_cases hroom : n + s.size ≤ cap
      · have hcs' : cur.size = cap:=by simpa using hcs
        have hr2:=Go.Lib.run_append_room_string (P:=P) w T U ty E i ht hu hi hsize g n cap cur hg s hroom (by omega);rw [hr] at hr2;injection hr2 with e1 e2
        injection e1 with e1
        subst e1;intro x hx;exact .inl hx
      · have hxl : (bs.map byteC).length = n:=by simpa using hrow.1
        have holds : ∀ j u,(bs.map byteC)[j]? = some u → w.cell? ((⟨g,0,none⟩ : Addr).add j) = some u:=hrow.cells (g:=g) rfl;have hr2:=Go.Lib.run_append_grow_string (P:=P) w T U ty E i (.int .u8 0) ht hu hi hz ⟨g,0,none⟩ n cap _ (by rw [hsize];simpa using hxl) holds s (by omega) (by omega) (by rw [hby];exact growslice_fits (by omega) (by omega));rw [hr] at hr2;injection hr2 with e1 e2
        injection e1 with e1
        subst e1;intro x hx;right
        have : x = w.heap.size:=by simpa [blk] using hx
        omega
theorem L_append_str {P : Program} {ops : Array Oper} {Q : Exit → Act → World → Prop} {a : Act} {w : World} {rest : List Oper} {dst : Option Tmp} {sl x : Operand} {ty : TypeId} {pos : String} {after : Array Edge} {T U E : TypeId} {i : TypeInfo} (ht : P.underlying T = some (.slice E)) (hu : P.underlying U = some .string) (hi : P.info? E = some i) (hz : i.zero = some (.int .u8 0)) (hsize : i.size = 1) (hby : i.bytes = 1)
    {B : Nat} {A : Option Addr} {n cap : Nat} {bs : List UInt8} {s : ByteArray} (hs : a.eval sl = .slice A n cap) (hown : Own w B E 1 A n cap (bytesR bs)) (hx : a.eval x = .string s) (hbytes : n + s.size ≤ 140737488355328) (hB : B ≤ w.heap.size)
    (h : ∀ A' cap' w',Own w' B E 1 A' (n + s.size) cap' (bytesR (bs ++ s.data.toList)) → Keep (blk A) w w' → (∀ x ∈ blk A',x ∈ blk A ∨ w.heap.size ≤ x) → wpList P ops Q rest (a.put dst (.slice A' (n + s.size) cap')) w') :
    wpList P ops Q ({ dst:=dst,op:=.call { callee:=.builtin .append,args:=#[sl,x],argTypes:=#[T,U] },type:=ty,pos:=pos,after:=after,guard:=none } :: rest) a w:=by
  obtain ⟨A',cap',w',hr,h1,h2,h3⟩:=append_str ht hu hi hz hsize hby hown s hbytes hB ty;exact L_of_append hs hx hr (h A' cap' w' h1 h2 h3)
structure Wr where
  b : Value
  bad : Int
  made : Bool
def wrC (x : Wr) : Array Value:=#[x.b] ++ #[.int .i64 x.bad] ++ #[.bool x.made]
@[simp] theorem wrC_size (x : Wr) : (wrC x).size = 3:=by simp [wrC]
@[go_sem] theorem wrC_g0 (x : Wr) : (wrC x)[0]? = some (x.b):=by first | (simp [wrC,Array.getElem?_append];done) | (rw [show wrC x = ((#[] : Array Value)) ++ #[x.b] ++ (#[.int .i64 x.bad] ++ #[.bool x.made]) from by apply Array.ext';simp [wrC]];exact arr_at _ _ _ _ (by simp))
@[go_sem] theorem wrC_gg0 (x : Wr) (h : 0 < (wrC x).size) : (wrC x)[0]'h = x.b:=Option.some.inj ((Array.getElem?_eq_getElem h).symm.trans (wrC_g0 x))
@[go_sem] theorem wrC_g1 (x : Wr) : (wrC x)[1]? = some (.int .i64 x.bad):=by first | (simp [wrC,Array.getElem?_append];done) | (rw [show wrC x = (#[x.b]) ++ #[.int .i64 x.bad] ++ (#[.bool x.made]) from by apply Array.ext';simp [wrC]];exact arr_at _ _ _ _ (by simp))
@[go_sem] theorem wrC_gg1 (x : Wr) (h : 1 < (wrC x).size) : (wrC x)[1]'h = .int .i64 x.bad:=Option.some.inj ((Array.getElem?_eq_getElem h).symm.trans (wrC_g1 x))
@[go_sem] theorem wrC_g2 (x : Wr) : (wrC x)[2]? = some (.bool x.made):=by first | (simp [wrC,Array.getElem?_append];done) | (rw [show wrC x = (#[x.b] ++ #[.int .i64 x.bad]) ++ #[.bool x.made] ++ ((#[] : Array Value)) from by apply Array.ext';simp [wrC]];exact arr_at _ _ _ _ (by simp))
@[go_sem] theorem wrC_gg2 (x : Wr) (h : 2 < (wrC x).size) : (wrC x)[2]'h = .bool x.made:=Option.some.inj ((Array.getElem?_eq_getElem h).symm.trans (wrC_g2 x))
def wr0 : Wr:=⟨(.slice none 0 0),0,false⟩
@[go_sem ↓] theorem zeroWr_run (w : World) : (zeroValue 225).run Tryz.prog w = .ok (.agg (wrC wr0)) w:=by
  have h : (Tryz.prog.info? 225).bind (·.zero) = some (.agg (wrC wr0)):=by kernel_rfl
  cases hi : Tryz.prog.info? 225 with
  | none=>rw [hi] at h;cases h
  | some i =>
    rw [hi] at h;have hz : i.zero = some (.agg (wrC wr0)):=h;simp [zeroValue,typeInfo,hi,hz]
@[go_sem ↓] theorem loadWr_rw (a : Addr) : loadVar 225 a = ldS 225 a:=rfl
@[go_sem ↓] theorem storeWr_rw (a : Addr) (v : Value) : storeVar 225 a v = stS 225 a v:=rfl
theorem fieldsWr : Tryz.prog.underlying 225 = some (.struct (Tryz.prog.fieldsOf 225)):=by kernel_rfl
theorem placesWr (w : World) : ((Tryz.prog.fieldsOf 225).mapM fun (f : Field)=>do pure (f.offset,← sizeOf f.type)).run Tryz.prog w = .ok #[(0,1),(1,1),(2,1)] w:=by kernel_rfl
@[go_sem ↓] theorem buildWr_rw (parts : Array (Nat × Value)) : Instr.build 225 parts = bdS 225 parts:=rfl
@[go_sem] theorem buildWr_2 (a2 : Bool) (w : World) : (bdS 225 #[(2,.bool a2)]).run Tryz.prog w = .ok (.agg (wrC ⟨(.slice none 0 0),0,a2⟩)) w:=by
  refine run_build w fieldsWr _ (zeroWr_run w) _ (placesWr w) [(2,.bool a2)] _ ?_;rw [show wrC wr0 = (#[(.slice none 0 0)] ++ (#[.int .i64 0])) ++ #[.bool false] ++ (#[] : Array Value) from by first | (simp [wrC,wr0,Array.append_assoc];done) | (apply Array.ext';simp [wrC,wr0])];rw [fill_step (off:=2) (size:=1) rfl (by simp) (by simp) (by simp [Value.cells])];first | (simp [Instr.fill,wrC,Array.append_assoc,Value.cells];done) | (simp only [Instr.fill,wrC];congr 1;apply Array.ext';simp [Value.cells];done) | (simp only [Instr.fill,wrC];congr 1;done) | (simp only [Instr.fill,wrC];done)
theorem einfoByte : ElemInfo Tryz.prog 89 5 1 1 :=
  .of (z:=.int .u8 0) Tryz.underlying89 (by kernel_rfl) (by kernel_rfl) (by kernel_rfl) rfl (by omega)
theorem byteInfo : ∃ i,Tryz.prog.info? 5 = some i ∧ i.zero = some (.int .u8 0) ∧ i.size = 1 ∧ i.bytes = 1:=by
  have hz : (Tryz.prog.info? 5).bind (·.zero) = some (.int .u8 0):=by kernel_rfl
  have hs : (Tryz.prog.info? 5).map (·.size) = some 1:=by kernel_rfl
  have hb : (Tryz.prog.info? 5).map (·.bytes) = some 1:=by kernel_rfl
  cases hi : Tryz.prog.info? 5 with
  | none=>rw [hi] at hz;cases hz
  | some i =>
    rw [hi] at hz hs hb;exact ⟨i,rfl,hz,by simpa using hs,by simpa using hb⟩
structure WrAt (w : World) (B g : Nat) (A : Option Addr) (cap : Nat) (bs : List UInt8) : Prop where
  heap : w.heap[g]? = some (.cells (wrC ⟨.slice A bs.length cap,0,true⟩) 225 (0,0))
  own : Own w B 5 1 A bs.length cap (bytesR bs)
  ne : g ∉ blk A
  base : B ≤ w.heap.size
theorem WrAt.lt {w : World} {B g : Nat} {A : Option Addr} {cap : Nat} {bs : List UInt8} (h : WrAt w B g A cap bs) : g < w.heap.size:=(Array.getElem?_eq_some_iff.1 h.heap).1
theorem WrAt.cell {w : World} {B g : Nat} {A : Option Addr} {cap : Nat} {bs : List UInt8} (h : WrAt w B g A cap bs) :
    w.cell? ⟨g,0,none⟩ = some (.slice A bs.length cap) ∧ w.cell? ⟨g,1,none⟩ = some (.int .i64 0) ∧ w.cell? ⟨g,2,none⟩ = some (.bool true):=by
  refine ⟨?_,?_,?_⟩ <;> rw [cell_of_row w g _ _ _ _ h.heap] <;> simp [go_sem]
theorem WrAt.kept {w w' : World} {B g : Nat} {A : Option Addr} {cap : Nat} {bs : List UInt8} {S : List Nat} (h : WrAt w B g A cap bs) (k : Keep S w w') (hg : g ∉ S) (hn : ∀ x ∈ blk A,x ∉ S) : WrAt w' B g A cap bs :=
  ⟨(k.block g h.lt hg).trans h.heap,h.own.kept k hn,h.ne,Nat.le_trans h.base k.size⟩
theorem WrAt.below {w w' : World} {B g : Nat} {A : Option Addr} {cap : Nat} {bs : List UInt8} (h : WrAt w B g A cap bs) (k : Below w.heap.size w w') : WrAt w' B g A cap bs:=h.kept (Keep.of_below k) (by simp) (by simp)
def WStep (w : World) (B g : Nat) (A : Option Addr) (bs : List UInt8) (w' : World) : Prop :=
  ∃ A' cap',WrAt w' B g A' cap' bs ∧ Keep (g :: blk A) w w' ∧ ∀ x ∈ blk A',x ∈ blk A ∨ w.heap.size ≤ x
theorem wnew (w : World) : Calls Tryz.prog 103 #[] w fun e w'=>e = .returned (.pointer (some ⟨w.heap.size,0,none⟩)) ∧ WrAt w' (w.heap.size + 1) w.heap.size none 0 [] ∧ Below w.heap.size w w':=by
  go_enter Tryz.func103,Tryz.ntmps103
  (go_wp2_with fail);go_ret;refine ⟨rfl,⟨heap_alloc_new w _,Own.nil _ _ _ _,by simp [blk],by simp⟩,(Below.refl _ _).alloc (Nat.le_refl _) _⟩
theorem wnone (w : World) (g : Nat) (h : w.cell? ⟨g,2,none⟩ = some (.bool true)) : Calls Tryz.prog 141 #[.pointer (some ⟨g,0,none⟩)] w fun e w'=>e = .returned (.bool false) ∧ w = w':=by
  go_enter Tryz.func141,Tryz.ntmps141
  (go_wp2_with fail);go_ret;exact ⟨rfl,rfl⟩
theorem heap_setCell_same {w : World} {g : Nat} {c : Array Value} {T : TypeId} {fr : Nat × Nat} (h : w.heap[g]? = some (.cells c T fr)) (j : Nat) (u : Value) : (w.setCell ⟨g,j,none⟩ u).heap[g]? = some (.cells (c.setIfInBounds j u) T fr):=by
  obtain ⟨hlt,hg⟩:=Array.getElem?_eq_some_iff.1 h;show (w.heap.modify g _)[g]? = _;rw [Array.getElem?_modify];simp [h]
theorem wr_store {w w1 : World} {B g : Nat} {A A' : Option Addr} {cap cap' : Nat} {bs bs' : List UInt8} (h : WrAt w B g A cap bs) (hk : Keep (blk A) w w1) (hown : Own w1 B 5 1 A' bs'.length cap' (bytesR bs')) (hsub : ∀ x ∈ blk A',x ∈ blk A ∨ w.heap.size ≤ x) :
    WStep w B g A bs' (w1.setCell ⟨g,0,none⟩ (.slice A' bs'.length cap')):=by
  have hg : w1.heap[g]? = some (.cells (wrC ⟨.slice A bs.length cap,0,true⟩) 225 (0,0)):=(hk.block g h.lt h.ne).trans h.heap;have hne : g ∉ blk A':=not_later h.ne h.lt hsub;have hs : Keep [g] w1 (w1.setCell ⟨g,0,none⟩ (.slice A' bs'.length cap')):=Keep.setCell w1 ⟨g,0,none⟩ _;refine ⟨A',cap',⟨?_,hown.kept hs (fun x hx e=>hne (by simp at e;rw [← e];exact hx)),hne,?_⟩,?_,hsub⟩
  · rw [heap_setCell_same hg];simp [wrC]
  · have h1:=hk.size;have h2:=hs.size;have h3:=h.base;omega
  · exact Keep.trans (hk.mono (S':=g :: blk A) (fun x hx=>.inl (by simp [hx]))) hs (fun x hx=>.inl (by simp at hx;simp [hx]))
theorem wr_facts {w w1 : World} {B g : Nat} {A : Option Addr} {cap : Nat} {bs : List UInt8} (h : WrAt w B g A cap bs) (hk : Keep (blk A) w w1) :
    (∀ j,w1.frozen? ⟨g,j,none⟩ = false) ∧ w1.cell? ⟨g,0,none⟩ = some (.slice A bs.length cap) ∧ w1.cell? ⟨g,1,none⟩ = some (.int .i64 0):=by
  have hg : w1.heap[g]? = some (.cells (wrC ⟨.slice A bs.length cap,0,true⟩) 225 (0,0)):=(hk.block g h.lt h.ne).trans h.heap;refine ⟨fun j=>by simp [World.frozen?,hg],?_,?_⟩ <;> rw [cell_of_row w1 g _ _ _ _ hg] <;> simp [go_sem]
set_option maxRecDepth 100000 in
set_option maxHeartbeats 1000000 in
theorem wraw (w : World) (B g : Nat) (A : Option Addr) (cap : Nat) (bs : List UInt8) (h : WrAt w B g A cap bs) (s : ByteArray) (hs : bs.length + s.size ≤ 1000000000) :
    Calls Tryz.prog 105 #[.pointer (some ⟨g,0,none⟩),.string s] w fun e w'=>e = .returned (.pointer (some ⟨g,0,none⟩)) ∧ WStep w B g A (bs ++ s.data.toList) w':=by
  obtain ⟨c0,c1,c2⟩:=h.cell;go_enter Tryz.func105,Tryz.ntmps105
  (go_wp2_with fail);refine (wnone _ _ c2).mono ?_;rintro e w' ⟨rfl,rfl⟩;obtain ⟨i,i1,i2,i3,i4⟩:=byteInfo;have hown:=h.own;have hb:=h.base;go_wp2_with (at_builtin;refine L_append_str Tryz.underlying89 Tryz.underlying9 i1 i2 i3 i4 rfl hown rfl (by omega) hb ?_;intro A' cap' w' hown' hk hsub;obtain ⟨f0,d0,_⟩:=wr_facts h hk;have f0:=f0 0)
  go_ret;have e : (bs ++ s.data.toList).length = bs.length + s.size:=by rw [List.length_append];rfl
  have hw:=wr_store h hk (bs':=bs ++ s.data.toList) (cap':=cap') (by rw [e];exact hown') hsub;rw [e] at hw;exact ⟨rfl,hw⟩
theorem wfail_d (g e : Nat) (u : FrameMode) (w : World) (hb : w.cell? ⟨g,1,none⟩ = some (.int .i64 0)) (he : w.cell? ⟨e,0,none⟩ = some (.int .i64 0)) (hz : w.frozen? ⟨g,1,none⟩ = false) :
    CallsD Tryz.prog 142 #[.pointer (some ⟨g,0,none⟩),.pointer (some ⟨e,0,none⟩)] u w fun en u' w'=>u' = u ∧ (en = .returned (.tuple #[]) ∧ w' = w.setCell ⟨g,1,none⟩ (.int .i64 0)):=by
  go_enter_d Tryz.func142,Tryz.ntmps142
  go_wp2
  go_end0;exact ⟨rfl,rfl⟩
theorem obits (n : Int) (w : World) (hn : n = 1 ∨ n = 2 ∨ n = 4) : Calls Tryz.prog 143 #[.int .i64 n] w fun e w'=>e = .returned (.int .i64 (8 * n)) ∧ w = w':=by
  rcases hn with rfl | rfl | rfl
  · go_enter Tryz.func143,Tryz.ntmps143
    (go_wp2_with fail);go_ret;exact ⟨rfl,rfl⟩
  · go_enter Tryz.func143,Tryz.ntmps143
    (go_wp2_with fail);go_ret;exact ⟨rfl,rfl⟩
  · go_enter Tryz.func143,Tryz.ntmps143
    (go_wp2_with fail);go_ret;exact ⟨rfl,rfl⟩
def beL : Nat → Nat → List UInt8
  | 0,_=>[]
  | m + 1,n=>UInt8.ofNat (n / 256 ^ m) :: beL m n
theorem beL_length : ∀ m n,(beL m n).length = m
  | 0,_=>rfl
  | m + 1,n=>by simp [beL,beL_length m n]
theorem wstep_trans {w w1 w2 : World} {B g : Nat} {A A1 : Option Addr} {cap1 : Nat} {bs1 bs2 : List UInt8} (h1 : WrAt w1 B g A1 cap1 bs1) (hk : Keep (g :: blk A) w w1) (hsub : ∀ x ∈ blk A1,x ∈ blk A ∨ w.heap.size ≤ x) (h : WStep w1 B g A1 bs2 w2) : WStep w B g A bs2 w2:=by
  obtain ⟨A2,cap2,h2,hk2,hsub2⟩:=h;refine ⟨A2,cap2,h2,Keep.trans hk hk2 (fun x hx=>?_),fun x hx=>?_⟩
  · rcases List.mem_cons.1 hx with rfl | hx
    · left;simp
    · rcases hsub x hx with h | h
      · left;simp [h]
      · right;exact h
  · rcases hsub2 x hx with h | h
    · exact hsub x h
    · right;have:=hk.size;omega
theorem wr_bad {w : World} {B g : Nat} {A : Option Addr} {cap : Nat} {bs : List UInt8} (h : WrAt w B g A cap bs) : WStep w B g A bs (w.setCell ⟨g,1,none⟩ (.int .i64 0)):=by
  have hs : Keep [g] w (w.setCell ⟨g,1,none⟩ (.int .i64 0)):=Keep.setCell w ⟨g,1,none⟩ _;refine ⟨A,cap,⟨?_,h.own.kept hs (fun x hx e=>h.ne (by simp at e;rw [← e];exact hx)),h.ne,Nat.le_trans h.base hs.size⟩,hs.mono (fun x hx=>.inl (by simp at hx;simp [hx])),fun x hx=>.inl hx⟩;rw [heap_setCell_same h.heap];simp [wrC]
set_option maxRecDepth 100000 in
set_option maxHeartbeats 4000000 in
theorem wnum (w : World) (B g : Nat) (A : Option Addr) (cap : Nat) (bs : List UInt8) (h : WrAt w B g A cap bs) (n M : Nat) (hM : M = 1 ∨ M = 2 ∨ M = 4) (hn : n < 256 ^ M) (hs : bs.length + M ≤ 1000000000) :
    Calls Tryz.prog 104 #[.pointer (some ⟨g,0,none⟩),.int .i64 n,.int .i64 M] w fun e w'=>e = .returned (.pointer (some ⟨g,0,none⟩)) ∧ WStep w B g A (bs ++ beL M n) w':=by
  obtain ⟨c0,c1,c2⟩:=h.cell;have hp : (256 : Nat) ^ M = 2 ^ (8 * M):=by rw [show (256 : Nat) = 2 ^ 8 from rfl,← Nat.pow_mul]
  have hsh : ((n : Int) / 2 ^ (8 * M) != 0) = false:=by
    have h1 : n / 2 ^ (8 * M) = 0:=Nat.div_eq_of_lt (by rw [← hp];exact hn);have h2 : ((n / 2 ^ (8 * M) : Nat) : Int) = (n : Int) / 2 ^ (8 * M):=by simp
    rw [← h2,h1];rfl
  have hbw : Below w.heap.size w (w.alloc (.cells #[.int .i64 0] 81)):=(Below.refl _ _).alloc (Nat.le_refl _) _;have hw1:=h.below hbw;have hA : ∀ x ∈ blk A,x < w.heap.size:=fun x hx=>(h.own.at_base hx).2;have hgl:=h.lt;have hz : (8 * (M : Int) == 0) = false:=by rw [beq_eq_false_iff_ne];omega
  go_enter_defers Tryz.func104,Tryz.ntmps104
  (go_wp2_with fail);refine (wnone _ _ c2).mono ?_;rintro e w' ⟨rfl,rfl⟩;(go_wp2_with fail);refine (obits M _ (by omega)).mono ?_;rintro e w' ⟨rfl,rfl⟩;(go_wp2_with fail);have he0 : (w.alloc (.cells #[.int .i64 0] 81)).cell? ⟨w.heap.size,0,none⟩ = some (.int .i64 0):=by simp [go_sem]
  clear hsh hbw c0 c1 c2 hn;generalize hW : w.alloc (.cells #[.int .i64 0] 81) = W at *;go_loopw [8] (fun kv wr=>∃ (j : Nat) (pre : List UInt8),j ≤ M ∧ pre.length + j = M ∧ kv = .int .i64 (8 * (j : Int)) ∧ Hid (pre ++ beL j n = beL M n) ∧ WStep W B g A (bs ++ pre) wr) (fun kv _=>(intOf kv).toNat)
  case atStart=>exact ⟨M,[],Nat.le_refl _,by simp,rfl,rfl,A,cap,by simpa using hw1,Keep.refl _ _,fun x hx=>.inl hx⟩
  case round =>
    obtain ⟨j,pre,hj,hpl,rfl,hpre,A1,cap1,hwr,hk,hsub⟩:=hrel;have Hsub:=Lib.hid hsub;by_cases hj0 : j = 0
    · subst hj0;have he1 : wr.cell? ⟨w.heap.size,0,none⟩ = some (.int .i64 0):=(hk.cell (p:=⟨w.heap.size,0,none⟩) (by rw [← hW];simp) (by
        simp only [List.mem_cons,not_or];exact ⟨by omega,fun hx=>by have:=hA _ hx;omega⟩)).trans he0
      obtain ⟨f1,_,d1⟩:=wr_facts hwr (Keep.refl _ _);have f1:=f1 1;have hpe : pre = beL M n:=by have:=hpre.out;simpa [beL] using this
      subst hpe;(go_wp2_with fail);refine leaves_cons (f:=142) (args:=#[.pointer (some ⟨g,0,none⟩),.pointer (some ⟨w.heap.size,0,none⟩)]) (by simp) (by simp [go_sem]) ?_;refine (wfail_d g w.heap.size .returning _ d1 he1 f1).mono ?_;rintro e u' w'' ⟨rfl,rfl,rfl⟩;refine ⟨_,results_tmp rfl _ _ _,rfl,?_⟩;have h0 : Keep [] w W:=by rw [← hW];exact Keep.alloc _ _
      exact wstep_trans hw1 (h0.mono (by simp)) (fun x hx=>.inl hx) (wstep_trans hwr hk Hsub.out (wr_bad hwr))
    · obtain ⟨j,rfl⟩ : ∃ j',j = j' + 1:=⟨j - 1,by omega⟩
      have e8 : 8 * ((j : Int) + 1) - 8 = ((8 * j : Nat) : Int):=by omega
      obtain ⟨c0,_,_⟩:=hwr.cell;have hwlt:=hwr.lt;obtain ⟨c,hc⟩ : ∃ c,UInt8.ofNat (n / 256 ^ j) = c:=⟨_,rfl⟩
      have eb : IntKind.u8.wrap ((n : Int) / 2 ^ (8 * (j : Int)).toNat) = ((c.toNat : Nat) : Int):=by
        rw [← hc];have h1 : (8 * (j : Int)).toNat = 8 * j:=by omega
        have h2 : (256 : Nat) ^ j = 2 ^ (8 * j):=by rw [show (256 : Nat) = 2 ^ 8 from rfl,← Nat.pow_mul]
        have h3 : ((n / 2 ^ (8 * j) : Nat) : Int) = (n : Int) / 2 ^ (8 * j):=by simp
        rw [h1,← h3,h2];simp [IntKind.wrap,IntKind.signed,IntKind.bits]
      go_upto_region 8 with fail
      refine wp_region_lexf (Kp (blk A1) wr) false (by kernel_rfl) (by kernel_rfl) (by kernel_rfl) (by kernel_rfl) (kp_drew (blk A1) wr) ?_;have hne:=kp_some (blk A1) wr;have hS:=kp_drew (blk A1) wr;have b1:=ksub_cell c0 hwr.ne;repeat (refine wpLx_loose ?_ ?_;(focus (simp only [chainOp];done));intro K hK;go_simp;refine hK _ ?_;clear hK K)
      refine wpLx_chain ?_ ?_ ?_;(focus (exact hS));(focus (simp only [chainOp];done));intro K hK;go_simp;refine step_keep (Keep.trans (Keep.trans (Keep.refl (blk A1) wr) (Keep.alloc wr _) (by simp)) (Keep.drew _) (by simp)) (fun hS2=>?_);refine hK _ _ ?_;clear hK K;have hk0 : Keep [] wr (wr.alloc (.cells #[.int .u8 c.toNat] 5)).drew:=Keep.trans (Keep.alloc wr _) (Keep.drew _) (by simp);have hownr:=hwr.own.kept hk0 (by simp);have hrow2 : rowAt (wr.alloc (.cells #[.int .u8 c.toNat] 5)).drew wr.heap.size 0 1 = some (byteR c):=by simp [go_sem,byteR,byteC]
      have hlen0 : (bs ++ pre).length = bs.length + pre.length:=List.length_append;rw [hlen0] at hownr;have hB1:=hwr.base;refine Lx_append einfoByte rfl hownr rfl hrow2 (by simp [byteR,byteC];rfl) (by omega) (by omega) (by simp;omega) ?_;intro A2 cap2 w2 hown2 hk2 hsub2;have hk3 : Keep (blk A1) wr w2:=Keep.trans (hk0.mono (S':=blk A1) (by simp)) hk2 (fun x hx=>.inl hx);refine step_keep hk3 (fun hS3=>?_);repeat (refine wpLx_loose ?_ ?_;(focus (simp only [chainOp];done));intro K hK;go_simp;refine hK _ ?_;clear hK K)
      obtain ⟨f0,d0,_⟩:=wr_facts hwr hk3;have f0:=f0 0;refine wpLx_end ?_ ?_;(focus (simp only [chainOp];done));intro K hK;go_simp;refine hK _ _ ?_;clear hK K;have hl2 : (bs ++ (pre ++ [c])).length = bs.length + pre.length + 1:=by simp [Nat.add_assoc]
      have hst:=wr_store hwr hk3 (bs':=bs ++ (pre ++ [c])) (A':=A2) (cap':=cap2) (by rw [hl2,← List.append_assoc];simpa [bytesR] using hown2) (fun x hx=>by
        rcases hsub2 x hx with h | h
        · exact .inl h
        · right;simp at h;omega)
      rw [hl2] at hst;have hst2:=wstep_trans hwr hk Hsub.out hst;have Hst:=Lib.hid hst2;clear hst hst2 hS hS2 hS3 b1 hne f0 d0;(go_wp2_with fail);go_roundw
      case rel=>exact ⟨j,pre ++ [c],by omega,by simp;omega,by go_num,(show (pre ++ [c]) ++ beL j n = beL M n by rw [← hpre.out];simp [beL,hc]),Hst.out⟩
      case measure=>simp [intOf];omega
theorem own_string {w : World} {B : Nat} {A : Option Addr} {n cap : Nat} {bs : List UInt8} (h : Own w B 5 1 A n cap (bytesR bs)) (hn : n = bs.length) :
    (convert 89 9 (.slice A n cap)).run Tryz.prog w = .ok (.string ⟨bs.toArray⟩) w:=by
  subst hn;rcases h.addr with rfl | ⟨g,rfl⟩
  · have h0 : bs = []:=by
      rcases h.row.2 with ⟨_,h0⟩ | ⟨g,c,cur,hv,_⟩
      · exact List.eq_nil_of_length_eq_zero h0
      · cases hv
    subst h0;exact Go.Lib.run_convert_nil_bytes w _ _ _ _ Tryz.underlying89 Tryz.underlying5 Tryz.underlying9
  · refine run_convert_bytes_back w _ _ _ _ _ _ Tryz.underlying89 Tryz.underlying5 Tryz.underlying9 (fun j hj=>?_);have hrow:=h.row;rw [bytesR_flat] at hrow;have:=hrow.cells (g:=g) rfl j (byteC bs[j]) (by simp [hj]);exact this
set_option maxHeartbeats 1000000 in
theorem wdone (w : World) (B g : Nat) (A : Option Addr) (cap : Nat) (bs : List UInt8) (h : WrAt w B g A cap bs) :
    Calls Tryz.prog 106 #[.pointer (some ⟨g,0,none⟩)] w fun e w'=>e = .returned (.tuple #[.string ⟨bs.toArray⟩,.int .i64 0]) ∧ w = w':=by
  obtain ⟨c0,c1,c2⟩:=h.cell;have hs:=own_string h.own rfl;go_enter Tryz.func106,Tryz.ntmps106
  (go_wp2_with fail);refine (wnone _ _ c2).mono ?_;rintro e w' ⟨rfl,rfl⟩;(go_wp2_with fail);go_ret2;exact ⟨rfl,rfl⟩
end
section
open Go.RowKit
structure Rd where
  s : ByteArray
  p : Int
  bad : Int
  made : Bool
def rdC (x : Rd) : Array Value:=#[.string x.s] ++ #[.int .i64 x.p] ++ #[.int .i64 x.bad] ++ #[.bool x.made]
def rd0 : Rd:=⟨⟨#[]⟩,0,0,false⟩
theorem Rd_ext {x y : Rd} (h : x.s = y.s ∧ x.p = y.p ∧ x.bad = y.bad ∧ x.made = y.made) : x = y:=by cases x;cases y;simp_all
instance : DecidableEq Rd:=fun x y=>if h : x.s = y.s ∧ x.p = y.p ∧ x.bad = y.bad ∧ x.made = y.made then isTrue (Rd_ext h) else isFalse (fun e=>h (by subst e;simp))
@[go_sem ↓] theorem loadRd_rw (a : Addr) : loadVar 232 a = ldS 232 a:=rfl
@[go_sem ↓] theorem storeRd_rw (a : Addr) (v : Value) : storeVar 232 a v = stS 232 a v:=rfl
@[go_sem ↓] theorem buildRd_rw (parts : Array (Nat × Value)) : Instr.build 232 parts = bdS 232 parts:=rfl
def mkB (l : List UInt8) : ByteArray:=⟨l.toArray⟩
def rawV (n : Nat) (l : List UInt8) (e : Int) : List UInt8:=if e = 0 ∧ n ≤ l.length then l.take n else []
def rawL (n : Nat) (l : List UInt8) (e : Int) : List UInt8:=if e = 0 ∧ n ≤ l.length then l.drop n else l
def rawE (n : Nat) (l : List UInt8) (e : Int) : Int:=if e = 0 then (if n ≤ l.length then 0 else 2) else e
def beN (l : List UInt8) : Nat:=l.foldl (fun n c=>256 * n + c.toNat) 0
def endE (l : List UInt8) (e : Int) : Int:=if e = 0 then (if l = [] then 0 else 4) else e
def RdAt (w : World) (g : Nat) (l : List UInt8) (e : Int) : Prop :=
  ∃ (s : ByteArray) (a : Nat),a ≤ s.size ∧ s.size ≤ 9223372036854775807 ∧ w.heap[g]? = some (.cells (rdC ⟨s,a,e,true⟩) 232 (0,0)) ∧ l = s.data.toList.drop a
def RdStep (w : World) (g : Nat) (l : List UInt8) (e : Int) (w' : World) : Prop:=RdAt w' g l e ∧ Keep [g] w w'
end
section
open Go.RowKit
def numV (M : Nat) (l : List UInt8) (e : Int) : Nat:=beN (rawV M l e)
end
section
open Go.RowKit
structure Rr where
  s : ByteArray
  e : Int
def rrC (x : Rr) : Array Value:=#[.string x.s] ++ #[.int .i64 x.e]
def rr0 : Rr:=⟨⟨#[]⟩,0⟩
theorem Rr_ext {x y : Rr} (h : x.s = y.s ∧ x.e = y.e) : x = y:=by cases x;cases y;simp_all
instance : DecidableEq Rr:=fun x y=>if h : x.s = y.s ∧ x.e = y.e then isTrue (Rr_ext h) else isFalse (fun e=>h (by subst e;simp))
@[go_sem ↓] theorem loadRr_rw (a : Addr) : loadVar 133 a = ldS 133 a:=rfl
@[go_sem ↓] theorem storeRr_rw (a : Addr) (v : Value) : storeVar 133 a v = stS 133 a v:=rfl
@[go_sem ↓] theorem buildRr_rw (parts : Array (Nat × Value)) : Instr.build 133 parts = bdS 133 parts:=rfl
def RrAt (w : World) (g : Nat) (l : List UInt8) (e : Int) : Prop :=
  l.length ≤ 9223372036854775807 ∧ w.heap[g]? = some (.cells (rrC ⟨mkB l,e⟩) 133 (0,0))
def RrStep (w : World) (g : Nat) (l : List UInt8) (e : Int) (w' : World) : Prop:=RrAt w' g l e ∧ Keep [g] w w'
end
section
open Go.RowKit
def idOf (v : List UInt8) : Id32:=if h : v.length = 32 then ⟨v,h⟩ else id0
def idA (v : List UInt8) (k : Nat) : Array Value:=((v.take k).map byteC ++ List.replicate (32 - k) (Value.int .u8 0)).toArray
theorem idA_zero (v : List UInt8) : idA v 0 = idC id0:=by unfold idA;simp [idC];rfl
theorem idA_size (v : List UInt8) (k : Nat) (hk : k ≤ v.length) (h32 : k ≤ 32) : (idA v k).size = 32:=by unfold idA;simp;omega
theorem idA_set (v : List UInt8) (k : Nat) (hk : k < v.length) (h32 : k < 32) : (idA v k).setIfInBounds k (.int .u8 (v[k]).toNat) = idA v (k + 1):=by
  unfold idA;apply Array.ext';rw [Array.toList_setIfInBounds];have e : v.take (k + 1) = v.take k ++ [v[k]]:=by rw [List.take_add_one,List.getElem?_eq_getElem hk];rfl
  have e2 : 32 - k = (32 - (k + 1)) + 1:=by omega
  have e3 : ((v.take k).map byteC).length = k:=by simp;omega
  rw [e,e2,List.replicate_succ,List.set_append_right _ _ (by rw [e3];exact Nat.le_refl _),e3,Nat.sub_self,List.map_append];simp [byteC]
theorem idA_full (v : List UInt8) (h : v.length = 32 ∨ v = []) : idA v v.length = idC (idOf v):=by
  rcases h with h | h
  · unfold idA idOf;rw [dif_pos h,List.take_length,h];simp [idC]
  · subst h;rw [show ([] : List UInt8).length = 0 from rfl,idA_zero];rfl
theorem run_stS_at {P : Program} {t : TypeId} {k : Nat} (hi : (P.info? t).map (·.size) = some k) (w : World) (g : Nat) (z cs : Array Value) (e : TypeId) (h : w.heap[g]? = some (.cells z e (0,0))) (hz : z.size = k) (hc : cs.size = k) (h1 : ∀ u ∈ cs.toList,u.oneCell' = true) :
    (stS t ⟨g,0,none⟩ (.agg cs)).run P w = .ok () (w.setRow g cs):=by
  unfold stS storeVar;cases hinfo : P.info? t with
  | none=>rw [hinfo] at hi;cases hi
  | some i =>
    rw [hinfo] at hi;have hk : i.size = k:=by simpa using hi
    have hst:=run_storeCells_at P g 0 e cs.toList 0 z w h (by simp;omega) h1;have hE : (z.toList.take (0 + 0) ++ cs.toList ++ z.toList.drop (0 + 0 + cs.toList.length)).toArray = cs:=by
      rw [List.drop_of_length_le (by simp;omega)]
      simp
    rw [hE] at hst;simp [Value.cells,sizeOf,typeInfo,hinfo,hk,hc];exact hst
end
section
open Go.RowKit
def txV (l : List UInt8) (e : Int) : ByteArray:=mkB (rawV (numV 1 l e) (rawL 1 l e) (rawE 1 l e))
def txL (l : List UInt8) (e : Int) : List UInt8:=rawL (numV 1 l e) (rawL 1 l e) (rawE 1 l e)
def txE (l : List UInt8) (e : Int) : Int:=rawE (numV 1 l e) (rawL 1 l e) (rawE 1 l e)
end
section
open Go.RowKit
abbrev cmpB:=Lib.compareBytes
theorem cmpB_self : ∀ a : List UInt8,cmpB a a = 0
  | []=>rfl
  | c :: a=>by
    show (if c < c then (-1 : Int) else if c < c then 1 else cmpB a a) = 0;rw [if_neg (by simp),if_neg (by simp)];exact cmpB_self a
theorem cmpB_eq : ∀ a b : List UInt8,cmpB a b = 0 → a = b
  | [],[],_=>rfl
  | [],_ :: _,h=>by cases h
  | _ :: _,[],h=>by cases h
  | c :: a,d :: b,h=>by
    have h' : (if c < d then (-1 : Int) else if d < c then 1 else cmpB a b) = 0:=h;by_cases h1 : c < d
    · rw [if_pos h1] at h';cases h'
    · rw [if_neg h1] at h';by_cases h2 : d < c
      · rw [if_pos h2] at h';cases h'
      · rw [if_neg h2] at h';have e : c = d:=by
          simp only [UInt8.lt_iff_toNat_lt] at h1 h2;exact UInt8.toNat_inj.1 (by omega)
        rw [e,cmpB_eq a b h']
theorem cmpB_zero (a b : List UInt8) : cmpB a b = 0 ↔ a = b:=⟨cmpB_eq a b,fun h=>by rw [h];exact cmpB_self b⟩
theorem cmpB_anti : ∀ a b : List UInt8,cmpB b a = - cmpB a b
  | [],[]=>rfl
  | [],_ :: _=>rfl
  | _ :: _,[]=>rfl
  | c :: a,d :: b=>by
    show (if d < c then (-1 : Int) else if c < d then 1 else cmpB b a) = -(if c < d then (-1 : Int) else if d < c then 1 else cmpB a b);by_cases h1 : c < d
    · have h2 : ¬ d < c:=by rw [UInt8.lt_iff_toNat_lt] at *;omega
      rw [if_neg h2,if_pos h1,if_pos h1];rfl
    · by_cases h2 : d < c
      · rw [if_pos h2,if_neg h1,if_pos h2]
      · rw [if_neg h2,if_neg h1,if_neg h1,if_neg h2];exact cmpB_anti a b
theorem cmpB_trans : ∀ a b c : List UInt8,cmpB a b < 0 → cmpB b c < 0 → cmpB a c < 0
  | [],[],_,h,_=>by cases h
  | [],_ :: _,[],_,h=>by cases h
  | [],_ :: _,_ :: _,_,_=>by show (-1 : Int) < 0;omega
  | _ :: _,[],_,h,_=>by cases h
  | _ :: _,_ :: _,[],_,h=>by cases h
  | x :: a,y :: b,z :: c,h1,h2=>by
    have h1' : (if x < y then (-1 : Int) else if y < x then 1 else cmpB a b) < 0:=h1;have h2' : (if y < z then (-1 : Int) else if z < y then 1 else cmpB b c) < 0:=h2;show (if x < z then (-1 : Int) else if z < x then 1 else cmpB a c) < 0;simp only [UInt8.lt_iff_toNat_lt] at *;by_cases p1 : x.toNat < y.toNat
    · by_cases q1 : y.toNat < z.toNat
      · rw [if_pos (by omega)];omega
      · rw [if_neg q1] at h2';by_cases q2 : z.toNat < y.toNat
        · rw [if_pos q2] at h2';omega
        · rw [if_pos (by omega)];omega
    · rw [if_neg p1] at h1';by_cases p2 : y.toNat < x.toNat
      · rw [if_pos p2] at h1';omega
      · rw [if_neg p2] at h1';by_cases q1 : y.toNat < z.toNat
        · rw [if_pos (by omega)];omega
        · rw [if_neg q1] at h2';by_cases q2 : z.toNat < y.toNat
          · rw [if_pos q2] at h2';omega
          · rw [if_neg q2] at h2';rw [if_neg (by omega),if_neg (by omega)];exact cmpB_trans a b c h1' h2'
def cmpS (a b : ByteArray) : Int:=cmpB a.toList b.toList
def cmpId (a b : Id32) : Int:=cmpB a.l b.l
def cmpI (a b : Int) : Int:=if a < b then -1 else if b < a then 1 else 0
def bltS (a b : ByteArray) : Bool:=Op.bytesLess a.toList b.toList
theorem cmpId_zero (a b : Id32) : cmpId a b = 0 ↔ a = b:=by
  unfold cmpId;rw [cmpB_zero];exact ⟨Id32.ext',fun h=>by rw [h]⟩
theorem cmpId_self (a : Id32) : cmpId a a = 0:=cmpB_self _
theorem cmpId_anti (a b : Id32) : cmpId b a = - cmpId a b:=cmpB_anti _ _
theorem cmpId_trans (a b c : Id32) : cmpId a b < 0 → cmpId b c < 0 → cmpId a c < 0:=cmpB_trans _ _ _
def orL : List Int → Int
  | []=>0
  | a :: l=>if a = 0 then orL l else a
end
section
open Go.RowKit Go.Sort
structure TotC {α : Type} (c : α → α → Int) : Prop where
  zero : ∀ a b,c a b = 0 ↔ a = b
  anti : ∀ a b,c b a = - c a b
  trans : ∀ a b d,c a b < 0 → c b d < 0 → c a d < 0
theorem totId : TotC cmpId:=⟨cmpId_zero,cmpId_anti,cmpId_trans⟩
section
variable {α : Type} {c : α → α → Int}
theorem TotC.irr (T : TotC c) (a : α) : ¬ c a a < 0:=by rw [(T.zero a a).2 rfl];omega
theorem TotC.asym (T : TotC c) {a b : α} (h : c a b < 0) : ¬ c b a < 0:=by have:=T.anti a b;omega
def orC (a b : Int) : Int:=if a = 0 then b else a
def Ris (c : α → α → Int) (l : List α) : Prop:=l.Pairwise (fun x y=>c x y < 0)
theorem Ris.nil : Ris c []:=List.Pairwise.nil
theorem ris_cons {x : α} {l : List α} : Ris c (x :: l) ↔ (∀ y ∈ l,c x y < 0) ∧ Ris c l:=List.pairwise_cons
def insC (c : α → α → Int) : List α → α → List α
  | [],x=>[x]
  | y :: l,x=>if c y x < 0 then y :: insC c l x else if c y x = 0 then y :: l else x :: y :: l
def sortC (c : α → α → Int) (l : List α) : List α:=l.foldl (insC c) []
theorem mem_insC (T : TotC c) : ∀ {l : List α} {x z : α},z ∈ insC c l x ↔ z = x ∨ z ∈ l
  | [],x,z=>by simp [insC]
  | y :: l,x,z=>by
    unfold insC;split
    · rw [List.mem_cons,mem_insC T,List.mem_cons];constructor
      · rintro (h | h | h)
        · exact .inr (.inl h)
        · exact .inl h
        · exact .inr (.inr h)
      · rintro (h | h | h)
        · exact .inr (.inl h)
        · exact .inl h
        · exact .inr (.inr h)
    · split
      · rename_i h0
        have e : y = x:=(T.zero y x).1 h0;subst e;simp only [List.mem_cons];constructor
        · rintro (h | h)
          · exact .inl h
          · exact .inr (.inr h)
        · rintro (h | h | h)
          · exact .inl h
          · exact .inl h
          · exact .inr h
      · simp only [List.mem_cons]
theorem ris_insC (T : TotC c) : ∀ {l : List α} {x : α},Ris c l → Ris c (insC c l x)
  | [],x,_=>by simp [insC,Ris]
  | y :: l,x,h=>by
    obtain ⟨h1,h2⟩:=ris_cons.1 h;unfold insC;split
    · rename_i hlt
      refine ris_cons.2 ⟨fun z hz=>?_,ris_insC T h2⟩;rcases (mem_insC T).1 hz with e | hz
      · rw [e];exact hlt
      · exact h1 z hz
    · rename_i hlt
      split
      · exact h
      · rename_i h0
        have hxy : c x y < 0:=by have:=T.anti y x;omega
        refine ris_cons.2 ⟨fun z hz=>?_,h⟩;rcases List.mem_cons.1 hz with e | hz
        · rw [e];exact hxy
        · exact T.trans _ _ _ hxy (h1 z hz)
theorem foldl_insC (T : TotC c) : ∀ (l a : List α),Ris c a → Ris c (l.foldl (insC c) a) ∧ ∀ z,z ∈ l.foldl (insC c) a ↔ z ∈ a ∨ z ∈ l
  | [],a,h=>⟨h,fun z=>by simp⟩
  | x :: l,a,h=>by
    obtain ⟨h1,h2⟩:=foldl_insC T l (insC c a x) (ris_insC T h);refine ⟨h1,fun z=>?_⟩;rw [List.foldl_cons,h2,mem_insC T,List.mem_cons];constructor
    · rintro ((h | h) | h)
      · exact .inr (.inl h)
      · exact .inl h
      · exact .inr (.inr h)
    · rintro (h | h | h)
      · exact .inl (.inr h)
      · exact .inl (.inl h)
      · exact .inr h
theorem ris_sortC (T : TotC c) (l : List α) : Ris c (sortC c l):=(foldl_insC T l [] Ris.nil).1
theorem mem_sortC (T : TotC c) {l : List α} {z : α} : z ∈ sortC c l ↔ z ∈ l:=by
  have:=(foldl_insC T l [] Ris.nil).2 z;simpa [sortC] using this
theorem sortC_snoc (l : List α) (x : α) : sortC c (l ++ [x]) = insC c (sortC c l) x:=by simp [sortC]
theorem insC_length (l : List α) (x : α) : (insC c l x).length ≤ l.length + 1:=by
  induction l with
  | nil=>simp [insC]
  | cons y l ih =>
    unfold insC
    repeat' split
    all_goals simp;try omega
theorem sortC_length (l : List α) : (sortC c l).length ≤ l.length:=by
  have h : ∀ (l a : List α),(l.foldl (insC c) a).length ≤ a.length + l.length:=by
    intro l;induction l with
    | nil=>intro a;simp
    | cons x l ih =>
      intro a;have h1:=ih (insC c a x);have h2:=insC_length (c:=c) a x;simp only [List.foldl_cons,List.length_cons];omega
  simpa [sortC] using h l []
theorem ris_ext (T : TotC c) : ∀ {l m : List α},Ris c l → Ris c m → (∀ z,z ∈ l ↔ z ∈ m) → l = m
  | [],[],_,_,_=>rfl
  | [],y :: m,_,_,h=>absurd ((h y).2 (by simp)) (by simp)
  | x :: l,[],_,_,h=>absurd ((h x).1 (by simp)) (by simp)
  | x :: l,y :: m,hl,hm,h=>by
    obtain ⟨h1,h2⟩:=ris_cons.1 hl;obtain ⟨k1,k2⟩:=ris_cons.1 hm;have e : x = y:=by
      rcases List.mem_cons.1 ((h x).1 (by simp)) with e | hx
      · exact e
      · rcases List.mem_cons.1 ((h y).2 (by simp)) with e | hy
        · exact e.symm
        · exact absurd (k1 x hx) (T.asym (h1 y hy))
    subst e;congr 1
    refine ris_ext T h2 k2 fun z=>?_;have hz:=h z;simp only [List.mem_cons] at hz;constructor
    · intro hzl;rcases hz.1 (.inr hzl) with e | e
      · subst e;exact absurd (h1 z hzl) (T.irr z)
      · exact e
    · intro hzm;rcases hz.2 (.inr hzm) with e | e
      · subst e;exact absurd (k1 z hzm) (T.irr z)
      · exact e
theorem insC_old (T : TotC c) {l : List α} {x : α} (h : Ris c l) (hx : x ∈ l) : insC c l x = l :=
  ris_ext T (ris_insC T h) h fun z=>by rw [mem_insC T];exact ⟨fun h=>h.elim (fun e=>by rw [e];exact hx) id,.inr⟩
theorem sortC_ris (T : TotC c) {l : List α} (h : Ris c l) : sortC c l = l:=ris_ext T (ris_sortC T l) h fun _=>mem_sortC T
theorem insC_at : ∀ (l : List α) (x : α) (k : Nat),k ≤ l.length → (∀ j (hj : j < l.length),j < k → c l[j] x < 0) → (∀ hk : k < l.length,0 < c l[k] x) → insC c l x = l.take k ++ x :: l.drop k
  | [],x,k,hk,_,_=>by
    have : k = 0:=by simpa using hk
    subst this;rfl
  | y :: l,x,0,_,_,h2=>by
    have h:=h2 (by simp);simp only [List.getElem_cons_zero] at h;unfold insC;rw [if_neg (by omega),if_neg (by omega)];rfl
  | y :: l,x,k + 1,hk,h1,h2=>by
    have h:=h1 0 (by simp) (by omega);simp only [List.getElem_cons_zero] at h;unfold insC;rw [if_pos h,insC_at l x k (by simpa using hk) (fun j hj hjk=>by have:=h1 (j + 1) (by simpa using hj) (by omega);simpa using this) (fun hk'=>by have:=h2 (by simpa using hk');simpa using this)];rfl
end
end
section
open Go.RowKit
structure OpV where
  k : Nat
  n : Int
  key : ByteArray
  val : ByteArray
  ref : Id32
  refs : List Id32
def opZero : OpV:=⟨0,0,⟨#[]⟩,⟨#[]⟩,id0,[]⟩
structure IdsR where
  ids : List Id32
  l : List UInt8
  e : Int
def idStep (s : IdsR) : IdsR:=⟨s.ids ++ [idOf (rawV 32 s.l s.e)],rawL 32 s.l s.e,rawE 32 s.l s.e⟩
def idLoop : Nat → IdsR → IdsR
  | 0,s=>s
  | k + 1,s=>idLoop k (idStep s)
def refsR (l : List UInt8) (e : Int) : IdsR:=idLoop (numV 1 l e) ⟨[],rawL 1 l e,rawE 1 l e⟩
structure OpR where
  o : OpV
  l : List UInt8
  e : Int
def takeO : Nat → List UInt8 → Int → OpR
  | 1,l,e=>⟨⟨1,(numV 4 l e : Int) - 2147483648,⟨#[]⟩,⟨#[]⟩,id0,[]⟩,rawL 4 l e,rawE 4 l e⟩
  | 2,l,e=>⟨⟨2,0,⟨#[]⟩,txV l e,id0,[]⟩,txL l e,txE l e⟩
  | 3,l,e=>⟨⟨3,0,⟨#[]⟩,txV l e,id0,(refsR (txL l e) (txE l e)).ids⟩,(refsR (txL l e) (txE l e)).l,(refsR (txL l e) (txE l e)).e⟩
  | 4,l,e=>⟨⟨4,(numV 4 (txL (txL l e) (txE l e)) (txE (txL l e) (txE l e)) : Int),txV l e,txV (txL l e) (txE l e),id0,[]⟩,rawL 4 (txL (txL l e) (txE l e)) (txE (txL l e) (txE l e)),rawE 4 (txL (txL l e) (txE l e)) (txE (txL l e) (txE l e))⟩
  | 5,l,e=>⟨⟨5,0,txV l e,txV (txL l e) (txE l e),id0,(refsR (txL (txL l e) (txE l e)) (txE (txL l e) (txE l e))).ids⟩,(refsR (txL (txL l e) (txE l e)) (txE (txL l e) (txE l e))).l,(refsR (txL (txL l e) (txE l e)) (txE (txL l e) (txE l e))).e⟩
  | 6,l,e=>⟨⟨6,0,⟨#[]⟩,txV (rawL 32 l e) (rawE 32 l e),idOf (rawV 32 l e),[]⟩,txL (rawL 32 l e) (rawE 32 l e),txE (rawL 32 l e) (rawE 32 l e)⟩
  | 7,l,e=>⟨⟨7,0,⟨#[]⟩,⟨#[]⟩,idOf (rawV 32 l e),[]⟩,rawL 32 l e,rawE 32 l e⟩
  | _,l,e=>⟨opZero,l,e⟩
def risI : List Id32 → Bool
  | []=>true
  | [_]=>true
  | x :: y :: l=>decide (cmpId x y < 0) && risI (y :: l)
def chkO (o : OpV) : Int :=
  if 16 < o.key.size ∨ 16 < o.val.size then 3
  else if 2147483648 ≤ o.n then 5
  else if 8 < o.refs.length then 6
  else if risI o.refs = false then 4 else 0
def opE (l : List UInt8) : Int :=
  if rawE 1 l 0 ≠ 0 then rawE 1 l 0
  else if numV 1 l 0 = 0 ∨ 7 < numV 1 l 0 then 10
  else if endE (takeO (numV 1 l 0) (rawL 1 l 0) 0).l (takeO (numV 1 l 0) (rawL 1 l 0) 0).e ≠ 0 then endE (takeO (numV 1 l 0) (rawL 1 l 0) 0).l (takeO (numV 1 l 0) (rawL 1 l 0) 0).e
  else chkO (takeO (numV 1 l 0) (rawL 1 l 0) 0).o
def opO (l : List UInt8) : OpV:=(takeO (numV 1 l 0) (rawL 1 l 0) 0).o
def belongs (k : Nat) : Int:=if k = 1 then 1 else if k = 2 ∨ k = 3 then 2 else if k = 4 then 3 else if k = 5 then 4 else if k = 6 ∨ k = 7 then 5 else 0
theorem risI_ok : ∀ (R : List Id32),risI R = true ↔ Ris cmpId R
  | []=>by simp [risI,Ris]
  | [x]=>by simp [risI,Ris]
  | x :: y :: R=>by
    have ih:=risI_ok (y :: R);unfold risI;rw [Bool.and_eq_true,ih,decide_eq_true_eq,ris_cons (x:=x)];constructor
    · rintro ⟨h1,h2⟩;refine ⟨fun z hz=>?_,h2⟩;rcases List.mem_cons.1 hz with e | hz
      · rw [e];exact h1
      · exact totId.trans _ _ _ h1 ((ris_cons.1 h2).1 z hz)
    · rintro ⟨h1,h2⟩;exact ⟨h1 y (by simp),h2⟩
end
end Go.Proofs.YtgedpfebepdcmaaGreatDoor
