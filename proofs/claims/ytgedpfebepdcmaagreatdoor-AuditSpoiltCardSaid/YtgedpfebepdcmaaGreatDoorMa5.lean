/- Part 5 of the texts that lead to this claim: the walks of the functions and the plain law, in order. -/
import Derived.Test.YtgedpfebepdcmaaGreatDoorMa4
import Derived.Deep.Slices
import Derived.RowKit
import Derived.ProofKit
import Derived.OpenShut
import Derived.SevenTiedAt
import Derived.Test.YtgedpfebepdcmaaGreatDoorRows
import Derived.Lib.LaidTab
import Derived.LaidLaws
import Derived.LaidHandle
import Derived.Stop.Joined
namespace Go.Proofs.YtgedpfebepdcmaaGreatDoor
section
open Go.RowKit
structure Fnd where
  k : Int
  i : Int
def fndC (x : Fnd) : Array Value:=#[.int .i64 x.k] ++ #[.int .i64 x.i]
@[simp] theorem fndC_size (x : Fnd) : (fndC x).size = 2:=by simp [fndC]
@[go_sem] theorem fndC_g0 (x : Fnd) : (fndC x)[0]? = some (.int .i64 x.k):=by first | (simp [fndC,Array.getElem?_append];done) | (rw [show fndC x = ((#[] : Array Value)) ++ #[.int .i64 x.k] ++ (#[.int .i64 x.i]) from by apply Array.ext';simp [fndC]];exact arr_at _ _ _ _ (by simp))
@[go_sem] theorem fndC_g1 (x : Fnd) : (fndC x)[1]? = some (.int .i64 x.i):=by first | (simp [fndC,Array.getElem?_append];done) | (rw [show fndC x = (#[.int .i64 x.k]) ++ #[.int .i64 x.i] ++ ((#[] : Array Value)) from by apply Array.ext';simp [fndC]];exact arr_at _ _ _ _ (by simp))
@[go_sem] theorem fndC_all (x : Fnd) : (fndC x).extract 0 2 = fndC x:=by have:=Array.extract_size (xs:=fndC x);rwa [fndC_size] at this
theorem fndC_one (x : Fnd) : ∀ u ∈ (fndC x).toList,u.oneCell' = true:=by
  intro u hu;simp only [fndC,Array.toList_append,List.mem_append] at hu;rcases hu with hu | hu
  · simp at hu;subst hu;rfl
  · simp at hu;subst hu;rfl
def fnd0 : Fnd:=⟨0,0⟩
theorem Fnd_ext {x y : Fnd} (h : x.k = y.k ∧ x.i = y.i) : x = y:=by cases x;cases y;simp_all
instance : DecidableEq Fnd:=fun x y=>if h : x.k = y.k ∧ x.i = y.i then isTrue (Fnd_ext h) else isFalse (fun e=>h (by subst e;simp))
@[go_sem ↓] theorem zeroFnd_run (w : World) : (zeroValue 34).run Tryz.prog w = .ok (.agg (fndC fnd0)) w:=by
  have h : (Tryz.prog.info? 34).bind (·.zero) = some (.agg (fndC fnd0)):=by kernel_rfl
  cases hi : Tryz.prog.info? 34 with
  | none=>rw [hi] at h;cases h
  | some i =>
    rw [hi] at h;have hz : i.zero = some (.agg (fndC fnd0)):=h;simp [zeroValue,typeInfo,hi,hz]
@[go_sem ↓] theorem loadFnd_rw (a : Addr) : loadVar 34 a = ldS 34 a:=rfl
@[go_sem ↓] theorem storeFnd_rw (a : Addr) (v : Value) : storeVar 34 a v = stS 34 a v:=rfl
theorem fieldsFnd : Tryz.prog.underlying 34 = some (.struct (Tryz.prog.fieldsOf 34)):=by kernel_rfl
theorem placesFnd (w : World) : ((Tryz.prog.fieldsOf 34).mapM fun (f : Field)=>do pure (f.offset,← sizeOf f.type)).run Tryz.prog w = .ok #[(0,1),(1,1)] w:=by kernel_rfl
@[go_sem ↓] theorem buildFnd_rw (parts : Array (Nat × Value)) : Instr.build 34 parts = bdS 34 parts:=rfl
@[go_sem] theorem buildFnd (a0 : Int) (a1 : Int) (w : World) : (bdS 34 #[(0,.int .i64 a0),(1,.int .i64 a1)]).run Tryz.prog w = .ok (.agg (fndC ⟨a0,a1⟩)) w:=by
  refine run_build w fieldsFnd _ (zeroFnd_run w) _ (placesFnd w) [(0,.int .i64 a0),(1,.int .i64 a1)] _ ?_;rw [show fndC fnd0 = (#[] : Array Value) ++ #[.int .i64 0] ++ (#[.int .i64 0]) from by first | (simp [fndC,fnd0,Array.append_assoc];done) | (apply Array.ext';simp [fndC,fnd0])];rw [fill_step (off:=0) (size:=1) rfl (by simp) (by simp) (by simp [Value.cells])];rw [show (#[] : Array Value) ++ (Value.int .i64 a0).cells ++ (#[.int .i64 0]) = (#[.int .i64 a0]) ++ #[.int .i64 0] ++ (#[] : Array Value) from by first | (simp [Value.cells,Array.append_assoc];done) | (apply Array.ext';simp [Value.cells];done) | (apply Array.ext';simp only [Array.toList_append];simp [Value.cells])];rw [fill_step (off:=1) (size:=1) rfl (by simp) (by simp) (by simp [Value.cells])];first | (simp [Instr.fill,fndC,Array.append_assoc,Value.cells];done) | (simp only [Instr.fill,fndC];congr 1;apply Array.ext';simp [Value.cells];done) | (simp only [Instr.fill,fndC];congr 1;done) | (simp only [Instr.fill,fndC];done)
@[go_sem ↓] theorem zeroRFnd_run (w : World) : (zeroValue 64).run Tryz.prog w = .ok (.agg (fndC fnd0)) w:=by
  have h : (Tryz.prog.info? 64).bind (·.zero) = some (.agg (fndC fnd0)):=by kernel_rfl
  cases hi : Tryz.prog.info? 64 with
  | none=>rw [hi] at h;cases h
  | some i =>
    rw [hi] at h;have hz : i.zero = some (.agg (fndC fnd0)):=h;simp [zeroValue,typeInfo,hi,hz]
@[go_sem ↓] theorem loadRFnd_rw (a : Addr) : loadVar 64 a = ldS 64 a:=rfl
@[go_sem ↓] theorem storeRFnd_rw (a : Addr) (v : Value) : storeVar 64 a v = stS 64 a v:=rfl
theorem fieldsRFnd : Tryz.prog.underlying 64 = some (.struct (Tryz.prog.fieldsOf 64)):=by kernel_rfl
theorem placesRFnd (w : World) : ((Tryz.prog.fieldsOf 64).mapM fun (f : Field)=>do pure (f.offset,← sizeOf f.type)).run Tryz.prog w = .ok #[(0,1),(1,1)] w:=by kernel_rfl
@[go_sem ↓] theorem buildRFnd_rw (parts : Array (Nat × Value)) : Instr.build 64 parts = bdS 64 parts:=rfl
@[go_sem] theorem buildRFnd (a0 : Int) (a1 : Int) (w : World) : (bdS 64 #[(0,.int .i64 a0),(1,.int .i64 a1)]).run Tryz.prog w = .ok (.agg (fndC ⟨a0,a1⟩)) w:=by
  refine run_build w fieldsRFnd _ (zeroRFnd_run w) _ (placesRFnd w) [(0,.int .i64 a0),(1,.int .i64 a1)] _ ?_;rw [show fndC fnd0 = (#[] : Array Value) ++ #[.int .i64 0] ++ (#[.int .i64 0]) from by first | (simp [fndC,fnd0,Array.append_assoc];done) | (apply Array.ext';simp [fndC,fnd0])];rw [fill_step (off:=0) (size:=1) rfl (by simp) (by simp) (by simp [Value.cells])];rw [show (#[] : Array Value) ++ (Value.int .i64 a0).cells ++ (#[.int .i64 0]) = (#[.int .i64 a0]) ++ #[.int .i64 0] ++ (#[] : Array Value) from by first | (simp [Value.cells,Array.append_assoc];done) | (apply Array.ext';simp [Value.cells];done) | (apply Array.ext';simp only [Array.toList_append];simp [Value.cells])];rw [fill_step (off:=1) (size:=1) rfl (by simp) (by simp) (by simp [Value.cells])];first | (simp [Instr.fill,fndC,Array.append_assoc,Value.cells];done) | (simp only [Instr.fill,fndC];congr 1;apply Array.ext';simp [Value.cells];done) | (simp only [Instr.fill,fndC];congr 1;done) | (simp only [Instr.fill,fndC];done)
theorem einfoFnd : ElemInfo Tryz.prog 31 34 2 16 :=
  .of (z:=.agg (fndC fnd0)) Tryz.underlying31 (by kernel_rfl) (by kernel_rfl) (by kernel_rfl) (fndC_size _) (by omega)
@[go_sem ↓] theorem bsFnd_rw (n : Nat) (parts : Array (Nat × Value)) : Instr.buildSlice 31 n parts = bsS 31 n parts:=rfl
@[go_sem] theorem bsFnd_run (w : World) (x : Fnd) : (bsS 31 1 #[(0,.agg (fndC x))]).run Tryz.prog w = .ok (.slice (some ⟨w.heap.size,0,none⟩) 1 1) (w.alloc (.cells (fndC x) 34)) :=
  run_bsS1 einfoFnd (by omega) w (fndC x) (fndC_size x)
theorem einfoRFnd : ElemInfo Tryz.prog 35 64 2 16 :=
  .of (z:=.agg (fndC fnd0)) Tryz.underlying35 (by kernel_rfl) (by kernel_rfl) (by kernel_rfl) (fndC_size _) (by omega)
@[go_sem ↓] theorem bsRFnd_rw (n : Nat) (parts : Array (Nat × Value)) : Instr.buildSlice 35 n parts = bsS 35 n parts:=rfl
@[go_sem] theorem bsRFnd_run (w : World) (x : Fnd) : (bsS 35 1 #[(0,.agg (fndC x))]).run Tryz.prog w = .ok (.slice (some ⟨w.heap.size,0,none⟩) 1 1) (w.alloc (.cells (fndC x) 64)) :=
  run_bsS1 einfoRFnd (by omega) w (fndC x) (fndC_size x)
abbrev OwnFn (w : World) (B : Nat) (A : Option Addr) (cap : Nat) (R : List Fnd) : Prop:=Own w B 34 2 A R.length cap (R.map fndC)
abbrev OwnRf (w : World) (B : Nat) (A : Option Addr) (cap : Nat) (R : List Fnd) : Prop:=Own w B 64 2 A R.length cap (R.map fndC)
abbrev HsIn (w : World) (A : Option Addr) (n : Nat) (R : List HdIn) : Prop:=SlR w A n 38 (R.map hdR)
theorem HsIn.get {w : World} {A : Option Addr} {n : Nat} {R : List HdIn} (h : HsIn w A n R) {i : Nat} (hi : i < n) (hR : i < R.length) : ∃ g o,A = some ⟨g,o,none⟩ ∧ rowAt w g (o + i * 38) 38 = some (hdR R[i]):=by
  obtain ⟨g,o,e,hr⟩:=h.at_ hi;rw [List.getElem_map] at hr;exact ⟨g,o,e,hr⟩
structure HdFit (w : World) (x : HdIn) : Prop where
  ids : TagsIn w x.A x.h.ps.length x.h.ps
  len : x.h.ps.length ≤ 1000000
  tps : x.h.tp.size ≤ 9223372036854775807
  ht : 0 ≤ x.h.ht ∧ x.h.ht ≤ 4611686018427387904
theorem HdFit.below {w w' : World} {x : HdIn} (a : HdFit w x) (hb : Below w.heap.size w w') : HdFit w' x:=⟨SlR.below a.ids hb,a.len,a.tps,a.ht⟩
def fndK (L : List (Id32 × HdIn)) (i : Nat) (q : Id32 × HdIn) : Nat → List Fnd
  | 0=>[]
  | k + 1=>fndK L i q k ++ if audB L q k = true then [] else [⟨((k + 1 : Nat) : Int),i⟩]
def fndN (L : List (Id32 × HdIn)) : Nat → List Fnd
  | 0=>[]
  | i + 1=>fndN L i ++ match L[i]? with | some q=>fndK L i q 3 | none=>[]
theorem fndK_len (L : List (Id32 × HdIn)) (i : Nat) (q : Id32 × HdIn) (k : Nat) : (fndK L i q k).length ≤ k:=by
  induction k with
  | zero=>exact Nat.le_refl _
  | succ k ih=>rw [fndK,List.length_append];split <;> simp <;> omega
theorem fndN_len (L : List (Id32 × HdIn)) (n : Nat) : (fndN L n).length ≤ n * 3:=by
  induction n with
  | zero=>exact Nat.le_refl _
  | succ n ih =>
    rw [fndN,List.length_append];cases h : L[n]? with
    | some q=>have:=fndK_len L n q 3;simp only;omega
    | none=>simp;omega
theorem fndN_step (L : List (Id32 × HdIn)) {i : Nat} (hi : i < L.length) : fndN L (i + 1) = fndN L i ++ fndK L i L[i] 3:=by
  rw [fndN,List.getElem?_eq_getElem hi]
theorem infoAr : (Tryz.prog.info? 62).map (·.size) = some 2:=by kernel_rfl
@[go_sem ↓] theorem loadAr_rw (a : Addr) : loadVar 62 a = ldS 62 a:=rfl
@[go_sem ↓] theorem storeAr_rw (a : Addr) (v : Value) : storeVar 62 a v = stS 62 a v:=rfl
@[go_sem] theorem loadAr_run (w : World) (g o : Nat) : (ldS 62 ⟨g,o,none⟩).run Tryz.prog w = match rowAt w g o 2 with | some cs=>.ok (.agg cs) w | none=>(loadVar 62 ⟨g,o,none⟩).run Tryz.prog w :=
  run_ldS Tryz.underlying62 rfl infoAr w g o
@[go_sem] theorem storeAr_run (w : World) (g : Nat) (hg : g = w.heap.size) (z : Array Value) (hz : z.size = 2) (b k : Nat) (e : TypeId) : (stS 62 ⟨g,0,none⟩ (.agg (audC b k))).run Tryz.prog (w.alloc (.cells z e)) = .ok () (w.alloc (.cells (audC b k) e)) :=
  hg ▸ run_stS_new infoAr w z (audC b k) hz rfl (by intro u hu;simp [audC] at hu;rcases hu with rfl | rfl <;> rfl)
structure RlAt (w : World) (g gr b : Nat) : Prop where
  box : w.cell? ⟨g,0,none⟩ = some (.map (some b))
  row : ∀ k,k < 3 → rowAt w gr (k * 2) 2 = some (audC g k)
theorem RlAt.lt {w : World} {g gr b : Nat} (h : RlAt w g gr b) : g < w.heap.size ∧ gr < w.heap.size:=⟨World.block_lt_of_cell? w _ h.box,rowAt_lt (h.row 0 (by omega))⟩
theorem RlAt.kept {w w' : World} {g gr b : Nat} {S : List Nat} (h : RlAt w g gr b) (k : Keep S w w') (h1 : g ∉ S) (h2 : gr ∉ S) : RlAt w' g gr b :=
  ⟨(k.cell (p:=⟨g,0,none⟩) h.lt.1 h1).trans h.box,fun j hj=>(k.row h.lt.2 h2 _ _).trans (h.row j hj)⟩
theorem RlAt.below {w w' : World} {g gr b : Nat} (h : RlAt w g gr b) (k : Below w.heap.size w w') : RlAt w' g gr b:=h.kept (Keep.of_below k) (by simp) (by simp)
theorem RlAt.made (w : World) (b : Nat) : RlAt ((w.alloc (.cells #[.map (some b)] 56)).alloc (.cells (audRows w.heap.size) 62)) w.heap.size (w.heap.size + 1) b:=by
  refine ⟨?_,fun k hk=>?_⟩
  · have hn:=heap_alloc_new w (.cells #[.map (some b)] 56);have hn2:=(Below.heap_alloc (w.alloc (.cells #[.map (some b)] 56)) (.cells (audRows w.heap.size) 62) w.heap.size (by simp)).trans hn;rw [cell_of_row _ _ 0 _ _ _ hn2];rfl
  · have hn:=heap_alloc_new (w.alloc (.cells #[.map (some b)] 56)) (.cells (audRows w.heap.size) 62);rw [show (w.alloc (.cells #[.map (some b)] 56)).heap.size = w.heap.size + 1 by simp] at hn;unfold rowAt;rw [hn];simp only;rw [if_pos (by show k * 2 + 2 ≤ 6;omega),audRows_row _ _ hk]
end
section
open Go.RowKit Go.WideShapes
section
variable {P : Program} {w : World}
def Opens (P : Program) (w : World) (T : TypeId) {α : Type} (e : α → Array Value) (ok : α → Prop) : Prop :=
  ∀ {H : Type} (enc : TypeId × Value → H) (base : Nat) (spare : Nat → Bool) (held : Bool) (fuel : Nat) (cs : List Value) (x : DataW H × List MemPlace),
    DataW.trod enc P w base spare held fuel T cs = some x → ∃ a,cs = (e a).toList ∧ ok a
theorem opens_string {T : TypeId} (u : P.underlying T = some .string) : Opens P w T (fun s : ByteArray=>#[.string s]) (fun s=>s.size ≤ maxLen):=by
  intro H enc base spare held fuel cs x h;obtain ⟨s,rfl,_,hs⟩:=DataW.trod_string u h;exact ⟨s,rfl,hs⟩
theorem opens_int {T : TypeId} {k : IntKind} (u : P.underlying T = some (.int k)) : Opens P w T (fun n : Int=>#[.int k n]) (fun n=>(Lit.int k n).wf = true):=by
  intro H enc base spare held fuel cs x h;obtain ⟨n,rfl,_,hs⟩:=DataW.trod_int u h;exact ⟨n,rfl,hs⟩
theorem opens_field {U : TypeId} {fs : Array Field} {α : Type} {e : α → Array Value} {ok : α → Prop} {H : Type} {enc : TypeId × Value → H} {base : Nat} {spare : Nat → Bool} {held : Bool} {n : Nat} {cs : List Value} {xs : List (DataW H × List MemPlace)}
    (hlen : xs.length = fs.size) (hel : ∀ (i : Nat) (f : Field),fs[i]? = some f → DataW.trod enc P w base spare held n f.type ((cs.drop f.offset).take (P.cellsOf f.type)) = xs[i]?)
    (o : Opens P w U e ok) (i off k : Nat) (f : Field) (hf : fs[i]? = some f) (ht : f.type = U) (ho : f.offset = off) (hk : P.cellsOf U = k) : ∃ a,(cs.drop off).take k = (e a).toList ∧ ok a:=by
  have h:=hel i f hf;rw [ht,ho,hk] at h;have hi : i < xs.length:=by rw [hlen];exact (Array.getElem?_eq_some_iff.1 hf).1
  rw [List.getElem?_eq_getElem hi] at h;exact o _ _ _ _ _ _ _ h
theorem take_seg {cs : List Value} {o k : Nat} : cs.drop o = (cs.drop o).take k ++ cs.drop (o + k):=by
  rw [← List.drop_drop,List.take_append_drop]
theorem rowAt_of_cells {g o k : Nat} {cs : List Value} {base : Nat} (h : w.cells? base ⟨g,o,none⟩ k = some cs) (hk : 0 < k) : rowAt w g o k = some cs.toArray:=by
  unfold World.cells? at h;split at h
  · have hlen : cs.length = k:=by simpa using mapM_some_length h
    have hget : ∀ i,i < k → w.cell? ⟨g,o + i,none⟩ = cs[i]?:=by
      intro i hi;have:=mapM_some_get h i i (by simp [hi]);rw [← this];congr 1
      unfold Addr.add;split
      · rename_i e;subst e;rfl
      · rfl
    have h0:=hget (k - 1) (by omega);rw [List.getElem?_eq_getElem (by omega)] at h0;unfold rowAt;cases hb : w.heap[g]? with
    | none=>simp [World.cell?,hb] at h0
    | some b =>
      cases b with
      | cells c t f =>
        have h1 : ∀ i,i < k → c[o + i]? = cs[i]?:=by
          intro i hi;have:=hget i hi;simpa [World.cell?,hb] using this
        have hle : o + k ≤ c.size:=by
          have h2:=h1 (k - 1) (by omega);rw [List.getElem?_eq_getElem (by omega)] at h2;have:=(Array.getElem?_eq_some_iff.1 h2).1;omega
        simp only;rw [if_pos hle];congr 1
        apply Array.ext';apply List.ext_getElem?;intro i;by_cases hi : i < k
        · have:=h1 i hi;simp only [Array.toList_extract,List.extract_eq_take_drop,List.getElem?_take,List.getElem?_drop];rw [if_pos (by omega)];simpa using this
        · rw [List.getElem?_eq_none (by simp;omega),List.getElem?_eq_none (by simp;omega)]
      | _=>simp [World.cell?,hb] at h0
  · cases h
theorem open_rows {H : Type} {enc : TypeId × Value → H} {base : Nat} {spare : Nat → Bool} {held : Bool} {T E : TypeId} {α : Type} {e : α → Array Value} {ok : α → Prop} {k b0 : Nat} {r : Reach} {v : Value} {d : DataW H} {p : List MemPlace} (u : P.underlying T = some (.slice E)) (o : Opens P w E e ok)
    (hk : P.cellsOf E = k) (hk0 : 0 < k) (hval : Value.okWide P w r b0 T v) (h : DataW.Trod enc P w base spare held T v d p) :
    ∃ (A : Option Addr) (n cap : Nat) (R : List α),v = .slice A n cap ∧ SlR w A n k (R.map e) ∧ R.length = n ∧ (∀ a ∈ R,ok a) ∧ n ≤ maxLen ∧ ((n = 0 ∧ d = .nil) ∨ ∃ el sp,d = .slice el sp ∧ el.length = n):=by
  obtain ⟨A,n,cap,rfl⟩:=okWide_slice u hval;obtain ⟨fuel,hf⟩:=h;rcases Go.Deep.open_slice u hf with ⟨h0,hx⟩ | ⟨a,len,cap',m,f,D,Pl,hcs,hb,hlc,hcm,hm,hx,hel⟩
  · have e0 : (Value.slice A n cap).cells.toList = [Value.slice A n cap]:=rfl;rw [e0] at h0;injection h0 with h0 _
    injection h0 with h1 h2 h3
    subst h1;subst h2;subst h3;exact ⟨none,0,0,[],rfl,⟨rfl,fun h=>absurd h (by omega)⟩,rfl,fun _ h=>absurd h (by simp),Nat.zero_le _,.inl ⟨rfl,(Prod.mk.inj hx).1⟩⟩
  · have e0 : (Value.slice A n cap).cells.toList = [Value.slice A n cap]:=rfl;rw [e0] at hcs;injection hcs with h0 _
    injection h0 with h1 h2 h3
    subst h1;subst h2;subst h3;have hnm : n ≤ m:=by rw [hm];split <;> omega
    have hall : ∀ i,i < n → ∃ x : α,w.cells? base (a.add (i * k)) k = some (e x).toList ∧ ok x:=by
      intro i hi;obtain ⟨cs',h1,h2⟩:=hel i (by omega);rw [hk] at h1;obtain ⟨x,rfl,hx⟩:=o _ _ _ _ _ _ _ h2;exact ⟨x,h1,hx⟩
    clear hel;by_cases hn : n = 0
    · subst hn;exact ⟨some a,0,cap,[],rfl,⟨rfl,fun h=>absurd h (by omega)⟩,rfl,fun _ h=>absurd h (by simp),Nat.zero_le _,.inr ⟨_,_,(Prod.mk.inj hx).1,by simp⟩⟩
    · obtain ⟨x0,hx0,_⟩:=hall 0 (by omega)
      haveI : Inhabited α:=⟨x0⟩
      obtain ⟨R,hR⟩:=Go.Deep.choose_lt hall;have hsp : a.spot = none:=by
        unfold World.cells? at hx0;split at hx0
        · have:=mapM_some_get hx0 0 0 (by simp [hk0]);have hlen : (e x0).toList.length = k:=by simpa using mapM_some_length hx0
          rw [List.getElem?_eq_getElem (by omega)] at this;have:=World.cell?_spot this;simpa [Addr.add] using this
        · cases hx0
      obtain ⟨g,o',sp⟩:=a;simp only at hsp;subst hsp;refine ⟨_,n,cap,(List.range n).map R,rfl,⟨by simp,fun _=>⟨g,o',rfl,?_⟩⟩,by simp,?_,by omega,.inr ⟨_,_,(Prod.mk.inj hx).1,by simp⟩⟩
      · intro i hi;have hi' : i < n:=by simpa using hi
        have h1:=(hR i hi').1;have e1 : (⟨g,o',none⟩ : Addr).add (i * k) = ⟨g,o' + i * k,none⟩:=by
          unfold Addr.add;split
          · rename_i e;rw [e];rfl
          · rfl
        rw [e1] at h1;rw [rowAt_of_cells h1 hk0]
        simp
      · intro x hx;obtain ⟨i,hi,rfl⟩:=List.mem_map.1 hx;exact (hR i (List.mem_range.1 hi)).2
end
theorem open_agg {P : Program} {w : World} {H : Type} {enc : TypeId × Value → H} {base : Nat} {spare : Nat → Bool} {held : Bool} {T : TypeId} {α : Type} {e : α → Array Value} {ok : α → Prop} {b0 : Nat} {r : Reach} {v : Value} {d : DataW H} {p : List MemPlace} {ds : TypeDesc} (u : P.underlying T = some ds)
    (hds : (match ds with | .struct _ | .array _ _=>true | _=>false) = true) (o : Opens P w T e ok) (hval : Value.okWide P w r b0 T v) (h : DataW.Trod enc P w base spare held T v d p) : ∃ a,v = .agg (e a) ∧ ok a:=by
  have hv : ∃ cs,v = .agg cs:=by
    simp only [Value.okWide,u] at hval;cases ds <;> simp_all
    all_goals exact ⟨_,hval.choose_spec.1⟩
  obtain ⟨cs,rfl⟩:=hv;obtain ⟨fuel,hf⟩:=h;obtain ⟨a,ha,hok⟩:=o _ _ _ _ _ _ _ hf;refine ⟨a,?_,hok⟩;congr 1
  apply Array.ext';exact ha
theorem trodAll_four {H : Type} {enc : TypeId × Value → H} {P : Program} {w : World} {base : Nat} {spare : Nat → Bool} {held : Bool} {t0 t1 t2 t3 : TypeId} {args : Array Value} {ds : List (DataW H)} {ps : List MemPlace} (h : DataW.TrodAll enc P w base spare held [t0,t1,t2,t3] args.toList ds ps) :
    ∃ (v0 v1 v2 v3 : Value) (d0 d1 d2 d3 : DataW H) (p0 p1 p2 p3 : List MemPlace),args = #[v0,v1,v2,v3] ∧ ds = [d0,d1,d2,d3] ∧ ps = p0 ++ (p1 ++ (p2 ++ (p3))) ∧ DataW.Trod enc P w base spare held t0 v0 d0 p0 ∧ DataW.Trod enc P w base spare held t1 v1 d1 p1 ∧ DataW.Trod enc P w base spare held t2 v2 d2 p2 ∧ DataW.Trod enc P w base spare held t3 v3 d3 p3:=by
  obtain ⟨v0,vs0,d0,ds0,p0,q0,hargs,rfl,rfl,h0,r0⟩:=Go.ChangeShapes.trodAll_cons h;obtain ⟨v1,vs1,d1,ds1,p1,q1,rfl,rfl,rfl,h1,r1⟩:=Go.ChangeShapes.trodAll_cons r0;obtain ⟨v2,vs2,d2,ds2,p2,q2,rfl,rfl,rfl,h2,r2⟩:=Go.ChangeShapes.trodAll_cons r1;obtain ⟨v3,vs3,d3,ds3,p3,q3,rfl,rfl,rfl,h3,r3⟩:=Go.ChangeShapes.trodAll_cons r2;obtain ⟨rfl,rfl,rfl⟩:=Go.ChangeShapes.trodAll_nil r3;exact ⟨v0,v1,v2,v3,d0,d1,d2,d3,p0,p1,p2,p3,by cases args;simp_all,rfl,by simp,h0,h1,h2,h3⟩
theorem opensId {w : World} : Opens Tryz.prog w 24 idC (fun _=>True):=by
  intro H enc base spare held fuel cs x h;obtain ⟨xs,m,rfl,_,hlen,hxl,hel⟩:=DataW.trod_array Tryz.underlying24 h;have hc : Tryz.prog.cellsOf 24 = 32:=by kernel_rfl
  have hb : Tryz.prog.cellsOf 5 = 1:=by kernel_rfl
  rw [hc] at hlen;have hall : ∀ i,i < 32 → ∃ n : Int,cs[i]? = some (.int .u8 n) ∧ 0 ≤ n ∧ n ≤ 255:=by
    intro i hi;have h1:=hel i hi;rw [List.getElem?_eq_getElem (by omega)] at h1;obtain ⟨n,hn,_,hw⟩:=DataW.trod_int Tryz.underlying5 h1;rw [hb,Nat.mul_one] at hn;have h2:=congrArg (fun l=>l[0]?) hn;simp [List.getElem?_take,List.getElem?_drop] at h2;have hw' : 0 ≤ n ∧ n ≤ 255:=by simpa [Lit.wf,IntKind.min,IntKind.max,IntKind.signed,IntKind.bits] using hw
    exact ⟨n,h2,hw'⟩
  obtain ⟨f,hf⟩:=Go.Deep.choose_lt hall;refine ⟨⟨(List.range 32).map fun i=>UInt8.ofNat (f i).toNat,by simp⟩,?_,trivial⟩;apply List.ext_getElem?;intro i;by_cases hi : i < 32
  · obtain ⟨h1,h2,h3⟩:=hf i hi;rw [h1];simp [idC,byteC,hi];have : (f i).toNat % 256 = (f i).toNat:=Nat.mod_eq_of_lt (by omega);omega
  · rw [List.getElem?_eq_none (by omega),List.getElem?_eq_none (by simp;omega)]
end
section
open Go.RowKit Go.WideShapes
theorem opens_slice {P : Program} {w : World} {T E : TypeId} {α : Type} {e : α → Array Value} {ok : α → Prop} {k : Nat} (u : P.underlying T = some (.slice E)) (o : Opens P w E e ok) (hk : P.cellsOf E = k) (hk0 : 0 < k) :
    Opens P w T (fun s : Option Addr × Nat × Nat × List α=>#[.slice s.1 s.2.1 s.2.2.1]) (fun s=>SlR w s.1 s.2.1 k (s.2.2.2.map e) ∧ s.2.1 ≤ s.2.2.1 ∧ s.2.2.1 ≤ maxLen):=by
  intro H enc base spare held fuel cs x h;rcases Go.Deep.open_slice u h with ⟨h0,hx⟩ | ⟨a,len,cap',m,f,D,Pl,hcs,hb,hlc,hcm,hm,hx,hel⟩
  · exact ⟨(none,0,0,[]),h0,⟨rfl,fun h=>(Nat.lt_irrefl 0 h).elim⟩,Nat.le_refl _,Nat.zero_le _⟩
  · have hnm : len ≤ m:=by rw [hm];split <;> omega
    have hall : ∀ i,i < len → ∃ x : α,w.cells? base (a.add (i * k)) k = some (e x).toList ∧ ok x:=by
      intro i hi;obtain ⟨cs',h1,h2⟩:=hel i (by omega);rw [hk] at h1;obtain ⟨x,rfl,hx⟩:=o _ _ _ _ _ _ _ h2;exact ⟨x,h1,hx⟩
    clear hel;by_cases hn : len = 0
    · subst hn;exact ⟨(some a,0,cap',[]),hcs,⟨rfl,fun h=>(Nat.lt_irrefl 0 h).elim⟩,by omega,by omega⟩
    · obtain ⟨x0,hx0,_⟩:=hall 0 (by omega)
      haveI : Inhabited α:=⟨x0⟩
      obtain ⟨R,hR⟩:=Go.Deep.choose_lt hall;have hsp : a.spot = none:=by
        unfold World.cells? at hx0;split at hx0
        · have:=mapM_some_get hx0 0 0 (by simp [hk0]);have hlen : (e x0).toList.length = k:=by simpa using mapM_some_length hx0
          rw [List.getElem?_eq_getElem (by omega)] at this;have:=World.cell?_spot this;simpa [Addr.add] using this
        · cases hx0
      obtain ⟨g,o',sp⟩:=a;simp only at hsp;subst hsp;refine ⟨(some ⟨g,o',none⟩,len,cap',(List.range len).map R),hcs,⟨by simp,fun _=>⟨g,o',rfl,?_⟩⟩,by omega,by omega⟩;intro i hi;have hi' : i < len:=by simpa using hi
      have h1:=(hR i hi').1;have e1 : (⟨g,o',none⟩ : Addr).add (i * k) = ⟨g,o' + i * k,none⟩:=by
        unfold Addr.add;split
        · rename_i e;rw [e];rfl
        · rfl
      rw [e1] at h1;rw [rowAt_of_cells h1 hk0]
      simp
end
section
open Go.ChangeShapes Go.WideShapes Go.ChangeAt Go.RowKit Go.WideMaps Go.WideElems
theorem maxLen_leA : maxLen ≤ 9223372036854775807:=by decide
theorem opensHd {w : World} : Opens Tryz.prog w 30 hdR (fun x=>TagsIn w x.A x.h.ps.length x.h.ps ∧ x.h.tp.size ≤ 9223372036854775807 ∧ x.h.ps.length ≤ 9223372036854775807):=by
  intro H enc base spare held fuel cs x h;obtain ⟨xs,n,rfl,_,hlen,hxl,hel⟩:=DataW.trod_struct Tryz.underlying30 h;have hc : Tryz.prog.cellsOf 30 = 38:=by kernel_rfl
  rw [hc] at hlen;obtain ⟨a0,h0,k0⟩:=opens_field hxl hel (opens_slice (k:=32) Tryz.underlying26 opensId (by kernel_rfl) (by omega)) 0 0 1 _ rfl rfl rfl (by kernel_rfl);obtain ⟨a1,h1,_⟩:=opens_field hxl hel (opens_int Tryz.underlying3) 1 1 1 _ rfl rfl rfl (by kernel_rfl);obtain ⟨a2,h2,k2⟩:=opens_field hxl hel (opens_string Tryz.underlying9) 2 2 1 _ rfl rfl rfl (by kernel_rfl);obtain ⟨a3,h3,_⟩:=opens_field hxl hel (opens_int Tryz.underlying3) 3 3 1 _ rfl rfl rfl (by kernel_rfl);obtain ⟨a4,h4,_⟩:=opens_field hxl hel (opens_int Tryz.underlying3) 4 4 1 _ rfl rfl rfl (by kernel_rfl);obtain ⟨a5,h5,_⟩:=opens_field hxl hel (opens_int Tryz.underlying3) 5 5 1 _ rfl rfl rfl (by kernel_rfl);obtain ⟨a6,h6,_⟩:=opens_field hxl hel opensId 6 6 32 _ rfl rfl rfl (by kernel_rfl);obtain ⟨A,m,c,Y⟩:=a0;obtain ⟨r1,r2,r3⟩:=k0;have hml:=maxLen_leA;simp only at r1 r2 r3;have hY : Y.length = m:=by simpa using r1.1
  subst hY;refine ⟨⟨⟨Y,a1,a2,a3,a4,a5,a6⟩,A,c⟩,?_,r1,(by simp only;omega),(by simp only;omega)⟩;have e0 : cs.drop 0 = (cs.drop 0).take 1 ++ cs.drop 1:=take_seg;have e1 : cs.drop 1 = (cs.drop 1).take 1 ++ cs.drop 2:=take_seg;have e2 : cs.drop 2 = (cs.drop 2).take 1 ++ cs.drop 3:=take_seg;have e3 : cs.drop 3 = (cs.drop 3).take 1 ++ cs.drop 4:=take_seg;have e4 : cs.drop 4 = (cs.drop 4).take 1 ++ cs.drop 5:=take_seg;have e5 : cs.drop 5 = (cs.drop 5).take 1 ++ cs.drop 6:=take_seg;have e6 : cs.drop 6 = (cs.drop 6).take 32 ++ cs.drop 38:=take_seg;have en : cs.drop 38 = []:=List.drop_eq_nil_of_le (by omega);refine e0.trans ?_;rw [h0,e1,h1,e2,h2,e3,h3,e4,h4,e5,h5,e6,h6,en];simp [hdC,hdO]
end
section
open Go.ChangeShapes Go.WideShapes Go.RowKit
theorem laidMet_tail {P : Program} {n : String} {d : DataW Unit} {r : List (String × DataW Unit)} {w : World} (h : laidMet P ((n,d) :: r) w) : laidMet P r w:=by
  obtain ⟨ps,⟨g,t,cs,fuel,p,q,_,_,_,_,hr,rfl⟩,hn,hc⟩:=h;exact ⟨q,hr,(List.nodup_append.1 hn).2.1,fun b off hm=>hc b off (List.mem_append_right _ hm)⟩
def laid3 : List (String × DataW Unit):=[("petrel/sha.first",Rows.laid_petrel_sha_first),("petrel/sha.k",Rows.laid_petrel_sha_k),("petrel/op.parts",Rows.laid_petrel_op_parts)]
theorem laid_first : (Rows.laid_petrel_sha_first : DataW Unit) = Lib.tabData .u32 (hU.map nU):=by kernel_rfl
theorem laid_k : (Rows.laid_petrel_sha_k : DataW Unit) = Lib.tabData .u32 (kU.map nU):=by kernel_rfl
theorem nU_getD (L : List UInt32) (k : Nat) (hk : k < L.length) : (L.map nU).getD k 0 = nU (L.getD k 0):=by
  simp [List.getD,hk]
theorem shaVars_of_laid {W : World} (h : laidMetH Tryz.prog laid3 W) : ShaVars W:=by
  have h' : laidMet Tryz.prog laid3 W:=h;unfold laid3 at h';have h2:=laidMet_tail h';rw [laid_first] at h';rw [laid_k] at h2;have hT:=Lib.tabIs_of_head (P:=Tryz.prog) (g:=0) (t:=93) (e:=92) (n:=8) (by kernel_rfl) (by kernel_rfl) Tryz.underlying93 Tryz.underlying92 (by kernel_rfl) (by kernel_rfl) h';have hT2:=Lib.tabIs_of_head (P:=Tryz.prog) (g:=1) (t:=125) (e:=92) (n:=64) (by kernel_rfl) (by kernel_rfl) Tryz.underlying125 Tryz.underlying92 (by kernel_rfl) (by kernel_rfl) h2;refine ⟨fun k hk=>?_,fun k hk=>?_⟩
  · rw [hT.cell (g:=0) (by kernel_rfl) k (by rw [List.length_map];exact hk),nU_getD _ _ (by exact hk)]
  · rw [hT2.cell (g:=1) (by kernel_rfl) k (by rw [List.length_map];exact hk),nU_getD _ _ (by exact hk)]
def laidWorld3 (P : Program) (os : Os) : World :=
  (((World.holding P os ⟨#[],#[],[]⟩).setRow 0 ((hU.map fun u=>Value.int .u32 (nU u)).toArray)).setRow 1 ((kU.map fun u=>Value.int .u32 (nU u)).toArray)).setRow 2 #[.int .i64 0,.int .i64 1,.int .i64 4,.int .i64 20,.int .i64 7,.int .i64 22,.int .i64 12,.int .i64 8]
theorem laidWorld3_met (os : Os) (args : Array Value) : laidMetH Tryz.prog laid3 ((laidWorld3 Tryz.prog os).forCall (fun _ _=>0) ⟨#[],args,[]⟩).memory:=by
  show laidMet Tryz.prog laid3 _;exact laidMet_of_run' 8 (by kernel_rfl) (by kernel_rfl)
theorem trodVars_nil {H : Type} {enc : TypeId × Value → H} {P : Program} {w : World} {g : Nat → Bool} {gs : List (DataW H)} {q : List MemPlace} (hV : DataW.TrodVars enc P w g [] gs q) : gs = [] ∧ q = []:=by
  cases gs with
  | nil=>exact ⟨rfl,hV⟩
  | cons g r=>exact absurd hV (by intro h;cases h)
end
section
open Go.RowKit
theorem nilIns (w : World) : Calls Tryz.prog 173 #[.slice none 0 0,.int .i64 0,.int .i64 0,.func (.func 119) #[] #[]] w fun e w'=>e = .returned (.tuple #[]) ∧ w = w':=by
  go_enter Tryz.func173,Tryz.ntmps173
  (go_wp2_with fail);refine wp_loop_rounds 2 ?_;rw [rounds_succ];(go_wp2_with fail);go_end0;exact ⟨rfl,rfl⟩
theorem nilStb (w : World) : Calls Tryz.prog 147 #[.slice none 0 0,.int .i64 0,.func (.func 119) #[] #[]] w fun e w'=>e = .returned (.tuple #[]) ∧ w = w':=by
  go_enter Tryz.func147,Tryz.ntmps147
  (go_wp2_with fail);refine wp_loop_rounds 2 ?_;rw [rounds_succ];(go_wp2_with fail);refine (nilIns _).mono ?_;rintro e w1 ⟨rfl,rfl⟩;(go_wp2_with fail);refine wp_loop_rounds 2 ?_;rw [rounds_succ];(go_wp2_with fail);go_end0;exact ⟨rfl,rfl⟩
theorem nilSrt (w : World) : Calls Tryz.prog 118 #[.slice none 0 0,.func (.func 119) #[] #[]] w fun e w'=>e = .returned (.tuple #[]) ∧ w = w':=by
  go_enter Tryz.func118,Tryz.ntmps118
  (go_wp2_with fail);refine (nilStb _).mono ?_;rintro e w1 ⟨rfl,rfl⟩;(go_wp2_with fail);refine bodyPost_end (results_none rfl _ _ _) rfl ?_;exact ⟨rfl,rfl⟩
theorem nilSorted (w : World) : Calls Tryz.prog 88 #[.slice none 0 0] w fun e w'=>e = .returned (.slice none 0 0) ∧ Below w.heap.size w w':=by
  have hmm:=@run_makeMap Tryz.prog;have hb0 : Below w.heap.size w (w.alloc (.map #[] 0)):=(Below.refl _ _).alloc (Nat.le_refl _) _;go_enter Tryz.func88,Tryz.ntmps88
  (go_wp2_with fail);refine wp_loop_rounds 2 ?_;rw [rounds_succ];(go_wp2_with fail);refine (nilSrt _).mono ?_;rintro e w1 ⟨rfl,rfl⟩;(go_wp2_with fail);go_ret;exact ⟨rfl,hb0⟩
theorem nilActs (w : World) (k : Int) : Calls Tryz.prog 54 #[.int .i64 k,.slice none 0 0] w fun e w'=>e = .returned (.slice none 0 0) ∧ Below w.heap.size w w':=by
  go_enter Tryz.func54,Tryz.ntmps54
  (go_wp2_with fail);refine (nilSorted _).mono ?_;rintro e w1 ⟨rfl,hb⟩;(go_wp2_with fail);refine wp_loop_rounds 2 ?_;rw [rounds_succ];(go_wp2_with fail);go_ret;exact ⟨rfl,hb⟩
theorem nilTotal (w : World) : Calls Tryz.prog 55 #[.slice none 0 0] w fun e w'=>e = .returned (.int .i64 0) ∧ w = w':=by
  go_enter Tryz.func55,Tryz.ntmps55
  (go_wp2_with fail);refine wp_loop_rounds 2 ?_;rw [rounds_succ];(go_wp2_with fail);go_ret;exact ⟨rfl,rfl⟩
end
section
open Go.RowKit
structure ValV where
  k : Int
  n : Int
  l : Value
def valVC (x : ValV) : Array Value:=#[.int .i64 x.k] ++ #[.int .i64 x.n] ++ #[x.l]
@[simp] theorem valVC_size (x : ValV) : (valVC x).size = 3:=by simp [valVC]
@[go_sem] theorem valVC_g0 (x : ValV) : (valVC x)[0]? = some (.int .i64 x.k):=by first | (simp [valVC,Array.getElem?_append];done) | (rw [show valVC x = ((#[] : Array Value)) ++ #[.int .i64 x.k] ++ (#[.int .i64 x.n] ++ #[x.l]) from by apply Array.ext';simp [valVC]];exact arr_at _ _ _ _ (by simp))
@[go_sem] theorem valVC_gg0 (x : ValV) (h : 0 < (valVC x).size) : (valVC x)[0]'h = .int .i64 x.k:=Option.some.inj ((Array.getElem?_eq_getElem h).symm.trans (valVC_g0 x))
@[go_sem] theorem valVC_g1 (x : ValV) : (valVC x)[1]? = some (.int .i64 x.n):=by first | (simp [valVC,Array.getElem?_append];done) | (rw [show valVC x = (#[.int .i64 x.k]) ++ #[.int .i64 x.n] ++ (#[x.l]) from by apply Array.ext';simp [valVC]];exact arr_at _ _ _ _ (by simp))
@[go_sem] theorem valVC_gg1 (x : ValV) (h : 1 < (valVC x).size) : (valVC x)[1]'h = .int .i64 x.n:=Option.some.inj ((Array.getElem?_eq_getElem h).symm.trans (valVC_g1 x))
@[go_sem] theorem valVC_g2 (x : ValV) : (valVC x)[2]? = some (x.l):=by first | (simp [valVC,Array.getElem?_append];done) | (rw [show valVC x = (#[.int .i64 x.k] ++ #[.int .i64 x.n]) ++ #[x.l] ++ ((#[] : Array Value)) from by apply Array.ext';simp [valVC]];exact arr_at _ _ _ _ (by simp))
@[go_sem] theorem valVC_gg2 (x : ValV) (h : 2 < (valVC x).size) : (valVC x)[2]'h = x.l:=Option.some.inj ((Array.getElem?_eq_getElem h).symm.trans (valVC_g2 x))
@[go_sem] theorem valVC_all (x : ValV) : (valVC x).extract 0 3 = valVC x:=by have:=Array.extract_size (xs:=valVC x);rwa [valVC_size] at this
theorem valVC_one (x : ValV) (hl : x.l.oneCell' = true) : ∀ u ∈ (valVC x).toList,u.oneCell' = true:=by
  intro u hu;simp only [valVC,Array.toList_append,List.mem_append] at hu;rcases hu with (hu | hu) | hu
  · simp at hu;subst hu;rfl
  · simp at hu;subst hu;rfl
  · simp at hu;subst hu;exact hl
def valV0 : ValV:=⟨0,0,(.slice none 0 0)⟩
theorem infoValV : (Tryz.prog.info? 43).map (·.size) = some 3:=by kernel_rfl
@[go_sem ↓] theorem zeroValV_run (w : World) : (zeroValue 43).run Tryz.prog w = .ok (.agg (valVC valV0)) w:=by
  have h : (Tryz.prog.info? 43).bind (·.zero) = some (.agg (valVC valV0)):=by kernel_rfl
  cases hi : Tryz.prog.info? 43 with
  | none=>rw [hi] at h;cases h
  | some i =>
    rw [hi] at h;have hz : i.zero = some (.agg (valVC valV0)):=h;simp [zeroValue,typeInfo,hi,hz]
@[go_sem ↓] theorem loadValV_rw (a : Addr) : loadVar 43 a = ldS 43 a:=rfl
@[go_sem ↓] theorem storeValV_rw (a : Addr) (v : Value) : storeVar 43 a v = stS 43 a v:=rfl
@[go_sem] theorem loadValV_run (w : World) (g o : Nat) : (ldS 43 ⟨g,o,none⟩).run Tryz.prog w = match rowAt w g o 3 with | some cs=>.ok (.agg cs) w | none=>(loadVar 43 ⟨g,o,none⟩).run Tryz.prog w :=
  run_ldS Tryz.underlying43 rfl infoValV w g o
@[go_sem] theorem storeValV_run (w : World) (g : Nat) (hg : g = w.heap.size) (z : Array Value) (hz : z.size = 3) (x : ValV) (hl : x.l.oneCell' = true) (e : TypeId) : (stS 43 ⟨g,0,none⟩ (.agg (valVC x))).run Tryz.prog (w.alloc (.cells z e)) = .ok () (w.alloc (.cells (valVC x) e)) :=
  hg ▸ run_stS_new infoValV w z (valVC x) hz (valVC_size x) (valVC_one x hl)
@[go_sem ↓] theorem buildValV_rw (parts : Array (Nat × Value)) : Instr.build 43 parts = bdS 43 parts:=rfl
@[go_sem] theorem buildValV_e (w : World) : (bdS 43 #[]).run Tryz.prog w = .ok (.agg (valVC valV0)) w:=by kernel_rfl
@[go_sem] theorem buildValV_k (k : Int) (w : World) : (bdS 43 #[(0,.int .i64 k)]).run Tryz.prog w = .ok (.agg (valVC ⟨k,0,.slice none 0 0⟩)) w:=by kernel_rfl
end
section
open Go.RowKit
theorem results_cell_tmp {P : Program} {fn : Func} {p q : Tmp} {ty : TypeId} (h : fn.results = #[.cell p ty,.tmp q]) (tmps : Array Value) (w : World) (g : Nat) (t : TypeId) (cs : Array Value) (fr : Nat × Nat) (d : TypeDesc)
    (hp : tmps.getD p undef = .pointer (some ⟨g,0,none⟩)) (hg : w.heap[g]? = some (.cells cs t fr))
    (hu : P.underlying ty = some d) (hd : (match d with | .struct _ | .array _ _=>true | _=>false) = true) (hi : (P.info? ty).map (·.size) = some cs.size) :
    (results fn tmps).run P w = .ok (.tuple #[.agg cs,tmps.getD q undef]) w:=by
  have hp' : tmps[p]?.getD undef = .pointer (some ⟨g,0,none⟩):=by simpa using hp
  simp [results,h,hp',asAddr,run_loadVar_row w g t ty cs fr d hg hu hd hi]
end
section
open Go.RowKit
set_option maxRecDepth 100000 in
set_option maxHeartbeats 4000000 in
theorem nilValue (t : ByteArray) (w : World) (ht : t.size ≤ 9223372036854775807) (hk : kindB t = 1) :
    Calls Tryz.prog 23 #[.string t,.slice none 0 0] w fun e w'=>e = .returned (.tuple #[.agg (valVC ⟨1,0,.slice none 0 0⟩),.int .i64 0]) ∧ Below w.heap.size w w':=by
  have hB : Below w.heap.size w (w.alloc (.cells (valVC valV0) 43)):=(Below.refl _ _).alloc (Nat.le_refl _) _;have hg1 : (w.alloc (.cells (valVC valV0) 43)).heap[w.heap.size]? = some (.cells (valVC valV0) 43 (0,0)):=heap_alloc_new w _;have c1:=fun w=>check_any t w ht;have c2:=fun w=>kind_any t w ht;have hcz : checkB t = 0:=by unfold checkB;rw [if_neg (by omega)]
  rw [hcz] at c1;rw [hk] at c2;clear hcz hk;go_enter Tryz.func23,Tryz.ntmps23
  go_upto_region 1 with fail
  obtain ⟨ga,hga⟩ : ∃ ga,w.heap.size = ga:=⟨_,rfl⟩
  have Hga:=Lib.hid hga;rw [hga] at hg1 hB ⊢;obtain ⟨W,hW⟩ : ∃ W,W = w.alloc (.cells (valVC valV0) 43):=⟨_,rfl⟩
  rw [← hW] at hg1 hB ⊢;clear hW hga;(go_wp2_with fail);refine (c1 _).mono ?_;rintro e w1 ⟨rfl,hb1⟩;have hg2:=(hb1.block ga (Array.getElem?_eq_some_iff.1 hg1).1).trans hg1;have hB2 : Below ga w w1:=hB.trans (hb1.mono (by have:=hB.size;have:=Hga.out;omega));clear hg1 hB hb1 c1;(go_wp2_with fail);refine (c2 _).mono ?_;rintro e w2 ⟨rfl,hb2⟩;have hg3:=(hb2.block ga (Array.getElem?_eq_some_iff.1 hg2).1).trans hg2;have hB3 : Below ga w w2:=hB2.trans (hb2.mono (by have:=hB2.size;have:=Hga.out;omega));have hs2 : ga < w2.heap.size:=(Array.getElem?_eq_some_iff.1 hg3).1;clear hg2 hB2 hb2 c2;have hb3 : Below w2.heap.size w2 (w2.alloc (.cells (valVC ⟨1,0,.slice none 0 0⟩) 43)):=(Below.refl _ _).alloc (Nat.le_refl _) _;have hg4:=(hb3.block ga hs2).trans hg3;have hB4 : Below ga w (w2.alloc (.cells (valVC ⟨1,0,.slice none 0 0⟩) 43)):=hB3.trans (hb3.mono (by omega));have hv4 : (w2.alloc (.cells (valVC ⟨1,0,.slice none 0 0⟩) 43)).heap[w2.heap.size]? = some (.cells (valVC ⟨1,0,.slice none 0 0⟩) 43 (0,0)):=heap_alloc_new w2 _;obtain ⟨gv,hgv⟩ : ∃ gv,w2.heap.size = gv:=⟨_,rfl⟩
  clear hg3 hB3 hb3;have ho : (ValV.mk 1 0 (.slice none 0 0)).l.oneCell' = true:=rfl;have ho2 : (Value.slice none 0 0).oneCell' = true:=rfl;go_upto_region 5 with fail
  rw [hgv] at hv4 hs2;obtain ⟨W3,hW3⟩ : ∃ W3,W3 = (w2.alloc (.cells (valVC ⟨1,0,.slice none 0 0⟩) 43)):=⟨_,rfl⟩
  rw [← hW3] at hg4 hB4 hv4 ⊢;clear hW3 hgv;have hc0 : W3.cell? ⟨gv,0,none⟩ = some (.int .i64 1):=by rw [cell_of_row W3 gv 0 _ _ _ hv4];simp [go_sem]
  (go_wp2_with fail);refine (nilActs W3 1).mono ?_;rintro e w5 ⟨rfl,hb5⟩;have hg5:=(hb5.block ga (Array.getElem?_eq_some_iff.1 hg4).1).trans hg4;have hv5:=(hb5.block gv (Array.getElem?_eq_some_iff.1 hv4).1).trans hv4;have hB5 : Below ga w w5:=hB4.trans (hb5.mono (by have:=hB4.size;have:=Hga.out;omega));have hc5 : w5.cell? ⟨gv,0,none⟩ = some (.int .i64 1):=by rw [cell_of_row w5 gv 0 _ _ _ hv5];simp [go_sem]
  have hgvl : gv < w5.heap.size:=(Array.getElem?_eq_some_iff.1 hv5).1;have hgal : ga < w5.heap.size:=(Array.getElem?_eq_some_iff.1 hg5).1;have hf5 : w5.frozen? ⟨gv,1,none⟩ = false:=by simp [World.frozen?,hv5]
  have hcv5 : w5.cell? ⟨gv,1,none⟩ = some (.int .i64 0):=by rw [cell_of_row w5 gv 1 _ _ _ hv5];simp [go_sem]
  clear hb5 hg4 hv4 hB4 hc0;(go_wp2_with fail);refine (nilTotal _).mono ?_;rintro e w6 ⟨rfl,rfl⟩;have hset : (valVC ⟨1,0,.slice none 0 0⟩).setIfInBounds 1 (.int .i64 0) = valVC ⟨1,0,.slice none 0 0⟩:=by apply Array.ext';simp [valVC]
  have hv4 : (w5.setCell ⟨gv,1,none⟩ (.int .i64 0)).heap[gv]? = some (.cells (valVC ⟨1,0,.slice none 0 0⟩) 43 (0,0)):=by rw [heap_setCell_same hv5,hset]
  have hks:=Keep.setCell w5 ⟨gv,1,none⟩ (.int .i64 0);have hg4 : (w5.setCell ⟨gv,1,none⟩ (.int .i64 0)).heap[ga]? = some (.cells (valVC valV0) 43 (0,0)):=(hks.block ga (by omega) (by simp;omega)).trans hg5;have hB4 : Below ga w (w5.setCell ⟨gv,1,none⟩ (.int .i64 0)):=hB5.trans (hks.below (by omega) (by simp;omega));clear hset hks hB5 hg5;go_upto_region 17 with fail
  obtain ⟨W4,hW4⟩ : ∃ W4,W4 = w5.setCell ⟨gv,1,none⟩ (.int .i64 0):=⟨_,rfl⟩
  rw [← hW4] at hv4 hg4 hB4 ⊢;clear hW4 hf5 hcv5 hv5 hc5;have hrow : rowAt W4 gv 0 3 = some (valVC ⟨1,0,.slice none 0 0⟩):=by unfold rowAt;rw [hv4];simp [go_sem]
  have hsto:=run_stS_at (P:=Tryz.prog) infoValV W4 ga (valVC valV0) (valVC ⟨1,0,.slice none 0 0⟩) _ hg4 (by simp) (by simp) (valVC_one _ rfl);have hkf : Keep [ga] W4 (W4.setRow ga (valVC ⟨1,0,.slice none 0 0⟩)):=⟨rfl,rfl,rfl,by simp [World.setRow],fun x _ hx=>setRow_other W4 ga x _ (by simpa using hx)⟩
  have Hfin:=Lib.hid (setRow_heap W4 ga _ (valVC ⟨1,0,.slice none 0 0⟩) _ _ hg4);have HBf:=Lib.hid (hB4.trans (hkf.below (by have:=hB4.size;have:=Hga.out;omega) (by simp)));clear hkf hg4 hB4 hv4;(go_wp2_with fail);refine bodyPost_ret (results_cell_tmp Tryz.results23 _ _ ga 43 (valVC ⟨1,0,.slice none 0 0⟩) (0,0) _ rfl Hfin.out Tryz.underlying43 rfl (by rw [valVC_size];exact infoValV)) rfl ?_;exact ⟨rfl,by rw [Hga.out];exact HBf.out⟩
end
section
open Go.RowKit
theorem zip_take {α β : Type} (I : List α) (R : List β) (h : I.length = R.length) {k : Nat} (hk : k < R.length) : (I.zip R).take (k + 1) = (I.zip R).take k ++ [(I[k]'(by omega),R[k])]:=by
  rw [List.take_succ_eq_append_getElem (by simp;omega),List.getElem_zip]
set_option maxRecDepth 100000 in
set_option maxHeartbeats 8000000 in
theorem au_headers (w : World) (A1 A2 : Option Addr) (c1 c2 : Nat) (I : List Id32) (R : List HdIn) (hI : TagsIn w A1 R.length I) (hR : HsIn w A2 R.length R) (hn : R.length ≤ 100000) (hv : ShaVars w) (hf : ∀ x ∈ R,HdFit w x) :
    Calls Tryz.prog 7 #[.slice A1 R.length c1,.slice A2 R.length c2] w fun e w'=>∃ A cap,e = .returned (.slice A (fndN (I.zip R) R.length).length cap) ∧ OwnFn w' w.heap.size A cap (fndN (I.zip R) R.length) ∧ Below w.heap.size w w':=by
  have hmm:=@run_makeMap Tryz.prog;have hlen : I.length = R.length:=by simpa using hI.1
  have hb0 : Below w.heap.size w (w.alloc (.map #[] 0)):=(Below.refl _ _).alloc (Nat.le_refl _) _;have hk0 : KnAt (w.alloc (.map #[] 0)) w.heap.size []:=⟨[],#[],0,MapAt.new w w.heap.size rfl,fun _=>rfl⟩
  go_enter Tryz.func7,Tryz.ntmps7
  go_upto_region 4 with fail
  obtain ⟨W,hW⟩ : ∃ W,W = w.alloc (.map #[] 0):=⟨_,rfl⟩
  obtain ⟨b,hb⟩ : ∃ b,w.heap.size = b:=⟨_,rfl⟩
  have HW:=Lib.hid hW;have Hb:=Lib.hid hb;have hWs : W.heap.size = b + 1:=by rw [hW,← hb];simp
  rw [← hW] at hb0 hk0 ⊢;rw [hb] at hb0 hk0 ⊢;clear hW hb;go_loopw [7,8,9,21] (fun _ _ _ n wr=>∃ k : Nat,k ≤ R.length ∧ n = .int .i64 k ∧ KnAt wr b ((I.zip R).take k) ∧ Below b w wr ∧ b < wr.heap.size) (fun _ _ _ n _=>R.length - (intOf n).toNat)
  case atStart=>exact ⟨0,Nat.zero_le _,rfl,hk0,hb0,by omega⟩
  case round =>
    obtain ⟨k,hk,rfl,hkn,hb,hbs⟩:=hrel;have hbw : Below w.heap.size w wr:=by rw [Hb.out];exact hb
    by_cases hlt : k < R.length
    · obtain ⟨q1,o1,hq1,hr1⟩:=TagsIn.get (SlR.below hI hbw) hlt (by omega);obtain ⟨q2,o2,hq2,hr2⟩:=HsIn.get (SlR.below hR hbw) hlt hlt;have hz:=zip_take I R hlen hlt;obtain ⟨i,hi⟩ : ∃ i,I[k]'(by omega) = i:=⟨_,rfl⟩
      obtain ⟨x,hx⟩ : ∃ x,R[k]'hlt = x:=⟨_,rfl⟩
      rw [hi] at hr1 hz;rw [hx] at hr2 hz;have Hz:=Lib.hid hz;obtain ⟨L,hL⟩ : ∃ L,(I.zip R).take k = L:=⟨_,rfl⟩
      rw [hL] at hkn Hz;clear hz hL hi hx;cases hlk : lkH L i with
      | some y =>
        have hl : (Instr.lookup 56 (.map (some b)) (.agg (idC i)) true).run Tryz.prog wr = .ok (.tuple #[.agg (hdR y),.bool true]) wr:=hkn.hit hlk true;have ho:=hdO_one y;have hkn2:=(hkn.same (q:=(i,x)) hlk).below ((Below.refl _ _).alloc (Nat.le_refl _) (.cells (hdR y) 30));have hb2 : Below b w (wr.alloc (.cells (hdR y) 30)):=hb.alloc (by omega) _;subst hq1;subst hq2;clear hlk hkn;(go_wp2_with fail);go_roundw
        case rel=>exact ⟨k + 1,by omega,by go_num,by rw [Hz.out];exact hkn2,hb2,by simp;omega⟩
        case measure=>simp [intOf];omega
      | none =>
        have hl : (Instr.lookup 56 (.map (some b)) (.agg (idC i)) true).run Tryz.prog wr = .ok (.tuple #[.agg (hdC hd0),.bool false]) wr:=hkn.miss hlk true;have ho:=hd0_one;have hba : Below wr.heap.size wr (wr.alloc (.cells (hdC hd0) 30)):=(Below.refl _ _).alloc (Nat.le_refl _) _;have hkn2:=hkn.below hba;have hb2 : Below b w (wr.alloc (.cells (hdC hd0) 30)):=hb.alloc (by omega) _;have hr1':=(rowAt_of_block (hba.block q1 (rowAt_lt hr1)) _ _).trans hr1;have hr2':=(rowAt_of_block (hba.block q2 (rowAt_lt hr2)) _ _).trans hr2;subst hq1;subst hq2;go_upto_region 8 with fail
        obtain ⟨W1,hW1⟩ : ∃ W1,W1 = wr.alloc (.cells (hdC hd0) 30):=⟨_,rfl⟩
        have hs1 : b < W1.heap.size:=by rw [hW1];simp;omega
        rw [← hW1] at hkn2 hb2 hr1' hr2' ⊢;obtain ⟨w2,hrun,hL2,hk2⟩:=(hkn2.kept (Keep.drew W1) (S:=[]) (by simp)).put x hlk;have hq1b : q1 ∉ [b]:=by
          have:=SlR.old hI rfl (by omega);have:=Hb.out
          simp;omega
        have hq2b : q2 ∉ [b]:=by
          have:=SlR.old hR rfl (by omega);have:=Hb.out
          simp;omega
        clear hW1 hlk hkn hl ho hr1 hr2 hba;refine wp_region_lex (Kp [b] W1) false (by kernel_rfl) (by kernel_rfl) (by kernel_rfl) (kp_drew [b] W1) ?_;have hne:=kp_some [b] W1;have hS:=kp_drew [b] W1;have b1:=ksub_row hr1' hq1b;have b2:=ksub_row hr2' hq2b;repeat (refine wpLx_loose ?_ ?_;(focus (simp only [chainOp];done));intro K hK;go_simp;refine hK _ ?_;clear hK K)
        refine wpLx_chain ?_ ?_ ?_;(focus (exact hS));(focus (simp only [chainOp];done));intro K hK;go_simp;refine step_keep (kp_next hS hk2 (by simp)) (fun hS=>?_);refine hK _ _ ?_;clear hK K;refine wpLx_nil ?_;intro hS;clear b1 b2 hne hr1' hr2' hkn2;have hb3 : Below b w w2:=hb2.trans (hS.below (B:=b) (by omega) (by simp));have hs3:=hS.size;(go_wp2_with fail);go_roundw
        case rel=>exact ⟨k + 1,by omega,by go_num,by rw [Hz.out];exact hL2,hb3,by omega⟩
        case measure=>simp [intOf];omega
    · have hke : (I.zip R).take k = I.zip R:=List.take_of_length_le (by simp;omega);rw [hke] at hkn;obtain ⟨L,hL⟩ : ∃ L,I.zip R = L:=⟨_,rfl⟩
      have hLl : L.length = R.length:=by rw [← hL];simp;omega
      have hLg : ∀ j (hj : j < R.length) (h1 : j < I.length) (h2 : j < L.length),L[j]'h2 = (I[j]'h1,R[j]'hj):=fun j hj h1 h2=>(by subst hL;exact List.getElem_zip);rw [hL] at hkn ⊢;have HL:=Lib.hid hL;have hB : Below w.heap.size w wr:=hbw;have hI1:=SlR.below hI hbw;have hR1 : HsIn wr A2 R.length R:=SlR.below hR hbw;have hv1:=hv.below hbw;have hf1 : ∀ x ∈ R,HdFit wr x:=fun x hx=>(hf x hx).below hbw;have HB:=Lib.hid hB;clear hke hL hbw hB hI hR hv hf hk0 hb0;obtain ⟨wb,hwb⟩ : ∃ wb,wb = wr:=⟨_,rfl⟩
      subst hwb;go_upto_region 12 with fail
      obtain ⟨B1,hB1⟩ : ∃ B1,wb.heap.size = B1:=⟨_,rfl⟩
      have HB1:=Lib.hid hB1;have hqb : b < B1:=by rw [← hB1];exact hbs
      clear hB1 hlt hk hbs hb hmm hWs;go_loopw [10,11,13,46] (fun out _ _ n w1=>∃ (k : Nat) (A : Option Addr) (cap : Nat),k ≤ R.length ∧ n = .int .i64 k ∧ out = .slice A (fndN L k).length cap ∧ OwnFn w1 B1 A cap (fndN L k) ∧ Below B1 wb w1) (fun _ _ _ n _=>R.length - (intOf n).toNat)
      case atStart=>exact ⟨0,none,0,Nat.zero_le _,rfl,rfl,Own.nil _ _ _ _,Below.refl _ _⟩
      case round =>
        obtain ⟨k,A,cap,hk,rfl,rfl,hown,hb⟩:=hrel;by_cases hlt : k < R.length
        · have hst:=fndN_step L (i:=k) (by omega);rw [hLg k hlt (by omega) (by omega)] at hst;have hb' : Below wb.heap.size wb wr:=by rw [HB1.out];exact hb
          obtain ⟨q1,o1,hq1,hr1⟩:=TagsIn.get hI1 hlt (by omega);obtain ⟨q2,o2,hq2,hr2⟩:=HsIn.get hR1 hlt hlt;obtain ⟨i,hi⟩ : ∃ i,I[k]'(by omega) = i:=⟨_,rfl⟩
          obtain ⟨x,hx⟩ : ∃ x,R[k]'hlt = x:=⟨_,rfl⟩
          have hfx : HdFit wb x:=hf1 x (by rw [← hx];exact List.getElem_mem hlt);rw [hi] at hst hr1;rw [hx] at hst hr2;have Hst:=Lib.hid hst;obtain ⟨F,hF⟩ : ∃ F,fndN L k = F:=⟨_,rfl⟩
          have hFl : F.length ≤ 300000:=by rw [← hF];have:=fndN_len L k;omega
          rw [hF] at hown Hst ⊢;have cr:=auds_any wr b;have hrl:=RlAt.made wr b;have hb2 : Below wr.heap.size wr ((wr.alloc (.cells #[.map (some b)] 56)).alloc (.cells (audRows wr.heap.size) 62)):=((Below.refl _ _).alloc (Nat.le_refl _) _).alloc (by simp) _;have hq1b : q1 < B1:=by rw [← HB1.out];exact rowAt_lt hr1
          have hq2b : q2 < B1:=by rw [← HB1.out];exact rowAt_lt hr2
          subst hq1;subst hq2;clear hst hi hx hF;(go_wp2_with fail);refine cr.mono ?_;rintro e w2 ⟨rfl,hw2⟩;rw [← hw2] at hrl hb2;have hown2:=hown.below hb2;have hab : ∀ y ∈ blk A,y ≠ wr.heap.size ∧ y ≠ wr.heap.size + 1:=fun y hy=>(by have:=(hown.at_base hy).2;omega);have hbz : Below B1 wb w2:=by rw [← HB1.out];exact bel2 hb' hb2
          have hB1w : B1 ≤ wr.heap.size:=by rw [← HB1.out];exact hb.size
          obtain ⟨g,hg⟩ : ∃ g,wr.heap.size = g:=⟨_,rfl⟩
          rw [hg] at hrl hab hB1w ⊢;clear cr hw2 hown hb hb2 hb' hg;go_upto_region 15 with fail
          go_loopw [10,13,52] (fun out _ n wi=>∃ (j : Nat) (A' : Option Addr) (cap' : Nat),j ≤ 3 ∧ n = .int .i64 j ∧ out = .slice A' (F ++ fndK L k (i,x) j).length cap' ∧ OwnFn wi B1 A' cap' (F ++ fndK L k (i,x) j) ∧ Below B1 wb wi ∧ RlAt wi g (g + 1) b ∧ Hid (∀ y ∈ blk A',y ≠ g ∧ y ≠ g + 1)) (fun _ _ n _=>3 - (intOf n).toNat)
          case atStart =>
            have e0 : F ++ fndK L k (i,x) 0 = F:=List.append_nil F;exact ⟨0,A,cap,by omega,rfl,by rw [e0],by rw [e0];exact hown2,hbz,hrl,hab⟩
          case round =>
            clear hown2 hab hbz hrl;obtain ⟨j,A',cap',hj,rfl,rfl,hown,hb,hrl,hsub⟩:=hrel;by_cases hlt2 : j < 3
            · have hrj:=hrl.row j hlt2;have hb' : Below wb.heap.size wb wr:=by rw [HB1.out];exact hb
              have hba : Below wr.heap.size wr (wr.alloc (.cells (audC g j) 62)):=(Below.refl _ _).alloc (Nat.le_refl _) _;have hrl5:=hrl.below hba;have hown5:=hown.below hba;have hb5 : Below wb.heap.size wb (wr.alloc (.cells (audC g j) 62)):=bel2 hb' hba;have hr1':=(rowAt_of_block (hb5.block q1 (rowAt_lt hr1)) _ _).trans hr1;have hr2':=(rowAt_of_block (hb5.block q2 (rowAt_lt hr2)) _ _).trans hr2;obtain ⟨m,hm⟩ : ∃ m : Int,((j + 1 : Nat) : Int) = m:=⟨_,rfl⟩
              have hn0 : (wr.alloc (.cells (audC g j) 62)).cell? ⟨wr.heap.size,0,none⟩ = some (.int .i64 m):=by rw [← hm];simp [go_sem,audC]
              have hn1 : (wr.alloc (.cells (audC g j) 62)).cell? ⟨wr.heap.size,1,none⟩ = some (.func (.func (audF j)) #[] (audG g j)):=by simp [go_sem,audC]
              have hdr : Below wb.heap.size wb (wr.alloc (.cells (audC g j) 62)).drew:=hb5.drew;have cc:=aud_any (wr.alloc (.cells (audC g j) 62)).drew g b L (i,x) ⟨(hrl5.below (Below.refl _ _).drew).box,hkn.below hdr,(hfx.below hdr).ids,hfx.len,hfx.tps,hfx.ht,hv1.below hdr⟩ j hlt2;have hcf:=call_aud j hlt2 (#[.agg (idC i),.agg (hdR x)] ++ audG g j) (wr.alloc (.cells (audC g j) 62)).drew;have hst2 : F ++ fndK L k (i,x) (j + 1) = (F ++ fndK L k (i,x) j) ++ if audB L (i,x) j = true then [] else [⟨m,k⟩]:=by rw [List.append_assoc,← hm];rfl
              have hXl : (F ++ fndK L k (i,x) j).length ≤ 300003:=by rw [List.length_append];have:=fndK_len L k (i,x) j;omega
              obtain ⟨X,hX⟩ : ∃ X,F ++ fndK L k (i,x) j = X:=⟨_,rfl⟩
              rw [hX] at hown5 hst2 hXl ⊢;obtain ⟨V,hV⟩ : ∃ V,audB L (i,x) j = V:=⟨_,rfl⟩
              obtain ⟨G,hG⟩ : ∃ G,audG g j = G:=⟨_,rfl⟩
              rw [hV] at cc hst2;simp only [hG] at cc hn1 hcf;have Hst2:=Lib.hid hst2;clear hst2 hV hm hown hrl hdr hb hX hG;go_upto_region 17 with fail
              obtain ⟨W5,hW5⟩ : ∃ W5,W5 = wr.alloc (.cells (audC g j) 62):=⟨_,rfl⟩
              have hz5 : W5.heap.size = wr.heap.size + 1:=by rw [hW5];simp
              obtain ⟨gx,hgx⟩ : ∃ gx,wr.heap.size = gx:=⟨_,rfl⟩
              rw [← hW5] at hrl5 hown5 hb5 hr1' hr2' hn0 hn1 cc hcf ⊢;rw [hgx] at hn0 hn1 hz5 ⊢;clear hW5 hba hrj;refine wp_region_lex (Bel W5) false (by kernel_rfl) (by kernel_rfl) (by kernel_rfl) (bel_drew W5) ?_;have hne:=bel_some W5;have hS:=bel_drew W5;have b0:=sub_row hr1';have b1:=sub_row hr2';have b2:=sub_cell hn1;repeat (refine wpLx_loose ?_ ?_;(focus (simp only [chainOp];done));intro K hK;go_simp;refine hK _ ?_;clear hK K)
              refine wpLx_chain ?_ ?_ ?_;(focus (exact hS));(focus (simp only [chainOp];done));intro K hK;go_simp;refine (cc).mono ?_;rintro e w' ⟨rfl,hb⟩;replace hS:=bel_next hS hb;refine ⟨_,rfl,hS,hK _ _ ?_⟩;clear hK K hb;repeat (refine wpLx_loose ?_ ?_;(focus (simp only [chainOp];done));intro K hK;go_simp;refine hK _ ?_;clear hK K)
              refine wpLx_nil ?_;intro hS;have hS' : Below W5.heap.size W5 w':=hS;have hown6:=hown5.below hS';have hrl6:=hrl5.below hS';have hb6 : Below B1 wb w':=by rw [← HB1.out];exact bel2 hb5 hS'
              have hn0':=(hS'.cell (p:=⟨gx,0,none⟩) (by show gx < _;omega)).trans hn0;have hsz:=hS'.size;have hB6 : B1 ≤ w'.heap.size:=by rw [← HB1.out];exact hb6.size
              clear hS hS' hne b0 b1 b2 hr1' hr2' hb5 hown5 hrl5 hn0 hn1 cc hcf hb';cases V with
              | true =>
                have hst3 : F ++ fndK L k (i,x) (j + 1) = X:=by rw [Hst2.out,if_pos rfl,List.append_nil]
                have Hst3:=Lib.hid hst3;clear hst3;(go_wp2_with fail);go_roundw
                case rel=>exact ⟨j + 1,A',cap',by omega,by go_num,by rw [Hst3.out],by rw [Hst3.out];exact hown6,hb6,hrl6,hsub⟩
                case measure=>simp [intOf];omega
              | false =>
                have hst3 : F ++ fndK L k (i,x) (j + 1) = X ++ [⟨m,k⟩]:=by rw [Hst2.out,if_neg (by simp)]
                have Hst3:=Lib.hid hst3;have hbx : Below w'.heap.size w' (w'.alloc (.cells (fndC ⟨m,k⟩) 34)):=(Below.refl _ _).alloc (Nat.le_refl _) _;have hown7:=hown6.below hbx;have hrow7 : rowAt (w'.alloc (.cells (fndC ⟨m,k⟩) 34)) w'.heap.size 0 2 = some (fndC ⟨m,k⟩):=by simp [go_sem]
                have hrl7:=hrl6.below hbx;clear hst3;go_wp2_with (at_builtin;refine L_append einfoFnd rfl hown7 rfl hrow7 (fndC_one _) (by omega) (by omega) (by simp;omega) ?_;intro A2 cap2 w2 hownA hkA hsubA)
                have hbA : Below B1 wb w2:=(hb6.alloc hB6 _).trans (hkA.below (B:=B1) (by simp;omega) fun y hy=>(hown6.at_base hy).1);have hrl8:=hrl7.kept hkA (fun hg=>absurd rfl (hsub.out g hg).1) (fun hg=>absurd rfl (hsub.out (g + 1) hg).2);have hgw : g + 1 < w'.heap.size:=hrl6.lt.2;have hsub2 : Hid (∀ y ∈ blk A2,y ≠ g ∧ y ≠ g + 1):=Lib.hid fun y hy=>by
                  rcases hsubA y hy with h | h
                  · exact hsub.out y h
                  · simp at h;omega
                clear hkA hsubA hrl7 hrow7 hown7 hbx hrl6 hown6;(go_wp2_with fail);go_roundw
                case rel=>exact ⟨j + 1,A2,cap2,by omega,by go_num,by rw [Hst3.out];simp,by rw [Hst3.out];show Own _ _ _ _ _ _ _ _;rw [List.map_append,List.length_append];exact hownA,hbA,hrl8,hsub2⟩
                case measure=>simp [intOf];omega
            · have hj3 : j = 3:=by omega
              have hx : F ++ fndK L k (i,x) j = fndN L (k + 1):=by rw [Hst.out,hj3]
              rw [hx] at hown ⊢;have hlt3 : ¬ ((j : Int) < 3):=by omega
              clear hx hrl hsub;(go_wp2_with fail);go_roundw
              case rel=>exact ⟨k + 1,A',cap',by omega,by go_num,rfl,hown,hb⟩
              case measure=>simp [intOf];omega
        · have hkR : k = R.length:=by omega
          rw [hkR] at hown ⊢;obtain ⟨X,hX⟩ : ∃ X,fndN L R.length = X:=⟨_,rfl⟩
          rw [hX] at hown ⊢;have HX:=Lib.hid hX;clear hX;(go_wp2_with fail);go_ret;exact ⟨A,cap,by rw [HL.out,HX.out];rfl,by rw [HL.out,HX.out];exact hown.mono (by rw [← HB1.out];exact HB.out.size),bel2 HB.out (by rw [HB1.out];exact hb)⟩
end
section
open Go.RowKit
def idOne : Id32:=⟨1 :: List.replicate 31 0,by decide⟩
def hdBad : HdIn:=⟨⟨[],2,⟨#[99,97]⟩,0,1,1,id0⟩,none,0⟩
theorem hdBad_e : hdE hdBad.h = 12:=by
  have h1 : ¬ 4 < hdBad.h.ps.length:=by decide
  have h2 : risI hdBad.h.ps = true:=rfl;have h3 : ¬ (hdBad.h.ht < 1 ∨ 1073741824 < hdBad.h.ht):=by decide
  have h4 : ((hdBad.h.ps.length == 0) != (hdBad.h.ht == 1)) = true:=by decide
  unfold hdE;rw [if_neg h1,if_neg (by rw [h2];decide),if_neg h3,if_pos h4]
theorem fndBad : fndN [(idOne,hdBad)] 1 = [⟨2,0⟩,⟨3,0⟩]:=by
  have b0 : audB [(idOne,hdBad)] (idOne,hdBad) 0 = true:=rfl;have b1 : audB [(idOne,hdBad)] (idOne,hdBad) 1 = false:=by
    show decide (hdE hdBad.h = 0 ∧ hdI hdBad.h = idOne) = false;rw [decide_eq_false];rw [hdBad_e];omega
  have b2 : audB [(idOne,hdBad)] (idOne,hdBad) 2 = false:=rfl;have e : fndN [(idOne,hdBad)] 1 = fndK [(idOne,hdBad)] 0 (idOne,hdBad) 3:=rfl;rw [e];simp only [fndK,b0,b1,b2];rfl
theorem hdBad_fit (w : World) : HdFit w hdBad:=⟨SlR.nil_,by decide,by decide,by decide⟩
end
section
open Go.RowKit
theorem nilEqual (w : World) : Calls Tryz.prog 60 #[.slice none 0 0,.slice none 0 0] w fun e w'=>e = .returned (.bool true) ∧ w = w':=by
  go_enter Tryz.func60,Tryz.ntmps60
  (go_wp2_with fail);refine wp_loop_rounds 2 ?_;rw [rounds_succ];(go_wp2_with fail);go_ret;exact ⟨rfl,rfl⟩
set_option maxRecDepth 100000 in
theorem nilSame (w : World) : Calls Tryz.prog 24 #[.agg (valVC ⟨1,0,.slice none 0 0⟩),.agg (valVC ⟨1,0,.slice none 0 0⟩)] w fun e w'=>e = .returned (.bool true) ∧ Below w.heap.size w w':=by
  have hB : Below w.heap.size w ((w.alloc (.cells (valVC ⟨1,0,.slice none 0 0⟩) 43)).alloc (.cells (valVC ⟨1,0,.slice none 0 0⟩) 43)):=((Below.refl _ _).alloc (Nat.le_refl _) _).alloc (by simp) _;have ce:=nilEqual ((w.alloc (.cells (valVC ⟨1,0,.slice none 0 0⟩) 43)).alloc (.cells (valVC ⟨1,0,.slice none 0 0⟩) 43));go_enter Tryz.func24,Tryz.ntmps24
  (go_wp2_with fail);refine ce.mono ?_;rintro e w1 ⟨rfl,rfl⟩;clear ce;(go_wp2_with fail);go_ret;exact ⟨rfl,hB⟩
set_option maxRecDepth 100000 in
theorem nilTopic (t : ByteArray) (w : World) (ht : t.size ≤ 9223372036854775807) (hk : kindB t = 1) :
    Calls Tryz.prog 13 #[.string t,.slice none 0 0,.agg (valVC ⟨1,0,.slice none 0 0⟩)] w fun e w'=>e = .returned (.bool true) ∧ Below w.heap.size w w':=by
  have ho2 : (Value.slice none 0 0).oneCell' = true:=rfl;have hB : Below w.heap.size w (w.alloc (.cells (valVC ⟨1,0,.slice none 0 0⟩) 43)):=(Below.refl _ _).alloc (Nat.le_refl _) _;have hr : rowAt (w.alloc (.cells (valVC ⟨1,0,.slice none 0 0⟩) 43)) w.heap.size 0 3 = some (valVC ⟨1,0,.slice none 0 0⟩):=by simp [go_sem]
  have cv:=nilValue t (w.alloc (.cells (valVC ⟨1,0,.slice none 0 0⟩) 43)) ht hk;obtain ⟨W,hW⟩ : ∃ W,W = w.alloc (.cells (valVC ⟨1,0,.slice none 0 0⟩) 43):=⟨_,rfl⟩
  have HW:=Lib.hid hW;rw [← hW] at hB hr cv;clear hW hk;go_enter Tryz.func13,Tryz.ntmps13
  go_upto_region 1 with fail
  rw [← HW.out];(go_wp2_with fail);refine cv.mono ?_;rintro e w1 ⟨rfl,hb1⟩;have hr1:=(rowAt_of_block (hb1.block w.heap.size (rowAt_lt hr)) _ _).trans hr;have hr2 : rowAt (w1.alloc (.cells (valVC ⟨1,0,.slice none 0 0⟩) 43)) w.heap.size 0 3 = some (valVC ⟨1,0,.slice none 0 0⟩):=by
    rw [rowAt_of_block (Below.heap_alloc _ _ _ (rowAt_lt hr1))];exact hr1
  have hB1:=bel2 hB hb1;have hB2 : Below w.heap.size w (w1.alloc (.cells (valVC ⟨1,0,.slice none 0 0⟩) 43)):=hB1.alloc hB1.size _;have cs:=nilSame (w1.alloc (.cells (valVC ⟨1,0,.slice none 0 0⟩) 43));clear cv hr hr1 hB hb1 hB1;(go_wp2_with fail);refine cs.mono ?_;rintro e w2 ⟨rfl,hb2⟩;clear cs;(go_wp2_with fail);go_ret;exact ⟨rfl,bel2 hB2 hb2⟩
end
section
open Go.RowKit
abbrev FnIn (w : World) (A : Option Addr) (F : List Fnd) : Prop:=SlR w A F.length 2 (F.map fndC)
theorem FnIn.get {w : World} {A : Option Addr} {F : List Fnd} (h : FnIn w A F) {i : Nat} (hi : i < F.length) : ∃ g o,A = some ⟨g,o,none⟩ ∧ w.cell? ⟨g,o + i * 2,none⟩ = some (.int .i64 (F[i]).k) ∧ w.cell? ⟨g,o + i * 2 + 1,none⟩ = some (.int .i64 (F[i]).i):=by
  obtain ⟨g,o,e,hr⟩:=h.at_ hi;rw [List.getElem_map] at hr;have h0:=rowAt_cell hr (j:=0) (by omega);have h1:=rowAt_cell hr (j:=1) (by omega);rw [fndC_g0] at h0;rw [fndC_g1] at h1;exact ⟨g,o,e,h0,h1⟩
set_option maxRecDepth 100000 in
set_option maxHeartbeats 4000000 in
theorem au_same (w : World) (A A' : Option Addr) (cap cap' : Nat) (F : List Fnd) (h : FnIn w A F) (h' : FnIn w A' F) (hn : F.length ≤ 300000) :
    Calls Tryz.prog 9 #[.slice A F.length cap,.slice A' F.length cap'] w fun e w'=>e = .returned (.bool true) ∧ Below w.heap.size w w':=by
  go_enter Tryz.func9,Tryz.ntmps9
  go_upto_region 4 with fail
  go_loopw [5] (fun i wr=>∃ k : Nat,k ≤ F.length ∧ i = .int .i64 k ∧ Below w.heap.size w wr) (fun i _=>F.length - (intOf i).toNat)
  case atStart=>exact ⟨0,Nat.zero_le _,rfl,Below.refl _ _⟩
  case round =>
    obtain ⟨k,hk,rfl,hb⟩:=hrel;by_cases hlt : k < F.length
    · obtain ⟨q,o,hq,c1,c2⟩:=FnIn.get (SlR.below h hb) hlt;obtain ⟨q',o',hq',c3,c4⟩:=FnIn.get (SlR.below h' hb) hlt;obtain ⟨f,hf⟩ : ∃ f,F[k]'hlt = f:=⟨_,rfl⟩
      rw [hf] at c1 c2 c3 c4;subst hq;subst hq';clear hf;go_upto_region 6 with fail
      refine wp_region_lex (Bel wr) false (by kernel_rfl) (by kernel_rfl) (by kernel_rfl) (bel_drew wr) ?_;have hne:=bel_some wr;have hS:=bel_drew wr;have b1:=sub_cell c1;have b2:=sub_cell c2;have b3:=sub_cell c3;have b4:=sub_cell c4;repeat (refine wpLx_loose ?_ ?_;(focus (simp only [chainOp];done));intro K hK;go_simp;refine hK _ ?_;clear hK K)
      refine wpLx_nil ?_;intro hS;clear hne hS b1 b2 b3 b4 c1 c2 c3 c4;(go_wp2_with fail);go_roundw
      case rel=>exact ⟨k + 1,by omega,by go_num,hb.drew⟩
      case measure=>simp [intOf];omega
    · (go_wp2_with fail);go_ret;exact ⟨rfl,hb⟩
end
section
open Go.RowKit
theorem einfoHd : ElemInfo Tryz.prog 22 30 38 104 :=
  .of (z:=.agg (hdC hd0)) Tryz.underlying22 (by kernel_rfl) (by kernel_rfl) (by kernel_rfl) (hdC_size _) (by omega)
@[go_sem ↓] theorem bsHd_rw (n : Nat) (parts : Array (Nat × Value)) : Instr.buildSlice 22 n parts = bsS 22 n parts:=rfl
@[go_sem] theorem bsHd_run (w : World) (x : Hd) : (bsS 22 1 #[(0,.agg (hdC x))]).run Tryz.prog w = .ok (.slice (some ⟨w.heap.size,0,none⟩) 1 1) (w.alloc (.cells (hdC x) 30)) :=
  run_bsS1 einfoHd (by omega) w (hdC x) (hdC_size x)
theorem buildBad (w : World) : (bdS 30 #[(1,.int .i64 2),(2,.string ⟨#[99,97]⟩),(4,.int .i64 1),(5,.int .i64 1)]).run Tryz.prog w = .ok (.agg (hdR hdBad)) w:=by kernel_rfl
theorem slR_one_row {w : World} {g o k : Nat} {r : Array Value} (h : rowAt w g o k = some r) : SlR w (some ⟨g,o,none⟩) 1 k [r] :=
  ⟨rfl,fun _=>⟨g,o,rfl,fun i hi=>by
    have hi0 : i = 0:=by simpa using hi
    subst hi0;simpa using h⟩⟩
theorem kind_ca : kindB ⟨#[99,97]⟩ = 1:=by decide +kernel
set_option maxRecDepth 100000 in
set_option maxHeartbeats 4000000 in
theorem au_awake (w : World) (hv : ShaVars w) : Calls Tryz.prog 5 #[] w fun e w'=>e = .returned (.bool true) ∧ Below w.heap.size w w':=by
  have b1 : (idC id0).setIfInBounds 0 (.int .u8 1) = idC idOne:=by rfl
  have b2:=buildBad;have hB : Below w.heap.size w ((w.alloc (.cells (idC idOne) 24)).alloc (.cells (hdR hdBad) 30)):=((Below.refl _ _).alloc (Nat.le_refl _) _).alloc (by simp) _;have r1 : rowAt ((w.alloc (.cells (idC idOne) 24)).alloc (.cells (hdR hdBad) 30)) w.heap.size 0 32 = some (idC idOne):=by
    rw [rowAt_of_block (Below.heap_alloc _ _ _ (by simp))];simp [go_sem]
  have r2 : rowAt ((w.alloc (.cells (idC idOne) 24)).alloc (.cells (hdR hdBad) 30)) (w.heap.size + 1) 0 38 = some (hdR hdBad):=by simp [go_sem]
  have hI : TagsIn ((w.alloc (.cells (idC idOne) 24)).alloc (.cells (hdR hdBad) 30)) (some ⟨w.heap.size,0,none⟩) 1 [idOne]:=slR_one_row r1;have hR : HsIn ((w.alloc (.cells (idC idOne) 24)).alloc (.cells (hdR hdBad) 30)) (some ⟨w.heap.size + 1,0,none⟩) 1 [hdBad]:=slR_one_row r2;clear r1 r2;have ch:=au_headers _ _ _ 1 1 [idOne] [hdBad] hI hR (by decide) (hv.below hB) (fun x hx=>by rw [List.mem_singleton.1 hx];exact hdBad_fit _);have e0 : fndN ([idOne].zip [hdBad]) [hdBad].length = [⟨2,0⟩,⟨3,0⟩]:=fndBad;rw [e0] at ch;clear e0 hI hR hv;go_enter Tryz.func5,Tryz.ntmps5
  (go_wp2_with fail);refine ch.mono ?_;rintro e w1 ⟨A,cap,rfl,hown,hb1⟩;obtain ⟨q,o,rfl,k0,_⟩:=FnIn.get (F:=[⟨2,0⟩,⟨3,0⟩]) hown.slr (i:=0) (by decide);obtain ⟨q',o',hq,k1,_⟩:=FnIn.get (F:=[⟨2,0⟩,⟨3,0⟩]) hown.slr (i:=1) (by decide);injection hq with hq
  injection hq with e1 e2
  subst e1;subst e2;have k0' : w1.cell? ⟨q,o,none⟩ = some (.int .i64 2):=k0;have k1' : w1.cell? ⟨q,o + 2,none⟩ = some (.int .i64 3):=k1;clear k0 k1;have ct:=nilTopic ⟨#[99,97]⟩ w1 (by decide) kind_ca;have bv : ∀ w : World,(bdS 43 #[(0,.int .i64 1)]).run Tryz.prog w = .ok (.agg (valVC ⟨1,0,.slice none 0 0⟩)) w:=buildValV_k 1;clear ch hown;(go_wp2_with fail);refine ct.mono ?_;rintro e w2 ⟨rfl,hb2⟩;clear ct;(go_wp2_with fail);go_ret;exact ⟨rfl,bel2 (bel2 hB hb1) hb2⟩
end
section
open Go.RowKit
theorem fndK_mem (L : List (Id32 × HdIn)) (i : Nat) (q : Id32 × HdIn) (f : Fnd) : ∀ k,f ∈ fndK L i q k ↔ ∃ j,j < k ∧ audB L q j = false ∧ f = ⟨((j + 1 : Nat) : Int),i⟩
  | 0=>by simp [fndK]
  | k + 1=>by
    rw [fndK,List.mem_append,fndK_mem L i q f k];constructor
    · rintro (⟨j,hj,h1,h2⟩ | h)
      · exact ⟨j,by omega,h1,h2⟩
      · by_cases hb : audB L q k = true
        · rw [if_pos hb] at h;cases h
        · rw [if_neg hb] at h;exact ⟨k,by omega,by simpa using hb,by simpa using h⟩
    · rintro ⟨j,hj,h1,h2⟩;by_cases e : j = k
      · subst e;right
        rw [if_neg (by rw [h1];decide)];rw [h2];exact List.mem_singleton.2 rfl
      · exact .inl ⟨j,by omega,h1,h2⟩
theorem fndN_mem (L : List (Id32 × HdIn)) (f : Fnd) : ∀ n,f ∈ fndN L n ↔ ∃ i q,i < n ∧ L[i]? = some q ∧ f ∈ fndK L i q 3
  | 0=>by simp [fndN]
  | n + 1=>by
    rw [fndN,List.mem_append,fndN_mem L f n];constructor
    · rintro (⟨i,q,hi,h1,h2⟩ | h)
      · exact ⟨i,q,by omega,h1,h2⟩
      · cases hq : L[n]? with
        | some q=>rw [hq] at h;exact ⟨n,q,by omega,hq,h⟩
        | none=>rw [hq] at h;cases h
    · rintro ⟨i,q,hi,h1,h2⟩;by_cases e : i = n
      · subst e;right
        rw [h1];exact h2
      · exact .inl ⟨i,q,by omega,h1,h2⟩
theorem fnd2_at (L : List (Id32 × HdIn)) (n j : Nat) : (∃ f ∈ fndN L n,f.k = 2 ∧ f.i = (j : Int)) ↔ ∃ q,j < n ∧ L[j]? = some q ∧ ¬ (hdE q.2.h = 0 ∧ hdI q.2.h = q.1):=by
  constructor
  · rintro ⟨f,hf,h1,h2⟩;obtain ⟨i,q,hi,hq,hk⟩:=(fndN_mem L f n).1 hf;obtain ⟨k,hk3,hb,rfl⟩:=(fndK_mem L i q f 3).1 hk;have e1 : k = 1:=by simp only at h1;omega
    have e2 : i = j:=by simp only at h2;omega
    subst e1;subst e2;exact ⟨q,hi,hq,of_decide_eq_false hb⟩
  · rintro ⟨q,hj,hq,hb⟩;exact ⟨⟨2,j⟩,(fndN_mem L _ n).2 ⟨j,q,hj,hq,(fndK_mem L j q _ 3).2 ⟨1,by omega,decide_eq_false hb,rfl⟩⟩,rfl,rfl⟩
end
section
open Go.RowKit
abbrev idsH (R : List HdIn) : List Id32:=R.map fun x=>hdI x.h
def fnd2B (F : List Fnd) (k j : Nat) : Bool:=(F.take j).any fun f=>f.k == 2 && f.i == (k : Int)
theorem fnd2B_step (F : List Fnd) (k : Nat) {j : Nat} (hj : j < F.length) : fnd2B F k (j + 1) = (fnd2B F k j || (F[j].k == 2 && F[j].i == (k : Int))):=by
  unfold fnd2B;rw [List.take_add_one,List.getElem?_eq_getElem hj,List.any_append];simp
theorem fnd2B_all (F : List Fnd) (k : Nat) : fnd2B F k F.length = true ↔ ∃ f ∈ F,f.k = 2 ∧ f.i = (k : Int):=by
  unfold fnd2B;rw [List.take_length,List.any_eq_true];simp
theorem spoilt_found (R : List HdIn) (k : Nat) (i : Id32) (hk : k < R.length) (h0 : ∀ x ∈ R,hdE x.h = 0) :
    fnd2B (fndN (((idsH R).set k i).zip R) R.length) k (fndN (((idsH R).set k i).zip R) R.length).length = decide (i ≠ hdI R[k].h):=by
  rw [Bool.eq_iff_iff,fnd2B_all,fnd2_at,decide_eq_true_iff];have hz : (((idsH R).set k i).zip R)[k]? = some (i,R[k]):=by
    rw [List.getElem?_eq_getElem (by simpa using hk),List.getElem_zip];simp
  constructor
  · rintro ⟨q,_,hq,hn⟩ e;rw [hz] at hq;injection hq with hq;subst hq
    exact hn ⟨h0 _ (List.getElem_mem hk),e.symm⟩
  · intro hne;exact ⟨_,hk,hz,fun h=>hne h.2.symm⟩
theorem turned_found (R : List HdIn) (I : List Id32) (hI : I.length = R.length) (k : Nat) (hk : k < R.length) (he : hdE R[k].h ≠ 0) : 0 < (fndN (I.zip R) R.length).length:=by
  obtain ⟨f,hf,_⟩:=(fnd2_at (I.zip R) R.length k).2 ⟨(I[k]'(by omega),R[k]),hk,(by rw [List.getElem?_eq_getElem (by simp;omega),List.getElem_zip]),fun h=>he h.1⟩;exact List.length_pos_of_mem hf
end
section
open Go.RowKit
theorem lkH_at : ∀ (L : List (Id32 × HdIn)) (p : Id32) (j : Nat) (hj : j < L.length),(L[j]).1 = p → p ∉ (L.take j).map (·.1) → lkH L p = some (L[j]).2
  | q :: L,p,0,hj,h,_=>by rw [lkH,if_pos (by simpa using h)];rfl
  | q :: L,p,j + 1,hj,h,hn=>by
    have hq : q.1 ≠ p:=fun e=>hn (by simp [← e]);rw [lkH,if_neg hq];have:=lkH_at L p j (by simpa using hj) (by simpa using h) (fun hm=>hn (by rw [List.take_succ_cons,List.map_cons];exact List.mem_cons_of_mem _ hm));rw [this];simp
def FndAt (I : List Id32) (p : Id32) (v : Int) : Prop:=(p ∉ I ∧ v = -1) ∨ ∃ j,∃ hj : j < I.length,v = (j : Int) ∧ I[j] = p ∧ p ∉ I.take j
set_option maxRecDepth 100000 in
set_option maxHeartbeats 2000000 in
theorem rfind (w : World) (A : Option Addr) (n cap : Nat) (I : List Id32) (p : Id32) (h : TagsIn w A n I) (hn : n ≤ 1000000) :
    Calls Tryz.prog 18 #[.slice A n cap,.agg (idC p)] w fun e w'=>(∃ v,e = .returned (.int .i64 v) ∧ FndAt I p v) ∧ Below w.heap.size w w':=by
  have hlen : I.length = n:=by simpa using h.1
  have hB : Below w.heap.size w (w.alloc (.cells (idC p) 24)):=(Below.refl _ _).alloc (Nat.le_refl _) _;have hd0 : rowAt (w.alloc (.cells (idC p) 24)) w.heap.size 0 32 = some (idC p):=by simp [go_sem]
  have Hlen:=Lib.hid hlen;clear hlen;go_enter Tryz.func18,Tryz.ntmps18
  go_upto_region 2 with fail
  generalize w.alloc (.cells (idC p) 24) = W at *;go_loopw [5] (fun i wr=>∃ k : Nat,k ≤ n ∧ i = .int .i64 k ∧ Hid (p ∉ I.take k) ∧ Below W.heap.size W wr) (fun i _=>n - (intOf i).toNat)
  case atStart=>exact ⟨0,Nat.zero_le _,rfl,(show p ∉ I.take 0 by simp),Below.refl _ _⟩
  case round =>
    obtain ⟨k,hk,rfl,hno,hb⟩:=hrel;by_cases hlt : k < n
    · obtain ⟨q,o,rfl,hr⟩:=TagsIn.get (SlR.below (SlR.below h hB) hb) hlt (by rw [Hlen.out];exact hlt);have hdr : rowAt wr w.heap.size 0 32 = some (idC p):=(rowAt_of_block (hb.block _ (rowAt_lt hd0)) _ _).trans hd0;have htk : I.take (k + 1) = I.take k ++ [I[k]'(by rw [Hlen.out];exact hlt)]:=by rw [List.take_add_one,List.getElem?_eq_getElem (by rw [Hlen.out];exact hlt)];rfl
      obtain ⟨y,hy⟩ : ∃ y,I[k]'(by rw [Hlen.out];exact hlt) = y:=⟨_,rfl⟩
      have hyE : ∃ h : k < I.length,I[k]'h = y:=⟨by rw [Hlen.out];exact hlt,hy⟩
      have Hy:=Lib.hid hyE;clear hyE;rw [hy] at hr htk;have Htk:=Lib.hid htk;clear hy htk;obtain ⟨bb,hbb⟩ : ∃ bb,(y == p) = bb:=⟨_,rfl⟩
      go_upto_region 4 with fail
      refine wp_region_lex (Bel wr) false (by kernel_rfl) (by kernel_rfl) (by kernel_rfl) (bel_drew wr) ?_;have hne:=bel_some wr;have hS:=bel_drew wr;have b1:=sub_row hr;have b2:=sub_row hdr;repeat (refine wpLx_loose ?_ ?_;(focus (simp only [chainOp];done));intro K hK;go_simp;refine hK _ ?_;clear hK K)
      refine wpLx_nil ?_;intro hS;have Hbb:=Lib.hid hbb;clear hne hS b1 b2 hr hdr hbb;cases bb with
      | true =>
        have e : y = p:=by simpa using Hbb.out
        have Hf:=Lib.hid (show FndAt I p k from .inr ⟨k,Hy.out.choose,rfl,by rw [Hy.out.choose_spec,e],hno.out⟩);clear e;(go_wp2_with fail);go_ret;exact ⟨⟨_,rfl,Hf.out⟩,hB.trans (hb.drew.mono hB.size)⟩
      | false =>
        have e : ¬ y = p:=by simpa using Hbb.out
        have hno' : Hid (p ∉ I.take (k + 1)):=by
          show _;rw [Htk.out,List.mem_append,List.mem_singleton];rintro (h1 | h1)
          · exact hno.out h1
          · exact e h1.symm
        clear e;(go_wp2_with fail);go_roundw
        case rel=>exact ⟨k + 1,by omega,by go_num,hno',hb.drew⟩
        case measure=>simp [intOf];omega
    · have hke : I.take k = I:=List.take_of_length_le (by rw [Hlen.out];omega);have Hf:=Lib.hid (show FndAt I p (-1) from .inl ⟨by have:=hno.out;rwa [hke] at this,rfl⟩);clear hke;(go_wp2_with fail);go_ret;exact ⟨⟨_,rfl,Hf.out⟩,hB.trans (hb.mono hB.size)⟩
end
section
open Go.RowKit
structure RvAt (V w : World) (gx gd : Nat) (x : HdIn) (D : Id32) (A : Option Addr) (cap : Nat) (F : List Fnd) : Prop where
  own : OwnRf V w.heap.size A cap F
  bel : Below w.heap.size w V
  box : rowAt V gx 0 38 = some (hdR x)
  did : rowAt V gd 0 32 = some (idC D)
  off : ∀ y ∈ blk A,y ≠ gx ∧ y ≠ gd
theorem RvAt.below {V V' w : World} {gx gd : Nat} {x : HdIn} {D : Id32} {A : Option Addr} {cap : Nat} {F : List Fnd} (r : RvAt V w gx gd x D A cap F) (h : Below V.heap.size V V') : RvAt V' w gx gd x D A cap F :=
  ⟨r.own.below h,bel2 r.bel h,(rowAt_of_block (h.block gx (rowAt_lt r.box)) _ _).trans r.box,(rowAt_of_block (h.block gd (rowAt_lt r.did)) _ _).trans r.did,r.off⟩
theorem RvAt.app {V V2 w : World} {gx gd : Nat} {x : HdIn} {D : Id32} {A A2 : Option Addr} {cap cap2 : Nat} {F : List Fnd} {f : Fnd} (r : RvAt V w gx gd x D A cap F)
    (ho : Own V2 w.heap.size 64 2 A2 (F.length + 1) cap2 (F.map fndC ++ [fndC f])) (hk : Keep (blk A) V V2) (hs : ∀ y ∈ blk A2,y ∈ blk A ∨ V.heap.size ≤ y) : RvAt V2 w gx gd x D A2 cap2 (F ++ [f]):=by
  have h1 : gx ∉ blk A:=fun h=>(r.off gx h).1 rfl;have h2 : gd ∉ blk A:=fun h=>(r.off gd h).2 rfl;have l1:=rowAt_lt r.box;have l2:=rowAt_lt r.did;refine ⟨?_,r.bel.trans (hk.below (B:=w.heap.size) r.bel.size fun y hy=>(r.own.at_base hy).1),(hk.row l1 h1 _ _).trans r.box,(hk.row l2 h2 _ _).trans r.did,fun y hy=>?_⟩
  · show Own _ _ _ _ _ _ _ _;rw [List.map_append,List.length_append];exact ho
  · rcases hs y hy with h | h
    · exact r.off y h
    · omega
theorem RvAt.cell1 {V w : World} {gx gd : Nat} {x : HdIn} {D : Id32} {A : Option Addr} {cap : Nat} {F : List Fnd} (r : RvAt V w gx gd x D A cap F) : V.cell? ⟨gx,1,none⟩ = some (.int .i64 x.h.ht):=by
  have:=rowAt_cell r.box (j:=1) (by omega);simpa only [hdC_g1,Nat.zero_add,hdO] using this
@[go_sem ↓] theorem slIdAu_rw (x : Value) (lo hi mx : Option Value) : Instr.sliceAt 26 x lo hi mx = slS 26 x lo hi mx:=rfl
set_option maxRecDepth 100000 in
set_option maxHeartbeats 8000000 in
theorem rau_headers (w : World) (A1 A2 : Option Addr) (c1 c2 : Nat) (I : List Id32) (R : List HdIn) (hI : TagsIn w A1 R.length I) (hc1 : R.length ≤ c1) (hR : HsIn w A2 R.length R) (hn : R.length ≤ 100000) (hf : ∀ x ∈ R,HdFit w x) :
    Calls Tryz.prog 8 #[.slice A1 R.length c1,.slice A2 R.length c2] w fun e w'=>∃ A cap,e = .returned (.slice A (fndN (I.zip R) R.length).length cap) ∧ OwnRf w' w.heap.size A cap (fndN (I.zip R) R.length) ∧ Below w.heap.size w w':=by
  have hlen : I.length = R.length:=by simpa using hI.1
  obtain ⟨L,hL⟩ : ∃ L,I.zip R = L:=⟨_,rfl⟩
  have hLl : L.length = R.length:=by rw [← hL];simp;omega
  have hLg : ∀ j (hj : j < R.length) (h1 : j < I.length) (h2 : j < L.length),L[j]'h2 = (I[j]'h1,R[j]'hj):=fun j hj h1 h2=>(by subst hL;exact List.getElem_zip);have hLI : L.map (·.1) = I:=by rw [← hL];exact List.map_fst_zip (by omega)
  rw [hL];have hlo:=fun w0=>run_slS_lo (P:=Tryz.prog) einfoId w0 A1 R.length c1 R.length hc1;have hlk : ∀ (p : Id32) (v : Int),FndAt I p v → (lkH L p = none ∧ v = -1) ∨ ∃ j,∃ hj : j < R.length,v = (j : Int) ∧ lkH L p = some R[j]:=fun p v h=>by
    rcases h with ⟨h1,h2⟩ | ⟨j,hj,h1,h2,h3⟩
    · exact .inl ⟨lkH_none.2 (by rw [hLI];exact h1),h2⟩
    · refine .inr ⟨j,by omega,h1,?_⟩;have:=lkH_at L p j (by omega) (by rw [hLg j (by omega) hj (by omega)];exact h2) (by rw [List.map_take,hLI];exact h3);rw [this,hLg j (by omega) hj (by omega)]
  have Hlk:=Lib.hid hlk;clear hL hLI hlk;go_enter Tryz.func8,Tryz.ntmps8
  go_upto_region 4 with fail
  go_loopw [5,7,8,9,10,11,12,13,14] (fun out iv _ _ _ _ _ _ _ w1=>∃ (k : Nat) (A : Option Addr) (cap : Nat),k ≤ R.length ∧ iv = .int .i64 k ∧ out = .slice A (fndN L k).length cap ∧ OwnRf w1 w.heap.size A cap (fndN L k) ∧ Below w.heap.size w w1) (fun _ iv _ _ _ _ _ _ _ _=>R.length - (intOf iv).toNat)
  case atStart=>exact ⟨0,none,0,Nat.zero_le _,rfl,rfl,Own.nil _ _ _ _,Below.refl _ _⟩
  case round =>
    obtain ⟨k,A,cap,hk,rfl,rfl,hown,hb⟩:=hrel;by_cases hlt : k < R.length
    · have hst:=fndN_step L (i:=k) (by omega);rw [hLg k hlt (by omega) (by omega)] at hst;obtain ⟨q1,o1,hq1,hr1⟩:=TagsIn.get hI hlt (by omega);obtain ⟨q2,o2,hq2,hr2⟩:=HsIn.get hR hlt hlt;have hr2':=(rowAt_of_block (hb.block q2 (rowAt_lt hr2)) _ _).trans hr2;obtain ⟨i,hi⟩ : ∃ i,I[k]'(by omega) = i:=⟨_,rfl⟩
      obtain ⟨x,hx⟩ : ∃ x,R[k]'hlt = x:=⟨_,rfl⟩
      have hfx : HdFit w x:=hf x (by rw [← hx];exact List.getElem_mem hlt);rw [hi] at hst hr1;rw [hx] at hst hr2 hr2';have Hst:=Lib.hid hst;obtain ⟨F,hF⟩ : ∃ F,fndN L k = F:=⟨_,rfl⟩
      have hFl : F.length ≤ 300000:=by rw [← hF];have:=fndN_len L k;omega
      rw [hF] at hown Hst ⊢;have hba : Below wr.heap.size wr (wr.alloc (.cells (hdR x) 30)):=(Below.refl _ _).alloc (Nat.le_refl _) _;have hown1:=hown.below hba;have hb1 : Below w.heap.size w (wr.alloc (.cells (hdR x) 30)):=hb.alloc hb.size _;have hbox : rowAt (wr.alloc (.cells (hdR x) 30)) wr.heap.size 0 38 = some (hdR x):=by simp [go_sem]
      have ho:=hdO_one x;have hab : ∀ y ∈ blk A,y < wr.heap.size:=fun y hy=>(hown.at_base hy).2;subst hq1;subst hq2;clear hst hi hx hF hown;go_upto_region 10 with fail
      obtain ⟨W,hW⟩ : ∃ W,W = wr.alloc (.cells (hdR x) 30):=⟨_,rfl⟩
      obtain ⟨gx,hgx⟩ : ∃ gx,wr.heap.size = gx:=⟨_,rfl⟩
      rw [← hW] at hown1 hb1 hbox ⊢;rw [hgx] at hbox hab ⊢;have hgW : gx < W.heap.size:=rowAt_lt hbox;have hgw : w.heap.size ≤ gx:=by rw [← hgx];exact hb.size
      obtain ⟨P,hP⟩ : ∃ P,x.h.ps = P:=⟨_,rfl⟩
      have hT:=hfx.ids;have hPn:=hfx.len;rw [hP] at hT hPn;have x0 : W.cell? ⟨gx,0,none⟩ = some (.slice x.A P.length x.c):=by
        have:=rowAt_cell hbox (j:=0) (by omega);rw [← hP];simpa only [hdC_g0,Nat.zero_add,hdO] using this
      clear hW hgx hba hb hr2';go_loopw [9,10,11,12] (fun mv gv pv _ wi=>∃ j : Nat,j ≤ P.length ∧ pv = .int .i64 j ∧ gv = .bool (goneH L (P.take j)) ∧ mv = .int .i64 (mostH L (P.take j)) ∧ Below W.heap.size W wi) (fun _ _ pv _ _=>P.length - (intOf pv).toNat)
      case atStart=>exact ⟨0,Nat.zero_le _,rfl,rfl,rfl,Below.refl _ _⟩
      case round =>
        obtain ⟨j,hj,rfl,rfl,rfl,hbi⟩:=hrel;have x0':=(hbi.cell (p:=⟨gx,0,none⟩) hgW).trans x0;by_cases hlt2 : j < P.length
        · have hbw:=bel2 hb1 hbi;obtain ⟨q3,o3,hq3,hr3⟩:=TagsIn.get (SlR.below hT hbw) hlt2 hlt2;rw [hq3] at x0';have hgs:=goneH_step L P hlt2;have hms:=mostH_step L P hlt2;obtain ⟨p,hp⟩ : ∃ p,P[j]'hlt2 = p:=⟨_,rfl⟩
          rw [hp] at hr3 hgs hms;obtain ⟨G,hG⟩ : ∃ G,goneH L (P.take j) = G:=⟨_,rfl⟩
          obtain ⟨M,hM⟩ : ∃ M,mostH L (P.take j) = M:=⟨_,rfl⟩
          rw [hG] at hgs ⊢;rw [hM] at hms ⊢;have cc:=rfind wr.drew (some ⟨q1,o1,none⟩) R.length c1 I p (SlR.below hI hbw.drew) (by omega);clear hp hG hM;go_upto_region 12 with fail
          refine wp_region_lex (Bel wr) false (by kernel_rfl) (by kernel_rfl) (by kernel_rfl) (bel_drew wr) ?_;have hne:=bel_some wr;have hS:=bel_drew wr;have b1:=sub_row hr3;have b2:=sub_cell x0';repeat (refine wpLx_loose ?_ ?_;(focus (simp only [chainOp];done));intro K hK;go_simp;refine hK _ ?_;clear hK K)
          refine wpLx_chain ?_ ?_ ?_;(focus (exact hS));(focus (simp only [chainOp];done));intro K hK;go_simp;refine cc.mono ?_;rintro e w' ⟨⟨v,rfl,hfv⟩,hb⟩;replace hS:=bel_next hS hb;refine ⟨_,rfl,hS,hK _ _ ?_⟩;clear hK K hb;repeat (refine wpLx_loose ?_ ?_;(focus (simp only [chainOp];done));intro K hK;go_simp;refine hK _ ?_;clear hK K)
          refine wpLx_nil ?_;intro hS;have hS' : Below wr.heap.size wr w':=hS;have hbz:=bel2 hbi hS';have hbw2:=bel2 hbw hS';clear hne hS b1 b2 cc hr3 hS' hbw;rcases Hlk.out p v hfv with ⟨h1,rfl⟩ | ⟨j2,hj2,rfl,h1⟩
          · rw [h1] at hgs hms;have Hgs:=Lib.hid (hgs.trans (Bool.or_true _));have Hms:=Lib.hid hms;clear hgs hms h1 hfv;(go_wp2_with fail);go_roundw
            case rel=>exact ⟨j + 1,by omega,by go_num,by rw [Hgs.out],by rw [Hms.out],hbz⟩
            case measure=>simp [intOf];omega
          · obtain ⟨q4,o4,hq4,hr4⟩:=HsIn.get (SlR.below hR hbw2) hj2 hj2;injection hq4 with hq4
            injection hq4 with e1 e2
            subst e1;subst e2;obtain ⟨y,hy⟩ : ∃ y,R[j2]'hj2 = y:=⟨_,rfl⟩
            rw [hy] at hr4 h1;have hc4 : w'.cell? ⟨q2,o2 + j2 * 38 + 1,none⟩ = some (.int .i64 y.h.ht):=by
              have:=rowAt_cell hr4 (j:=1) (by omega);simpa only [hdC_g1,Nat.zero_add,hdO] using this
            rw [h1] at hgs hms;have he : (if M < y.h.ht then y.h.ht else M) = max M y.h.ht:=by split <;> omega
            have Hgs:=Lib.hid (hgs.trans (Bool.or_false _));have Hms:=Lib.hid (hms.trans he.symm);clear hgs hms h1 hfv he hr4 hy;(go_wp2_with fail);go_roundw
            case rel=>exact ⟨j + 1,by omega,by go_num,by rw [Hgs.out],by rw [Hms.out],hbz⟩
            case measure=>simp [intOf];omega
        · have hjP : P.take j = P:=List.take_of_length_le (by omega);rw [hjP];have hbw:=bel2 hb1 hbi;have cc:=fun w0 hb0=>rh_ident w0 x.h x.A x.c (SlR.below hfx.ids (hb0 : Below w.heap.size w w0)) (Nat.le_trans hfx.len (by decide)) hfx.tps;have hB0 : audB L (i,x) 0 = !goneH L P:=by rw [← hP];rfl
          have hB1 : audB L (i,x) 1 = decide (hdE x.h = 0 ∧ hdI x.h = i):=rfl;have hB2 : audB L (i,x) 2 = (x.h.ht - 1 == mostH L P):=by rw [← hP];rfl
          obtain ⟨G,hG⟩ : ∃ G,goneH L P = G:=⟨_,rfl⟩
          obtain ⟨M,hM⟩ : ∃ M,mostH L P = M:=⟨_,rfl⟩
          obtain ⟨E,hE⟩ : ∃ E,hdE x.h = E:=⟨_,rfl⟩
          obtain ⟨D,hD⟩ : ∃ D,hdI x.h = D:=⟨_,rfl⟩
          rw [hG] at hB0 ⊢;rw [hM] at hB2 ⊢;rw [hE,hD] at hB1;simp only [hE,hD] at cc;clear hG hM hE hD hjP x0;have hbox2:=(rowAt_of_block (hbi.block gx hgW) _ _).trans hbox;have cr:=cc wr hbw;go_upto_region 17 with fail
          refine cr.mono ?_;rintro e w5 ⟨rfl,hb5⟩;go_upto_region 17 with fail
          obtain ⟨V,hV⟩ : ∃ V,V = w5.alloc (.cells (idC D) 24):=⟨_,rfl⟩
          have hbx : Below w5.heap.size w5 (w5.alloc (.cells (idC D) 24)):=(Below.refl _ _).alloc (Nat.le_refl _) _;have hz5:=hb5.size;have hzi:=hbi.size;have rv : RvAt V w gx w5.heap.size x D A cap F:=by
            rw [hV];exact ⟨((hown1.below hbi).below hb5).below hbx,bel2 (bel2 hbw hb5) hbx,(rowAt_of_block (hbx.block gx (by omega)) _ _).trans ((rowAt_of_block (hb5.block gx (by omega)) _ _).trans hbox2),by simp [go_sem],fun y hy=>by have:=hab y hy;omega⟩
          rw [← hV];obtain ⟨gd,hgd⟩ : ∃ gd,w5.heap.size = gd:=⟨_,rfl⟩
          rw [hgd] at rv ⊢;have hst3 : F ++ fndK L k (i,x) 3 = F ++ (if audB L (i,x) 0 = true then [] else [⟨1,k⟩]) ++ (if audB L (i,x) 1 = true then [] else [⟨2,k⟩]) ++ (if audB L (i,x) 2 = true then [] else [⟨3,k⟩]):=by
            simp only [fndK,List.nil_append,List.append_assoc];rfl
          rw [hB0,hB1,hB2] at hst3;have hst4:=Hst.out.trans hst3;have hbt:=hfx.ht;have hw:=IntWalk.i64_in (x.h.ht - 1) (by omega);obtain ⟨ht,hht⟩ : ∃ ht,x.h.ht = ht:=⟨_,rfl⟩
          rw [hht] at hst4 hw hbt;obtain ⟨T,hT3⟩ : ∃ T,(ht - 1 == M) = T:=⟨_,rfl⟩
          rw [hT3] at hst4;clear Hst hst3 hV hbx hz5 hzi hgd hb5 hbw hbi hbox2 x0' cr cc hB0 hB1 hB2 hown1 hb1 hab hbox hT;have Hst:=Lib.hid hst4;clear hst4;cases G with
          | true =>
            have hs:=Hst.out;rw [if_neg (show ¬ ((!true) = true) by decide)] at hs;replace Hst:=Lib.hid hs;clear hs;have hbx : Below V.heap.size V (V.alloc (.cells (fndC ⟨1,k⟩) 64)):=(Below.refl _ _).alloc (Nat.le_refl _) _;have rvx:=rv.below hbx;have hown7:=rvx.own;have hbs7:=rvx.bel.size;have hrow7 : rowAt (V.alloc (.cells (fndC ⟨1,k⟩) 64)) V.heap.size 0 2 = some (fndC ⟨1,k⟩):=by simp [go_sem]
            have x1:=rv.cell1;rw [hht] at x1;go_upto_region 19 with (at_builtin;refine L_append einfoRFnd rfl hown7 rfl hrow7 (fndC_one _) (by omega) (by omega) (by omega) ?_;intro A2 cap2 V2 hownA hkA hsubA)
            have rvA:=rvx.app hownA hkA hsubA;obtain ⟨F1,hF1⟩ : ∃ Z : List Fnd,F ++ [(⟨1,(k : Int)⟩ : Fnd)] = Z:=⟨_,rfl⟩
            have hl1 : F.length + 1 = F1.length:=by rw [← hF1];simp
            rw [hF1] at rvA;rw [hl1];have hs:=Hst.out;rw [hF1] at hs;replace Hst:=Lib.hid hs;clear hs;clear hbx rvx hown7 hbs7 hrow7 x1 hownA hkA hsubA hF1;have hr1':=(rowAt_of_block (rvA.bel.block q1 (rowAt_lt hr1)) _ _).trans hr1;have hd1:=rvA.did;have key:=rvA.below ((Below.refl V2.heap.size V2).drew);by_cases h0 : E = 0
            · subst h0;by_cases h1 : D = i
              · skip;have hs:=Hst.out;rw [decide_eq_true (And.intro rfl h1),if_pos (show true = true from rfl),List.append_nil] at hs;replace Hst:=Lib.hid hs;clear hs;have h1' : (D == i) = true:=by simp [h1]
                clear h1;refine wp_region_lex (Bel V2) false (by kernel_rfl) (by kernel_rfl) (by kernel_rfl) (bel_drew V2) ?_;have hne:=bel_some V2;have hS:=bel_drew V2;have b1:=sub_row hr1';have b2:=sub_row hd1;repeat (refine wpLx_loose ?_ ?_;(focus (simp only [chainOp];done));intro K hK;go_simp;refine hK _ ?_;clear hK K)
                refine wpLx_nil ?_;intro hS;clear hne hS b1 b2;obtain ⟨V3,hV3⟩ : ∃ V3,V2.drew = V3:=⟨_,rfl⟩
                rw [hV3] at key ⊢;have rv3:=key;clear key hV3;clear hr1' hd1 h1';go_upto_region 21 with fail
                cases T with
                | true =>
                  have hs:=Hst.out;rw [if_pos (show true = true from rfl),List.append_nil] at hs;replace Hst:=Lib.hid hs;clear hs;have hT5 : (ht - 1 != M) = false:=by simp [bne,hT3]
                  have x1:=rv3.cell1;rw [hht] at x1;(go_wp2_with fail);go_roundw
                  case rel=>exact ⟨k + 1,_,_,by omega,by go_num,by rw [Hst.out],by rw [Hst.out];exact rv3.own,rv3.bel⟩
                  case measure=>simp [intOf];omega
                | false =>
                  have hs:=Hst.out;rw [if_neg (show ¬ (false = true) by decide)] at hs;replace Hst:=Lib.hid hs;clear hs;have hT5 : (ht - 1 != M) = true:=by simp [bne,hT3]
                  have hbx : Below V3.heap.size V3 (V3.alloc (.cells (fndC ⟨3,k⟩) 64)):=(Below.refl _ _).alloc (Nat.le_refl _) _;have rvx:=rv3.below hbx;have hown7:=rvx.own;have hbs7:=rvx.bel.size;have hrow7 : rowAt (V3.alloc (.cells (fndC ⟨3,k⟩) 64)) V3.heap.size 0 2 = some (fndC ⟨3,k⟩):=by simp [go_sem]
                  have x1:=rv3.cell1;rw [hht] at x1;go_wp2_with (at_builtin;refine L_append einfoRFnd rfl hown7 rfl hrow7 (fndC_one _) (by omega) (by omega) (by omega) ?_;intro A2 cap2 V9 hownA hkA hsubA)
                  have rv9:=rvx.app hownA hkA hsubA;obtain ⟨F9,hF1⟩ : ∃ Z : List Fnd,F1 ++ [(⟨3,(k : Int)⟩ : Fnd)] = Z:=⟨_,rfl⟩
                  have hl3 : F1.length + 1 = F9.length:=by rw [← hF1];simp
                  rw [hF1] at rv9;rw [hl3];have hs:=Hst.out;rw [hF1] at hs;replace Hst:=Lib.hid hs;clear hs;clear hbx rvx hown7 hbs7 hrow7 x1 hownA hkA hsubA hF1;go_roundw
                  case rel=>exact ⟨k + 1,_,_,by omega,by go_num,by rw [Hst.out],by rw [Hst.out];exact rv9.own,rv9.bel⟩
                  case measure=>simp [intOf];omega
              · skip;have hs:=Hst.out;rw [decide_eq_false (fun h=>h1 h.2),if_neg (show ¬ (false = true) by decide)] at hs;replace Hst:=Lib.hid hs;clear hs;have h1' : (D == i) = false:=by simp [h1]
                clear h1;refine wp_region_lex (Bel V2) false (by kernel_rfl) (by kernel_rfl) (by kernel_rfl) (bel_drew V2) ?_;have hne:=bel_some V2;have hS:=bel_drew V2;have b1:=sub_row hr1';have b2:=sub_row hd1;repeat (refine wpLx_loose ?_ ?_;(focus (simp only [chainOp];done));intro K hK;go_simp;refine hK _ ?_;clear hK K)
                refine wpLx_nil ?_;intro hS;clear hne hS b1 b2;obtain ⟨V3,hV3⟩ : ∃ V3,V2.drew = V3:=⟨_,rfl⟩
                rw [hV3] at key ⊢;have rv3:=key;clear key hV3;clear hr1' hd1 h1';have hbx : Below V3.heap.size V3 (V3.alloc (.cells (fndC ⟨2,k⟩) 64)):=(Below.refl _ _).alloc (Nat.le_refl _) _;have rvx:=rv3.below hbx;have hown7:=rvx.own;have hbs7:=rvx.bel.size;have hrow7 : rowAt (V3.alloc (.cells (fndC ⟨2,k⟩) 64)) V3.heap.size 0 2 = some (fndC ⟨2,k⟩):=by simp [go_sem]
                have x1:=rv3.cell1;rw [hht] at x1;go_upto_region 21 with (at_builtin;refine L_append einfoRFnd rfl hown7 rfl hrow7 (fndC_one _) (by omega) (by omega) (by omega) ?_;intro A2 cap2 V4 hownA hkA hsubA)
                have rv4:=rvx.app hownA hkA hsubA;obtain ⟨F4,hF1⟩ : ∃ Z : List Fnd,F1 ++ [(⟨2,(k : Int)⟩ : Fnd)] = Z:=⟨_,rfl⟩
                have hl2 : F1.length + 1 = F4.length:=by rw [← hF1];simp
                rw [hF1] at rv4;rw [hl2];have hs:=Hst.out;rw [hF1] at hs;replace Hst:=Lib.hid hs;clear hs;clear hbx rvx hown7 hbs7 hrow7 x1 hownA hkA hsubA hF1;cases T with
                | true =>
                  have hs:=Hst.out;rw [if_pos (show true = true from rfl),List.append_nil] at hs;replace Hst:=Lib.hid hs;clear hs;have hT5 : (ht - 1 != M) = false:=by simp [bne,hT3]
                  have x1:=rv4.cell1;rw [hht] at x1;(go_wp2_with fail);go_roundw
                  case rel=>exact ⟨k + 1,_,_,by omega,by go_num,by rw [Hst.out],by rw [Hst.out];exact rv4.own,rv4.bel⟩
                  case measure=>simp [intOf];omega
                | false =>
                  have hs:=Hst.out;rw [if_neg (show ¬ (false = true) by decide)] at hs;replace Hst:=Lib.hid hs;clear hs;have hT5 : (ht - 1 != M) = true:=by simp [bne,hT3]
                  have hbx : Below V4.heap.size V4 (V4.alloc (.cells (fndC ⟨3,k⟩) 64)):=(Below.refl _ _).alloc (Nat.le_refl _) _;have rvx:=rv4.below hbx;have hown7:=rvx.own;have hbs7:=rvx.bel.size;have hrow7 : rowAt (V4.alloc (.cells (fndC ⟨3,k⟩) 64)) V4.heap.size 0 2 = some (fndC ⟨3,k⟩):=by simp [go_sem]
                  have x1:=rv4.cell1;rw [hht] at x1;go_wp2_with (at_builtin;refine L_append einfoRFnd rfl hown7 rfl hrow7 (fndC_one _) (by omega) (by omega) (by omega) ?_;intro A2 cap2 V9 hownA hkA hsubA)
                  have rv9:=rvx.app hownA hkA hsubA;obtain ⟨F9,hF1⟩ : ∃ Z : List Fnd,F4 ++ [(⟨3,(k : Int)⟩ : Fnd)] = Z:=⟨_,rfl⟩
                  have hl3 : F4.length + 1 = F9.length:=by rw [← hF1];simp
                  rw [hF1] at rv9;rw [hl3];have hs:=Hst.out;rw [hF1] at hs;replace Hst:=Lib.hid hs;clear hs;clear hbx rvx hown7 hbs7 hrow7 x1 hownA hkA hsubA hF1;go_roundw
                  case rel=>exact ⟨k + 1,_,_,by omega,by go_num,by rw [Hst.out],by rw [Hst.out];exact rv9.own,rv9.bel⟩
                  case measure=>simp [intOf];omega
            · skip;have hs:=Hst.out;rw [decide_eq_false (fun h=>h0 h.1),if_neg (show ¬ (false = true) by decide)] at hs;replace Hst:=Lib.hid hs;clear hs;have h0' : (E != 0) = true:=by simpa using h0
              refine wp_region_lex (Bel V2) false (by kernel_rfl) (by kernel_rfl) (by kernel_rfl) (bel_drew V2) ?_;have hne:=bel_some V2;have hS:=bel_drew V2;have b1:=sub_row hr1';have b2:=sub_row hd1;repeat (refine wpLx_loose ?_ ?_;(focus (simp only [chainOp];done));intro K hK;go_simp;refine hK _ ?_;clear hK K)
              refine wpLx_nil ?_;intro hS;clear hne hS b1 b2;obtain ⟨V3,hV3⟩ : ∃ V3,V2.drew = V3:=⟨_,rfl⟩
              rw [hV3] at key ⊢;have rv3:=key;clear key hV3;clear hr1' hd1 h0';have hbx : Below V3.heap.size V3 (V3.alloc (.cells (fndC ⟨2,k⟩) 64)):=(Below.refl _ _).alloc (Nat.le_refl _) _;have rvx:=rv3.below hbx;have hown7:=rvx.own;have hbs7:=rvx.bel.size;have hrow7 : rowAt (V3.alloc (.cells (fndC ⟨2,k⟩) 64)) V3.heap.size 0 2 = some (fndC ⟨2,k⟩):=by simp [go_sem]
              have x1:=rv3.cell1;rw [hht] at x1;go_upto_region 21 with (at_builtin;refine L_append einfoRFnd rfl hown7 rfl hrow7 (fndC_one _) (by omega) (by omega) (by omega) ?_;intro A2 cap2 V4 hownA hkA hsubA)
              have rv4:=rvx.app hownA hkA hsubA;obtain ⟨F4,hF1⟩ : ∃ Z : List Fnd,F1 ++ [(⟨2,(k : Int)⟩ : Fnd)] = Z:=⟨_,rfl⟩
              have hl2 : F1.length + 1 = F4.length:=by rw [← hF1];simp
              rw [hF1] at rv4;rw [hl2];have hs:=Hst.out;rw [hF1] at hs;replace Hst:=Lib.hid hs;clear hs;clear hbx rvx hown7 hbs7 hrow7 x1 hownA hkA hsubA hF1;cases T with
              | true =>
                have hs:=Hst.out;rw [if_pos (show true = true from rfl),List.append_nil] at hs;replace Hst:=Lib.hid hs;clear hs;have hT5 : (ht - 1 != M) = false:=by simp [bne,hT3]
                have x1:=rv4.cell1;rw [hht] at x1;(go_wp2_with fail);go_roundw
                case rel=>exact ⟨k + 1,_,_,by omega,by go_num,by rw [Hst.out],by rw [Hst.out];exact rv4.own,rv4.bel⟩
                case measure=>simp [intOf];omega
              | false =>
                have hs:=Hst.out;rw [if_neg (show ¬ (false = true) by decide)] at hs;replace Hst:=Lib.hid hs;clear hs;have hT5 : (ht - 1 != M) = true:=by simp [bne,hT3]
                have hbx : Below V4.heap.size V4 (V4.alloc (.cells (fndC ⟨3,k⟩) 64)):=(Below.refl _ _).alloc (Nat.le_refl _) _;have rvx:=rv4.below hbx;have hown7:=rvx.own;have hbs7:=rvx.bel.size;have hrow7 : rowAt (V4.alloc (.cells (fndC ⟨3,k⟩) 64)) V4.heap.size 0 2 = some (fndC ⟨3,k⟩):=by simp [go_sem]
                have x1:=rv4.cell1;rw [hht] at x1;go_wp2_with (at_builtin;refine L_append einfoRFnd rfl hown7 rfl hrow7 (fndC_one _) (by omega) (by omega) (by omega) ?_;intro A2 cap2 V9 hownA hkA hsubA)
                have rv9:=rvx.app hownA hkA hsubA;obtain ⟨F9,hF1⟩ : ∃ Z : List Fnd,F4 ++ [(⟨3,(k : Int)⟩ : Fnd)] = Z:=⟨_,rfl⟩
                have hl3 : F4.length + 1 = F9.length:=by rw [← hF1];simp
                rw [hF1] at rv9;rw [hl3];have hs:=Hst.out;rw [hF1] at hs;replace Hst:=Lib.hid hs;clear hs;clear hbx rvx hown7 hbs7 hrow7 x1 hownA hkA hsubA hF1;go_roundw
                case rel=>exact ⟨k + 1,_,_,by omega,by go_num,by rw [Hst.out],by rw [Hst.out];exact rv9.own,rv9.bel⟩
                case measure=>simp [intOf];omega
          | false =>
            have hs:=Hst.out;rw [if_pos (show ((!false) = true) by rfl),List.append_nil] at hs;replace Hst:=Lib.hid hs;clear hs;go_upto_region 19 with fail
            have hr1':=(rowAt_of_block (rv.bel.block q1 (rowAt_lt hr1)) _ _).trans hr1;have hd1:=rv.did;have key:=rv.below ((Below.refl V.heap.size V).drew);by_cases h0 : E = 0
            · subst h0;by_cases h1 : D = i
              · skip;have hs:=Hst.out;rw [decide_eq_true (And.intro rfl h1),if_pos (show true = true from rfl),List.append_nil] at hs;replace Hst:=Lib.hid hs;clear hs;have h1' : (D == i) = true:=by simp [h1]
                clear h1;refine wp_region_lex (Bel V) false (by kernel_rfl) (by kernel_rfl) (by kernel_rfl) (bel_drew V) ?_;have hne:=bel_some V;have hS:=bel_drew V;have b1:=sub_row hr1';have b2:=sub_row hd1;repeat (refine wpLx_loose ?_ ?_;(focus (simp only [chainOp];done));intro K hK;go_simp;refine hK _ ?_;clear hK K)
                refine wpLx_nil ?_;intro hS;clear hne hS b1 b2;obtain ⟨V3,hV3⟩ : ∃ V3,V.drew = V3:=⟨_,rfl⟩
                rw [hV3] at key ⊢;have rv3:=key;clear key hV3;clear hr1' hd1 h1';go_upto_region 21 with fail
                cases T with
                | true =>
                  have hs:=Hst.out;rw [if_pos (show true = true from rfl),List.append_nil] at hs;replace Hst:=Lib.hid hs;clear hs;have hT5 : (ht - 1 != M) = false:=by simp [bne,hT3]
                  have x1:=rv3.cell1;rw [hht] at x1;(go_wp2_with fail);go_roundw
                  case rel=>exact ⟨k + 1,_,_,by omega,by go_num,by rw [Hst.out],by rw [Hst.out];exact rv3.own,rv3.bel⟩
                  case measure=>simp [intOf];omega
                | false =>
                  have hs:=Hst.out;rw [if_neg (show ¬ (false = true) by decide)] at hs;replace Hst:=Lib.hid hs;clear hs;have hT5 : (ht - 1 != M) = true:=by simp [bne,hT3]
                  have hbx : Below V3.heap.size V3 (V3.alloc (.cells (fndC ⟨3,k⟩) 64)):=(Below.refl _ _).alloc (Nat.le_refl _) _;have rvx:=rv3.below hbx;have hown7:=rvx.own;have hbs7:=rvx.bel.size;have hrow7 : rowAt (V3.alloc (.cells (fndC ⟨3,k⟩) 64)) V3.heap.size 0 2 = some (fndC ⟨3,k⟩):=by simp [go_sem]
                  have x1:=rv3.cell1;rw [hht] at x1;go_wp2_with (at_builtin;refine L_append einfoRFnd rfl hown7 rfl hrow7 (fndC_one _) (by omega) (by omega) (by omega) ?_;intro A2 cap2 V9 hownA hkA hsubA)
                  have rv9:=rvx.app hownA hkA hsubA;obtain ⟨F9,hF1⟩ : ∃ Z : List Fnd,F ++ [(⟨3,(k : Int)⟩ : Fnd)] = Z:=⟨_,rfl⟩
                  have hl3 : F.length + 1 = F9.length:=by rw [← hF1];simp
                  rw [hF1] at rv9;rw [hl3];have hs:=Hst.out;rw [hF1] at hs;replace Hst:=Lib.hid hs;clear hs;clear hbx rvx hown7 hbs7 hrow7 x1 hownA hkA hsubA hF1;go_roundw
                  case rel=>exact ⟨k + 1,_,_,by omega,by go_num,by rw [Hst.out],by rw [Hst.out];exact rv9.own,rv9.bel⟩
                  case measure=>simp [intOf];omega
              · skip;have hs:=Hst.out;rw [decide_eq_false (fun h=>h1 h.2),if_neg (show ¬ (false = true) by decide)] at hs;replace Hst:=Lib.hid hs;clear hs;have h1' : (D == i) = false:=by simp [h1]
                clear h1;refine wp_region_lex (Bel V) false (by kernel_rfl) (by kernel_rfl) (by kernel_rfl) (bel_drew V) ?_;have hne:=bel_some V;have hS:=bel_drew V;have b1:=sub_row hr1';have b2:=sub_row hd1;repeat (refine wpLx_loose ?_ ?_;(focus (simp only [chainOp];done));intro K hK;go_simp;refine hK _ ?_;clear hK K)
                refine wpLx_nil ?_;intro hS;clear hne hS b1 b2;obtain ⟨V3,hV3⟩ : ∃ V3,V.drew = V3:=⟨_,rfl⟩
                rw [hV3] at key ⊢;have rv3:=key;clear key hV3;clear hr1' hd1 h1';have hbx : Below V3.heap.size V3 (V3.alloc (.cells (fndC ⟨2,k⟩) 64)):=(Below.refl _ _).alloc (Nat.le_refl _) _;have rvx:=rv3.below hbx;have hown7:=rvx.own;have hbs7:=rvx.bel.size;have hrow7 : rowAt (V3.alloc (.cells (fndC ⟨2,k⟩) 64)) V3.heap.size 0 2 = some (fndC ⟨2,k⟩):=by simp [go_sem]
                have x1:=rv3.cell1;rw [hht] at x1;go_upto_region 21 with (at_builtin;refine L_append einfoRFnd rfl hown7 rfl hrow7 (fndC_one _) (by omega) (by omega) (by omega) ?_;intro A2 cap2 V4 hownA hkA hsubA)
                have rv4:=rvx.app hownA hkA hsubA;obtain ⟨F4,hF1⟩ : ∃ Z : List Fnd,F ++ [(⟨2,(k : Int)⟩ : Fnd)] = Z:=⟨_,rfl⟩
                have hl2 : F.length + 1 = F4.length:=by rw [← hF1];simp
                rw [hF1] at rv4;rw [hl2];have hs:=Hst.out;rw [hF1] at hs;replace Hst:=Lib.hid hs;clear hs;clear hbx rvx hown7 hbs7 hrow7 x1 hownA hkA hsubA hF1;cases T with
                | true =>
                  have hs:=Hst.out;rw [if_pos (show true = true from rfl),List.append_nil] at hs;replace Hst:=Lib.hid hs;clear hs;have hT5 : (ht - 1 != M) = false:=by simp [bne,hT3]
                  have x1:=rv4.cell1;rw [hht] at x1;(go_wp2_with fail);go_roundw
                  case rel=>exact ⟨k + 1,_,_,by omega,by go_num,by rw [Hst.out],by rw [Hst.out];exact rv4.own,rv4.bel⟩
                  case measure=>simp [intOf];omega
                | false =>
                  have hs:=Hst.out;rw [if_neg (show ¬ (false = true) by decide)] at hs;replace Hst:=Lib.hid hs;clear hs;have hT5 : (ht - 1 != M) = true:=by simp [bne,hT3]
                  have hbx : Below V4.heap.size V4 (V4.alloc (.cells (fndC ⟨3,k⟩) 64)):=(Below.refl _ _).alloc (Nat.le_refl _) _;have rvx:=rv4.below hbx;have hown7:=rvx.own;have hbs7:=rvx.bel.size;have hrow7 : rowAt (V4.alloc (.cells (fndC ⟨3,k⟩) 64)) V4.heap.size 0 2 = some (fndC ⟨3,k⟩):=by simp [go_sem]
                  have x1:=rv4.cell1;rw [hht] at x1;go_wp2_with (at_builtin;refine L_append einfoRFnd rfl hown7 rfl hrow7 (fndC_one _) (by omega) (by omega) (by omega) ?_;intro A2 cap2 V9 hownA hkA hsubA)
                  have rv9:=rvx.app hownA hkA hsubA;obtain ⟨F9,hF1⟩ : ∃ Z : List Fnd,F4 ++ [(⟨3,(k : Int)⟩ : Fnd)] = Z:=⟨_,rfl⟩
                  have hl3 : F4.length + 1 = F9.length:=by rw [← hF1];simp
                  rw [hF1] at rv9;rw [hl3];have hs:=Hst.out;rw [hF1] at hs;replace Hst:=Lib.hid hs;clear hs;clear hbx rvx hown7 hbs7 hrow7 x1 hownA hkA hsubA hF1;go_roundw
                  case rel=>exact ⟨k + 1,_,_,by omega,by go_num,by rw [Hst.out],by rw [Hst.out];exact rv9.own,rv9.bel⟩
                  case measure=>simp [intOf];omega
            · skip;have hs:=Hst.out;rw [decide_eq_false (fun h=>h0 h.1),if_neg (show ¬ (false = true) by decide)] at hs;replace Hst:=Lib.hid hs;clear hs;have h0' : (E != 0) = true:=by simpa using h0
              refine wp_region_lex (Bel V) false (by kernel_rfl) (by kernel_rfl) (by kernel_rfl) (bel_drew V) ?_;have hne:=bel_some V;have hS:=bel_drew V;have b1:=sub_row hr1';have b2:=sub_row hd1;repeat (refine wpLx_loose ?_ ?_;(focus (simp only [chainOp];done));intro K hK;go_simp;refine hK _ ?_;clear hK K)
              refine wpLx_nil ?_;intro hS;clear hne hS b1 b2;obtain ⟨V3,hV3⟩ : ∃ V3,V.drew = V3:=⟨_,rfl⟩
              rw [hV3] at key ⊢;have rv3:=key;clear key hV3;clear hr1' hd1 h0';have hbx : Below V3.heap.size V3 (V3.alloc (.cells (fndC ⟨2,k⟩) 64)):=(Below.refl _ _).alloc (Nat.le_refl _) _;have rvx:=rv3.below hbx;have hown7:=rvx.own;have hbs7:=rvx.bel.size;have hrow7 : rowAt (V3.alloc (.cells (fndC ⟨2,k⟩) 64)) V3.heap.size 0 2 = some (fndC ⟨2,k⟩):=by simp [go_sem]
              have x1:=rv3.cell1;rw [hht] at x1;go_upto_region 21 with (at_builtin;refine L_append einfoRFnd rfl hown7 rfl hrow7 (fndC_one _) (by omega) (by omega) (by omega) ?_;intro A2 cap2 V4 hownA hkA hsubA)
              have rv4:=rvx.app hownA hkA hsubA;obtain ⟨F4,hF1⟩ : ∃ Z : List Fnd,F ++ [(⟨2,(k : Int)⟩ : Fnd)] = Z:=⟨_,rfl⟩
              have hl2 : F.length + 1 = F4.length:=by rw [← hF1];simp
              rw [hF1] at rv4;rw [hl2];have hs:=Hst.out;rw [hF1] at hs;replace Hst:=Lib.hid hs;clear hs;clear hbx rvx hown7 hbs7 hrow7 x1 hownA hkA hsubA hF1;cases T with
              | true =>
                have hs:=Hst.out;rw [if_pos (show true = true from rfl),List.append_nil] at hs;replace Hst:=Lib.hid hs;clear hs;have hT5 : (ht - 1 != M) = false:=by simp [bne,hT3]
                have x1:=rv4.cell1;rw [hht] at x1;(go_wp2_with fail);go_roundw
                case rel=>exact ⟨k + 1,_,_,by omega,by go_num,by rw [Hst.out],by rw [Hst.out];exact rv4.own,rv4.bel⟩
                case measure=>simp [intOf];omega
              | false =>
                have hs:=Hst.out;rw [if_neg (show ¬ (false = true) by decide)] at hs;replace Hst:=Lib.hid hs;clear hs;have hT5 : (ht - 1 != M) = true:=by simp [bne,hT3]
                have hbx : Below V4.heap.size V4 (V4.alloc (.cells (fndC ⟨3,k⟩) 64)):=(Below.refl _ _).alloc (Nat.le_refl _) _;have rvx:=rv4.below hbx;have hown7:=rvx.own;have hbs7:=rvx.bel.size;have hrow7 : rowAt (V4.alloc (.cells (fndC ⟨3,k⟩) 64)) V4.heap.size 0 2 = some (fndC ⟨3,k⟩):=by simp [go_sem]
                have x1:=rv4.cell1;rw [hht] at x1;go_wp2_with (at_builtin;refine L_append einfoRFnd rfl hown7 rfl hrow7 (fndC_one _) (by omega) (by omega) (by omega) ?_;intro A2 cap2 V9 hownA hkA hsubA)
                have rv9:=rvx.app hownA hkA hsubA;obtain ⟨F9,hF1⟩ : ∃ Z : List Fnd,F4 ++ [(⟨3,(k : Int)⟩ : Fnd)] = Z:=⟨_,rfl⟩
                have hl3 : F4.length + 1 = F9.length:=by rw [← hF1];simp
                rw [hF1] at rv9;rw [hl3];have hs:=Hst.out;rw [hF1] at hs;replace Hst:=Lib.hid hs;clear hs;clear hbx rvx hown7 hbs7 hrow7 x1 hownA hkA hsubA hF1;go_roundw
                case rel=>exact ⟨k + 1,_,_,by omega,by go_num,by rw [Hst.out],by rw [Hst.out];exact rv9.own,rv9.bel⟩
                case measure=>simp [intOf];omega
    · have hkR : k = R.length:=by omega
      rw [hkR] at hown ⊢;obtain ⟨X,hX⟩ : ∃ X,fndN L R.length = X:=⟨_,rfl⟩
      rw [hX] at hown ⊢;have HX:=Lib.hid hX;clear hX;(go_wp2_with fail);go_ret;exact ⟨A,cap,by rw [HX.out];rfl,by rw [HX.out];exact hown,hb⟩
end
section
open Go.RowKit
theorem set_flat : ∀ (L : List (Array Value)) (k : Nat),(∀ c ∈ L,c.size = k) → ∀ (i r : Nat) (v : Value) (hi : i < L.length),r < k →
    (L.set i ((L[i]).setIfInBounds r v)).flatMap Array.toList = (L.flatMap Array.toList).set (i * k + r) v
  | c :: L,k,hs,0,r,v,_,hr=>by
    have hc : c.toList.length = k:=by simpa using hs c (by simp)
    simp only [List.set_cons_zero,List.flatMap_cons,Nat.zero_mul,Nat.zero_add,List.getElem_cons_zero,Array.toList_setIfInBounds];rw [List.set_append_left _ _ (by omega)]
  | c :: L,k,hs,i + 1,r,v,hi,hr=>by
    have hc : c.toList.length = k:=by simpa using hs c (by simp)
    have ih:=set_flat L k (fun c h=>hs c (by simp [h])) i r v (by simpa using hi) hr;simp only [List.set_cons_succ,List.flatMap_cons,List.getElem_cons_succ];rw [ih,List.set_append_right _ _ (by rw [Nat.add_mul];omega)];congr 2
    rw [Nat.add_mul];omega
theorem heap_set_at {w : World} {g : Nat} {c : Array Value} {T : TypeId} {fr : Nat × Nat} (h : w.heap[g]? = some (.cells c T fr)) (j : Nat) (u : Value) : (w.setCell ⟨g,j,none⟩ u).heap[g]? = some (.cells (c.setIfInBounds j u) T fr):=by
  obtain ⟨hlt,hg⟩:=Array.getElem?_eq_some_iff.1 h;show (w.heap.modify g _)[g]? = _;rw [Array.getElem?_modify];simp [h]
theorem own_cell {w : World} {B : Nat} {E : TypeId} {k g n cap : Nat} {L : List (Array Value)} (h : Own w B E k (some ⟨g,0,none⟩) n cap L) {i r : Nat} (hi : i < L.length) (hr : r < k) (v : Value) :
    Own (w.setCell ⟨g,i * k + r,none⟩ v) B E k (some ⟨g,0,none⟩) n cap (L.set i ((L[i]).setIfInBounds r v)) ∧ Keep [g] w (w.setCell ⟨g,i * k + r,none⟩ v) ∧ (∃ u,w.cell? ⟨g,i * k + r,none⟩ = some u) ∧ w.frozen? ⟨g,i * k + r,none⟩ = false:=by
  have hL:=h.len;have hs:=h.size;have hs2 : ∀ c ∈ L.set i ((L[i]).setIfInBounds r v),c.size = k:=fun c hc=>by
    rcases List.mem_or_eq_of_mem_set hc with h | h
    · exact hs c h
    · rw [h];simpa using hs _ (List.getElem_mem hi)
  rcases h.row.2 with ⟨h2,_⟩ | ⟨g',c,cur,hv,hb,hg,hnc,hcm,hcsz,htake⟩
  · cases h2
  · injection hv with hA _ hc
    injection hA with hA
    injection hA with hA
    subst hA;subst hc;have hle : i * k + r < n * k:=by
      have : (i + 1) * k ≤ n * k:=Nat.mul_le_mul_right k (by omega);rw [Nat.add_mul] at this;omega
    have hle2 : n * k ≤ cur.size:=by rw [hcsz];exact Nat.mul_le_mul_right k hnc
    have hset:=heap_set_at hg (i * k + r) v;refine ⟨⟨⟨?_,.inr ⟨g,cap,_,rfl,hb,hset,hnc,hcm,by simpa using hcsz,?_⟩⟩,by simp [hL],hs2⟩,Keep.setCell w ⟨g,i * k + r,none⟩ v,⟨cur[i * k + r]'(by omega),by rw [cell_of_row w g _ cur _ _ hg];exact Array.getElem?_eq_getElem (by omega)⟩,by simp [World.frozen?,hg]⟩
    · rw [flat_len _ k hs2,List.length_set,hL]
    · rw [set_flat L k hs i r v hi hr,← htake,Array.toList_setIfInBounds,List.take_set]
end
end Go.Proofs.YtgedpfebepdcmaaGreatDoor
