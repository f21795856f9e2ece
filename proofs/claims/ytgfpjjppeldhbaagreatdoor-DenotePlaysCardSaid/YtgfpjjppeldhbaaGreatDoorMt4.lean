/- Part 4 of the texts that lead to this claim: the walks of the functions and the plain law, in order. -/
import Derived.Test.YtgfpjjppeldhbaaGreatDoorMt3
import Derived.Test.YtgfpjjppeldhbaaGreatDoorLayGrow
import Derived.LoopN
import Derived.Shelf.SlSortCmp.NoneTotal
import Derived.Test.YtgfpjjppeldhbaaGreatDoorLayBag
import Derived.Shelf.Slices.CompactS
import Derived.Test.YtgfpjjppeldhbaaGreatDoorLayKeys
import Derived.Test.YtgfpjjppeldhbaaGreatDoorLayView
import Derived.IntWalk
import Derived.ArgAppend
import Derived.Laws.StructEq
namespace Go.Proofs.YtgfpjjppeldhbaaGreatDoor
section
open Go.RowKit
abbrev LRow:=ByteArray × Setting
theorem cmpS_ne {a b : ByteArray} (h1 : ¬ cmpS a b < 0) (h2 : a ≠ b) : cmpS b a < 0:=by
  have:=cmpS_anti a b;have h3 : cmpS a b ≠ 0:=fun e=>h2 ((cmpS_zero a b).1 e);omega
theorem cmpS_irr {a : ByteArray} : ¬ cmpS a a < 0:=by rw [cmpS_self];omega
def Rising : List LRow → Prop
  | []=>True
  | x :: l=>(∀ y ∈ l,cmpS x.1 y.1 < 0) ∧ Rising l
def insL : List LRow → ByteArray → Setting → List LRow
  | [],k,x=>[(k,x)]
  | y :: l,k,x=>if cmpS y.1 k < 0 then y :: insL l k x else if y.1 = k then (if 0 < cmpSet x y.2 then (k,x) :: l else y :: l) else (k,x) :: y :: l
theorem insL_keys : ∀ (l : List LRow) (k : ByteArray) (x : Setting),∀ y ∈ insL l k x,y.1 = k ∨ ∃ z ∈ l,z.1 = y.1
  | [],k,x,y,hy=>by simp [insL] at hy;left;rw [hy]
  | a :: l,k,x,y,hy=>by
    unfold insL at hy;split at hy
    · rcases List.mem_cons.1 hy with h | h
      · right;exact ⟨a,by simp,by rw [h]⟩
      · rcases insL_keys l k x y h with h | ⟨z,hz,e⟩
        · exact .inl h
        · exact .inr ⟨z,List.mem_cons.2 (.inr hz),e⟩
    · split at hy
      · split at hy
        · rcases List.mem_cons.1 hy with h | h
          · left;rw [h]
          · right;exact ⟨y,List.mem_cons.2 (.inr h),rfl⟩
        · right;exact ⟨y,hy,rfl⟩
      · rcases List.mem_cons.1 hy with h | h
        · left;rw [h]
        · right;exact ⟨y,h,rfl⟩
theorem insL_rising : ∀ (l : List LRow) (k : ByteArray) (x : Setting),Rising l → Rising (insL l k x)
  | [],k,x,_=>⟨by simp,trivial⟩
  | a :: l,k,x,h=>by
    unfold insL;split
    · rename_i hlt
      refine ⟨fun y hy=>?_,insL_rising l k x h.2⟩;rcases insL_keys l k x y hy with e | ⟨z,hz,e⟩
      · rw [e];exact hlt
      · rw [← e];exact h.1 z hz
    · rename_i hlt
      split
      · rename_i he
        split
        · exact ⟨fun y hy=>by rw [← he];exact h.1 y hy,h.2⟩
        · exact h
      · rename_i he
        have hka : cmpS k a.1 < 0:=cmpS_ne hlt he;refine ⟨fun y hy=>?_,h⟩;rcases List.mem_cons.1 hy with e | hy
        · rw [e];exact hka
        · exact cmpS_trans _ _ _ hka (h.1 y hy)
def checkE (k : ByteArray) (x : Setting) : Int:=if 16 < k.size ∨ 16 < x.val.size then 3 else if x.n < 0 ∨ 2147483648 ≤ x.n then 5 else 0
def setL (l : List LRow) (k : ByteArray) (x : Setting) : List LRow:=if checkE k x = 0 then insL l k x else l
def RowsOk (l : List LRow) : Prop:=Rising l ∧ ∀ p ∈ l,checkE p.1 p.2 = 0
theorem insL_mem : ∀ (l : List LRow) (k : ByteArray) (x : Setting),∀ y ∈ insL l k x,y = (k,x) ∨ y ∈ l
  | [],k,x,y,hy=>by simp [insL] at hy;exact .inl hy
  | a :: l,k,x,y,hy=>by
    unfold insL at hy;split at hy
    · rcases List.mem_cons.1 hy with h | h
      · exact .inr (by rw [h];simp)
      · rcases insL_mem l k x y h with h | h
        · exact .inl h
        · exact .inr (List.mem_cons.2 (.inr h))
    · split at hy
      · split at hy
        · rcases List.mem_cons.1 hy with h | h
          · exact .inl h
          · exact .inr (List.mem_cons.2 (.inr h))
        · exact .inr hy
      · rcases List.mem_cons.1 hy with h | h
        · exact .inl h
        · exact .inr h
theorem setL_ok {l : List LRow} (h : RowsOk l) (k : ByteArray) (x : Setting) : RowsOk (setL l k x):=by
  unfold setL;split
  · rename_i hc
    refine ⟨insL_rising l k x h.1,fun p hp=>?_⟩;rcases insL_mem l k x p hp with e | hp
    · rw [e];exact hc
    · exact h.2 p hp
  · exact h
theorem insL_length (l : List LRow) (k : ByteArray) (x : Setting) : (insL l k x).length ≤ l.length + 1:=by
  induction l with
  | nil=>simp [insL]
  | cons a l ih =>
    unfold insL
    repeat' split
    all_goals simp;try omega
theorem setL_length (l : List LRow) (k : ByteArray) (x : Setting) : (setL l k x).length ≤ l.length + 1:=by
  unfold setL;split
  · exact insL_length l k x
  · omega
def getL (l : List LRow) (k : ByteArray) : Option Setting:=(l.find? (fun p=>decide (p.1 = k))).map (·.2)
end
section
open Go.RowKit
theorem strKey : KeyEnc Tryz.prog 9 Value.string (fun k : ByteArray=>k.size ≤ maxLen) where
  law:=WideMaps.string_law Tryz.underlying9
  key:=fun k hk=>by
    refine ⟨.string k.data.toList,?_⟩;simp [keyOf,mapKey,Tryz.underlying9,hk]
  inj:=fun a b h=>by injection h
def setV (x : Setting) : Value:=.agg (settingC x)
structure LastAt (w : World) (g b : Nat) (L : List LRow) : Prop where
  blk : w.heap[g]? = some (.cells #[.map (some b)] 177 (0,0))
  map : ∃ M es clk,MapAt w b Value.string setV (fun k=>k.size ≤ maxLen) M es clk ∧ M.Perm L
  rows : RowsOk L
theorem getL_mem {l : List LRow} {k : ByteArray} {x : Setting} (h : getL l k = some x) : (k,x) ∈ l:=by
  unfold getL at h;cases hf : l.find? (fun p=>decide (p.1 = k)) with
  | none=>rw [hf] at h;cases h
  | some p =>
    rw [hf] at h;have h1:=List.mem_of_find?_eq_some hf;have h2:=List.find?_some hf;have h3 : p.1 = k:=by simpa using h2
    have h4 : p.2 = x:=by simpa using h
    rw [← h3,← h4];exact h1
def getS (L : List LRow) (k : ByteArray) : ByteArray:=((getL L k).getD setting0).val
end
section
open Go.RowKit
end
section
open Go.RowKit
structure MRow where
  id : Id32
  key : ByteArray
  val : ByteArray
def mRowC (x : MRow) : Array Value:=idC x.id ++ #[.string x.key] ++ #[.string x.val]
@[simp] theorem mRowC_size (x : MRow) : (mRowC x).size = 34:=by simp [mRowC]
@[go_sem] theorem mRowC_e0 (x : MRow) : (mRowC x).extract 0 32 = idC x.id:=by
  have h : mRowC x = ((#[] : Array Value)) ++ idC x.id ++ (#[.string x.key] ++ #[.string x.val]):=by first | (simp [mRowC,Array.append_assoc];done) | (apply Array.ext';simp [mRowC];done)
  rw [h];exact arr_mid _ _ _ _ _ (by simp) (by simp)
@[go_sem] theorem mRowC_g32 (x : MRow) : (mRowC x)[32]? = some (.string x.key):=by first | (simp [mRowC,Array.getElem?_append];done) | (rw [show mRowC x = (idC x.id) ++ #[.string x.key] ++ (#[.string x.val]) from by apply Array.ext';simp [mRowC]];exact arr_at _ _ _ _ (by simp))
@[go_sem] theorem mRowC_gg32 (x : MRow) (h : 32 < (mRowC x).size) : (mRowC x)[32]'h = .string x.key:=Option.some.inj ((Array.getElem?_eq_getElem h).symm.trans (mRowC_g32 x))
@[go_sem] theorem mRowC_g33 (x : MRow) : (mRowC x)[33]? = some (.string x.val):=by first | (simp [mRowC,Array.getElem?_append];done) | (rw [show mRowC x = (idC x.id ++ #[.string x.key]) ++ #[.string x.val] ++ ((#[] : Array Value)) from by apply Array.ext';simp [mRowC]];exact arr_at _ _ _ _ (by simp))
@[go_sem] theorem mRowC_gg33 (x : MRow) (h : 33 < (mRowC x).size) : (mRowC x)[33]'h = .string x.val:=Option.some.inj ((Array.getElem?_eq_getElem h).symm.trans (mRowC_g33 x))
@[go_sem] theorem mRowC_all (x : MRow) : (mRowC x).extract 0 34 = mRowC x:=by have:=Array.extract_size (xs:=mRowC x);rwa [mRowC_size] at this
theorem mRowC_one (x : MRow) : ∀ u ∈ (mRowC x).toList,u.oneCell' = true:=by
  intro u hu;simp only [mRowC,Array.toList_append,List.mem_append] at hu;rcases hu with (hu | hu) | hu
  · exact idC_one _ u hu
  · simp at hu;subst hu;rfl
  · simp at hu;subst hu;rfl
def mRow0 : MRow:=⟨id0,⟨#[]⟩,⟨#[]⟩⟩
theorem MRow_ext {x y : MRow} (h : x.id = y.id ∧ x.key = y.key ∧ x.val = y.val) : x = y:=by cases x;cases y;simp_all
instance : DecidableEq MRow:=fun x y=>if h : x.id = y.id ∧ x.key = y.key ∧ x.val = y.val then isTrue (MRow_ext h) else isFalse (fun e=>h (by subst e;simp))
@[go_sem ↓] theorem loadMRow_rw (a : Addr) : loadVar 184 a = ldS 184 a:=rfl
@[go_sem ↓] theorem storeMRow_rw (a : Addr) (v : Value) : storeVar 184 a v = stS 184 a v:=rfl
@[go_sem ↓] theorem buildMRow_rw (parts : Array (Nat × Value)) : Instr.build 184 parts = bdS 184 parts:=rfl
instance : Inhabited MRow:=⟨mRow0⟩
def cmpMR (x y : MRow) : Int:=orL [cmpId x.id y.id,cmpS x.key y.key,cmpS x.val y.val]
theorem orL3 (a b c : Int) : orL [a,b,c] = orC a (orC b c):=by
  unfold orC orL orL orL orL;split
  · split
    · split <;> simp_all
    · rfl
  · rfl
theorem totMR : TotC cmpMR:=(totId.pair (totS.pair totS)).of (fun x : MRow=>(x.id,x.key,x.val)) (fun x y h=>by
  cases x;cases y
  simp only [Prod.mk.injEq] at h;obtain ⟨h1,h2,h3⟩:=h;subst h1;subst h2;subst h3;rfl) (fun x y=>orL3 _ _ _)
abbrev okM (x : MRow) : Prop:=x.key.size ≤ maxLen ∧ x.val.size ≤ maxLen
def mrowV (x : MRow) : Value:=.agg (mRowC x)
end
section
open Go.RowKit
abbrev MSet (w : World) (b : Nat) (L : List MRow) : Prop:=SetAt w b mrowV okM L
def msmall (x : MRow) : Prop:=x.key.size ≤ 16 ∧ x.val.size ≤ 16
structure MultiAt (w : World) (g bl bo : Nat) (X : List MRow) (O : List Id32) : Prop where
  blk : w.heap[g]? = some (.cells #[.map (some bl),.map (some bo)] 271 (0,0))
  live : MSet w bl X
  over : IdSet w bo O
  ne : bl ≠ bo
  risX : Ris cmpMR X
  risO : Ris cmpId O
  sm : ∀ x ∈ X,msmall x
  apart : ∀ x ∈ X,x.id ∉ O
section
variable {w w' : World} {g bl bo : Nat} {X : List MRow} {O : List Id32}
end
@[go_sem ↓] theorem bsMRow_rw (n : Nat) (parts : Array (Nat × Value)) : Instr.buildSlice 181 n parts = bsS 181 n parts:=rfl
def livR (X : List MRow) (O : List Id32) : List MRow:=X.filter fun x=>decide (x.id ∉ O)
end
section
open Go.RowKit
def putO (O T : List Id32) : List Id32:=T.foldl (insC cmpId) O
theorem putO_ris {O T : List Id32} (h : Ris cmpId O) : Ris cmpId (putO O T):=(foldl_insC totId T O h).1
theorem mem_putO {O T : List Id32} (h : Ris cmpId O) {x : Id32} : x ∈ putO O T ↔ x ∈ O ∨ x ∈ T:=(foldl_insC totId T O h).2 x
def setX (X : List MRow) (O : List Id32) (x : MRow) (T : List Id32) : List MRow:=livR (insC cmpMR X x) (putO O T)
end
section
section
variable {ι ν : Type} (kid : ι → List ν) (idn : ν → ι) (N : List ν) (refn : ν → ι) (z : ι)
def preD : Nat → ι → List ν
  | 0,_=>[]
  | k + 1,r=>(kid r).flatMap fun c=>c :: preD k (idn c)
def Deep : Nat → ι → Prop
  | 0,_=>False
  | k + 1,r=>∀ c ∈ kid r,Deep k (idn c)
def workL : Nat → List ν → List ν
  | 0,_=>[]
  | _ + 1,[]=>[]
  | k + 1,n :: row=>n :: workL k (kid (idn n) ++ row)
def restL (k : Nat) (row : List ν) : List ν:=row.flatMap fun c=>c :: preD kid idn k (idn c)
variable {kid idn N refn z}
theorem deep_up : ∀ {k : Nat} {r : ι},Deep kid idn k r → Deep kid idn (k + 1) r
  | 0,_,h=>h.elim
  | _ + 1,_,h=>fun c hc=>deep_up (h c hc)
theorem pre_up : ∀ {k : Nat} {r : ι},Deep kid idn k r → preD kid idn (k + 1) r = preD kid idn k r
  | 0,_,h=>h.elim
  | k + 1,r,h=>by
    show (kid r).flatMap _ = (kid r).flatMap _;have : ∀ l : List ν,(∀ c ∈ l,Deep kid idn k (idn c)) → l.flatMap (fun c=>c :: preD kid idn (k + 1) (idn c)) = l.flatMap (fun c=>c :: preD kid idn k (idn c)):=by
      intro l;induction l with
      | nil=>intro _;rfl
      | cons c l ih =>
        intro hl;rw [List.flatMap_cons,List.flatMap_cons,pre_up (hl c (by simp)),ih (fun d hd=>hl d (by simp [hd]))]
    exact this _ h
theorem rest_step {k : Nat} {n : ν} {row : List ν} (hn : Deep kid idn k (idn n)) : restL kid idn k (n :: row) = n :: restL kid idn k (kid (idn n) ++ row):=by
  cases k with
  | zero=>exact hn.elim
  | succ k =>
    unfold restL;rw [List.flatMap_cons,List.flatMap_append,List.cons_append];congr 2
    show (kid (idn n)).flatMap _ = _;have h2 : preD kid idn (k + 1 + 1) (idn n) = preD kid idn (k + 1) (idn n):=pre_up hn;exact h2.symm
theorem deep_kids {k : Nat} {n : ν} (hn : Deep kid idn k (idn n)) : ∀ c ∈ kid (idn n),Deep kid idn k (idn c):=by
  cases k with
  | zero=>exact hn.elim
  | succ k=>exact fun c hc=>deep_up (hn c hc)
inductive Path (kid : ι → List ν) (idn : ν → ι) (z : ι) : List ι → Prop
  | root : Path kid idn z [z]
  | step {r : ι} {p : List ι} {c : ν} (h : Path kid idn z (r :: p)) (hc : c ∈ kid r) : Path kid idn z (idn c :: r :: p)
theorem path_split (hid : ∀ a ∈ N,∀ b ∈ N,idn a = idn b → a = b) (hk : ∀ r,∀ c ∈ kid r,c ∈ N ∧ refn c = r) (hz : ∀ a ∈ N,idn a ≠ z) {q : List ι} (h : Path kid idn z q) {c : ν} (hc : c ∈ N) (hm : idn c ∈ q) :
    ∃ s t,q = s ++ idn c :: refn c :: t:=by
  induction h with
  | root=>simp at hm;exact absurd hm (hz c hc)
  | @step r p d h hd ih =>
    by_cases e : idn c = idn d
    · obtain ⟨hdN,hdr⟩:=hk _ _ hd;have:=hid c hc d hdN e;subst this;exact ⟨[],p,by simp [hdr]⟩
    · rcases List.mem_cons.1 hm with h1 | h1
      · exact absurd h1 e
      · obtain ⟨s,t,hq⟩:=ih h1;exact ⟨idn d :: s,t,by rw [hq];rfl⟩
theorem path_nodup (hid : ∀ a ∈ N,∀ b ∈ N,idn a = idn b → a = b) (hk : ∀ r,∀ c ∈ kid r,c ∈ N ∧ refn c = r) (hz : ∀ a ∈ N,idn a ≠ z) {q : List ι} (h : Path kid idn z q) : q.Nodup:=by
  induction h with
  | root=>simp
  | @step r p d h hd ih =>
    refine List.nodup_cons.2 ⟨fun hm=>?_,ih⟩;obtain ⟨hdN,hdr⟩:=hk _ _ hd;obtain ⟨s,t,hq⟩:=path_split hid hk hz h hdN hm;rw [hdr] at hq;rw [hq] at ih;cases s with
    | nil =>
      simp only [List.nil_append] at ih hq;injection hq with h1 h2
      rw [← h1] at ih;simp at ih
    | cons a s =>
      injection hq with h1 h2
      rw [← h1] at ih;simp at ih
theorem path_sub (hk : ∀ r,∀ c ∈ kid r,c ∈ N ∧ refn c = r) {q : List ι} (h : Path kid idn z q) : ∀ x ∈ q,x ∈ z :: N.map idn:=by
  induction h with
  | root=>simp
  | @step r p d h hd ih =>
    intro x hx;rcases List.mem_cons.1 hx with e | hx
    · subst e;exact List.mem_cons.2 (.inr (List.mem_map.2 ⟨d,(hk _ _ hd).1,rfl⟩))
    · exact ih x hx
theorem subs_len {α : Type} : ∀ {S M : List α},S.Nodup → (∀ x ∈ S,x ∈ M) → S.length ≤ M.length
  | [],M,_,_=>Nat.zero_le _
  | x :: S,M,hn,hs=>by
    classical
    obtain ⟨h1,h2⟩:=List.nodup_cons.1 hn;have:=subs_len (M:=M.erase x) h2 (fun y hy=>(List.mem_erase_of_ne (fun e=>h1 (by rw [← e];exact hy))).2 (hs y (by simp [hy])));rw [List.length_erase_of_mem (hs x (by simp))] at this;have h3:=List.length_pos_of_mem (hs x (by simp));simp only [List.length_cons];omega
theorem deep_path (hid : ∀ a ∈ N,∀ b ∈ N,idn a = idn b → a = b) (hk : ∀ r,∀ c ∈ kid r,c ∈ N ∧ refn c = r) (hz : ∀ a ∈ N,idn a ≠ z) :
    ∀ (f : Nat) (r : ι) (p : List ι),Path kid idn z (r :: p) → N.length + 1 < f + (r :: p).length → Deep kid idn f r
  | 0,r,p,h,hf=>by
    have:=subs_len (path_nodup hid hk hz h) (path_sub hk h);simp only [List.length_cons,List.length_map] at this hf;omega
  | f + 1,r,p,h,hf=>fun c hc=>deep_path hid hk hz f _ _ (h.step hc) (by simp only [List.length_cons] at hf ⊢;omega)
theorem deep_root (hid : ∀ a ∈ N,∀ b ∈ N,idn a = idn b → a = b) (hk : ∀ r,∀ c ∈ kid r,c ∈ N ∧ refn c = r) (hz : ∀ a ∈ N,idn a ≠ z) : Deep kid idn (N.length + 1) z :=
  deep_path hid hk hz _ z [] Path.root (by simp)
theorem pre_root {k : Nat} (h : Deep kid idn k z) : preD kid idn k z = restL kid idn k (kid z):=by
  rw [← pre_up h];rfl
theorem pre_add {k : Nat} {r : ι} (h : Deep kid idn k r) : ∀ j,preD kid idn (k + j) r = preD kid idn k r ∧ Deep kid idn (k + j) r
  | 0=>⟨rfl,h⟩
  | j + 1=>by
    obtain ⟨h1,h2⟩:=pre_add h j;exact ⟨(pre_up h2).trans h1,deep_up h2⟩
theorem pre_any {k m : Nat} {r : ι} (h : Deep kid idn k r) (h' : Deep kid idn m r) : preD kid idn k r = preD kid idn m r:=by
  rw [← (pre_add h m).1,Nat.add_comm,(pre_add h' k).1]
structure OutInv (N : List ν) (idn : ν → ι) (refn : ν → ι) (z : ι) (out row : List ν) : Prop where
  nodup : (out ++ row).Nodup
  sub : ∀ x ∈ out ++ row,x ∈ N
  par : ∀ x ∈ out ++ row,refn x = z ∨ ∃ y ∈ out,idn y = refn x
theorem OutInv.step (hid : ∀ a ∈ N,∀ b ∈ N,idn a = idn b → a = b) (hk : ∀ r,∀ c ∈ kid r,c ∈ N ∧ refn c = r) (hz : ∀ a ∈ N,idn a ≠ z) (hkn : ∀ r,(kid r).Nodup) {out row : List ν} {n : ν} (h : OutInv N idn refn z out (n :: row)) :
    OutInv N idn refn z (out ++ [n]) (kid (idn n) ++ row):=by
  have hnN : n ∈ N:=h.sub n (by simp);have hno : n ∉ out:=fun hm=>by
    have:=h.nodup;rw [List.nodup_append] at this;exact this.2.2 n hm n (by simp) rfl
  have hdis : ∀ x ∈ kid (idn n),x ∉ out ++ n :: row:=by
    intro x hx hm;obtain ⟨hxN,hxr⟩:=hk _ x hx;rcases h.par x hm with e | ⟨y,hy,e⟩
    · exact hz n hnN (hxr.symm.trans e)
    · rw [hxr] at e;have:=hid y (h.sub y (List.mem_append.2 (.inl hy))) n hnN e;subst this;exact hno hy
  have hp : (out ++ [n] ++ (kid (idn n) ++ row)).Perm (kid (idn n) ++ (out ++ n :: row)):=by
    have : out ++ [n] ++ (kid (idn n) ++ row) = (out ++ [n]) ++ kid (idn n) ++ row:=by simp
    rw [this];have e2 : kid (idn n) ++ (out ++ n :: row) = kid (idn n) ++ (out ++ [n]) ++ row:=by simp
    rw [e2];exact List.Perm.append_right _ List.perm_append_comm
  refine ⟨hp.nodup_iff.2 ?_,fun x hx=>?_,fun x hx=>?_⟩
  · rw [List.nodup_append];exact ⟨hkn _,h.nodup,fun a ha b hb e=>by subst e;exact hdis a ha hb⟩
  · rcases List.mem_append.1 (hp.mem_iff.1 hx) with hx | hx
    · exact (hk _ x hx).1
    · exact h.sub x hx
  · rcases List.mem_append.1 (hp.mem_iff.1 hx) with hx | hx
    · exact .inr ⟨n,by simp,(hk _ x hx).2.symm⟩
    · rcases h.par x hx with e | ⟨y,hy,e⟩
      · exact .inl e
      · exact .inr ⟨y,by simp [hy],e⟩
theorem OutInv.all (hid : ∀ a ∈ N,∀ b ∈ N,idn a = idn b → a = b) (hk : ∀ r,∀ c ∈ kid r,c ∈ N ∧ refn c = r) (hz : ∀ a ∈ N,idn a ≠ z) (hkn : ∀ r,(kid r).Nodup) {k : Nat} :
    ∀ (m : Nat) {out row : List ν},OutInv N idn refn z out row → (∀ c ∈ row,Deep kid idn k (idn c)) → (restL kid idn k row).length = m → (out ++ restL kid idn k row).Nodup ∧ ∀ x ∈ out ++ restL kid idn k row,x ∈ N
  | m,out,[],h,_,_=>⟨by simpa [restL] using h.nodup,fun x hx=>h.sub x (by simpa [restL] using hx)⟩
  | 0,out,n :: row,h,hd,hm=>by rw [rest_step (hd n (by simp))] at hm;simp at hm
  | m + 1,out,n :: row,h,hd,hm=>by
    have hn:=hd n (by simp);rw [rest_step hn] at hm ⊢;have:=OutInv.all hid hk hz hkn m (h.step hid hk hz hkn) (fun c hc=>by
      rcases List.mem_append.1 hc with hc | hc
      · exact deep_kids hn c hc
      · exact hd c (by simp [hc])) (by simpa using hm)
    simpa using this
theorem OutInv.root (hk : ∀ r,∀ c ∈ kid r,c ∈ N ∧ refn c = r) (hkn : ∀ r,(kid r).Nodup) : OutInv N idn refn z [] (kid z) :=
  ⟨by simpa using hkn z,fun x hx=>(hk z x (by simpa using hx)).1,fun x hx=>.inl (hk z x (by simpa using hx)).2⟩
theorem pre_nodup (hid : ∀ a ∈ N,∀ b ∈ N,idn a = idn b → a = b) (hk : ∀ r,∀ c ∈ kid r,c ∈ N ∧ refn c = r) (hz : ∀ a ∈ N,idn a ≠ z) (hkn : ∀ r,(kid r).Nodup) {k : Nat} (h : Deep kid idn k z) :
    (preD kid idn k z).Nodup ∧ ∀ x ∈ preD kid idn k z,x ∈ N:=by
  have hd : ∀ c ∈ kid z,Deep kid idn k (idn c):=by
    cases k with
    | zero=>exact h.elim
    | succ k=>exact fun c hc=>deep_up (h c hc)
  have:=OutInv.all hid hk hz hkn _ (OutInv.root (z:=z) (refn:=refn) (idn:=idn) hk hkn) hd rfl;rw [pre_root h];simpa using this
end
end
section
open Go.RowKit
structure NodeV where
  id : Id32
  h : Int
  ref : Id32
  val : ByteArray
theorem NodeV.ext' {a b : NodeV} (h1 : a.id = b.id) (h2 : a.h = b.h) (h3 : a.ref = b.ref) (h4 : a.val = b.val) : a = b:=by cases a;cases b;simp_all
theorem totI : TotC cmpI where
  zero a b:=by unfold cmpI;constructor <;> intro h <;> (repeat' split at *) <;> omega
  anti a b:=by unfold cmpI;(repeat' split) <;> omega
  trans a b d:=by unfold cmpI;(repeat' split) <;> omega
theorem TotC.rev {α : Type} {c : α → α → Int} (T : TotC c) : TotC (fun a b=>c b a) where
  zero a b:=by rw [T.zero];exact ⟨Eq.symm,Eq.symm⟩
  anti a b:=T.anti _ _
  trans a b d h1 h2:=T.trans _ _ _ h2 h1
def cmpN (a b : NodeV) : Int:=orC (cmpI b.h a.h) (orC (cmpId b.id a.id) (orC (cmpId a.ref b.ref) (cmpS a.val b.val)))
theorem totN : TotC cmpN :=
  TotC.of (c:=fun (x y : Int × (Id32 × (Id32 × ByteArray)))=>orC (cmpI y.1 x.1) (orC (cmpId y.2.1 x.2.1) (orC (cmpId x.2.2.1 y.2.2.1) (cmpS x.2.2.2 y.2.2.2))))
    (TotC.pair (c:=fun a b=>cmpI b a) totI.rev (TotC.pair (c:=fun a b=>cmpId b a) totId.rev (TotC.pair totId totS))) (fun n=>(n.h,n.id,n.ref,n.val))
    (fun x y h=>by simp only [Prod.mk.injEq] at h;exact NodeV.ext' h.2.1 h.1 h.2.2.1 h.2.2.2) (fun _ _=>rfl)
def cmpM (a b : NodeV) : Int:=orC (cmpId a.id b.id) (orC (cmpI a.h b.h) (orC (cmpId a.ref b.ref) (cmpS a.val b.val)))
theorem totM : TotC cmpM :=
  TotC.of (c:=fun (x y : Id32 × (Int × (Id32 × ByteArray)))=>orC (cmpId x.1 y.1) (orC (cmpI x.2.1 y.2.1) (orC (cmpId x.2.2.1 y.2.2.1) (cmpS x.2.2.2 y.2.2.2))))
    (TotC.pair totId (TotC.pair totI (TotC.pair totId totS))) (fun n=>(n.id,n.h,n.ref,n.val))
    (fun x y h=>by simp only [Prod.mk.injEq] at h;exact NodeV.ext' h.1 h.2.1 h.2.2.1 h.2.2.2) (fun _ _=>rfl)
def aheadB (ah : Int) (a : Id32) (bh : Int) (b : Id32) : Bool:=if ah = bh then decide (cmpId a b < 0) else decide (ah < bh)
def OneId (N : List NodeV) : Prop:=∀ a ∈ N,∀ b ∈ N,a.id = b.id → a = b
theorem cmpN_ahead {a b : NodeV} (h : a.id ≠ b.id) : decide (cmpN b a < 0) = aheadB a.h a.id b.h b.id:=by
  have hid : cmpId a.id b.id ≠ 0:=fun e=>h ((cmpId_zero _ _).1 e);unfold cmpN aheadB orC cmpI;by_cases e : a.h = b.h
  · rw [if_pos (by rw [if_neg (by omega),if_neg (by omega)]),if_neg hid,if_pos e]
  · rw [if_neg e];rw [if_neg (by (repeat' split) <;> omega)];by_cases h1 : a.h < b.h
    · rw [if_pos h1];simp [h1]
    · rw [if_neg h1,if_pos (by omega)];simp [h1]
def kids (N : List NodeV) (r : Id32) : List NodeV:=sortC cmpN (N.filter fun n=>decide (n.ref = r))
theorem mem_kids {N : List NodeV} {r : Id32} {n : NodeV} : n ∈ kids N r ↔ n ∈ N ∧ n.ref = r:=by unfold kids;rw [mem_sortC totN];simp
theorem ris_kids (N : List NodeV) (r : Id32) : Ris cmpN (kids N r):=ris_sortC totN _
theorem kids_congr {N M : List NodeV} (h : ∀ n,n ∈ N ↔ n ∈ M) (r : Id32) : kids N r = kids M r:=sortC_congr totN fun z=>by simp [h]
theorem kids_length (N : List NodeV) (r : Id32) : (kids N r).length ≤ N.length:=by
  unfold kids;exact Nat.le_trans (sortC_length _) (List.length_filter_le _ _)
def orderN (N : List NodeV) : List NodeV:=preD (kids N) NodeV.id (N.length + 1) id0
def Forest (N : List NodeV) : Prop:=OneId N ∧ ∀ a ∈ N,a.id ≠ id0
theorem Forest.deep {N : List NodeV} (h : Forest N) : Deep (kids N) NodeV.id (N.length + 1) id0 :=
  deep_root (N:=N) (refn:=NodeV.ref) h.1 (fun _ _ hc=>mem_kids.1 hc) h.2
end
section
open Go.RowKit
theorem kids_fun {N M : List NodeV} (h : ∀ n,n ∈ N ↔ n ∈ M) : kids N = kids M:=funext fun r=>kids_congr h r
theorem Forest.congr {N M : List NodeV} (h : ∀ n,n ∈ N ↔ n ∈ M) (f : Forest N) : Forest M :=
  ⟨fun a ha b hb e=>f.1 a ((h a).2 ha) b ((h b).2 hb) e,fun a ha=>f.2 a ((h a).2 ha)⟩
theorem orderN_congr {N M : List NodeV} (h : ∀ n,n ∈ N ↔ n ∈ M) (f : Forest N) : orderN N = orderN M:=by
  unfold orderN;have h1:=f.deep;have h2:=(f.congr h).deep;rw [kids_fun h] at h1 ⊢;exact pre_any h1 h2
theorem orderN_nodup {N : List NodeV} (f : Forest N) : (orderN N).Nodup ∧ ∀ x ∈ orderN N,x ∈ N :=
  pre_nodup (refn:=NodeV.ref) f.1 (fun _ _ hc=>mem_kids.1 hc) f.2 (fun r=>(ris_kids N r).nodup totN) f.deep
theorem orderN_length {N : List NodeV} (f : Forest N) : (orderN N).length ≤ N.length:=subs_len (orderN_nodup f).1 (orderN_nodup f).2
def seen (N : List NodeV) (G : List Id32) : List ByteArray:=((orderN N).filter fun n=>decide (n.id ∉ G)).map NodeV.val
def nodeE (n : NodeV) : Int:=if 16 < n.val.size then 3 else if n.h < 1 ∨ 1073741824 < n.h ∨ n.id = id0 then 5 else 0
def insN (N : List NodeV) (n : NodeV) : List NodeV:=if nodeE n = 0 then (if n.id ∈ N.map NodeV.id then N else insC cmpM N n) else N
structure NodesOk (N : List NodeV) : Prop where
  ris : Ris cmpM N
  one : OneId N
  ok : ∀ n ∈ N,nodeE n = 0
theorem nodeE_id {n : NodeV} (h : nodeE n = 0) : n.id ≠ id0 ∧ n.val.size ≤ 16 ∧ 1 ≤ n.h ∧ n.h ≤ 1073741824:=by
  unfold nodeE at h;split at h
  · cases h
  · split at h
    · cases h
    · rename_i h1 h2
      refine ⟨fun e=>h2 (.inr (.inr e)),by omega,?_,?_⟩
      · exact Classical.byContradiction fun hh=>h2 (.inl (by omega))
      · exact Classical.byContradiction fun hh=>h2 (.inr (.inl (by omega)))
theorem NodesOk.forest {N : List NodeV} (h : NodesOk N) : Forest N:=⟨h.one,fun a ha=>(nodeE_id (h.ok a ha)).1⟩
theorem NodesOk.nil : NodesOk []:=⟨Ris.nil,fun a ha=>by simp at ha,by simp⟩
theorem NodesOk.ins {N : List NodeV} (h : NodesOk N) (n : NodeV) : NodesOk (insN N n):=by
  unfold insN;split
  · rename_i hE
    split
    · exact h
    · rename_i hn
      have hne : ∀ a ∈ N,a.id ≠ n.id:=fun a ha e=>hn (List.mem_map.2 ⟨a,ha,e⟩);refine ⟨ris_insC totM h.ris,fun a ha b hb e=>?_,fun a ha=>?_⟩
      · rcases (mem_insC totM).1 ha with ha1 | ha1 <;> rcases (mem_insC totM).1 hb with hb1 | hb1
        · rw [ha1,hb1]
        · rw [ha1] at e;exact absurd e.symm (hne b hb1)
        · rw [hb1] at e;exact absurd e (hne a ha1)
        · exact h.one a ha1 b hb1 e
      · rcases (mem_insC totM).1 ha with ha | ha
        · rw [ha];exact hE
        · exact h.ok a ha
  · exact h
end
section
open Go.RowKit
def nthL {α : Type} : List α → Nat → Option α
  | [],_=>none
  | x :: _,0=>some x
  | _ :: l,i + 1=>nthL l i
theorem nthL_eq {α : Type} : ∀ (l : List α) (i : Nat),nthL l i = l[i]?
  | [],_=>rfl
  | _ :: _,0=>rfl
  | _ :: l,i + 1=>by simpa [nthL] using nthL_eq l i
theorem nthL_ops {ops : Array Oper} {i : Nat} {o : Oper} (h : nthL ops.toList i = some o) : ops[i]? = some o:=by
  rw [nthL_eq] at h;simpa using h
inductive Sched where
  | done : Sched
  | loose (i : Nat) (n : Sched) : Sched
  | one (i : Nat) (n : Sched) : Sched
  | two (i : Nat) (n : Sched) (j : Nat) (m : Sched) : Sched
  | three (i : Nat) (n : Sched) (j : Nat) (m : Sched) (k : Nat) (l : Sched) : Sched
def Sched.depth : Sched → Nat
  | .done=>0
  | .loose _ n=>n.depth + 1
  | .one _ n=>n.depth + 1
  | .two _ n _ m=>max n.depth m.depth + 1
  | .three _ n _ m _ l=>max (max n.depth m.depth) l.depth + 1
def Sched.ok (md : Region.Mode) (ops : Array Oper) : Sched → Array Bool → Bool
  | .done,listed=>(Region.ready md ops listed).isEmpty
  | .loose i n,listed=>(Region.ready md ops listed).contains i && Region.free md ops listed i && n.ok md ops (listed.setIfInBounds i true)
  | .one i n,listed=>(Region.ready md ops listed == [i]) && n.ok md ops (listed.setIfInBounds i true)
  | .two i n j m,listed=>(Region.ready md ops listed == [i,j]) && n.ok md ops (listed.setIfInBounds i true) && m.ok md ops (listed.setIfInBounds j true)
  | .three i n j m k l,listed=>(Region.ready md ops listed == [i,j,k]) && n.ok md ops (listed.setIfInBounds i true) && m.ok md ops (listed.setIfInBounds j true) && l.ok md ops (listed.setIfInBounds k true)
def mkSched (md : Region.Mode) (cv : Bool) (ops : Array Oper) (skip : List Nat) : Nat → Array Bool → Sched
  | 0,_=>.done
  | f + 1,listed =>
    match (Region.ready md ops listed).find? (fun i=>(!chainAt cv ops i || skip.contains i) && Region.free md ops listed i) with
    | some i=>.loose i (mkSched md cv ops skip f (listed.setIfInBounds i true))
    | none =>
      match Region.ready md ops listed with
      | [i]=>.one i (mkSched md cv ops skip f (listed.setIfInBounds i true))
      | [i,j]=>.two i (mkSched md cv ops skip f (listed.setIfInBounds i true)) j (mkSched md cv ops skip f (listed.setIfInBounds j true))
      | [i,j,k]=>.three i (mkSched md cv ops skip f (listed.setIfInBounds i true)) j (mkSched md cv ops skip f (listed.setIfInBounds j true)) k (mkSched md cv ops skip f (listed.setIfInBounds k true))
      | _=>.done
section
variable {P : Program} {ops : Array Oper} {md : Region.Mode} {S : World → Prop} {cv fb : Bool}
def stepT (P : Program) (ops : Array Oper) (S : World → Prop) (cv fb : Bool) (i : Nat) (K : Act → World → Prop) (a : Act) (w : World) : Prop :=
  match ops[i]? with
  | none=>False
  | some o=>if Region.wanted o (yielded ops a.tmps) then chainOp cv o = true ∧ chainRes P (cls ops S fb i) (fun v w'=>K (a.put o.dst v) w') ((execOp a.eval o).run P w) else K (a.put o.dst undef) w
def wpT0 (P : Program) (ops : Array Oper) (S : World → Prop) (cv fb : Bool) (Q : Act → World → Prop) : Sched → Act → World → Prop
  | .done,a,w=>Q a w
  | .loose i n,a,w =>
    match ops[i]? with
    | none=>False
    | some o=>if Region.wanted o (yielded ops a.tmps) then chainOp cv o = false ∧ ∃ v,(∀ w',S w' → looseRes w' v ((execOp a.eval o).run P w')) ∧ wpT0 P ops S cv fb Q n (a.put o.dst v) w else wpT0 P ops S cv fb Q n (a.put o.dst undef) w
  | .one i n,a,w=>stepT P ops S cv fb i (wpT0 P ops S cv fb Q n) a w
  | .two i n j m,a,w=>stepT P ops S cv fb i (wpT0 P ops S cv fb Q n) a w ∧ stepT P ops S cv fb j (wpT0 P ops S cv fb Q m) a w
  | .three i n j m k l,a,w=>stepT P ops S cv fb i (wpT0 P ops S cv fb Q n) a w ∧ stepT P ops S cv fb j (wpT0 P ops S cv fb Q m) a w ∧ stepT P ops S cv fb k (wpT0 P ops S cv fb Q l) a w
theorem stepT_lx {i : Nat} {K K' : Act → World → Prop} {a : Act} {w : World} (hS : S w) (hk : ∀ a w,cls ops S fb i w → K a w → K' a w) (h : stepT P ops S cv fb i K a w) : lxOp P ops S cv fb i K' a w:=by
  unfold stepT at h;unfold lxOp;split at h
  · exact h.elim
  · rename_i o ho
    simp only [ho];split at h
    · rename_i hw
      rw [if_pos hw,if_pos h.1];exact chainRes_mono (fun v w' hs hk'=>hk _ _ hs hk') h.2
    · rename_i hw
      rw [if_neg hw];exact hk _ _ (.inl hS) h
theorem wpAnyX_tree {Q : Act → World → Prop} (hs : Region.noSelect ops = true) : ∀ (T : Sched) (fuel : Nat) (listed : Array Bool) (a : Act) (w : World),EndInv md ops fb listed → (S w ∨ (fb = true ∧ Region.ready md ops listed = [])) →
    T.ok md ops listed = true → T.depth ≤ fuel → wpT0 P ops S cv fb Q T a w → wpAnyX P md ops S cv fb Q fuel listed a w:=by
  have after : ∀ {i : Nat} {listed : Array Bool} {w' : World},EndInv md ops fb listed → i ∈ Region.ready md ops listed → cls ops S fb i w' → S w' ∨ (fb = true ∧ Region.ready md ops (listed.setIfInBounds i true) = []):=by
    intro i listed w' hI hi hc;rcases hc with hc | ⟨hfb,he⟩
    · exact .inl hc
    · right
      refine ⟨hfb,?_⟩;rcases ((hI.set hi).inv hfb).2 with h1 | h1
      · exfalso
        have:=h1.tail i (by omega) (by omega);have hsz : i < (listed.setIfInBounds i true).size:=by rw [h1.size];omega
        have hsz' : i < listed.size:=by simpa using hsz
        simp [hsz'] at this
      · exact h1
  have nonempty : ∀ {i : Nat} {listed : Array Bool} {w : World},i ∈ Region.ready md ops listed → (S w ∨ (fb = true ∧ Region.ready md ops listed = [])) → S w:=by
    intro i listed w hi h;rcases h with h | ⟨_,h⟩
    · exact h
    · rw [h] at hi;cases hi
  intro T;induction T with
  | done =>
    intro fuel listed a w _ _ hok _ h;have h0 : Region.ready md ops listed = []:=by simpa [Sched.ok] using hok
    cases fuel with
    | zero=>exact ⟨h0,h⟩
    | succ f=>exact ⟨fun _=>h,fun i hi=>by rw [h0] at hi;cases hi⟩
  | loose i n ih =>
    intro fuel listed a w hI hSw hok hd h;simp only [Sched.ok,Bool.and_eq_true] at hok;obtain ⟨⟨hr,hf⟩,hn⟩:=hok;have hr' : i ∈ Region.ready md ops listed:=by simpa using hr
    have hS:=nonempty hr' hSw;cases fuel with
    | zero=>simp [Sched.depth] at hd
    | succ f =>
      have hd' : n.depth ≤ f:=by simp [Sched.depth] at hd;omega
      unfold wpT0 at h;split at h
      · exact h.elim
      · rename_i o ho
        split at h
        · rename_i hw
          obtain ⟨hc,v,hv,hk⟩:=h;exact X_first_loose ho (Region.noSelect_spec hs) f listed a w hI hS (Region.free_spec ho hf) hr' (.inl ⟨hw,hc,hv⟩) (ih f _ _ w (hI.set hr') (.inl hS) hn hd' hk)
        · rename_i hw
          exact X_first_loose ho (Region.noSelect_spec hs) f listed a w hI hS (Region.free_spec ho hf) hr' (.inr ⟨by simpa using hw,rfl⟩) (ih f _ _ w (hI.set hr') (.inl hS) hn hd' h)
  | one i n ih =>
    intro fuel listed a w hI hSw hok hd h;simp only [Sched.ok,Bool.and_eq_true,beq_iff_eq] at hok;obtain ⟨hr,hn⟩:=hok;have hr' : i ∈ Region.ready md ops listed:=by rw [hr];simp
    have hS:=nonempty hr' hSw;cases fuel with
    | zero=>simp [Sched.depth] at hd
    | succ f =>
      have hd' : n.depth ≤ f:=by simp [Sched.depth] at hd;omega
      refine ⟨fun h0=>(by rw [hr] at h0;cases h0),fun x hx=>?_⟩;have hx':=hx;rw [hr] at hx';obtain rfl : x = i:=by simpa using hx'
      exact stepT_lx hS (fun a' w' hc hk=>ih f _ a' w' (hI.set hx) (after hI hx hc) hn hd' hk) h
  | two i n j m ih1 ih2 =>
    intro fuel listed a w hI hSw hok hd h;simp only [Sched.ok,Bool.and_eq_true,beq_iff_eq] at hok;obtain ⟨⟨hr,hn⟩,hm⟩:=hok;have hS:=nonempty (i:=i) (by rw [hr];simp) hSw;cases fuel with
    | zero=>simp [Sched.depth] at hd
    | succ f =>
      have hd1 : n.depth ≤ f:=by simp [Sched.depth] at hd;omega
      have hd2 : m.depth ≤ f:=by simp [Sched.depth] at hd;omega
      refine ⟨fun h0=>(by rw [hr] at h0;cases h0),fun x hx=>?_⟩;have hx':=hx;rw [hr] at hx';rcases List.mem_cons.1 hx' with rfl | hx'
      · exact stepT_lx hS (fun a' w' hc hk=>ih1 f _ a' w' (hI.set hx) (after hI hx hc) hn hd1 hk) h.1
      · obtain rfl : x = j:=by simpa using hx'
        exact stepT_lx hS (fun a' w' hc hk=>ih2 f _ a' w' (hI.set hx) (after hI hx hc) hm hd2 hk) h.2
  | three i n j m k l ih1 ih2 ih3 =>
    intro fuel listed a w hI hSw hok hd h;simp only [Sched.ok,Bool.and_eq_true,beq_iff_eq] at hok;obtain ⟨⟨⟨hr,hn⟩,hm⟩,hl⟩:=hok;have hS:=nonempty (i:=i) (by rw [hr];simp) hSw;cases fuel with
    | zero=>simp [Sched.depth] at hd
    | succ f =>
      have hd1 : n.depth ≤ f:=by simp [Sched.depth] at hd;omega
      have hd2 : m.depth ≤ f:=by simp [Sched.depth] at hd;omega
      have hd3 : l.depth ≤ f:=by simp [Sched.depth] at hd;omega
      refine ⟨fun h0=>(by rw [hr] at h0;cases h0),fun x hx=>?_⟩;have hx':=hx;rw [hr] at hx';rcases List.mem_cons.1 hx' with rfl | hx'
      · exact stepT_lx hS (fun a' w' hc hk=>ih1 f _ a' w' (hI.set hx) (after hI hx hc) hn hd1 hk) h.1
      · rcases List.mem_cons.1 hx' with rfl | hx'
        · exact stepT_lx hS (fun a' w' hc hk=>ih2 f _ a' w' (hI.set hx) (after hI hx hc) hm hd2 hk) h.2.1
        · obtain rfl : x = k:=by simpa using hx'
          exact stepT_lx hS (fun a' w' hc hk=>ih3 f _ a' w' (hI.set hx) (after hI hx hc) hl hd3 hk) h.2.2
structure wpTx (P : Program) (ops : Array Oper) (S : World → Prop) (cv fb : Bool) (Q : Act → World → Prop) (T : Sched) (a : Act) (w : World) : Prop where
  out : wpT0 P ops S cv fb Q T a w
theorem wp_region_tree {id : Nat} {Q : Exit → Act → World → Prop} {a : Act} {w : World} {ops : Array Oper} (T : Sched) (S : World → Prop) (cv : Bool) (hm : P.follows .mixedOrders = true) (hs : Region.noSelect ops = true) (hT : T.ok .any ops (Array.replicate ops.size false) = true) (hd : Nat.ble T.depth ops.size = true) (hS : S w.drew)
    (h : wpTx P ops S cv false (fun a' w'=>S w' → Q .normal a' w') T a w.drew) : (Code.region id ops true).wp P Q a w:=by
  have hI : EndInv .any ops false (Array.replicate ops.size false):=⟨by simp⟩
  exact wp_region_any hm (wpAny_of_X (S:=S) (cv:=cv) (fb:=false) (Q:=fun a' w'=>S w' → Q .normal a' w') (fun _ w' hw' h=>h (hw'.elim (fun h=>h) (by simp))) _ _ _ _ hI (.inl hS)
    (wpAnyX_tree (md:=.any) hs T _ _ a w.drew hI (.inl hS) hT (Nat.le_of_ble_eq_true hd) h.out))
theorem wp_region_treef {id : Nat} {Q : Exit → Act → World → Prop} {a : Act} {w : World} {ops : Array Oper} (T : Sched) (S : World → Prop) (cv : Bool) (hm : P.follows .mixedOrders = true) (hs : Region.noSelect ops = true) (hT : T.ok .any ops (Array.replicate ops.size false) = true) (hd : Nat.ble T.depth ops.size = true) (hE : endB .any ops = true) (hS : S w.drew)
    (h : wpTx P ops S cv true (fun a' w'=>Q .normal a' w') T a w.drew) : (Code.region id ops true).wp P Q a w:=by
  have hI : EndInv .any ops true (Array.replicate ops.size false):=⟨fun _=>⟨hE,.inl ⟨by simp,fun j oj _ hj=>(by rw [getD_replicate_false] at hj;cases hj),fun t ht hts=>by simp [hts]⟩⟩⟩
  exact wp_region_any hm (wpAny_of_X (S:=S) (cv:=cv) (fb:=true) (Q:=fun a' w'=>Q .normal a' w') (fun _ w' _ h=>h) _ _ _ _ hI (.inl hS)
    (wpAnyX_tree (md:=.any) hs T _ _ a w.drew hI (.inl hS) hT (Nat.le_of_ble_eq_true hd) h.out))
variable {Q : Act → World → Prop} {a : Act} {w : World} {o : Oper} {i j k : Nat} {n m l : Sched}
theorem wpTx_done (h : Q a w) : wpTx P ops S cv fb Q .done a w:=⟨h⟩
theorem wpTx_loose (ho' : nthL ops.toList i = some o) (hc : chainOp cv o = false)
    (h : ∀ K : Act → Prop,(∀ a,wpTx P ops S cv fb Q n a w → K a) → if Region.wanted o (yielded ops a.tmps) then (∃ v,(∀ x : Subtype S,looseRes x.1 v ((execOp a.eval o).run P x.1)) ∧ K (a.put o.dst v)) else K (a.put o.dst undef)) : wpTx P ops S cv fb Q (.loose i n) a w:=by
  have ho:=nthL_ops ho';have:=h _ (fun _ h=>h);refine ⟨?_⟩;unfold wpT0;simp only [ho];split
  · rename_i hw
    rw [if_pos hw] at this;obtain ⟨v,hv,hk⟩:=this;exact ⟨hc,v,fun w' hs=>hv ⟨w',hs⟩,hk.out⟩
  · rename_i hw;rw [if_neg hw] at this;exact this.out
theorem wpTx_one (hS : S w) (ho' : nthL ops.toList i = some o) (hc : chainOp cv o = true)
    (h : ∀ K : Act → World → Prop,(∀ a w,wpTx P ops S cv fb Q n a w → K a w) → if Region.wanted o (yielded ops a.tmps) then chainRes P S (fun v w'=>K (a.put o.dst v) w') ((execOp a.eval o).run P w) else K (a.put o.dst undef) w) : wpTx P ops S cv fb Q (.one i n) a w:=by
  have ho:=nthL_ops ho';have:=h _ (fun _ _ h=>h);refine ⟨?_⟩;unfold wpT0 stepT;simp only [ho];split
  · rename_i hw;rw [if_pos hw] at this;exact ⟨hc,chainRes_weaken (fun _ h=>.inl h) (fun _ _ _ h=>h.out) this⟩
  · rename_i hw;rw [if_neg hw] at this;exact this.out
theorem wpTx_two (h1 : wpTx P ops S cv fb Q (.one i n) a w) (h2 : wpTx P ops S cv fb Q (.one j m) a w) : wpTx P ops S cv fb Q (.two i n j m) a w:=⟨⟨h1.out,h2.out⟩⟩
theorem wpTx_end (ho' : nthL ops.toList i = some o) (hc : chainOp cv o = true) (hi : (i + 1 == ops.size) = true)
    (h : ∀ K : Act → World → Prop,(∀ a w,Q a w → K a w) → if Region.wanted o (yielded ops a.tmps) then chainRes P (fun _=>True) (fun v w'=>K (a.put o.dst v) w') ((execOp a.eval o).run P w) else K (a.put o.dst undef) w) : wpTx P ops S cv true Q (.one i .done) a w:=by
  have ho:=nthL_ops ho';have:=h _ (fun _ _ h=>h);refine ⟨?_⟩;unfold wpT0 stepT;simp only [ho];split
  · rename_i hw;rw [if_pos hw] at this;exact ⟨hc,chainRes_weaken (fun _ _=>.inr ⟨rfl,beq_iff_eq.1 hi⟩) (fun _ _ _ h=>h) this⟩
  · rename_i hw;rw [if_neg hw] at this;exact this
end
end
section
open Go.RowKit
def slS (T : TypeId) (x : Value) (lo hi mx : Option Value) : Sem Value:=Instr.sliceAt T x lo hi mx
section
variable {P : Program} {T E : TypeId} {k bytes : Nat}
theorem ElemInfo.sizeOf_run (I : ElemInfo P T E k bytes) (w : World) : (Go.sizeOf E).run P w = .ok k w:=by
  obtain ⟨i,z,hi,hz,hsz,hby,hzs⟩:=I.info;simp [Go.sizeOf,typeInfo,hi,hsz]
theorem run_bound (w : World) (m cap : Nat) (hm : m ≤ cap) (c : BoundsCode) : (Instr.sliceBound (.int .i64 m) cap c).run P w = .ok m w:=by
  unfold Instr.sliceBound;have h1 : (asIntOf (.int .i64 (m : Int))).run P w = .ok (.i64,(m : Int)) w:=rfl;simp only [Sem.run_bind,h1,Result.andThen_ok];rw [if_pos ⟨by omega,by omega⟩]
  simp
theorem run_slS (I : ElemInfo P T E k bytes) (w : World) (x : Value) (lo hi mx : Option Value) : (slS T x lo hi mx).run P w = (Instr.slice T x lo hi mx).run P w:=by
  unfold slS;simp [Instr.sliceAt,run_underlying I.und]
theorem run_slS_lo (I : ElemInfo P T E k bytes) (w : World) (A : Option Addr) (n cap m : Nat) (hm : m ≤ cap) :
    (slS T (.slice A n cap) none (some (.int .i64 m)) none).run P w = .ok (.slice A m cap) w:=by
  rw [run_slS I];unfold Instr.slice Instr.sliceBounds;simp only [Sem.run_bind,run_underlying I.und,Result.andThen_ok,Sem.run_pure,run_bound w m cap hm,I.sizeOf_run w];have e : (if cap = 0 then A else A.map fun a=>a.add (0 * k)) = A:=by
    split
    · rfl
    · cases A with
      | none=>rfl
      | some a=>simp [Addr.add]
  simp only [Nat.sub_zero,e]
theorem run_slS_hi (I : ElemInfo P T E k bytes) (w : World) (A : Option Addr) (n cap m : Nat) (hm : m ≤ n) (hc : n ≤ cap) (hA : A = none → cap = 0) (hsp : ∀ a,A = some a → a.spot = none) :
    ∃ A2 c2,(slS T (.slice A n cap) (some (.int .i64 m)) none none).run P w = .ok (.slice A2 (n - m) c2) w ∧ (∀ (w' : World) (L : List (Array Value)),SlR w' A n k L → SlR w' A2 (n - m) k (L.drop m)) ∧ (A2 = none → c2 = 0):=by
  refine ⟨if cap = m then A else A.map fun a=>a.add (m * k),cap - m,?_,?_,?_⟩
  · rw [run_slS I];unfold Instr.slice Instr.sliceBounds;simp only [Sem.run_bind,run_underlying I.und,Result.andThen_ok,Sem.run_pure,run_bound w m n hm,I.sizeOf_run w,Option.isSome_none,Bool.false_eq_true,if_false]
  · intro w' L hL;by_cases hcm : cap = m
    · have : n - m = 0:=by omega
      rw [this];exact ⟨by rw [List.length_drop,hL.1];omega,fun h=>absurd h (by omega)⟩
    · rw [if_neg hcm];cases A with
      | none=>exact absurd (hA rfl) (by omega)
      | some a =>
        obtain ⟨g,o,sp⟩:=a;have : sp = none:=hsp _ rfl;subst this;have e : (⟨g,o,none⟩ : Addr).add (m * k) = ⟨g,o + m * k,none⟩:=by unfold Addr.add;split <;> simp_all
        simp only [Option.map_some,e];exact hL.drop_ hm
  · intro h;by_cases hcm : cap = m
    · omega
    · rw [if_neg hcm] at h;cases A with
      | none=>have:=hA rfl;omega
      | some a=>cases h
theorem Own.hi (I : ElemInfo P T E k bytes) {w : World} {B : Nat} {A : Option Addr} {n cap : Nat} {L : List (Array Value)} (h : Own w B E k A n cap L) {m : Nat} (hm : m ≤ n) :
    ∃ A2 c2,(∀ w0 : World,(slS T (.slice A n cap) (some (.int .i64 m)) none none).run P w0 = .ok (.slice A2 (n - m) c2) w0) ∧ (∀ w' : World,SlR w' A n k L → SlR w' A2 (n - m) k (L.drop m)) ∧ (A2 = none → c2 = 0):=by
  have hA:=h.cap_le;have hsp : ∀ a,A = some a → a.spot = none:=fun a e=>by
    rcases h.addr with e' | ⟨g,e'⟩
    · rw [e'] at e;cases e
    · rw [e'] at e;injection e with e;rw [← e]
  obtain ⟨A2,c2,h1,h2,h3⟩:=run_slS_hi (P:=P) I w A n cap m hm hA.1 (fun e=>(hA.2 e).2) hsp;refine ⟨A2,c2,fun w0=>?_,fun w' hw=>h2 w' L hw,h3⟩;obtain ⟨A3,c3,k1,_,_⟩:=run_slS_hi (P:=P) I w0 A n cap m hm hA.1 (fun e=>(hA.2 e).2) hsp;rw [run_slS I] at h1 k1 ⊢;unfold Instr.slice Instr.sliceBounds at h1 k1 ⊢;simp only [Sem.run_bind,run_underlying I.und,Result.andThen_ok,Sem.run_pure,run_bound _ m n hm,I.sizeOf_run,Option.isSome_none,Bool.false_eq_true,if_false] at h1 ⊢;injection h1 with h1 _
  rw [h1]
end
theorem Tx_rows {P : Program} {ops : Array Oper} {S : World → Prop} {cv fb : Bool} {Q : Act → World → Prop} {a : Act} {w : World} {i : Nat} {nx : Sched} {dst : Option Tmp} {s x : Operand} {ty : TypeId} {pos : String} {after : Array Edge} {T E : TypeId} {k bytes : Nat} (I : ElemInfo P T E k bytes)
    (ho' : nthL ops.toList i = some { dst:=dst,op:=.call { callee:=.builtin .append,args:=#[s,x],argTypes:=#[T,T] },type:=ty,pos:=pos,after:=after,guard:=none })
    {B : Nat} {A : Option Addr} {n cap : Nat} {L : List (Array Value)} (hs : a.eval s = .slice A n cap) (hown : Own w B E k A n cap L)
    {A2 : Option Addr} {m c : Nat} {R : List (Array Value)} (hx : a.eval x = .slice A2 m c) (hsrc : SlR w A2 m k R) (hform : A2 = none → c = 0) (hone : ∀ r ∈ R,∀ u ∈ r.toList,u.oneCell' = true) (hbytes : (n + m) * bytes ≤ 140737488355328) (hn : n + m ≤ 9223372036854775807) (hB : B ≤ w.heap.size)
    (h : ∀ A' cap' w',Own w' B E k A' (n + m) cap' (L ++ R) → Keep (blk A) w w' → (∀ x ∈ blk A',x ∈ blk A ∨ w.heap.size ≤ x) → S w' ∧ wpTx P ops S cv fb Q nx (a.put dst (.slice A' (n + m) cap')) w') :
    wpTx P ops S cv fb Q (.one i nx) a w:=by
  obtain ⟨A',cap',w',hrun,h1,h2,h3⟩:=append_rows I hown hsrc hform hone hbytes hn hB ty;obtain ⟨k1,k2⟩:=h A' cap' w' h1 h2 h3;have ho:=nthL_ops ho';refine ⟨?_⟩;unfold wpT0 stepT;simp only [ho];rw [if_pos (by rfl)];rw [exec_append a.eval hs hx hrun];exact ⟨rfl,.inl k1,k2.out⟩
theorem Tx_append {P : Program} {ops : Array Oper} {S : World → Prop} {cv fb : Bool} {Q : Act → World → Prop} {a : Act} {w : World} {i : Nat} {nx : Sched} {dst : Option Tmp} {s x : Operand} {ty : TypeId} {pos : String} {after : Array Edge} {T E : TypeId} {k bytes : Nat} (I : ElemInfo P T E k bytes)
    (ho' : nthL ops.toList i = some { dst:=dst,op:=.call { callee:=.builtin .append,args:=#[s,x],argTypes:=#[T,T] },type:=ty,pos:=pos,after:=after,guard:=none })
    {B : Nat} {A : Option Addr} {n cap : Nat} {L : List (Array Value)} (hs : a.eval s = .slice A n cap) (hown : Own w B E k A n cap L)
    {q o c : Nat} {cs : Array Value} (hx : a.eval x = .slice (some ⟨q,o,none⟩) 1 c) (hrow : rowAt w q o k = some cs) (hone : ∀ u ∈ cs.toList,u.oneCell' = true) (hbytes : (n + 1) * bytes ≤ 140737488355328) (hn : n + 1 ≤ 9223372036854775807) (hB : B ≤ w.heap.size)
    (h : ∀ A' cap' w',Own w' B E k A' (n + 1) cap' (L ++ [cs]) → Keep (blk A) w w' → (∀ x ∈ blk A',x ∈ blk A ∨ w.heap.size ≤ x) → S w' ∧ wpTx P ops S cv fb Q nx (a.put dst (.slice A' (n + 1) cap')) w') :
    wpTx P ops S cv fb Q (.one i nx) a w:=by
  obtain ⟨A',cap',w',hrun,h1,h2,h3⟩:=append_one I hown (c:=c) hrow hone hbytes hn hB ty;obtain ⟨k1,k2⟩:=h A' cap' w' h1 h2 h3;have ho:=nthL_ops ho';refine ⟨?_⟩;unfold wpT0 stepT;simp only [ho];rw [if_pos (by rfl)];rw [exec_append a.eval hs hx hrun];exact ⟨rfl,.inl k1,k2.out⟩
end
section
open Go.RowKit
structure SlW (w : World) (A : Option Addr) (n cap k : Nat) (L : List (Array Value)) : Prop where
  rd : SlR w A n k L
  le : n ≤ cap
  nil : A = none → cap = 0
  plain : ∀ a,A = some a → a.spot = none
section
variable {P : Program} {T E : TypeId} {k bytes : Nat} {w w' : World} {A : Option Addr} {n cap : Nat} {L : List (Array Value)}
theorem SlW.none_ : SlW w none 0 0 k []:=⟨SlR.nil_,Nat.le_refl _,fun _=>rfl,fun a e=>by cases e⟩
theorem SlW.kept {S : List Nat} (h : SlW w A n cap k L) (hk : Keep S w w') (hn : ∀ x ∈ blk A,x ∉ S) : SlW w' A n cap k L:=⟨h.rd.kept hk hn,h.le,h.nil,h.plain⟩
theorem SlW.below (h : SlW w A n cap k L) (hb : Below w.heap.size w w') : SlW w' A n cap k L:=⟨h.rd.below hb,h.le,h.nil,h.plain⟩
theorem SlW.len (h : SlW w A n cap k L) : L.length = n:=h.rd.1
theorem Own.slw {B : Nat} (h : Own w B E k A n cap L) : SlW w A n cap k L:=by
  have hA:=h.cap_le;refine ⟨h.slr,hA.1,fun e=>(hA.2 e).2,fun a e=>?_⟩;rcases h.addr with e' | ⟨g,e'⟩
  · rw [e'] at e;cases e
  · rw [e'] at e;injection e with e;rw [← e]
theorem SlW.lo (I : ElemInfo P T E k bytes) (h : SlW w A n cap k L) {m : Nat} (hm : m ≤ n) (w0 : World) : (slS T (.slice A n cap) none (some (.int .i64 m)) none).run P w0 = .ok (.slice A m cap) w0 :=
  run_slS_lo I w0 A n cap m (Nat.le_trans hm h.le)
theorem SlW.hi (I : ElemInfo P T E k bytes) (h : SlW w A n cap k L) {m : Nat} (hm : m ≤ n) :
    ∃ A2 c2,(∀ w0 : World,(slS T (.slice A n cap) (some (.int .i64 m)) none none).run P w0 = .ok (.slice A2 (n - m) c2) w0) ∧ (∀ w' : World,SlR w' A n k L → SlR w' A2 (n - m) k (L.drop m)) ∧ (A2 = none → c2 = 0):=by
  obtain ⟨A2,c2,h1,h2,h3⟩:=run_slS_hi (P:=P) I w A n cap m hm h.le h.nil h.plain;refine ⟨A2,c2,fun w0=>?_,fun w' hw=>h2 w' L hw,h3⟩;obtain ⟨A3,c3,k1,_,_⟩:=run_slS_hi (P:=P) I w0 A n cap m hm h.le h.nil h.plain;rw [run_slS I] at h1 k1 ⊢;unfold Instr.slice Instr.sliceBounds at h1 k1 ⊢;simp only [Sem.run_bind,run_underlying I.und,Result.andThen_ok,Sem.run_pure,run_bound _ m n hm,I.sizeOf_run,Option.isSome_none,Bool.false_eq_true,if_false] at h1 ⊢;injection h1 with h1 _
  rw [h1]
end
end
section
open Go.RowKit
structure SNode where
  h : Int
  ref : Id32
  val : ByteArray
def sNodeC (x : SNode) : Array Value:=#[.int .i64 x.h] ++ idC x.ref ++ #[.string x.val]
def sNode0 : SNode:=⟨0,id0,⟨#[]⟩⟩
theorem SNode_ext {x y : SNode} (h : x.h = y.h ∧ x.ref = y.ref ∧ x.val = y.val) : x = y:=by cases x;cases y;simp_all
instance : DecidableEq SNode:=fun x y=>if h : x.h = y.h ∧ x.ref = y.ref ∧ x.val = y.val then isTrue (SNode_ext h) else isFalse (fun e=>h (by subst e;simp))
@[go_sem ↓] theorem loadSNode_rw (a : Addr) : loadVar 193 a = ldS 193 a:=rfl
@[go_sem ↓] theorem storeSNode_rw (a : Addr) (v : Value) : storeVar 193 a v = stS 193 a v:=rfl
@[go_sem ↓] theorem buildSNode_rw (parts : Array (Nat × Value)) : Instr.build 193 parts = bdS 193 parts:=rfl
def nodeVV (x : SNode) : Value:=.agg (sNodeC x)
def snode (n : NodeV) : SNode:=⟨n.h,n.ref,n.val⟩
structure Sl where
  A : Option Addr
  n : Nat
  c : Nat
def slV (s : Sl) : Value:=.slice s.A s.n s.c
structure SeqAt (w : World) (M : List Nat) (g bn bb bg : Nat) (N : List NodeV) (G : List Id32) : Prop where
  blk : w.heap[g]? = some (.cells #[.map (some bn),.map (some bb),.map (some bg)] 191 (0,0))
  nodes : ∃ es clk,MapAt w bn idV nodeVV okId (N.map fun n=>(n.id,snode n)) es clk
  behind : ∃ BM es clk,MapAt w bb idV slV okId BM es clk ∧ (∀ p ∈ BM,SlW w p.2.A p.2.n p.2.c 32 (((kids N p.1).map NodeV.id).map idC) ∧ ∀ x ∈ Go.Proofs.YtgfpjjppeldhbaaGreatDoor.blk p.2.A,x ∉ M ∧ x < w.heap.size) ∧ ∀ r,r ∉ BM.map (·.1) → kids N r = []
  gone : IdSet w bg G
  inM : bn ∈ M ∧ bb ∈ M ∧ bg ∈ M
  ne : bn ≠ bb ∧ bn ≠ bg ∧ bb ≠ bg
  one : OneId N
  ok : ∀ n ∈ N,nodeE n = 0
section
variable {w w' : World} {M : List Nat} {g bn bb bg : Nat} {N : List NodeV} {G : List Id32}
end
theorem hahead (ah : Int) (a : Id32) (bh : Int) (b : Id32) (w : World) :
    Calls Tryz.prog 113 #[.int .i64 ah,.agg (idC a),.int .i64 bh,.agg (idC b)] w fun e w'=>e = .returned (.bool (aheadB ah a bh b)) ∧ Below w.heap.size w w':=by
  have hB : Below w.heap.size w ((w.alloc (.cells (idC a) 39)).alloc (.cells (idC b) 39)):=((Below.refl _ _).alloc (Nat.le_refl _) _).alloc (by simp) _;have hA : aheadB ah a bh b = if ah = bh then decide (cmpId a b < 0) else decide (ah < bh):=rfl;have HA:=Lib.hid hA;clear hA;by_cases h : ah = bh
  · subst h;go_enter Tryz.func113,Tryz.ntmps113
    (go_wp2_with fail);refine (cmp_id a b _).mono ?_;rintro e w1 ⟨rfl,hb1⟩;have hbb:=bel2 hB hb1;clear hB hb1;(go_wp2_with fail);go_ret;exact ⟨ret_bool (by rw [HA.out];simp),hbb⟩
  · have hn : (ah != bh) = true:=by simpa using h
    have hn2 : (ah == bh) = false:=by simpa using h
    have Hh:=Lib.hid h;clear h;go_enter Tryz.func113,Tryz.ntmps113
    (go_wp2_with fail);go_ret;exact ⟨ret_bool (by rw [HA.out,if_neg Hh.out]),hB⟩
end
section
open Go.RowKit Go.Shelf
end
section
open Go.RowKit
theorem mem_putL {κ ν : Type} [DecidableEq κ] {M : List (κ × ν)} {k : κ} {v : ν} {p : κ × ν} (h : p ∈ putL M k v) : p = (k,v) ∨ (p ∈ M ∧ p.1 ≠ k):=by
  unfold putL at h;split at h
  · obtain ⟨q,hq,rfl⟩:=List.mem_map.1 h;split
    · exact .inl rfl
    · rename_i hne;exact .inr ⟨hq,hne⟩
  · rename_i hno
    rcases List.mem_append.1 h with h | h
    · exact .inr ⟨h,fun e=>hno (List.mem_map.2 ⟨p,h,e⟩)⟩
    · exact .inl (by simpa using h)
theorem keys_putL {κ ν : Type} [DecidableEq κ] {M : List (κ × ν)} {k r : κ} {v : ν} (h : r ∉ (putL M k v).map (·.1)) : r ∉ M.map (·.1) ∧ r ≠ k:=by
  unfold putL at h;split at h
  · rename_i hin
    have e : (M.map fun p=>if p.1 = k then (k,v) else p).map (·.1) = M.map (·.1):=by
      rw [List.map_map];refine List.map_congr_left fun p _=>?_;simp only [Function.comp_apply];split
      · rename_i h;exact h.symm
      · rfl
    rw [e] at h;exact ⟨h,fun e=>h (by rw [e];exact hin)⟩
  · rw [List.map_append,List.mem_append] at h;exact ⟨fun h1=>h (.inl h1),fun e=>h (.inr (by simp [e]))⟩
@[go_sem ↓] theorem slIdC_rw (x : Value) (lo hi mx : Option Value) : Instr.sliceAt 50 x lo hi mx = slS 50 x lo hi mx:=rfl
@[go_sem ↓] theorem bsIds3_run (w : World) (A B C : Option Addr) (n m k a b c : Nat) : (Instr.buildSlice 370 3 #[(0,.slice A n a),(1,.slice B m b),(2,.slice C k c)]).run Tryz.prog w = .ok (.slice (some ⟨w.heap.size,0,none⟩) 3 3) (w.alloc (.cells #[.slice A n a,.slice B m b,.slice C k c] 50)):=by kernel_rfl
end
section
open Go.RowKit
def addN (N : List NodeV) (n : NodeV) : List NodeV:=if nodeE n = 0 then (if n.id ∈ N.map NodeV.id then N else N ++ [n]) else N
@[go_sem] theorem zeroNode_run (w : World) : (zeroValue 193).run Tryz.prog w = .ok (.agg (sNodeC sNode0)) w:=by kernel_rfl
end
section
open Go.RowKit
end
section
open Go.RowKit
end
section
open Go.RowKit
end
section
open Go.RowKit
end
section
open Go.RowKit
end
section
open Go.RowKit
structure Pair where
  key : ByteArray
  val : ByteArray
def pairC (x : Pair) : Array Value:=#[.string x.key] ++ #[.string x.val]
@[simp] theorem pairC_size (x : Pair) : (pairC x).size = 2:=by simp [pairC]
@[go_sem] theorem pairC_g0 (x : Pair) : (pairC x)[0]? = some (.string x.key):=by first | (simp [pairC,Array.getElem?_append];done) | (rw [show pairC x = ((#[] : Array Value)) ++ #[.string x.key] ++ (#[.string x.val]) from by apply Array.ext';simp [pairC]];exact arr_at _ _ _ _ (by simp))
@[go_sem] theorem pairC_gg0 (x : Pair) (h : 0 < (pairC x).size) : (pairC x)[0]'h = .string x.key:=Option.some.inj ((Array.getElem?_eq_getElem h).symm.trans (pairC_g0 x))
@[go_sem] theorem pairC_g1 (x : Pair) : (pairC x)[1]? = some (.string x.val):=by first | (simp [pairC,Array.getElem?_append];done) | (rw [show pairC x = (#[.string x.key]) ++ #[.string x.val] ++ ((#[] : Array Value)) from by apply Array.ext';simp [pairC]];exact arr_at _ _ _ _ (by simp))
@[go_sem] theorem pairC_gg1 (x : Pair) (h : 1 < (pairC x).size) : (pairC x)[1]'h = .string x.val:=Option.some.inj ((Array.getElem?_eq_getElem h).symm.trans (pairC_g1 x))
@[go_sem] theorem pairC_all (x : Pair) : (pairC x).extract 0 2 = pairC x:=by have:=Array.extract_size (xs:=pairC x);rwa [pairC_size] at this
theorem pairC_one (x : Pair) : ∀ u ∈ (pairC x).toList,u.oneCell' = true:=by
  intro u hu;simp only [pairC,Array.toList_append,List.mem_append] at hu;rcases hu with hu | hu
  · simp at hu;subst hu;rfl
  · simp at hu;subst hu;rfl
def pair0 : Pair:=⟨⟨#[]⟩,⟨#[]⟩⟩
theorem Pair_ext {x y : Pair} (h : x.key = y.key ∧ x.val = y.val) : x = y:=by cases x;cases y;simp_all
instance : DecidableEq Pair:=fun x y=>if h : x.key = y.key ∧ x.val = y.val then isTrue (Pair_ext h) else isFalse (fun e=>h (by subst e;simp))
theorem infoPair : (Tryz.prog.info? 98).map (·.size) = some 2:=by kernel_rfl
@[go_sem ↓] theorem zeroPair_run (w : World) : (zeroValue 98).run Tryz.prog w = .ok (.agg (pairC pair0)) w:=by
  have h : (Tryz.prog.info? 98).bind (·.zero) = some (.agg (pairC pair0)):=by kernel_rfl
  cases hi : Tryz.prog.info? 98 with
  | none=>rw [hi] at h;cases h
  | some i =>
    rw [hi] at h;have hz : i.zero = some (.agg (pairC pair0)):=h;simp [zeroValue,typeInfo,hi,hz]
@[go_sem ↓] theorem loadPair_rw (a : Addr) : loadVar 98 a = ldS 98 a:=rfl
@[go_sem ↓] theorem storePair_rw (a : Addr) (v : Value) : storeVar 98 a v = stS 98 a v:=rfl
@[go_sem] theorem loadPair_run (w : World) (g o : Nat) : (ldS 98 ⟨g,o,none⟩).run Tryz.prog w = match rowAt w g o 2 with | some cs=>.ok (.agg cs) w | none=>(loadVar 98 ⟨g,o,none⟩).run Tryz.prog w :=
  run_ldS Tryz.underlying98 rfl infoPair w g o
@[go_sem] theorem storePair_run (w : World) (g : Nat) (hg : g = w.heap.size) (z : Array Value) (hz : z.size = 2) (x : Pair) (e : TypeId) : (stS 98 ⟨g,0,none⟩ (.agg (pairC x))).run Tryz.prog (w.alloc (.cells z e)) = .ok () (w.alloc (.cells (pairC x) e)) :=
  hg ▸ run_stS_new infoPair w z (pairC x) hz (pairC_size x) (pairC_one x)
theorem fieldsPair : Tryz.prog.underlying 98 = some (.struct (Tryz.prog.fieldsOf 98)):=by kernel_rfl
theorem placesPair (w : World) : ((Tryz.prog.fieldsOf 98).mapM fun (f : Field)=>do pure (f.offset,← sizeOf f.type)).run Tryz.prog w = .ok #[(0,1),(1,1)] w:=by kernel_rfl
@[go_sem ↓] theorem buildPair_rw (parts : Array (Nat × Value)) : Instr.build 98 parts = bdS 98 parts:=rfl
@[go_sem] theorem buildPair (a0 : ByteArray) (a1 : ByteArray) (w : World) : (bdS 98 #[(0,.string a0),(1,.string a1)]).run Tryz.prog w = .ok (.agg (pairC ⟨a0,a1⟩)) w:=by
  refine run_build w fieldsPair _ (zeroPair_run w) _ (placesPair w) [(0,.string a0),(1,.string a1)] _ ?_;rw [show pairC pair0 = (#[] : Array Value) ++ #[.string ⟨#[]⟩] ++ (#[.string ⟨#[]⟩]) from by first | (simp [pairC,pair0,Array.append_assoc];done) | (apply Array.ext';simp [pairC,pair0])];rw [fill_step (off:=0) (size:=1) rfl (by simp) (by simp) (by simp [Value.cells])];rw [show (#[] : Array Value) ++ (Value.string a0).cells ++ (#[.string ⟨#[]⟩]) = (#[.string a0]) ++ #[.string ⟨#[]⟩] ++ (#[] : Array Value) from by first | (simp [Value.cells,Array.append_assoc];done) | (apply Array.ext';simp [Value.cells];done) | (apply Array.ext';simp only [Array.toList_append];simp [Value.cells])];rw [fill_step (off:=1) (size:=1) rfl (by simp) (by simp) (by simp [Value.cells])];first | (simp [Instr.fill,pairC,Array.append_assoc,Value.cells];done) | (simp only [Instr.fill,pairC];congr 1;apply Array.ext';simp [Value.cells];done) | (simp only [Instr.fill,pairC];congr 1;done) | (simp only [Instr.fill,pairC];done)
@[go_sem] theorem buildPair_0 (a0 : ByteArray) (w : World) : (bdS 98 #[(0,.string a0)]).run Tryz.prog w = .ok (.agg (pairC ⟨a0,⟨#[]⟩⟩)) w:=by
  refine run_build w fieldsPair _ (zeroPair_run w) _ (placesPair w) [(0,.string a0)] _ ?_;rw [show pairC pair0 = (#[] : Array Value) ++ #[.string ⟨#[]⟩] ++ (#[.string ⟨#[]⟩]) from by first | (simp [pairC,pair0,Array.append_assoc];done) | (apply Array.ext';simp [pairC,pair0])];rw [fill_step (off:=0) (size:=1) rfl (by simp) (by simp) (by simp [Value.cells])];first | (simp [Instr.fill,pairC,Array.append_assoc,Value.cells];done) | (simp only [Instr.fill,pairC];congr 1;apply Array.ext';simp [Value.cells];done) | (simp only [Instr.fill,pairC];congr 1;done) | (simp only [Instr.fill,pairC];done)
theorem einfoPair : ElemInfo Tryz.prog 23 98 2 32 :=
  .of (z:=.agg (pairC pair0)) Tryz.underlying23 (by kernel_rfl) (by kernel_rfl) (by kernel_rfl) (pairC_size _) (by omega)
@[go_sem ↓] theorem bsPair_rw (n : Nat) (parts : Array (Nat × Value)) : Instr.buildSlice 23 n parts = bsS 23 n parts:=rfl
@[go_sem] theorem bsPair_run (w : World) (x : Pair) : (bsS 23 1 #[(0,.agg (pairC x))]).run Tryz.prog w = .ok (.slice (some ⟨w.heap.size,0,none⟩) 1 1) (w.alloc (.cells (pairC x) 98)) :=
  run_bsS1 einfoPair (by omega) w (pairC x) (pairC_size x)
end
section
open Go.RowKit
end
section
open Go.RowKit Go.Sort Go.Shelf
section
variable {α : Type} [Inhabited α] {enc : α → Array Value} {k : Nat}
theorem own_holds {w : World} {B : Nat} {E : TypeId} {g n cap : Nat} {L : List α} (hk : 0 < k) (hs : ∀ x,(enc x).size = k) (h : Own w B E k (some ⟨g,0,none⟩) n cap (L.map enc)) :
    HoldsK (fun x=>(enc x).toList) k w g 0 L.toArray:=by
  intro j hj;have hj' : j < L.length * k:=by simpa using hj
  have hi : j / k < L.length:=Nat.div_lt_of_lt_mul (by rw [Nat.mul_comm];exact hj');have hr : j % k < k:=Nat.mod_lt _ hk;have he : j / k * k + j % k = j:=by rw [Nat.mul_comm];exact Nat.div_add_mod j k
  have hl : L.length = n:=by simpa using h.len
  obtain ⟨g',o,e,hrow⟩:=h.slr.at_ (i:=j / k) (by omega);injection e with e
  injection e with e1 e2
  subst e1;subst e2;rw [List.getElem_map] at hrow;have hc:=rowAt_cell hrow hr;rw [Nat.zero_add,he] at hc;refine ⟨?_,?_⟩
  · rw [Nat.zero_add,hc,get_flatK _ _ _ j (by simpa using hj'),getElem!_pos L.toArray (j / k) (by simpa using hi)];have hsz : j % k < (enc L[j / k]).toList.length:=by simpa [hs] using hr
    rw [getElem!_pos _ (j % k) (by simpa using hsz)];simp [hs,hr]
  · obtain ⟨⟨_,h2⟩,_,_⟩:=h;rcases h2 with ⟨h2,_⟩ | ⟨g',c,cur,hv,hb,hg,_⟩
    · cases h2
    · injection hv with hA
      injection hA with hA
      injection hA with hA
      subst hA;simp [World.frozen?,hg]
theorem own_putF {w : World} {B : Nat} {E : TypeId} {g n n' cap : Nat} {L L' : List (Array Value)} (h : Own w B E k (some ⟨g,0,none⟩) n cap L) (hn' : n' ≤ n) (m : Nat) (F : Array Value) (hF : F.size = n * k) (hL : F.toList.take (n' * k) = L'.flatMap Array.toList) (hl : L'.length = n') (hs : ∀ c ∈ L',c.size = k) (os : Array Obj) :
    Own (grow (putRow id (Sort.ahead w m) g 0 F) os) B E k (some ⟨g,0,none⟩) n' cap L' ∧ Keep [g] w (grow (putRow id (Sort.ahead w m) g 0 F) os):=by
  obtain ⟨⟨_,h2⟩,_,_⟩:=h;rcases h2 with ⟨h2,_⟩ | ⟨g',c,cur,hv,hb,hg,hnc,hcm,hcs,htake⟩
  · cases h2
  injection hv with hA _ hc
  injection hA with hA
  injection hA with hA
  subst hA;subst hc;have hgl : g < w.heap.size:=(Array.getElem?_eq_some_iff.1 hg).1;have hheap : (grow (putRow id (Sort.ahead w m) g 0 F) os).heap[g]? = some (.cells (putCells id 0 F cur) E (0,0)):=by
    rw [heap_grow_old _ _ (by simpa [putRow,mapBlock,Sort.ahead] using hgl)];show (w.heap.modify g _)[g]? = _;rw [Array.getElem?_modify,if_pos rfl,hg];rfl
  have hle : n * k ≤ cur.size:=by rw [hcs];exact Nat.mul_le_mul_right k hnc
  have hle' : n' * k ≤ n * k:=Nat.mul_le_mul_right k hn';refine ⟨⟨⟨?_,.inr ⟨g,cap,_,rfl,hb,hheap,by omega,hcm,?_,?_⟩⟩,hl,hs⟩,?_⟩
  · rw [flat_len _ k hs,hl]
  · simp [putCells,hcs]
  · rw [← hL];apply List.ext_getElem?;intro j;by_cases hj : j < n' * k
    · rw [List.getElem?_take,List.getElem?_take,if_pos hj,if_pos hj,Array.getElem?_toList,Array.getElem?_toList];unfold putCells;rw [Array.getElem?_mapIdx,Array.getElem?_eq_getElem (show j < cur.size by omega),Array.getElem?_eq_getElem (show j < F.size by omega)];simp only [Option.map_some,Nat.zero_le,true_and,Nat.zero_add,Nat.sub_zero,hF];rw [if_pos (by omega),getElem!_pos _ j (by omega)];rfl
    · rw [List.getElem?_eq_none (by simp;omega),List.getElem?_eq_none (by simp;omega)]
  · refine ⟨rfl,rfl,rfl,?_,fun x hx hn=>?_⟩
    · rw [size_grow];simp [putRow,mapBlock,Sort.ahead]
    · rw [heap_grow_old _ _ (by simpa [putRow,mapBlock,Sort.ahead] using hx)];show (w.heap.modify g _)[x]? = _;rw [Array.getElem?_modify,if_neg (by simpa [eq_comm] using hn)]
theorem own_sorted {w : World} {B : Nat} {E : TypeId} {g n cap : Nat} {L : List α} (hk : 0 < k) (hs : ∀ x,(enc x).size = k) (h : Own w B E k (some ⟨g,0,none⟩) n cap (L.map enc)) (m : Nat) (L' : List α) (hl : L'.length = L.length) (os : Array Obj) :
    Own (sortWorldK (fun x=>(enc x).toList) k w g 0 m L'.toArray os) B E k (some ⟨g,0,none⟩) n cap (L'.map enc) ∧ Keep [g] w (sortWorldK (fun x=>(enc x).toList) k w g 0 m L'.toArray os):=by
  have hn : L.length = n:=by simpa using h.len
  have hsz : ∀ c ∈ L'.map enc,c.size = k:=fun c hc=>(by obtain ⟨x,_,rfl⟩:=List.mem_map.1 hc;exact hs x);have hflat : (L'.map enc).flatMap Array.toList = (flatK (fun x=>(enc x).toList) k L'.toArray).toList:=by
    apply List.ext_getElem?;intro j;have hfl:=flat_len (L'.map enc) k hsz;rw [List.length_map] at hfl;by_cases hj : j < L'.length * k
    · have hi : j / k < L'.length:=Nat.div_lt_of_lt_mul (by rw [Nat.mul_comm];exact hj);have hr : j % k < k:=Nat.mod_lt _ hk;have he : j / k * k + j % k = j:=by rw [Nat.mul_comm];exact Nat.div_add_mod j k
      have e1:=flat_get (L'.map enc) k hsz (j / k) (j % k) (by simpa using hi) hr;rw [he] at e1;rw [e1];have hsz : j < (flatK (fun x=>(enc x).toList) k L'.toArray).size:=by simpa using hj
      rw [Array.getElem?_toList,Array.getElem?_eq_getElem hsz,← getElem!_pos _ j hsz,get_flatK _ _ _ j (by simpa using hj),getElem!_pos L'.toArray (j / k) (by simpa using hi)];have hsz2 : j % k < (enc L'[j / k]).toList.length:=by simpa [hs] using hr
      rw [List.getElem_map,List.getElem_toArray,getElem!_pos _ (j % k) hsz2];simp [hs,hr]
    · rw [List.getElem?_eq_none (by omega),List.getElem?_eq_none (by simpa using hj)]
  have hF : (flatK (fun x=>(enc x).toList) k L'.toArray).size = n * k:=by simp [hl,hn]
  exact own_putF h (Nat.le_refl _) m (flatK (fun x=>(enc x).toList) k L'.toArray) hF (by rw [hflat,List.take_of_length_le (by simpa using Nat.le_of_eq hF)]) (by simp [hl,hn]) hsz os
end
section
variable {α : Type} [Inhabited α] {f : α → Value}
end
end
section
open Go.RowKit Go.Sort Go.Shelf
instance : Inhabited BRow:=⟨bRow0⟩
@[go_sem ↓] theorem bsBRow_rw (n : Nat) (parts : Array (Nat × Value)) : Instr.buildSlice 304 n parts = bsS 304 n parts:=rfl
def tagsOf (L : List BRow) (v : ByteArray) : List Id32:=(L.filter fun x=>decide (x.val = v)).map (·.tag)
end
section
open Go.RowKit Go.Sort
section
variable {α : Type} [Inhabited α] [DecidableEq α] {c : α → α → Int}
theorem compact_upTo (T : TotC c) (d : Array α) (hs : ∀ i j,i < j → j < d.size → ¬ c d[j]! d[i]! < 0) : ∀ m,m ≤ d.size →
    Ris c (Lib.compactUpTo d m) ∧ (∀ z,z ∈ Lib.compactUpTo d m ↔ ∃ j,j < m ∧ d[j]! = z) ∧ (0 < m → ∀ y ∈ Lib.compactUpTo d m,¬ c d[m - 1]! y < 0)
  | 0,_=>⟨by simp [Lib.compactUpTo,Ris],by simp [Lib.compactUpTo],by simp⟩
  | m + 1,hm=>by
    obtain ⟨h1,h2,h3⟩:=compact_upTo T d hs m (by omega);rw [Lib.compactUpTo_succ];by_cases hk : Lib.keeps d m = true
    · rw [if_pos hk];have hlt : ∀ y ∈ Lib.compactUpTo d m,c y d[m]! < 0:=by
        intro y hy;have hm0 : 0 < m:=by
          rcases Nat.eq_zero_or_pos m with h | h
          · subst h;simp [Lib.compactUpTo] at hy
          · exact h
        have hne : d[m]! ≠ d[m - 1]!:=by
          have : m = 0 ∨ d[m]! ≠ d[m - 1]!:=by simpa [Lib.keeps] using hk
          rcases this with h | h
          · omega
          · exact h
        exact T.le_trans (h3 hm0 y hy) (T.flip (hs (m - 1) m (by omega) (by omega)) hne)
      refine ⟨?_,fun z=>?_,fun _ y hy=>?_⟩
      · refine List.pairwise_append.2 ⟨h1,by simp,fun y hy z hz=>?_⟩;simp at hz;subst hz;exact hlt y hy
      · rw [List.mem_append,h2,List.mem_singleton];constructor
        · rintro (⟨j,hj,e⟩ | e)
          · exact ⟨j,by omega,e⟩
          · exact ⟨m,by omega,e.symm⟩
        · rintro ⟨j,hj,e⟩;by_cases hjm : j = m
          · subst hjm;exact .inr e.symm
          · exact .inl ⟨j,by omega,e⟩
      · rw [Nat.add_sub_cancel];rcases List.mem_append.1 hy with hy | hy
        · exact T.asym (hlt y hy)
        · simp at hy;subst hy;exact T.irr _
    · rw [if_neg hk,List.append_nil];have hm0 : ¬ m = 0:=fun e=>hk (by simp [Lib.keeps,e]);have heq : d[m]! = d[m - 1]!:=Classical.byContradiction fun e=>hk (Lib.keeps_pos e);refine ⟨h1,fun z=>?_,fun _ y hy=>?_⟩
      · rw [h2];constructor
        · rintro ⟨j,hj,e⟩;exact ⟨j,by omega,e⟩
        · rintro ⟨j,hj,e⟩;by_cases hjm : j = m
          · subst hjm;exact ⟨j - 1,by omega,by rw [← heq];exact e⟩
          · exact ⟨j,by omega,e⟩
      · rw [Nat.add_sub_cancel,heq];exact h3 (by omega) y hy
theorem compact_sorted (T : TotC c) (l : List α) (hs : l.Pairwise (fun x y=>¬ c y x < 0)) : Lib.compact l = sortC c l:=by
  have h:=compact_upTo T l.toArray (fun i j hij hj=>by
    have hj' : j < l.length:=by simpa using hj
    rw [getElem!_pos l.toArray i (by simp;omega),getElem!_pos l.toArray j hj];exact List.pairwise_iff_getElem.1 hs i j (by omega) hj' hij) l.length (by simp)
  refine ris_ext T h.1 (ris_sortC T l) fun z=>?_;rw [mem_sortC T];refine (h.2.1 z).trans ⟨?_,?_⟩
  · rintro ⟨j,hj,e⟩;rw [getElem!_pos l.toArray j (by simpa using hj)] at e;rw [← e];exact List.getElem_mem hj
  · intro hz;obtain ⟨j,hj,e⟩:=List.mem_iff_getElem.1 hz;exact ⟨j,hj,by rw [getElem!_pos l.toArray j (by simpa using hj)];simpa using e⟩
end
end
section
open Go.RowKit Go.Sort Go.Shelf
def strR (s : ByteArray) : Array Value:=#[.string s]
def bl (s : ByteArray) : List UInt8:=s.data.toList
def listB (L : List BRow) : List ByteArray:=sortC cmpS (L.map (·.val))
def pairV (s : ByteArray) : Pair:=⟨s,⟨#[]⟩⟩
theorem listB_len (L : List BRow) : (listB L).length ≤ L.length:=by have:=sortC_length (c:=cmpS) (L.map (·.val));simpa [listB] using this
end
section
open Go.RowKit Go.Sort Go.Shelf Go.Lib
@[go_sem ↓] theorem bsStr_rw (n : Nat) (parts : Array (Nat × Value)) : Instr.buildSlice 166 n parts = bsS 166 n parts:=rfl
@[go_sem] theorem bsStr_run (w : World) (x : ByteArray) : (bsS 166 1 #[(0,.string x)]).run Tryz.prog w = .ok (.slice (some ⟨w.heap.size,0,none⟩) 1 1) (w.alloc (.cells (strR x) 9)):=by kernel_rfl
def zR (z : List UInt8) : Array Value:=#[encStr z]
abbrev OwnL (w : World) (B : Nat) (A : Option Addr) (n cap : Nat) (L : List ByteArray) : Prop:=Own w B 98 2 A n cap (L.map fun s=>pairC (pairV s))
end
section
open Go.RowKit Go.Sort Go.Maps
def unitR (_ : Value) : Option (DataW Unit × List MemPlace):=some (.nil,[])
end
section
open Go.RowKit
def pairOf (p : LRow) : Pair:=⟨p.1,p.2.val⟩
def listC (L : List LRow) : List (Array Value):=L.map fun p=>pairC (pairOf p)
end
section
open Go.RowKit Go.Sort Go.Shelf
instance : Inhabited Id32:=⟨id0⟩
end
section
open Go.RowKit Go.Sort Go.Shelf
end
section
open Go.RowKit
@[go_sem ↓] theorem slPair_rw (x : Value) (lo hi mx : Option Value) : Instr.sliceAt 23 x lo hi mx = slS 23 x lo hi mx:=rfl
end
section
open Go.RowKit
section
variable {P : Program} {T E : TypeId} {k bytes : Nat}
theorem zeroCells_one {z : Array Value} {n : Nat} (hz : 0 < z.size) (h1 : ∀ u ∈ z.toList,u.oneCell' = true) : ∀ u ∈ (Builtin.zeroCells z n).toList,u.oneCell' = true:=by
  intro u hu;unfold Builtin.zeroCells at hu;simp only [Array.toList_map,List.mem_map] at hu;obtain ⟨i,_,rfl⟩:=hu;have hi : i % z.size < z.size:=Nat.mod_lt _ hz;rw [getElem!_pos z _ hi];exact h1 _ (by simp)
theorem own_clear (I : ElemInfo P T E k bytes) {z : Value} (hz : (P.info? E).bind (·.zero) = some z) (hz1 : ∀ u ∈ z.cells.toList,u.oneCell' = true) {w : World} {B g n cap m : Nat} {L : List (Array Value)} (h : Own w B E k (some ⟨g,0,none⟩) n cap L) (hm : m ≤ n) (ty : TypeId) :
    ∃ A2 c2,(∀ w0 : World,(slS T (.slice (some ⟨g,0,none⟩) n cap) (some (.int .i64 m)) none none).run P w0 = .ok (.slice A2 (n - m) c2) w0) ∧
      ∃ w',(Builtin.clear_ #[T] ty #[.slice A2 (n - m) c2]).run P w = .ok (.tuple #[]) w' ∧ Own w' B E k (some ⟨g,0,none⟩) m cap (L.take m) ∧ Keep [g] w w':=by
  have hA:=h.cap_le;have hrun : ∀ w0 : World,(slS T (.slice (some ⟨g,0,none⟩) n cap) (some (.int .i64 m)) none none).run P w0 = .ok (.slice (if cap = m then some ⟨g,0,none⟩ else some ⟨g,m * k,none⟩) (n - m) (cap - m)) w0:=by
    intro w0;rw [run_slS I];unfold Instr.slice Instr.sliceBounds;simp only [Sem.run_bind,run_underlying I.und,Result.andThen_ok,Sem.run_pure,run_bound w0 m n hm,I.sizeOf_run w0,Option.isSome_none,Bool.false_eq_true,if_false];congr 3
    show some ((⟨g,0,none⟩ : Addr).add (m * k)) = _;unfold Addr.add;split <;> simp_all
  refine ⟨_,_,hrun,?_⟩;have hown2:=h;have hlen:=flat_len L k h.size;have hL:=h.len;have hsz:=h.size;obtain ⟨⟨h1,h2⟩,_,hs⟩:=h;rcases h2 with ⟨h2,_⟩ | ⟨g',c,cur,hv,hb,hg,hnc,hcm,hcsz,htake⟩
  · cases h2
  injection hv with hA' _ hc
  injection hA' with hA'
  injection hA' with hA'
  subst hA';subst hc;have hmk : m * k ≤ n * k:=Nat.mul_le_mul_right k hm;have hnk : n * k ≤ cur.size:=by rw [hcsz];exact Nat.mul_le_mul_right k hnc
  have htk : (L.take m).flatMap Array.toList = (L.flatMap Array.toList).take (m * k):=by
    apply List.ext_getElem?;intro j;have hlt : (L.take m).length = m:=by simp;omega
    have hl2:=flat_len (L.take m) k (fun c hc=>hs c (List.mem_of_mem_take hc));rw [hlt] at hl2;by_cases hj : j < m * k
    · rw [List.getElem?_take,if_pos hj];have hk0:=I.pos;have hi : j / k < m:=Nat.div_lt_of_lt_mul (by rw [Nat.mul_comm];exact hj);have hr : j % k < k:=Nat.mod_lt _ hk0;have he : j = j / k * k + j % k:=by rw [Nat.mul_comm];exact (Nat.div_add_mod j k).symm
      rw [he,flat_get (L.take m) k (fun c hc=>hs c (List.mem_of_mem_take hc)) (j / k) (j % k) (by rw [hlt];exact hi) hr,flat_get L k hs (j / k) (j % k) (by omega) hr];congr 1
      rw [List.getElem_take]
    · rw [List.getElem?_eq_none (by omega),List.getElem?_eq_none (by simp;omega)]
  have hfin : ∀ w' cur',w'.heap[g]? = some (.cells cur' E (0,0)) → cur'.size = cap * k → cur'.toList.take (m * k) = cur.toList.take (m * k) → Own w' B E k (some ⟨g,0,none⟩) m cap (L.take m):=by
    intro w' cur' hg' hcs' htk';refine ⟨⟨?_,.inr ⟨g,cap,cur',rfl,hb,hg',by omega,hcm,hcs',?_⟩⟩,by simp;omega,fun c hc=>hs c (List.mem_of_mem_take hc)⟩
    · rw [flat_len _ k (fun c hc=>hs c (List.mem_of_mem_take hc)),List.length_take,hL,Nat.min_eq_left hm]
    · rw [htk',htk,← htake,List.take_take,Nat.min_eq_left hmk]
  by_cases hmn : m = n
  · subst hmn;refine ⟨w,?_,hfin w cur hg hcsz rfl,(Keep.refl _ _)⟩;rw [Nat.sub_self];obtain ⟨A2,hA2⟩ : ∃ A2,(if cap = m then (some ⟨g,0,none⟩ : Option Addr) else some ⟨g,m * k,none⟩) = A2:=⟨_,rfl⟩
    rw [hA2];cases A2 <;> simp [Builtin.clear_,run_underlying I.und]
  · have hcm' : ¬ cap = m:=by omega
    rw [if_neg hcm'];obtain ⟨inf,z',hinf,hz',hisz,hby,hzs⟩:=I.info;have hzz : z' = z:=by
      rw [hinf] at hz;have : inf.zero = some z:=hz;rw [hz'] at this;injection this
    subst hzz;have hk0:=I.pos;have hst:=run_storeCells_at P g (m * k) E (Builtin.zeroCells z'.cells (n - m)).toList 0 cur w hg (by
      simp only [Nat.add_zero,Array.length_toList,size_zeroCells,hzs];have : m * k + (n - m) * k = n * k:=by rw [← Nat.add_mul];congr 1;omega
      omega) (zeroCells_one (by omega) hz1)
    simp only [Nat.add_zero,Array.length_toList,size_zeroCells,hzs] at hst;have hsum : m * k + (n - m) * k = n * k:=by rw [← Nat.add_mul];congr 1;omega
    have hzl : (Builtin.zeroCells z'.cells (n - m)).toList.length = (n - m) * k:=by rw [Array.length_toList,size_zeroCells,hzs]
    have hcl : cur.toList.length = cap * k:=by rw [Array.length_toList];exact hcsz
    obtain ⟨NC,hNC⟩ : ∃ NC,(cur.toList.take (m * k) ++ (Builtin.zeroCells z'.cells (n - m)).toList ++ cur.toList.drop (m * k + (n - m) * k)).toArray = NC:=⟨_,rfl⟩
    rw [hNC] at hst;have hNs : NC.size = cap * k:=by
      rw [← hNC];simp only [List.size_toArray,List.length_append,List.length_take,List.length_drop,hzl,hcl];omega
    have hNt : NC.toList.take (m * k) = cur.toList.take (m * k):=by
      rw [← hNC];show List.take (m * k) (cur.toList.take (m * k) ++ (Builtin.zeroCells z'.cells (n - m)).toList ++ cur.toList.drop (m * k + (n - m) * k)) = _;rw [List.append_assoc,List.take_append_of_le_length (by rw [List.length_take,hcl];omega),List.take_take,Nat.min_self]
    refine ⟨w.setRow g NC,?_,hfin _ _ (setRow_heap w g cur NC E (0,0) hg) hNs hNt,⟨rfl,rfl,rfl,by simp [World.setRow],fun x _ hx=>setRow_other w g x _ (by simpa using hx)⟩⟩;obtain ⟨d,hd⟩ : ∃ d,n - m = d + 1:=⟨n - m - 1,by omega⟩
    rw [hd] at hst ⊢;have hzr : (zeroValue E).run P w = .ok z' w:=by simp [zeroValue,typeInfo,hinf,hz']
    simp [Builtin.clear_,run_underlying I.und,hzr,hst]
end
end
section
open Go.RowKit
def pairEqB (x y : Pair) : Bool:=(x.key.toList == y.key.toList) && (x.val.toList == y.val.toList)
theorem pairEqB_eq (x y : Pair) : pairEqB x y = true ↔ x = y:=by
  unfold pairEqB;simp only [Bool.and_eq_true,beq_iff_eq,toList_inj];exact ⟨fun h=>Pair_ext h,fun h=>by subst h;exact ⟨rfl,rfl⟩⟩
theorem eqPair_in (x y : Pair) (w : World) : (Op.equalIn 10000 98 (.agg (pairC x)) (.agg (pairC y))).run Tryz.prog w = .ok (pairEqB x y) w:=by
  rw [show (10000 : Nat) = 9999 + 1 from rfl,run_equalIn_agg w 9999 98 _ _ fieldsPair (by kernel_rfl)];unfold pairEqB;have e1:=run_equalIn_string (P:=Tryz.prog) w 9998 9 x.key y.key Tryz.underlying9;have e2:=run_equalIn_string (P:=Tryz.prog) w 9998 9 x.val y.val Tryz.underlying9;simp only [Program.fieldsOf,Tryz.underlying98];simp [Op.eqFields,part,asAgg,isAgg,go_sem,Tryz.underlying9,e1,e2];by_cases h1 : x.key.toList = y.key.toList <;> by_cases h2 : x.val.toList = y.val.toList <;> simp [h1,h2]
@[go_sem ↓] theorem neqPair_run (x y : Pair) (w : World) : (binOp .neq 98 (.agg (pairC x)) (.agg (pairC y))).run Tryz.prog w = .ok (.bool (!(pairEqB x y))) w:=by
  rw [run_neq_struct,eqPair_in];rfl
def PairsIn (w : World) (A : Option Addr) (n : Nat) (L : List Pair) : Prop:=SlR w A n 2 (L.map pairC)
theorem PairsIn.get {w : World} {A : Option Addr} {n : Nat} {R : List Pair} (h : PairsIn w A n R) {i : Nat} (hi : i < n) (hR : i < R.length) :
    ∃ g o,A = some ⟨g,o,none⟩ ∧ rowAt w g (o + i * 2) 2 = some (pairC R[i]) ∧ w.cell? ⟨g,o + i * 2,none⟩ = some (.string (R[i]).key) ∧ w.cell? ⟨g,o + i * 2 + 1,none⟩ = some (.string (R[i]).val):=by
  obtain ⟨g,o,e,hr⟩:=SlR.at_ h hi;rw [List.getElem_map] at hr;refine ⟨g,o,e,hr,?_,?_⟩
  · have:=rowAt_cell hr (j:=0) (by omega)
    rwa [pairC_g0] at this
  · have:=rowAt_cell hr (j:=1) (by omega)
    rwa [pairC_g1] at this
theorem PairsIn.len {w : World} {A : Option Addr} {n : Nat} {R : List Pair} (h : PairsIn w A n R) : R.length = n:=by simpa using h.1
set_option maxHeartbeats 1000000 in
theorem rpairs (w : World) (A B : Option Addr) (n m cap cap' : Nat) (X Y : List Pair) (hx : PairsIn w A n X) (hy : PairsIn w B m Y) (hn : n ≤ 1000000) (hm : m ≤ 1000000) :
    Calls Tryz.prog 50 #[.slice A n cap,.slice B m cap'] w fun e w'=>e = .returned (.bool (decide (X = Y))) ∧ Below w.heap.size w w':=by
  have hlx:=hx.len;have hly:=hy.len;have Hlx:=Lib.hid hlx;have Hly:=Lib.hid hly;by_cases hnm : n = m
  · subst hnm;clear hlx hly;go_enter Tryz.func50,Tryz.ntmps50
    (go_wp2_with fail);go_loopw [5] (fun i wr=>∃ k : Nat,k ≤ n ∧ i = .int .i64 k ∧ Hid (X.take k = Y.take k) ∧ Below w.heap.size w wr) (fun i _=>n - (intOf i).toNat)
    case atStart=>exact ⟨0,Nat.zero_le _,rfl,rfl,Below.refl _ _⟩
    case round =>
      obtain ⟨k,hk,rfl,heq,hb⟩:=hrel;by_cases hlt : k < n
      · obtain ⟨q,o,rfl,hr,_,_⟩:=PairsIn.get (SlR.below hx hb) hlt (by rw [Hlx.out];exact hlt);obtain ⟨q2,o2,rfl,hr2,_,_⟩:=PairsIn.get (SlR.below hy hb) hlt (by rw [Hly.out];exact hlt);have hX : X.take (k + 1) = X.take k ++ [X[k]'(by rw [Hlx.out];exact hlt)]:=by rw [List.take_add_one,List.getElem?_eq_getElem (by rw [Hlx.out];exact hlt)];rfl
        have hY : Y.take (k + 1) = Y.take k ++ [Y[k]'(by rw [Hly.out];exact hlt)]:=by rw [List.take_add_one,List.getElem?_eq_getElem (by rw [Hly.out];exact hlt)];rfl
        obtain ⟨x,hx'⟩ : ∃ x,X[k]'(by rw [Hlx.out];exact hlt) = x:=⟨_,rfl⟩
        obtain ⟨y,hy'⟩ : ∃ y,Y[k]'(by rw [Hly.out];exact hlt) = y:=⟨_,rfl⟩
        rw [hx'] at hr hX;rw [hy'] at hr2 hY;have HX:=Lib.hid hX;have HY:=Lib.hid hY;clear hX hY;have HX':=Lib.hid hx';have HY':=Lib.hid hy';clear hx' hy';go_upto_region 6 with fail
        refine wp_region_lex (Bel wr) false (by kernel_rfl) (by kernel_rfl) (by kernel_rfl) (bel_drew wr) ?_;have hne:=bel_some wr;have hS:=bel_drew wr;have b1:=sub_row hr;have b2:=sub_row hr2;repeat (refine wpLx_loose ?_ ?_;(focus (simp only [chainOp];done));intro K hK;go_simp;refine hK _ ?_;clear hK K)
        refine wpLx_nil ?_;intro hS;clear hne hS b1 b2 hr hr2;have hb' : Below w.heap.size w wr.drew:=hb.drew;cases hpe : pairEqB x y with
        | true =>
          have e:=(pairEqB_eq x y).1 hpe;have E:=Lib.hid e;clear e;(go_wp2_with fail);go_roundw
          case rel=>exact ⟨k + 1,by omega,by go_num,(show X.take (k + 1) = Y.take (k + 1) by rw [HX.out,HY.out,heq.out,E.out]),hb'⟩
          case measure=>simp [intOf];omega
        | false =>
          have hne : X ≠ Y:=by
            intro e;subst e;have : x = y:=HX'.out.symm.trans HY'.out;rw [(pairEqB_eq x y).2 this] at hpe;cases hpe
          have hd:=Lib.hid (decide_eq_false hne);clear hne;(go_wp2_with fail);go_ret;exact ⟨ret_bool (by rw [hd.out]),hb'⟩
      · have hkn : k = n:=by omega
        have e : X = Y:=by
          have:=heq.out
          rwa [List.take_of_length_le (by rw [Hlx.out];omega),List.take_of_length_le (by rw [Hly.out];omega)] at this
        have E:=Lib.hid (decide_eq_true e);clear e hkn;(go_wp2_with fail);go_ret;exact ⟨ret_bool (by rw [E.out]),hb⟩
  · have hne : X ≠ Y:=by intro e;subst e;exact hnm (hlx.symm.trans hly)
    have hd:=Lib.hid (decide_eq_false hne);have hnm2 : (n == m) = false:=by simpa using hnm
    have hnm3 : ((n : Int) == (m : Int)) = false:=by rw [beq_eq_false_iff_ne];omega
    clear hlx hly hne;go_enter Tryz.func50,Tryz.ntmps50
    (go_wp2_with fail);go_ret;exact ⟨ret_bool (by rw [hd.out]),Below.refl _ _⟩
end
section
open Go.RowKit Go.Sort Go.Shelf
instance : Inhabited Pair:=⟨pair0⟩
@[go_sem ↓] theorem eqPair_run (x y : Pair) (w : World) : (Op.equalIn 10000 98 (.agg (pairC x)) (.agg (pairC y))).run Tryz.prog w = .ok (pairEqB x y) w:=eqPair_in x y w
def cmpPair (x y : Pair) : Int:=orL [cmpS x.key y.key,cmpS x.val y.val]
theorem totPair : TotC cmpPair:=(totS.pair totS).of (fun x : Pair=>(x.key,x.val)) (fun x y h=>by
  cases x;cases y
  simp only [Prod.mk.injEq] at h;obtain ⟨h1,h2⟩:=h;subst h1;subst h2;rfl) (fun x y=>orL2 _ _)
theorem Own.hi_at {P : Program} {T E : TypeId} {k bytes : Nat} (I : ElemInfo P T E k bytes) {w : World} {B g n cap : Nat} {L : List (Array Value)} (h : Own w B E k (some ⟨g,0,none⟩) n cap L) {m : Nat} (hm : m < n) (w0 : World) :
    (slS T (.slice (some ⟨g,0,none⟩) n cap) (some (.int .i64 m)) none none).run P w0 = .ok (.slice (some ⟨g,m * k,none⟩) (n - m) (cap - m)) w0:=by
  have hA:=h.cap_le;rw [run_slS I];unfold Instr.slice Instr.sliceBounds;simp only [Sem.run_bind,run_underlying I.und,Result.andThen_ok,Sem.run_pure,run_bound w0 m n (Nat.le_of_lt hm),I.sizeOf_run w0,Option.isSome_none,Bool.false_eq_true,if_false];rw [if_neg (by omega)];congr 2
  show some ((⟨g,0,none⟩ : Addr).add (m * k)) = _;unfold Addr.add;split <;> simp_all
theorem Own.get {α : Type} [Inhabited α] {enc : α → Array Value} {w : World} {B g n cap k : Nat} {E : TypeId} {d : Array α} (h : Own w B E k (some ⟨g,0,none⟩) n cap (d.toList.map enc)) {j : Nat} (hj : j < n) : rowAt w g (j * k) k = some (enc d[j]!):=by
  have hl : d.size = n:=by simpa using h.len
  obtain ⟨q,o,e,hr⟩:=h.slr.at_ hj;injection e with e;injection e with e1 e2
  subst e1;subst e2;rw [Nat.zero_add] at hr;rw [hr,List.getElem_map,getElem!_pos d j (by omega)]
  simp
set_option maxRecDepth 100000 in
set_option maxHeartbeats 4000000 in
theorem compact_pairs (w : World) (B g n cap : Nat) (R : List Pair) (hown : Own w B 98 2 (some ⟨g,0,none⟩) n cap (R.map pairC)) (hn : n ≤ 1000000) (hs : R.Pairwise (fun x y=>¬ cmpPair y x < 0)) :
    Calls Tryz.prog 131 #[.slice (some ⟨g,0,none⟩) n cap] w fun e w'=>e = .returned (.slice (some ⟨g,0,none⟩) (sortC cmpPair R).length cap) ∧ Own w' B 98 2 (some ⟨g,0,none⟩) (sortC cmpPair R).length cap ((sortC cmpPair R).map pairC) ∧ Keep [g] w w':=by
  have hlen : R.length = n:=by simpa using hown.len
  rw [← compact_sorted totPair R hs];obtain ⟨d,hd⟩ : ∃ d,R.toArray = d:=⟨_,rfl⟩
  have hRd : R = d.toList:=by rw [← hd]
  have hdn : d.size = n:=by rw [← hd];simpa using hlen
  have hcd : Lib.compact R = Lib.compactUpTo d n:=by unfold Lib.compact;rw [hd,hlen]
  rw [hcd];rw [hRd] at hown;have hfin : (∀ j,j < n → Lib.keeps d j = true) → Lib.compactUpTo d n = d.toList:=fun h=>by
    rw [Lib.compactUpTo_all d n h,← hdn];exact Lib.range_map_get d
  have Hdn:=Lib.hid hdn;clear hd hRd hcd hs hlen hdn;have hgl : g < w.heap.size:=(hown.at_base (x:=g) (by simp [blk])).2;go_enter Tryz.func131,Tryz.ntmps131
  by_cases h2 : n < 2
  · have he:=hfin (fun j hj=>by
      have : j = 0:=by
        by_cases h1 : j = 0
        · exact h1
        · have hj1 : j = 1:=by omega
          omega
      subst this;simp [Lib.keeps])
    have He:=Lib.hid he;clear he hfin;(go_wp2_with fail);go_ret;rw [He.out];have hl : d.toList.length = n:=by rw [Array.length_toList];exact Hdn.out
    exact ⟨by rw [hl];rfl,by rw [hl];exact hown,Keep.refl _ _⟩
  · (go_wp2_with fail);go_loopw [3] (fun i wr=>∃ k : Nat,1 ≤ k ∧ k ≤ n ∧ i = .int .i64 k ∧ Hid (∀ j,j < k → Lib.keeps d j = true) ∧ Below w.heap.size w wr) (fun i _=>n - (intOf i).toNat)
    case atStart=>exact ⟨1,Nat.le_refl _,by omega,rfl,(show ∀ j,j < 1 → _ from Lib.keeps_lt_one d),Below.refl _ _⟩
    case round =>
      obtain ⟨k,hk1,hk,rfl,hall,hb⟩:=hrel;have hownr:=hown.below hb;by_cases hlt : k < n
      · have hr1:=hownr.get hlt;have hr2:=hownr.get (j:=k - 1) (by omega);obtain ⟨x,hx⟩ : ∃ x,d[k]! = x:=⟨_,rfl⟩
        obtain ⟨y,hy⟩ : ∃ y,d[k - 1]! = y:=⟨_,rfl⟩
        rw [hx] at hr1;rw [hy] at hr2;obtain ⟨k1,hkk⟩ : ∃ k1,k - 1 = k1:=⟨_,rfl⟩
        have hk1' : ((k : Int) - 1) = (k1 : Int):=by omega
        have hk1n : k1 < n:=by omega
        have hwr : IntKind.i64.wrap (k1 : Int) = (k1 : Int):=IntWalk.i64_in _ (by omega);rw [hkk] at hr2;obtain ⟨eb,heb⟩ : ∃ eb,pairEqB x y = eb:=⟨_,rfl⟩
        have Heb:=Lib.hid heb;have Hx:=Lib.hid hx;have Hy:=Lib.hid hy;have Hkk:=Lib.hid hkk;clear hx hy hkk;go_upto_region 6 with fail
        refine wp_region_lex (Bel wr) false (by kernel_rfl) (by kernel_rfl) (by kernel_rfl) (bel_drew wr) ?_;have hne:=bel_some wr;have hS:=bel_drew wr;have b1:=sub_row hr1;have b2:=sub_row hr2;repeat (refine wpLx_loose ?_ ?_;(focus (simp only [chainOp];done));intro K hK;go_simp;refine hK _ ?_;clear hK K)
        refine wpLx_nil ?_;intro hS;have hb' : Below w.heap.size w wr.drew:=hb.drew;have hown' : Own wr.drew B 98 2 (some ⟨g,0,none⟩) n cap (d.toList.map pairC):=hownr.kept (Keep.drew wr) (by simp);clear hne hS b1 b2 hr1 hr2 heb hb hownr;obtain ⟨W,hW⟩ : ∃ W,wr.drew = W:=⟨_,rfl⟩
        rw [hW] at hb' hown' ⊢;clear hW;cases eb with
        | false =>
          have hne : d[k]! ≠ d[k - 1]!:=by
            rw [Hx.out,Hy.out];intro e;have:=(pairEqB_eq x y).2 e;rw [Heb.out] at this;cases this
          have hkp:=Lib.keeps_pos hne;have Hkp:=Lib.hid hkp;clear hne hkp;(go_wp2_with fail);go_roundw
          case rel=>exact ⟨k + 1,by omega,by omega,by go_num,(show ∀ j,j < k + 1 → Lib.keeps d j = true from fun j hj=>by
            by_cases e : j = k
            · rw [e];exact Hkp.out
            · exact hall.out j (by omega)),hb'⟩
          case measure=>simp [intOf];omega
        | true =>
          have heq : d[k]! = d[k - 1]!:=by rw [Hx.out,Hy.out];exact (pairEqB_eq x y).1 Heb.out
          have hinv:=Lib.CompInv.start hall.out (Lib.keeps_neg (by omega) heq);have Hinv:=Lib.hid hinv;have hsl:=fun w0=>hown'.hi_at (P:=Tryz.prog) einfoPair hlt w0;clear heq hinv;(go_wp2_with fail);go_loopw [3,5] (fun kv iv ws=>∃ (k2 kk : Nat) (dk : Array Pair),1 ≤ k2 ∧ k2 ≤ n - k ∧ iv = .int .i64 k2 ∧ kv = .int .i64 kk ∧ Hid (Lib.CompInv d (k + k2) kk dk) ∧ Own ws B 98 2 (some ⟨g,0,none⟩) n cap (dk.toList.map pairC) ∧ Keep [g] w ws ∧ kk < k + k2) (fun _ iv _=>(n - k) - (intOf iv).toNat)
          case atStart=>exact ⟨1,k,d,Nat.le_refl _,by omega,rfl,rfl,Hinv,hown',(Keep.of_below hb').mono (by simp),by omega⟩
          case round =>
            obtain ⟨k2,kk,dk,hk21,hk2n,rfl,rfl,hinv,hownk,hkw,hkk2⟩:=hrel;by_cases hlt2 : k2 < n - k
            · have hdk : dk.size = n:=by simpa using hownk.len
              have hr1:=hownk.get (j:=k + k2) (by omega);have hr2:=hownk.get (j:=k + k2 - 1) (by omega);obtain ⟨x2,hx2⟩ : ∃ x2,dk[k + k2]! = x2:=⟨_,rfl⟩
              obtain ⟨y2,hy2⟩ : ∃ y2,dk[k + k2 - 1]! = y2:=⟨_,rfl⟩
              have hdx : d[k + k2]! = x2:=by rw [← hx2];exact (hinv.out.high _ (by omega)).symm
              have hdy : d[k + k2 - 1]! = y2:=by rw [← hy2];exact (hinv.out.high _ (by omega)).symm
              rw [hx2] at hr1;rw [hy2] at hr2;obtain ⟨j1,hj1⟩ : ∃ j1,k2 - 1 = j1:=⟨_,rfl⟩
              have hj1' : ((k2 : Int) - 1) = (j1 : Int):=by omega
              have hj1n : j1 < n - k:=by omega
              have hwr1 : IntKind.i64.wrap (j1 : Int) = (j1 : Int):=IntWalk.i64_in _ (by omega);rw [show k + k2 - 1 = k + j1 by omega,Nat.add_mul] at hr2;rw [Nat.add_mul] at hr1;obtain ⟨nb,hnb⟩ : ∃ nb,pairEqB x2 y2 = nb:=⟨_,rfl⟩
              have Hnb:=Lib.hid hnb;have Hdx:=Lib.hid hdx;have Hdy:=Lib.hid hdy;have Hj1:=Lib.hid hj1;have Hdk:=Lib.hid hdk;clear hx2 hy2 hj1 hdx hdy hdk;go_upto_region 11 with fail
              refine wp_region_lex (Bel wr) false (by kernel_rfl) (by kernel_rfl) (by kernel_rfl) (bel_drew wr) ?_;have hne:=bel_some wr;have hS:=bel_drew wr;have b1:=sub_row hr1;have b2:=sub_row hr2;repeat (refine wpLx_loose ?_ ?_;(focus (simp only [chainOp];done));intro K hK;go_simp;refine hK _ ?_;clear hK K)
              refine wpLx_nil ?_;intro hS;have hkw' : Keep [g] w wr.drew:=Keep.trans hkw (Keep.drew wr) (by simp);have hownk' : Own wr.drew B 98 2 (some ⟨g,0,none⟩) n cap (dk.toList.map pairC):=hownk.kept (Keep.drew wr) (by simp);have hr1' : rowAt wr.drew g (k * 2 + k2 * 2) 2 = some (pairC x2):=hr1;clear hne hS b1 b2 hr1 hr2 hnb hkw hownk;obtain ⟨W2,hW2⟩ : ∃ W2,wr.drew = W2:=⟨_,rfl⟩
              rw [hW2] at hkw' hownk' hr1' ⊢;clear hW2;cases nb with
              | true =>
                have heq : d[k + k2]! = d[k + k2 - 1]!:=by rw [Hdx.out,Hdy.out];exact (pairEqB_eq x2 y2).1 Hnb.out
                have hsk:=hinv.out.skip (Lib.keeps_neg (by omega) heq);have Hsk:=Lib.hid hsk;clear heq hsk;(go_wp2_with fail);go_roundw
                case rel=>exact ⟨k2 + 1,kk,dk,by omega,by omega,by go_num,rfl,(show Lib.CompInv d (k + (k2 + 1)) kk dk from Hsk.out),hownk',hkw',by omega⟩
                case measure=>simp [intOf];omega
              | false =>
                have hneq : d[k + k2]! ≠ d[k + k2 - 1]!:=by
                  rw [Hdx.out,Hdy.out];intro e;have:=(pairEqB_eq x2 y2).2 e;rw [Hnb.out] at this;cases this
                have hkp:=hinv.out.keep (by rw [Hdn.out];omega) (Lib.keeps_pos hneq);rw [Hdx.out] at hkp;have Hkp:=Lib.hid hkp;clear hneq hkp;obtain ⟨w7,hst,hown7,hk7⟩:=own_store einfoPair hownk' (i:=kk) (by omega) (cs:=pairC x2) (by simp) (pairC_one x2);have hl7 : (dk.toList.map pairC).set kk (pairC x2) = (dk.setIfInBounds kk x2).toList.map pairC:=by
                  rw [Array.toList_setIfInBounds,List.map_set]
                rw [hl7] at hown7;have hkw7:=Keep.trans hkw' hk7 (fun x hx=>.inl hx);have hkn : kk < n:=by omega
                clear hl7 hk7 hownk';(go_wp2_with fail);go_roundw
                case rel=>exact ⟨k2 + 1,kk + 1,_,by omega,by omega,by go_num,by go_num,(show Lib.CompInv d (k + (k2 + 1)) (kk + 1) _ from Hkp.out),hown7,hkw7,by omega⟩
                case measure=>simp [intOf];omega
            · have hm : k + k2 = n:=by omega
              have hinv':=hinv.out;rw [hm] at hinv';have hkn : kk < n:=by have:=hinv'.lt;omega
              have hdk : dk.size = n:=by simpa using hownk.len
              have hcu : dk.toList.take kk = Lib.compactUpTo d n:=by
                apply List.ext_getElem?;intro j;by_cases hj : j < kk
                · rw [hinv'.low j hj,List.getElem?_take,if_pos hj,Array.getElem?_toList,getElem!_pos dk j (by omega),Array.getElem?_eq_getElem (by omega)]
                · rw [List.getElem?_eq_none (by simp;omega),List.getElem?_eq_none (by rw [hinv'.len];omega)]
              obtain ⟨A2,c2,hsl2,w8,hclr,hown8,hk8⟩:=own_clear einfoPair (z:=.agg (pairC pair0)) (by kernel_rfl) (pairC_one pair0) hownk (m:=kk) (by omega) 0;rw [← List.map_take,hcu] at hown8;have hlk : (Lib.compactUpTo d n).length = kk:=hinv'.len;have hlo:=fun w0=>SlW.lo (P:=Tryz.prog) einfoPair hownk.slw (m:=kk) (by omega) w0;have hkf:=Keep.trans hkw hk8 (fun x hx=>.inl hx);have Hlk:=Lib.hid hlk;have Hown8:=Lib.hid hown8;clear hcu hinv' hlk hown8 hdk hm hk8 hownk;(go_wp2_with fail);go_ret;exact ⟨by rw [Hlk.out];rfl,by rw [Hlk.out];exact Hown8.out,hkf⟩
      · have he:=hfin (fun j hj=>hall.out j (by omega));have He:=Lib.hid he;clear he hfin;(go_wp2_with fail);go_ret;rw [He.out];have hl : d.toList.length = n:=by rw [Array.length_toList];exact Hdn.out
        exact ⟨by rw [hl];rfl,by rw [hl];exact hownr,(Keep.of_below hb).mono (by simp)⟩
end
section
open Go.RowKit Go.Sort Go.Shelf
def psort (S : List Pair) : List Pair:=S.mergeSort fun x y=>!(ltOf cmpPair y x)
theorem psort_le (S : List Pair) : (psort S).Pairwise (fun x y=>¬ cmpPair y x < 0):=by
  have htot : ∀ a b : Pair,((!ltOf cmpPair b a) || !ltOf cmpPair a b) = true:=fun a b=>by
    unfold ltOf;by_cases h1 : cmpPair b a < 0
    · have:=totPair.asym h1;simp [this]
    · simp [h1]
  have htr : ∀ a b d : Pair,(!ltOf cmpPair b a) = true → (!ltOf cmpPair d b) = true → (!ltOf cmpPair d a) = true:=fun a b d h1 h2=>by
    unfold ltOf at *;simp only [Bool.not_eq_true',decide_eq_false_iff_not] at h1 h2 ⊢;intro h3;exact h2 (totPair.le_trans (a:=d) (b:=a) (d:=b) (totPair.asym h3) (by
      by_cases e : a = b
      · subst e;exact absurd h3 h2
      · exact totPair.flip h1 (fun e'=>e e'.symm)))
  exact List.Pairwise.imp (fun {a b} h=>by simpa [ltOf] using h) (List.pairwise_mergeSort htr htot S)
theorem psort_perm (S : List Pair) : (psort S).Perm S:=List.mergeSort_perm _ _
theorem isAggPair (w : World) : (isAgg 98).run Tryz.prog w = .ok true w:=by simp [isAgg,run_underlying Tryz.underlying98]
theorem size_pairs (w : World) : (Go.sizeOf 98).run Tryz.prog w = .ok 2 w:=by
  have h:=infoPair;cases hi : Tryz.prog.info? 98 with
  | none=>rw [hi] at h;cases h
  | some i =>
    rw [hi] at h;have hk : i.size = 2:=by simpa using h
    simp [Go.sizeOf,typeInfo,hi,hk]
theorem compact_nil (w : World) (cap : Nat) : Calls Tryz.prog 131 #[.slice none 0 cap] w fun e w'=>e = .returned (.slice none 0 cap) ∧ w = w':=by
  go_enter Tryz.func131,Tryz.ntmps131
  (go_wp2_with fail);go_ret;exact ⟨rfl,rfl⟩
def mpair (x : MRow) : Pair:=⟨x.key,x.val⟩
def listM (X : List MRow) : List Pair:=sortC cmpPair (X.map mpair)
theorem listM_len (X : List MRow) : (listM X).length ≤ X.length:=by have:=sortC_length (c:=cmpPair) (X.map mpair);simpa [listM] using this
end
section
open Go.RowKit
structure DownAt (w0 : World) (gs go gd B : Nat) (g : Nat) (w : World) (P : List NodeV) (A : Option Addr) (cap : Nat) : Prop where
  bel : Below w0.heap.size w0 w
  hgs : w.heap[gs]? = some (.cells #[.pointer (some ⟨g,0,none⟩)] 106 (0,0))
  hgo : w.heap[go]? = some (.cells #[.slice A P.length cap] 50 (0,0))
  hgd : w.heap[gd]? = some (.cells #[.func (.func 204) #[] #[.pointer (some ⟨gs,0,none⟩),.pointer (some ⟨go,0,none⟩),.pointer (some ⟨gd,0,none⟩)]] 214 (0,0))
  own : Own w B 39 32 A P.length cap ((P.map NodeV.id).map idC)
  B : B ≤ w.heap.size
def listS (N : List NodeV) (G : List Id32) : List Pair:=(seen N G).map fun v=>⟨⟨#[]⟩,v⟩
theorem listS_len {N : List NodeV} {G : List Id32} (hf : Forest N) : (listS N G).length ≤ N.length:=by
  unfold listS seen;rw [List.length_map,List.length_map];exact Nat.le_trans (List.length_filter_le _ _) (orderN_length hf)
end
section
open Go.RowKit
@[go_sem] theorem buildPair_v (v : ByteArray) (w : World) : (bdS 98 #[(1,.string v)]).run Tryz.prog w = .ok (.agg (pairC ⟨⟨#[]⟩,v⟩)) w:=by kernel_rfl
def pS (T : List NodeV) (G : List Id32) : List Pair:=((T.filter fun n=>decide (n.id ∉ G)).map NodeV.val).map fun v=>⟨⟨#[]⟩,v⟩
theorem pS_snoc (T : List NodeV) (G : List Id32) (c : NodeV) : pS (T ++ [c]) G = if c.id ∈ G then pS T G else pS T G ++ [⟨⟨#[]⟩,c.val⟩]:=by
  unfold pS;rw [List.filter_append];by_cases e : c.id ∈ G <;> simp [e]
theorem pS_len (T : List NodeV) (G : List Id32) : (pS T G).length ≤ T.length:=by
  unfold pS;rw [List.length_map,List.length_map];exact List.length_filter_le _ _
end
section
open Go.RowKit
inductive VSt where
  | t (n : Int)
  | b (L G : List BRow)
  | l (L : List LRow)
  | m (X : List MRow) (O : List Id32)
  | s (N : List NodeV) (G : List Id32)
def StAt (w : World) (O M : List Nat) (v : Value) : VSt → Prop
  | .t n=>∃ g,v = .iface 100 (.pointer (some ⟨g,0,none⟩)) ∧ TallyAt w g n ∧ O = [g]
  | .b L G=>∃ g bl bg,v = .iface 102 (.pointer (some ⟨g,0,none⟩)) ∧ BagAt w g bl bg L G ∧ O = [g,bl,bg]
  | .l L=>∃ g b,v = .iface 104 (.pointer (some ⟨g,0,none⟩)) ∧ LastAt w g b L ∧ O = [g,b]
  | .m X Ov=>∃ g bl bo,v = .iface 105 (.pointer (some ⟨g,0,none⟩)) ∧ MultiAt w g bl bo X Ov ∧ O = [g,bl,bo]
  | .s N G=>∃ g bn bb bg,v = .iface 106 (.pointer (some ⟨g,0,none⟩)) ∧ SeqAt w M g bn bb bg N G ∧ O = [g,bn,bb,bg]
def VSt.kind : VSt → Int
  | .t _=>1
  | .b ..=>2
  | .l _=>3
  | .m ..=>4
  | .s ..=>5
def VSt.len : VSt → Nat
  | .t _=>0
  | .b L _=>L.length
  | .l L=>L.length
  | .m X _=>X.length
  | .s N _=>N.length
def doS (m : MarkV) (o : OpV) : VSt → VSt
  | .t n=>.t (wrap64 (n + o.n))
  | .b L G=>if o.k = 2 then .b (addB L G ⟨m.id,o.val⟩) G else .b (remL L o.val o.refs) (remG G o.val o.refs)
  | .l L=>.l (setL L o.key ⟨o.val,o.n,m.id⟩)
  | .m X Ov=>.m (setX X Ov ⟨m.id,o.key,o.val⟩ o.refs) (putO Ov o.refs)
  | .s N G=>if o.k = 6 then .s (addN N ⟨m.id,m.h,o.ref,o.val⟩) G else .s N (insC cmpId G o.ref)
theorem doS_b2 (m : MarkV) (o : OpV) (L G : List BRow) (h : o.k = 2) : doS m o (.b L G) = .b (addB L G ⟨m.id,o.val⟩) G:=if_pos h
theorem doS_b3 (m : MarkV) (o : OpV) (L G : List BRow) (h : ¬ o.k = 2) : doS m o (.b L G) = .b (remL L o.val o.refs) (remG G o.val o.refs):=if_neg h
theorem doS_s6 (m : MarkV) (o : OpV) (N : List NodeV) (G : List Id32) (h : o.k = 6) : doS m o (.s N G) = .s (addN N ⟨m.id,m.h,o.ref,o.val⟩) G:=if_pos h
theorem doS_s7 (m : MarkV) (o : OpV) (N : List NodeV) (G : List Id32) (h : ¬ o.k = 6) : doS m o (.s N G) = .s N (insC cmpId G o.ref):=if_neg h
theorem doS_kind (m : MarkV) (o : OpV) (s : VSt) : (doS m o s).kind = s.kind:=by
  cases s <;> simp only [doS] <;> (try split) <;> rfl
theorem remL_len (v : ByteArray) : ∀ (T : List Id32) (L : List BRow),(remL L v T).length ≤ L.length
  | [],L=>Nat.le_refl _
  | t :: T,L=>Nat.le_trans (remL_len v T _) (List.length_filter_le _ _)
theorem doS_len (m : MarkV) (o : OpV) (s : VSt) : (doS m o s).len ≤ s.len + 1:=by
  cases s with
  | t n=>exact Nat.zero_le _
  | b L G =>
    by_cases h : o.k = 2
    · rw [doS_b2 m o L G h];show (addB L G ⟨m.id,o.val⟩).length ≤ L.length + 1;unfold addB;have:=insC_length (c:=cmpRow) L ⟨m.id,o.val⟩
      repeat' split
      all_goals omega
    · rw [doS_b3 m o L G h];show (remL L o.val o.refs).length ≤ L.length + 1;have:=remL_len o.val o.refs L;omega
  | l L=>exact setL_length _ _ _
  | m X Ov =>
    show (setX X Ov ⟨m.id,o.key,o.val⟩ o.refs).length ≤ X.length + 1;unfold setX livR;exact Nat.le_trans (List.length_filter_le _ _) (insC_length (c:=cmpMR) X _)
  | s N G =>
    by_cases h : o.k = 6
    · rw [doS_s6 m o N G h];show (addN N ⟨m.id,m.h,o.ref,o.val⟩).length ≤ N.length + 1;unfold addN;repeat' split
      all_goals simp
    · rw [doS_s7 m o N G h];exact Nat.le_succ N.length
structure OpFit (s : VSt) (o : OpV) : Prop where
  kind : belongs o.k = s.kind
  key : o.key.size ≤ 16
  val : o.val.size ≤ 16
  refs : o.refs.length ≤ 8
  lo : -2147483648 ≤ o.n
  hi : o.n < 2147483648
def VSt.num : VSt → Int
  | .t n=>n
  | _=>0
def VSt.pairs : VSt → List Pair
  | .t _=>[]
  | .b L _=>(listB L).map pairV
  | .l L=>L.map pairOf
  | .m X _=>listM X
  | .s N G=>listS N G
end
section
open Go.RowKit
abbrev MarksIn (w : World) (A : Option Addr) (n : Nat) (R : List MarkV) : Prop:=SlR w A n 34 (R.map markVC)
theorem MarksIn.get {w : World} {A : Option Addr} {n : Nat} {R : List MarkV} (h : MarksIn w A n R) {i : Nat} (hi : i < n) (hR : i < R.length) :
    ∃ g o,A = some ⟨g,o,none⟩ ∧ rowAt w g (o + i * 34) 34 = some (markVC R[i]) ∧ rowAt w g (o + i * 34) 32 = some (idC (R[i]).id) ∧ w.cell? ⟨g,o + i * 34 + 33,none⟩ = some (.string (R[i]).body):=by
  obtain ⟨g,o,e,hr⟩:=SlR.at_ h hi;rw [List.getElem_map] at hr;refine ⟨g,o,e,hr,?_,?_⟩
  · have:=rowAt_sub hr (j:=0) (m:=32) (by omega)
    rwa [markVC_e0] at this
  · have:=rowAt_cell hr (j:=33) (by omega)
    rwa [markVC_g33] at this
theorem MarksIn.len {w : World} {A : Option Addr} {n : Nat} {R : List MarkV} (h : MarksIn w A n R) : R.length = n:=by simpa using h.1
structure MarksOk (w : World) (A : Option Addr) (n : Nat) (R : List MarkV) : Prop where
  rows : MarksIn w A n R
  big : n ≤ 9223372036854775807
  each : ∀ a ∈ R,a.body.size ≤ 9223372036854775807
def FewMarks (R : List MarkV) : Prop:=R.length ≤ 30 ∧ ∀ a ∈ R,a.body.size ≤ 600
end
section
open Go.RowKit
structure VAt (w : World) (g : Nat) (t : ByteArray) (b : Nat) (O : List Nat) (I : List Id32) (v : Value) (s : VSt) : Prop where
  view : ViewAt w g t b I v
  st : StAt w O (b :: O) v s
  gM : g ∉ b :: O
  bO : b ∉ O
  lt : ∀ x ∈ b :: O,x < w.heap.size
  b0 : 0 ∉ b :: O
def VSt.new (k : Int) : VSt:=if k = 1 then .t 0 else if k = 2 then .b [] [] else if k = 3 then .l [] else if k = 4 then .m [] [] else .s [] []
theorem kindB_range (t : ByteArray) : kindB t = 0 ∨ kindB t = 1 ∨ kindB t = 2 ∨ kindB t = 3 ∨ kindB t = 4 ∨ kindB t = 5:=by
  unfold kindB kindC
  repeat' split
  all_goals simp
theorem opO_lo (l : List UInt8) (h : opE l = 0) : -2147483648 ≤ (opO l).n:=by
  have hn:=opO_ok l h;have hk : 1 ≤ numV 1 l 0 ∧ numV 1 l 0 ≤ 7:=by
    unfold opE at h;split at h
    · contradiction
    split at h
    · cases h
    · omega
  have h2:=num_take (numV 1 l 0) (rawL 1 l 0) 0 hk.1 hk.2;have e : (takeO (numV 1 l 0) (rawL 1 l 0) 0).o = opO l:=rfl;rw [e,decide_eq_true hn.2.2.2.2.2.2.2] at h2;unfold numO at h2;simp only [Bool.and_eq_true,decide_eq_true_eq] at h2;exact h2.2.2
def foldS (t : ByteArray) (m : MarkV) (s : VSt) : VSt:=if fits t m then doS m (opO m.body.data.toList) s else s
theorem foldS_kind (t : ByteArray) (m : MarkV) (s : VSt) : (foldS t m s).kind = s.kind:=by
  unfold foldS;split
  · exact doS_kind _ _ _
  · rfl
theorem foldS_len (t : ByteArray) (m : MarkV) (s : VSt) : (foldS t m s).len ≤ s.len + 1:=by
  unfold foldS;split
  · exact doS_len _ _ _
  · omega
end
section
open Go.RowKit
theorem getL_cons (a : LRow) (l : List LRow) (k : ByteArray) : getL (a :: l) k = if a.1 = k then some a.2 else getL l k:=by
  unfold getL;rw [List.find?_cons];by_cases h : a.1 = k <;> simp [h]
theorem getL_ins_other : ∀ (l : List LRow) (k k' : ByteArray) (x : Setting),k ≠ k' → getL (insL l k x) k' = getL l k'
  | [],k,k',x,h=>by simp [insL,getL,h]
  | a :: l,k,k',x,h=>by
    unfold insL;split
    · rw [getL_cons,getL_cons,getL_ins_other l k k' x h]
    · split
      · rename_i he
        split
        · rw [getL_cons,getL_cons];simp only;rw [if_neg h,if_neg (fun e=>h (he.symm.trans e))]
        · rfl
      · rw [getL_cons];simp only;rw [if_neg h]
theorem getL_lt {l : List LRow} {k : ByteArray} (h : ∀ y ∈ l,cmpS k y.1 < 0) : getL l k = none:=by
  unfold getL;rw [Option.map_eq_none_iff,List.find?_eq_none];intro y hy e;have:=h y hy;have e' : y.1 = k:=by simpa using e
  rw [e'] at this;exact cmpS_irr this
theorem getL_ins_same : ∀ (l : List LRow) (k : ByteArray) (x : Setting),Rising l → getL (insL l k x) k = some (match getL l k with | none=>x | some was=>if 0 < cmpSet x was then x else was)
  | [],k,x,_=>by simp [insL,getL]
  | a :: l,k,x,hr=>by
    unfold insL;split
    · rename_i hlt
      have hne : a.1 ≠ k:=fun e=>(by rw [e] at hlt;exact cmpS_irr hlt);rw [getL_cons,getL_cons,if_neg hne,if_neg hne];exact getL_ins_same l k x hr.2
    · rename_i hnl
      split
      · rename_i he
        rw [getL_cons a l,if_pos he];split
        · rename_i h0;rw [getL_cons];simp [h0]
        · rename_i h0;rw [getL_cons,if_pos he];simp [h0]
      · rename_i he
        rw [getL_cons];simp only [if_true];rw [getL_cons,if_neg he,getL_lt];intro y hy;exact cmpS_trans _ _ _ (cmpS_ne hnl he) (hr.1 y hy)
theorem orL3_zero {a b c : Int} : orL [a,b,c] = 0 ↔ a = 0 ∧ b = 0 ∧ c = 0:=by
  simp only [orL]
  repeat' split
  all_goals simp_all
theorem cmpI_zero {a b : Int} : cmpI a b = 0 ↔ a = b:=by
  unfold cmpI
  repeat' split
  all_goals first | (simp;omega) | (constructor <;> intro h <;> omega)
theorem cmpI_anti (a b : Int) : cmpI b a = - cmpI a b:=by
  unfold cmpI
  repeat' split
  all_goals first | omega | simp
theorem cmpI_trans {a b c : Int} (h : cmpI a b < 0) (k : cmpI b c < 0) : cmpI a c < 0:=by
  have h1 : a < b:=by unfold cmpI at h;repeat' split at h
                      all_goals first | assumption | omega
  have h2 : b < c:=by unfold cmpI at k;repeat' split at k
                      all_goals first | assumption | omega
  unfold cmpI;rw [if_pos (by omega)];omega
theorem cmpSet_zero {x y : Setting} : cmpSet x y = 0 ↔ x = y:=by
  unfold cmpSet;rw [orL3_zero,cmpI_zero,cmpId_zero,cmpS_zero];constructor
  · rintro ⟨h1,h2,h3⟩;cases x;cases y;simp_all
  · rintro rfl;simp
theorem orL3_neg (a b c : Int) : orL [-a,-b,-c] = - orL [a,b,c]:=by
  simp only [orL]
  repeat' split
  all_goals first | omega | simp
theorem cmpSet_anti (x y : Setting) : cmpSet y x = - cmpSet x y:=by
  unfold cmpSet;rw [cmpI_anti,cmpId_anti,cmpS_anti,orL3_neg]
theorem orL3_lt {a b c : Int} : orL [a,b,c] < 0 ↔ a < 0 ∨ a = 0 ∧ (b < 0 ∨ b = 0 ∧ c < 0):=by
  simp only [orL]
  repeat' split
  all_goals (constructor <;> intro h <;> omega)
theorem cmpSet_trans {x y z : Setting} (h : cmpSet x y < 0) (k : cmpSet y z < 0) : cmpSet x z < 0:=by
  unfold cmpSet at *;rw [orL3_lt] at *;rcases h with h | ⟨h1,h | ⟨h2,h⟩⟩
  · rcases k with k | ⟨k1,_⟩
    · exact .inl (cmpI_trans h k)
    · rw [cmpI_zero] at k1;rw [← k1];exact .inl h
  · rw [cmpI_zero] at h1;rw [h1];rcases k with k | ⟨k1,k | ⟨k2,k⟩⟩
    · exact .inl k
    · exact .inr ⟨k1,.inl (cmpId_trans _ _ _ h k)⟩
    · rw [cmpId_zero] at k2;rw [← k2];exact .inr ⟨k1,.inl h⟩
  · rw [cmpI_zero] at h1;rw [cmpId_zero] at h2;rw [h1,h2];rcases k with k | ⟨k1,k | ⟨k2,k⟩⟩
    · exact .inl k
    · exact .inr ⟨k1,.inl k⟩
    · exact .inr ⟨k1,.inr ⟨k2,cmpS_trans _ _ _ h k⟩⟩
def maxS (o : Option Setting) (x : Setting) : Setting:=match o with | none=>x | some was=>if 0 < cmpSet x was then x else was
theorem maxS_none (x : Setting) : maxS none x = x:=rfl
theorem maxS_some (u x : Setting) : maxS (some u) x = if 0 < cmpSet x u then x else u:=rfl
theorem rising_ext : ∀ {L L' : List LRow},Rising L → Rising L' → (∀ k,getL L k = getL L' k) → L = L'
  | [],[],_,_,_=>rfl
  | [],b :: l',_,_,h=>by
    have:=h b.1;rw [getL_cons,if_pos rfl] at this;cases this
  | a :: l,[],_,_,h=>by
    have:=h a.1;rw [getL_cons,if_pos rfl] at this;cases this
  | a :: l,b :: l',h1,h2,h=>by
    have ha:=h a.1;have hb:=h b.1;rw [getL_cons,if_pos rfl] at ha;rw [getL_cons (a:=b),if_pos rfl] at hb;have hk : a.1 = b.1:=by
      by_cases hlt : cmpS a.1 b.1 < 0
      · have : getL (b :: l') a.1 = none:=getL_lt (fun y hy=>by
          rcases List.mem_cons.1 hy with e | hy
          · rw [e];exact hlt
          · exact cmpS_trans _ _ _ hlt (h2.1 y hy))
        rw [this] at ha;cases ha
      · by_cases he : a.1 = b.1
        · exact he
        · have hlt2:=cmpS_ne hlt he;have : getL (a :: l) b.1 = none:=getL_lt (fun y hy=>by
            rcases List.mem_cons.1 hy with e | hy
            · rw [e];exact hlt2
            · exact cmpS_trans _ _ _ hlt2 (h1.1 y hy))
          rw [this] at hb;cases hb
    rw [getL_cons,if_pos hk.symm] at ha;have hv : a.2 = b.2:=by injection ha
    have hab : a = b:=Prod.ext hk hv;subst hab;congr 1
    refine rising_ext h1.2 h2.2 fun k=>?_;by_cases e : a.1 = k
    · subst e;rw [getL_lt h1.1,getL_lt h2.1]
    · have:=h k
      rwa [getL_cons,getL_cons,if_neg e,if_neg e] at this
theorem getL_ins_max {l : List LRow} {k : ByteArray} {x : Setting} (h : Rising l) : getL (insL l k x) k = some (maxS (getL l k) x):=by
  rw [getL_ins_same l k x h];cases getL l k <;> rfl
end
section
open Go.RowKit
def oOf (m : MarkV) : OpV:=opO m.body.data.toList
def setOf (m : MarkV) : Setting:=⟨(oOf m).val,(oOf m).n,m.id⟩
def nodeOf (m : MarkV) : NodeV:=⟨m.id,m.h,(oOf m).ref,(oOf m).val⟩
def rowOfM (m : MarkV) : MRow:=⟨m.id,(oOf m).key,(oOf m).val⟩
def sumN (F : List MarkV) : Int:=(F.map fun m=>(oOf m).n).sum
theorem sumN_snoc (F : List MarkV) (m : MarkV) : sumN (F ++ [m]) = sumN F + (oOf m).n:=by simp [sumN]
theorem sumN_perm {F F' : List MarkV} (h : F.Perm F') : sumN F = sumN F':=by
  unfold sumN;induction h with
  | nil=>rfl
  | cons x _ ih=>simp only [List.map_cons,List.sum_cons,ih]
  | swap x y l=>simp only [List.map_cons,List.sum_cons];omega
  | trans _ _ h1 h2=>rw [h1,h2]
theorem wrap64_left (a b : Int) : wrap64 (wrap64 a + b) = wrap64 (a + b):=by unfold wrap64;omega
def Latest (F : List MarkV) (k : ByteArray) : Option Setting → Prop
  | none=>∀ m ∈ F,checkE (oOf m).key (setOf m) = 0 → (oOf m).key ≠ k
  | some s=>(∃ m ∈ F,checkE (oOf m).key (setOf m) = 0 ∧ (oOf m).key = k ∧ s = setOf m) ∧ ∀ m ∈ F,checkE (oOf m).key (setOf m) = 0 → (oOf m).key = k → ¬ 0 < cmpSet (setOf m) s
def Means (F : List MarkV) : VSt → Prop
  | .t n=>n = wrap64 (sumN F)
  | .b L G=>Ris cmpRow L ∧ Ris cmpRow G ∧ (∀ z,z ∈ G ↔ ∃ m ∈ F,(oOf m).k ≠ 2 ∧ z.val = (oOf m).val ∧ z.tag ∈ (oOf m).refs) ∧ ∀ z,z ∈ L ↔ (∃ m ∈ F,(oOf m).k = 2 ∧ z = ⟨m.id,(oOf m).val⟩) ∧ z ∉ G
  | .l L=>RowsOk L ∧ ∀ k,Latest F k (getL L k)
  | .m X O=>Ris cmpMR X ∧ Ris cmpId O ∧ (∀ z,z ∈ O ↔ ∃ m ∈ F,z ∈ (oOf m).refs) ∧ ∀ z,z ∈ X ↔ (∃ m ∈ F,z = rowOfM m) ∧ z.id ∉ O
  | .s N G=>(∀ z,z ∈ N ↔ ∃ m ∈ F,(oOf m).k = 6 ∧ z = nodeOf m ∧ nodeE z = 0) ∧ Ris cmpId G ∧ ∀ z,z ∈ G ↔ ∃ m ∈ F,(oOf m).k ≠ 6 ∧ z = (oOf m).ref
theorem ex_snoc {F : List MarkV} {m : MarkV} {P : MarkV → Prop} : (∃ a ∈ F ++ [m],P a) ↔ (∃ a ∈ F,P a) ∨ P m:=by
  constructor
  · rintro ⟨a,ha,hp⟩;rcases List.mem_append.1 ha with h | h
    · exact .inl ⟨a,h,hp⟩
    · have e : a = m:=by simpa using h
      subst e;exact .inr hp
  · rintro (⟨a,ha,hp⟩ | hp)
    · exact ⟨a,List.mem_append_left _ ha,hp⟩
    · exact ⟨m,by simp,hp⟩
theorem all_snoc {F : List MarkV} {m : MarkV} {P : MarkV → Prop} : (∀ a ∈ F ++ [m],P a) ↔ (∀ a ∈ F,P a) ∧ P m:=by
  constructor
  · intro h;exact ⟨fun a ha=>h a (List.mem_append_left _ ha),h m (by simp)⟩
  · rintro ⟨h1,h2⟩ a ha;rcases List.mem_append.1 ha with h | h
    · exact h1 a h
    · have e : a = m:=by simpa using h
      subst e;exact h2
theorem means_new (k : Int) : Means [] (VSt.new k):=by
  unfold VSt.new;split
  · show (0 : Int) = wrap64 (sumN []);decide +kernel
  split
  · exact ⟨Ris.nil,Ris.nil,by simp,by simp⟩
  split
  · exact ⟨⟨trivial,by simp⟩,fun k=>by show Latest [] k none;intro m hm;simp at hm⟩
  split
  · exact ⟨Ris.nil,Ris.nil,by simp,by simp⟩
  · exact ⟨by simp,Ris.nil,by simp⟩
theorem latest_snoc {F : List MarkV} {m : MarkV} {L : List LRow} (hr : Rising L) (h : ∀ k,Latest F k (getL L k)) (hc : checkE (oOf m).key (setOf m) = 0) (k : ByteArray) : Latest (F ++ [m]) k (getL (insL L (oOf m).key (setOf m)) k):=by
  by_cases hk : (oOf m).key = k
  · subst hk;rw [getL_ins_max hr];have h1:=h (oOf m).key;cases hg : getL L (oOf m).key with
    | none =>
      rw [hg] at h1;rw [maxS_none];refine ⟨ex_snoc.2 (.inr ⟨hc,rfl,rfl⟩),all_snoc.2 ⟨fun a ha hca e=>absurd e (h1 a ha hca),fun _ _=>?_⟩⟩;rw [(cmpSet_zero (x:=setOf m)).2 rfl];omega
    | some u =>
      rw [hg] at h1;rw [maxS_some];obtain ⟨h2,h3⟩:=h1;by_cases hu : 0 < cmpSet (setOf m) u
      · rw [if_pos hu];refine ⟨ex_snoc.2 (.inr ⟨hc,rfl,rfl⟩),all_snoc.2 ⟨fun a ha hca e hlt=>?_,fun _ _=>?_⟩⟩
        · have h4:=h3 a ha hca e;have h5:=cmpSet_anti (setOf a) (setOf m);have h6:=cmpSet_anti (setOf a) u;have h8:=cmpSet_anti (setOf m) u;by_cases h7 : cmpSet (setOf a) u = 0
          · rw [cmpSet_zero.1 h7] at hlt;omega
          · have:=cmpSet_trans (x:=u) (y:=setOf m) (z:=setOf a) (by omega) (by omega);omega
        · rw [(cmpSet_zero (x:=setOf m)).2 rfl];omega
      · rw [if_neg hu];exact ⟨ex_snoc.2 (.inl h2),all_snoc.2 ⟨h3,fun _ _=>hu⟩⟩
  · rw [getL_ins_other _ _ _ _ hk];have h1:=h k;cases hg : getL L k with
    | none=>rw [hg] at h1;exact all_snoc.2 ⟨h1,fun _=>hk⟩
    | some u =>
      rw [hg] at h1;exact ⟨ex_snoc.2 (.inl h1.1),all_snoc.2 ⟨h1.2,fun _ e=>absurd e hk⟩⟩
theorem latest_skip {F : List MarkV} {m : MarkV} {k : ByteArray} {o : Option Setting} (h : Latest F k o) (hc : checkE (oOf m).key (setOf m) ≠ 0) : Latest (F ++ [m]) k o:=by
  cases o with
  | none=>exact all_snoc.2 ⟨h,fun e=>absurd e hc⟩
  | some u=>exact ⟨ex_snoc.2 (.inl h.1),all_snoc.2 ⟨h.2,fun e=>absurd e hc⟩⟩
theorem mem_addB {L G : List BRow} {x z : BRow} (hv : x.val.size ≤ 16) (hr : Ris cmpRow L) (hl : ∀ y ∈ L,y ∉ G) : z ∈ addB L G x ↔ (z ∈ L ∨ z = x) ∧ z ∉ G:=by
  unfold addB;rw [if_neg (by omega)];split
  · rename_i h
    constructor
    · intro hz;exact ⟨.inl hz,hl z hz⟩
    · rintro ⟨h1 | h1,h2⟩
      · exact h1
      · subst h1;exact absurd h h2
  · rename_i h
    rw [mem_insC totRow];constructor
    · rintro (h1 | h1)
      · subst h1;exact ⟨.inr rfl,h⟩
      · exact ⟨.inl h1,hl z h1⟩
    · rintro ⟨h1 | h1,_⟩
      · exact .inr h1
      · exact .inl h1
theorem ris_addB {L G : List BRow} {x : BRow} (hr : Ris cmpRow L) : Ris cmpRow (addB L G x):=by
  unfold addB;split
  · exact hr
  · split
    · exact hr
    · exact ris_insC totRow hr
theorem means_fold {F : List MarkV} {m : MarkV} {s : VSt} (h : Means F s) (hv : (oOf m).val.size ≤ 16) (hid : ∀ a ∈ F,a.id ≠ m.id) : Means (F ++ [m]) (doS m (oOf m) s):=by
  cases s with
  | t n =>
    show wrap64 (n + (oOf m).n) = wrap64 (sumN (F ++ [m]));have e : n = wrap64 (sumN F):=h;rw [sumN_snoc,e,wrap64_left]
  | b L G =>
    obtain ⟨h1,h2,h3,h4⟩:=h;by_cases hk : (oOf m).k = 2
    · rw [doS_b2 m _ L G hk];refine ⟨ris_addB h1,h2,fun z=>?_,fun z=>?_⟩
      · rw [ex_snoc,← h3];exact ⟨.inl,fun h=>h.elim id fun h=>absurd hk h.1⟩
      · rw [mem_addB (x:=⟨m.id,(oOf m).val⟩) hv h1 (fun y hy=>((h4 y).1 hy).2),ex_snoc,h4];constructor
        · rintro ⟨⟨h5,_⟩ | h5,h6⟩
          · exact ⟨.inl h5,h6⟩
          · exact ⟨.inr ⟨hk,h5⟩,h6⟩
        · rintro ⟨h5 | ⟨_,h5⟩,h6⟩
          · exact ⟨.inl ⟨h5,h6⟩,h6⟩
          · exact ⟨.inr h5,h6⟩
    · rw [doS_b3 m _ L G hk];refine ⟨ris_remL h1,ris_remG h2,fun z=>?_,fun z=>?_⟩
      · rw [mem_remG,ex_snoc,h3];exact ⟨fun h=>h.elim .inl fun h=>.inr ⟨hk,h.1,h.2⟩,fun h=>h.elim .inl fun h=>.inr ⟨h.2.1,h.2.2⟩⟩
      · rw [mem_remL,mem_remG,ex_snoc,h4];constructor
        · rintro ⟨⟨h5,h6⟩,h7⟩;exact ⟨.inl h5,fun h=>h.elim h6 h7⟩
        · rintro ⟨h5 | h5,h6⟩
          · exact ⟨⟨h5,fun h=>h6 (.inl h)⟩,fun h=>h6 (.inr h)⟩
          · exact absurd h5.1 hk
  | l L =>
    obtain ⟨h1,h2⟩:=h;show RowsOk (setL L (oOf m).key (setOf m)) ∧ _;refine ⟨setL_ok h1 _ _,fun k=>?_⟩;show Latest _ k (getL (setL L (oOf m).key (setOf m)) k);unfold setL;by_cases hc : checkE (oOf m).key (setOf m) = 0
    · rw [if_pos hc];exact latest_snoc h1.1 h2 hc k
    · rw [if_neg hc];exact latest_skip (h2 k) hc
  | m X O =>
    obtain ⟨h1,h2,h3,h4⟩:=h;have hO : ∀ z,z ∈ putO O (oOf m).refs ↔ ∃ a ∈ F ++ [m],z ∈ (oOf a).refs:=fun z=>(by rw [mem_putO h2,ex_snoc,h3]);refine ⟨(ris_insC totMR h1).filter _,putO_ris h2,hO,fun z=>?_⟩;show z ∈ livR (insC cmpMR X (rowOfM m)) (putO O (oOf m).refs) ↔ _;unfold livR;rw [List.mem_filter,mem_insC totMR,ex_snoc,h4];simp only [decide_eq_true_eq];constructor
    · rintro ⟨h5 | ⟨h5,_⟩,h6⟩
      · exact ⟨.inr h5,h6⟩
      · exact ⟨.inl h5,h6⟩
    · rintro ⟨h5 | h5,h6⟩
      · exact ⟨.inr ⟨h5,fun h=>h6 ((mem_putO h2).2 (.inl h))⟩,h6⟩
      · exact ⟨.inl h5,h6⟩
  | s N G =>
    obtain ⟨h1,h2,h3⟩:=h;by_cases hk : (oOf m).k = 6
    · rw [doS_s6 m _ N G hk];refine ⟨fun z=>?_,h2,fun z=>?_⟩
      · show z ∈ addN N (nodeOf m) ↔ _;unfold addN;rw [ex_snoc,← h1];by_cases hE : nodeE (nodeOf m) = 0
        · rw [if_pos hE];have hn : (nodeOf m).id ∉ N.map NodeV.id:=fun hx=>by
            obtain ⟨a,ha,e⟩:=List.mem_map.1 hx;obtain ⟨b,hb,_,e2,_⟩:=(h1 a).1 ha;rw [e2] at e;exact hid b hb e
          rw [if_neg hn,List.mem_append,List.mem_singleton];exact ⟨fun h=>h.elim .inl fun h=>.inr ⟨hk,h,by rw [h];exact hE⟩,fun h=>h.elim .inl fun h=>.inr h.2.1⟩
        · rw [if_neg hE];exact ⟨.inl,fun h=>h.elim id fun h=>absurd (by rw [← h.2.1];exact h.2.2) hE⟩
      · rw [ex_snoc,← h3];exact ⟨.inl,fun h=>h.elim id fun h=>absurd hk h.1⟩
    · rw [doS_s7 m _ N G hk];refine ⟨fun z=>?_,ris_insC totId h2,fun z=>?_⟩
      · rw [ex_snoc,← h1];exact ⟨.inl,fun h=>h.elim id fun h=>absurd h.1 hk⟩
      · rw [mem_insC totId,ex_snoc,h3];exact ⟨fun h=>h.elim (fun h=>.inr ⟨hk,h⟩) .inl,fun h=>h.elim .inr fun h=>.inl h.2⟩
def SameS : VSt → VSt → Prop
  | .t a,.t b=>a = b
  | .b L G,.b L' G'=>L = L' ∧ G = G'
  | .l L,.l L'=>L = L'
  | .m X O,.m X' O'=>X = X' ∧ O = O'
  | .s N G,.s N' G'=>(∀ z,z ∈ N ↔ z ∈ N') ∧ G = G'
  | _,_=>False
theorem ex_mem {F F' : List MarkV} {P : MarkV → Prop} (h : ∀ m,m ∈ F ↔ m ∈ F') : (∃ a ∈ F,P a) ↔ ∃ a ∈ F',P a :=
  ⟨fun ⟨a,ha,hp⟩=>⟨a,(h a).1 ha,hp⟩,fun ⟨a,ha,hp⟩=>⟨a,(h a).2 ha,hp⟩⟩
theorem latest_uniq {F F' : List MarkV} {k : ByteArray} {o o' : Option Setting} (hm : ∀ m,m ∈ F ↔ m ∈ F') (h : Latest F k o) (h' : Latest F' k o') : o = o':=by
  cases o with
  | none =>
    cases o' with
    | none=>rfl
    | some u =>
      obtain ⟨⟨a,ha,hc,e,_⟩,_⟩:=h';exact absurd e (h a ((hm a).2 ha) hc)
  | some v =>
    obtain ⟨⟨b,hb,hcb,eb,evb⟩,hmax⟩:=h;cases o' with
    | none=>exact absurd eb (h' b ((hm b).1 hb) hcb)
    | some u =>
      obtain ⟨⟨a,ha,hc,e,ea⟩,hmax'⟩:=h';have h1:=hmax a ((hm a).2 ha) hc e;have h2:=hmax' b ((hm b).1 hb) hcb eb;have h3:=cmpSet_anti (setOf a) v;rw [← ea] at h1 h3;rw [← evb] at h2;have : cmpSet u v = 0:=by omega
      rw [cmpSet_zero.1 this]
theorem means_uniq {F F' : List MarkV} {s s' : VSt} (hp : F.Perm F') (h : Means F s) (h' : Means F' s') (hk : s.kind = s'.kind) : SameS s s':=by
  have hm : ∀ m,m ∈ F ↔ m ∈ F':=fun m=>hp.mem_iff;cases s <;> cases s' <;> simp [VSt.kind] at hk
  · show _ = _;have e1 : _ = wrap64 (sumN F):=h;have e2 : _ = wrap64 (sumN F'):=h';rw [e1,e2,sumN_perm hp]
  · obtain ⟨a1,a2,a3,a4⟩:=h;obtain ⟨b1,b2,b3,b4⟩:=h';have hG:=ris_ext totRow a2 b2 fun z=>(by rw [a3,b3];exact ex_mem hm);subst hG;exact ⟨ris_ext totRow a1 b1 fun z=>by rw [a4,b4,ex_mem hm],rfl⟩
  · obtain ⟨a1,a2⟩:=h;obtain ⟨b1,b2⟩:=h';exact rising_ext a1.1 b1.1 fun k=>latest_uniq hm (a2 k) (b2 k)
  · obtain ⟨a1,a2,a3,a4⟩:=h;obtain ⟨b1,b2,b3,b4⟩:=h';have hO:=ris_ext totId a2 b2 fun z=>(by rw [a3,b3];exact ex_mem hm);subst hO;exact ⟨ris_ext totMR a1 b1 fun z=>by rw [a4,b4,ex_mem hm],rfl⟩
  · obtain ⟨a1,a2,a3⟩:=h;obtain ⟨b1,b2,b3⟩:=h';exact ⟨fun z=>by rw [a1,b1];exact ex_mem hm,ris_ext totId a2 b2 fun z=>by rw [a3,b3];exact ex_mem hm⟩
end
end Go.Proofs.YtgfpjjppeldhbaaGreatDoor
