/- Part 5 of the texts that lead to this claim: the walks of the functions and the plain law, in order. -/
import Derived.Test.YtgfpjjppeldhbaaGreatDoorMr4
import Derived.Test.YtgfpjjppeldhbaaGreatDoorLayGrow
import Derived.LoopN
namespace Go.Proofs.YtgfpjjppeldhbaaGreatDoor
section
section
variable {ι ν : Type} (kid : ι → List ν) (idn : ν → ι) (N : List ν) (refn : ν → ι) (z : ι)
def preD : Nat → ι → List ν
  | 0,_=>[]
  | k + 1,r=>(kid r).flatMap fun c=>c :: preD k (idn c)
def Deep : Nat → ι → Prop
  | 0,_=>False
  | k + 1,r=>∀ c ∈ kid r,Deep k (idn c)
def workL : Nat → List ν → List ν
  | 0,_=>[]
  | _ + 1,[]=>[]
  | k + 1,n :: row=>n :: workL k (kid (idn n) ++ row)
def restL (k : Nat) (row : List ν) : List ν:=row.flatMap fun c=>c :: preD kid idn k (idn c)
variable {kid idn N refn z}
theorem deep_up : ∀ {k : Nat} {r : ι},Deep kid idn k r → Deep kid idn (k + 1) r
  | 0,_,h=>h.elim
  | _ + 1,_,h=>fun c hc=>deep_up (h c hc)
theorem pre_up : ∀ {k : Nat} {r : ι},Deep kid idn k r → preD kid idn (k + 1) r = preD kid idn k r
  | 0,_,h=>h.elim
  | k + 1,r,h=>by
    show (kid r).flatMap _ = (kid r).flatMap _;have : ∀ l : List ν,(∀ c ∈ l,Deep kid idn k (idn c)) → l.flatMap (fun c=>c :: preD kid idn (k + 1) (idn c)) = l.flatMap (fun c=>c :: preD kid idn k (idn c)):=by
      intro l;induction l with
      | nil=>intro _;rfl
      | cons c l ih =>
        intro hl;rw [List.flatMap_cons,List.flatMap_cons,pre_up (hl c (by simp)),ih (fun d hd=>hl d (by simp [hd]))]
    exact this _ h
theorem rest_step {k : Nat} {n : ν} {row : List ν} (hn : Deep kid idn k (idn n)) : restL kid idn k (n :: row) = n :: restL kid idn k (kid (idn n) ++ row):=by
  cases k with
  | zero=>exact hn.elim
  | succ k =>
    unfold restL;rw [List.flatMap_cons,List.flatMap_append,List.cons_append];congr 2
    show (kid (idn n)).flatMap _ = _;have h2 : preD kid idn (k + 1 + 1) (idn n) = preD kid idn (k + 1) (idn n):=pre_up hn;exact h2.symm
theorem deep_kids {k : Nat} {n : ν} (hn : Deep kid idn k (idn n)) : ∀ c ∈ kid (idn n),Deep kid idn k (idn c):=by
  cases k with
  | zero=>exact hn.elim
  | succ k=>exact fun c hc=>deep_up (hn c hc)
inductive Path (kid : ι → List ν) (idn : ν → ι) (z : ι) : List ι → Prop
  | root : Path kid idn z [z]
  | step {r : ι} {p : List ι} {c : ν} (h : Path kid idn z (r :: p)) (hc : c ∈ kid r) : Path kid idn z (idn c :: r :: p)
theorem path_split (hid : ∀ a ∈ N,∀ b ∈ N,idn a = idn b → a = b) (hk : ∀ r,∀ c ∈ kid r,c ∈ N ∧ refn c = r) (hz : ∀ a ∈ N,idn a ≠ z) {q : List ι} (h : Path kid idn z q) {c : ν} (hc : c ∈ N) (hm : idn c ∈ q) :
    ∃ s t,q = s ++ idn c :: refn c :: t:=by
  induction h with
  | root=>simp at hm;exact absurd hm (hz c hc)
  | @step r p d h hd ih =>
    by_cases e : idn c = idn d
    · obtain ⟨hdN,hdr⟩:=hk _ _ hd;have:=hid c hc d hdN e;subst this;exact ⟨[],p,by simp [hdr]⟩
    · rcases List.mem_cons.1 hm with h1 | h1
      · exact absurd h1 e
      · obtain ⟨s,t,hq⟩:=ih h1;exact ⟨idn d :: s,t,by rw [hq];rfl⟩
theorem path_nodup (hid : ∀ a ∈ N,∀ b ∈ N,idn a = idn b → a = b) (hk : ∀ r,∀ c ∈ kid r,c ∈ N ∧ refn c = r) (hz : ∀ a ∈ N,idn a ≠ z) {q : List ι} (h : Path kid idn z q) : q.Nodup:=by
  induction h with
  | root=>simp
  | @step r p d h hd ih =>
    refine List.nodup_cons.2 ⟨fun hm=>?_,ih⟩;obtain ⟨hdN,hdr⟩:=hk _ _ hd;obtain ⟨s,t,hq⟩:=path_split hid hk hz h hdN hm;rw [hdr] at hq;rw [hq] at ih;cases s with
    | nil =>
      simp only [List.nil_append] at ih hq;injection hq with h1 h2
      rw [← h1] at ih;simp at ih
    | cons a s =>
      injection hq with h1 h2
      rw [← h1] at ih;simp at ih
theorem path_sub (hk : ∀ r,∀ c ∈ kid r,c ∈ N ∧ refn c = r) {q : List ι} (h : Path kid idn z q) : ∀ x ∈ q,x ∈ z :: N.map idn:=by
  induction h with
  | root=>simp
  | @step r p d h hd ih =>
    intro x hx;rcases List.mem_cons.1 hx with e | hx
    · subst e;exact List.mem_cons.2 (.inr (List.mem_map.2 ⟨d,(hk _ _ hd).1,rfl⟩))
    · exact ih x hx
theorem subs_len {α : Type} : ∀ {S M : List α},S.Nodup → (∀ x ∈ S,x ∈ M) → S.length ≤ M.length
  | [],M,_,_=>Nat.zero_le _
  | x :: S,M,hn,hs=>by
    classical
    obtain ⟨h1,h2⟩:=List.nodup_cons.1 hn;have:=subs_len (M:=M.erase x) h2 (fun y hy=>(List.mem_erase_of_ne (fun e=>h1 (by rw [← e];exact hy))).2 (hs y (by simp [hy])));rw [List.length_erase_of_mem (hs x (by simp))] at this;have h3:=List.length_pos_of_mem (hs x (by simp));simp only [List.length_cons];omega
theorem deep_path (hid : ∀ a ∈ N,∀ b ∈ N,idn a = idn b → a = b) (hk : ∀ r,∀ c ∈ kid r,c ∈ N ∧ refn c = r) (hz : ∀ a ∈ N,idn a ≠ z) :
    ∀ (f : Nat) (r : ι) (p : List ι),Path kid idn z (r :: p) → N.length + 1 < f + (r :: p).length → Deep kid idn f r
  | 0,r,p,h,hf=>by
    have:=subs_len (path_nodup hid hk hz h) (path_sub hk h);simp only [List.length_cons,List.length_map] at this hf;omega
  | f + 1,r,p,h,hf=>fun c hc=>deep_path hid hk hz f _ _ (h.step hc) (by simp only [List.length_cons] at hf ⊢;omega)
theorem deep_root (hid : ∀ a ∈ N,∀ b ∈ N,idn a = idn b → a = b) (hk : ∀ r,∀ c ∈ kid r,c ∈ N ∧ refn c = r) (hz : ∀ a ∈ N,idn a ≠ z) : Deep kid idn (N.length + 1) z :=
  deep_path hid hk hz _ z [] Path.root (by simp)
theorem pre_root {k : Nat} (h : Deep kid idn k z) : preD kid idn k z = restL kid idn k (kid z):=by
  rw [← pre_up h];rfl
theorem pre_add {k : Nat} {r : ι} (h : Deep kid idn k r) : ∀ j,preD kid idn (k + j) r = preD kid idn k r ∧ Deep kid idn (k + j) r
  | 0=>⟨rfl,h⟩
  | j + 1=>by
    obtain ⟨h1,h2⟩:=pre_add h j;exact ⟨(pre_up h2).trans h1,deep_up h2⟩
theorem pre_any {k m : Nat} {r : ι} (h : Deep kid idn k r) (h' : Deep kid idn m r) : preD kid idn k r = preD kid idn m r:=by
  rw [← (pre_add h m).1,Nat.add_comm,(pre_add h' k).1]
structure OutInv (N : List ν) (idn : ν → ι) (refn : ν → ι) (z : ι) (out row : List ν) : Prop where
  nodup : (out ++ row).Nodup
  sub : ∀ x ∈ out ++ row,x ∈ N
  par : ∀ x ∈ out ++ row,refn x = z ∨ ∃ y ∈ out,idn y = refn x
theorem OutInv.step (hid : ∀ a ∈ N,∀ b ∈ N,idn a = idn b → a = b) (hk : ∀ r,∀ c ∈ kid r,c ∈ N ∧ refn c = r) (hz : ∀ a ∈ N,idn a ≠ z) (hkn : ∀ r,(kid r).Nodup) {out row : List ν} {n : ν} (h : OutInv N idn refn z out (n :: row)) :
    OutInv N idn refn z (out ++ [n]) (kid (idn n) ++ row):=by
  have hnN : n ∈ N:=h.sub n (by simp);have hno : n ∉ out:=fun hm=>by
    have:=h.nodup;rw [List.nodup_append] at this;exact this.2.2 n hm n (by simp) rfl
  have hdis : ∀ x ∈ kid (idn n),x ∉ out ++ n :: row:=by
    intro x hx hm;obtain ⟨hxN,hxr⟩:=hk _ x hx;rcases h.par x hm with e | ⟨y,hy,e⟩
    · exact hz n hnN (hxr.symm.trans e)
    · rw [hxr] at e;have:=hid y (h.sub y (List.mem_append.2 (.inl hy))) n hnN e;subst this;exact hno hy
  have hp : (out ++ [n] ++ (kid (idn n) ++ row)).Perm (kid (idn n) ++ (out ++ n :: row)):=by
    have : out ++ [n] ++ (kid (idn n) ++ row) = (out ++ [n]) ++ kid (idn n) ++ row:=by simp
    rw [this];have e2 : kid (idn n) ++ (out ++ n :: row) = kid (idn n) ++ (out ++ [n]) ++ row:=by simp
    rw [e2];exact List.Perm.append_right _ List.perm_append_comm
  refine ⟨hp.nodup_iff.2 ?_,fun x hx=>?_,fun x hx=>?_⟩
  · rw [List.nodup_append];exact ⟨hkn _,h.nodup,fun a ha b hb e=>by subst e;exact hdis a ha hb⟩
  · rcases List.mem_append.1 (hp.mem_iff.1 hx) with hx | hx
    · exact (hk _ x hx).1
    · exact h.sub x hx
  · rcases List.mem_append.1 (hp.mem_iff.1 hx) with hx | hx
    · exact .inr ⟨n,by simp,(hk _ x hx).2.symm⟩
    · rcases h.par x hx with e | ⟨y,hy,e⟩
      · exact .inl e
      · exact .inr ⟨y,by simp [hy],e⟩
theorem OutInv.all (hid : ∀ a ∈ N,∀ b ∈ N,idn a = idn b → a = b) (hk : ∀ r,∀ c ∈ kid r,c ∈ N ∧ refn c = r) (hz : ∀ a ∈ N,idn a ≠ z) (hkn : ∀ r,(kid r).Nodup) {k : Nat} :
    ∀ (m : Nat) {out row : List ν},OutInv N idn refn z out row → (∀ c ∈ row,Deep kid idn k (idn c)) → (restL kid idn k row).length = m → (out ++ restL kid idn k row).Nodup ∧ ∀ x ∈ out ++ restL kid idn k row,x ∈ N
  | m,out,[],h,_,_=>⟨by simpa [restL] using h.nodup,fun x hx=>h.sub x (by simpa [restL] using hx)⟩
  | 0,out,n :: row,h,hd,hm=>by rw [rest_step (hd n (by simp))] at hm;simp at hm
  | m + 1,out,n :: row,h,hd,hm=>by
    have hn:=hd n (by simp);rw [rest_step hn] at hm ⊢;have:=OutInv.all hid hk hz hkn m (h.step hid hk hz hkn) (fun c hc=>by
      rcases List.mem_append.1 hc with hc | hc
      · exact deep_kids hn c hc
      · exact hd c (by simp [hc])) (by simpa using hm)
    simpa using this
theorem OutInv.root (hk : ∀ r,∀ c ∈ kid r,c ∈ N ∧ refn c = r) (hkn : ∀ r,(kid r).Nodup) : OutInv N idn refn z [] (kid z) :=
  ⟨by simpa using hkn z,fun x hx=>(hk z x (by simpa using hx)).1,fun x hx=>.inl (hk z x (by simpa using hx)).2⟩
theorem pre_nodup (hid : ∀ a ∈ N,∀ b ∈ N,idn a = idn b → a = b) (hk : ∀ r,∀ c ∈ kid r,c ∈ N ∧ refn c = r) (hz : ∀ a ∈ N,idn a ≠ z) (hkn : ∀ r,(kid r).Nodup) {k : Nat} (h : Deep kid idn k z) :
    (preD kid idn k z).Nodup ∧ ∀ x ∈ preD kid idn k z,x ∈ N:=by
  have hd : ∀ c ∈ kid z,Deep kid idn k (idn c):=by
    cases k with
    | zero=>exact h.elim
    | succ k=>exact fun c hc=>deep_up (h c hc)
  have:=OutInv.all hid hk hz hkn _ (OutInv.root (z:=z) (refn:=refn) (idn:=idn) hk hkn) hd rfl;rw [pre_root h];simpa using this
end
end
section
open Go.RowKit
structure NodeV where
  id : Id32
  h : Int
  ref : Id32
  val : ByteArray
theorem NodeV.ext' {a b : NodeV} (h1 : a.id = b.id) (h2 : a.h = b.h) (h3 : a.ref = b.ref) (h4 : a.val = b.val) : a = b:=by cases a;cases b;simp_all
theorem totI : TotC cmpI where
  zero a b:=by unfold cmpI;constructor <;> intro h <;> (repeat' split at *) <;> omega
  anti a b:=by unfold cmpI;(repeat' split) <;> omega
  trans a b d:=by unfold cmpI;(repeat' split) <;> omega
theorem TotC.rev {α : Type} {c : α → α → Int} (T : TotC c) : TotC (fun a b=>c b a) where
  zero a b:=by rw [T.zero];exact ⟨Eq.symm,Eq.symm⟩
  anti a b:=T.anti _ _
  trans a b d h1 h2:=T.trans _ _ _ h2 h1
def cmpN (a b : NodeV) : Int:=orC (cmpI b.h a.h) (orC (cmpId b.id a.id) (orC (cmpId a.ref b.ref) (cmpS a.val b.val)))
theorem totN : TotC cmpN :=
  TotC.of (c:=fun (x y : Int × (Id32 × (Id32 × ByteArray)))=>orC (cmpI y.1 x.1) (orC (cmpId y.2.1 x.2.1) (orC (cmpId x.2.2.1 y.2.2.1) (cmpS x.2.2.2 y.2.2.2))))
    (TotC.pair (c:=fun a b=>cmpI b a) totI.rev (TotC.pair (c:=fun a b=>cmpId b a) totId.rev (TotC.pair totId totS))) (fun n=>(n.h,n.id,n.ref,n.val))
    (fun x y h=>by simp only [Prod.mk.injEq] at h;exact NodeV.ext' h.2.1 h.1 h.2.2.1 h.2.2.2) (fun _ _=>rfl)
def cmpM (a b : NodeV) : Int:=orC (cmpId a.id b.id) (orC (cmpI a.h b.h) (orC (cmpId a.ref b.ref) (cmpS a.val b.val)))
def aheadB (ah : Int) (a : Id32) (bh : Int) (b : Id32) : Bool:=if ah = bh then decide (cmpId a b < 0) else decide (ah < bh)
def OneId (N : List NodeV) : Prop:=∀ a ∈ N,∀ b ∈ N,a.id = b.id → a = b
theorem cmpN_ahead {a b : NodeV} (h : a.id ≠ b.id) : decide (cmpN b a < 0) = aheadB a.h a.id b.h b.id:=by
  have hid : cmpId a.id b.id ≠ 0:=fun e=>h ((cmpId_zero _ _).1 e);unfold cmpN aheadB orC cmpI;by_cases e : a.h = b.h
  · rw [if_pos (by rw [if_neg (by omega),if_neg (by omega)]),if_neg hid,if_pos e]
  · rw [if_neg e];rw [if_neg (by (repeat' split) <;> omega)];by_cases h1 : a.h < b.h
    · rw [if_pos h1];simp [h1]
    · rw [if_neg h1,if_pos (by omega)];simp [h1]
def kids (N : List NodeV) (r : Id32) : List NodeV:=sortC cmpN (N.filter fun n=>decide (n.ref = r))
theorem mem_kids {N : List NodeV} {r : Id32} {n : NodeV} : n ∈ kids N r ↔ n ∈ N ∧ n.ref = r:=by unfold kids;rw [mem_sortC totN];simp
theorem ris_kids (N : List NodeV) (r : Id32) : Ris cmpN (kids N r):=ris_sortC totN _
theorem kids_congr {N M : List NodeV} (h : ∀ n,n ∈ N ↔ n ∈ M) (r : Id32) : kids N r = kids M r:=sortC_congr totN fun z=>by simp [h]
theorem kids_cons (N : List NodeV) (n : NodeV) (r : Id32) : kids (n :: N) r = if n.ref = r then insC cmpN (kids N r) n else kids N r:=by
  refine ris_ext totN (ris_kids _ _) ?_ fun z=>?_
  · split
    · exact ris_insC totN (ris_kids _ _)
    · exact ris_kids _ _
  · rw [mem_kids,List.mem_cons];split
    · rename_i e
      rw [mem_insC totN,mem_kids];constructor
      · rintro ⟨h1 | h1,h2⟩
        · exact .inl h1
        · exact .inr ⟨h1,h2⟩
      · rintro (h1 | ⟨h1,h2⟩)
        · subst h1;exact ⟨.inl rfl,e⟩
        · exact ⟨.inr h1,h2⟩
    · rename_i e
      rw [mem_kids];constructor
      · rintro ⟨h1 | h1,h2⟩
        · subst h1;exact absurd h2 e
        · exact ⟨h1,h2⟩
      · rintro ⟨h1,h2⟩;exact ⟨.inr h1,h2⟩
theorem kids_length (N : List NodeV) (r : Id32) : (kids N r).length ≤ N.length:=by
  unfold kids;exact Nat.le_trans (sortC_length _) (List.length_filter_le _ _)
def orderN (N : List NodeV) : List NodeV:=preD (kids N) NodeV.id (N.length + 1) id0
def Forest (N : List NodeV) : Prop:=OneId N ∧ ∀ a ∈ N,a.id ≠ id0
theorem Forest.deep {N : List NodeV} (h : Forest N) : Deep (kids N) NodeV.id (N.length + 1) id0 :=
  deep_root (N:=N) (refn:=NodeV.ref) h.1 (fun _ _ hc=>mem_kids.1 hc) h.2
end
section
open Go.RowKit
theorem kids_fun {N M : List NodeV} (h : ∀ n,n ∈ N ↔ n ∈ M) : kids N = kids M:=funext fun r=>kids_congr h r
theorem Forest.congr {N M : List NodeV} (h : ∀ n,n ∈ N ↔ n ∈ M) (f : Forest N) : Forest M :=
  ⟨fun a ha b hb e=>f.1 a ((h a).2 ha) b ((h b).2 hb) e,fun a ha=>f.2 a ((h a).2 ha)⟩
theorem orderN_congr {N M : List NodeV} (h : ∀ n,n ∈ N ↔ n ∈ M) (f : Forest N) : orderN N = orderN M:=by
  unfold orderN;have h1:=f.deep;have h2:=(f.congr h).deep;rw [kids_fun h] at h1 ⊢;exact pre_any h1 h2
theorem orderN_nodup {N : List NodeV} (f : Forest N) : (orderN N).Nodup ∧ ∀ x ∈ orderN N,x ∈ N :=
  pre_nodup (refn:=NodeV.ref) f.1 (fun _ _ hc=>mem_kids.1 hc) f.2 (fun r=>(ris_kids N r).nodup totN) f.deep
theorem orderN_length {N : List NodeV} (f : Forest N) : (orderN N).length ≤ N.length:=subs_len (orderN_nodup f).1 (orderN_nodup f).2
def seen (N : List NodeV) (G : List Id32) : List ByteArray:=((orderN N).filter fun n=>decide (n.id ∉ G)).map NodeV.val
def nodeE (n : NodeV) : Int:=if 16 < n.val.size then 3 else if n.h < 1 ∨ 1073741824 < n.h ∨ n.id = id0 then 5 else 0
def insN (N : List NodeV) (n : NodeV) : List NodeV:=if nodeE n = 0 then (if n.id ∈ N.map NodeV.id then N else insC cmpM N n) else N
structure NodesOk (N : List NodeV) : Prop where
  ris : Ris cmpM N
  one : OneId N
  ok : ∀ n ∈ N,nodeE n = 0
theorem nodeE_id {n : NodeV} (h : nodeE n = 0) : n.id ≠ id0 ∧ n.val.size ≤ 16 ∧ 1 ≤ n.h ∧ n.h ≤ 1073741824:=by
  unfold nodeE at h;split at h
  · cases h
  · split at h
    · cases h
    · rename_i h1 h2
      refine ⟨fun e=>h2 (.inr (.inr e)),by omega,?_,?_⟩
      · exact Classical.byContradiction fun hh=>h2 (.inl (by omega))
      · exact Classical.byContradiction fun hh=>h2 (.inr (.inl (by omega)))
theorem NodesOk.nil : NodesOk []:=⟨Ris.nil,fun a ha=>by simp at ha,by simp⟩
end
section
open Go.RowKit
def nthL {α : Type} : List α → Nat → Option α
  | [],_=>none
  | x :: _,0=>some x
  | _ :: l,i + 1=>nthL l i
theorem nthL_eq {α : Type} : ∀ (l : List α) (i : Nat),nthL l i = l[i]?
  | [],_=>rfl
  | _ :: _,0=>rfl
  | _ :: l,i + 1=>by simpa [nthL] using nthL_eq l i
theorem nthL_ops {ops : Array Oper} {i : Nat} {o : Oper} (h : nthL ops.toList i = some o) : ops[i]? = some o:=by
  rw [nthL_eq] at h;simpa using h
inductive Sched where
  | done : Sched
  | loose (i : Nat) (n : Sched) : Sched
  | one (i : Nat) (n : Sched) : Sched
  | two (i : Nat) (n : Sched) (j : Nat) (m : Sched) : Sched
  | three (i : Nat) (n : Sched) (j : Nat) (m : Sched) (k : Nat) (l : Sched) : Sched
def Sched.depth : Sched → Nat
  | .done=>0
  | .loose _ n=>n.depth + 1
  | .one _ n=>n.depth + 1
  | .two _ n _ m=>max n.depth m.depth + 1
  | .three _ n _ m _ l=>max (max n.depth m.depth) l.depth + 1
def Sched.ok (md : Region.Mode) (ops : Array Oper) : Sched → Array Bool → Bool
  | .done,listed=>(Region.ready md ops listed).isEmpty
  | .loose i n,listed=>(Region.ready md ops listed).contains i && Region.free md ops listed i && n.ok md ops (listed.setIfInBounds i true)
  | .one i n,listed=>(Region.ready md ops listed == [i]) && n.ok md ops (listed.setIfInBounds i true)
  | .two i n j m,listed=>(Region.ready md ops listed == [i,j]) && n.ok md ops (listed.setIfInBounds i true) && m.ok md ops (listed.setIfInBounds j true)
  | .three i n j m k l,listed=>(Region.ready md ops listed == [i,j,k]) && n.ok md ops (listed.setIfInBounds i true) && m.ok md ops (listed.setIfInBounds j true) && l.ok md ops (listed.setIfInBounds k true)
def mkSched (md : Region.Mode) (cv : Bool) (ops : Array Oper) (skip : List Nat) : Nat → Array Bool → Sched
  | 0,_=>.done
  | f + 1,listed =>
    match (Region.ready md ops listed).find? (fun i=>(!chainAt cv ops i || skip.contains i) && Region.free md ops listed i) with
    | some i=>.loose i (mkSched md cv ops skip f (listed.setIfInBounds i true))
    | none =>
      match Region.ready md ops listed with
      | [i]=>.one i (mkSched md cv ops skip f (listed.setIfInBounds i true))
      | [i,j]=>.two i (mkSched md cv ops skip f (listed.setIfInBounds i true)) j (mkSched md cv ops skip f (listed.setIfInBounds j true))
      | [i,j,k]=>.three i (mkSched md cv ops skip f (listed.setIfInBounds i true)) j (mkSched md cv ops skip f (listed.setIfInBounds j true)) k (mkSched md cv ops skip f (listed.setIfInBounds k true))
      | _=>.done
section
variable {P : Program} {ops : Array Oper} {md : Region.Mode} {S : World → Prop} {cv fb : Bool}
def stepT (P : Program) (ops : Array Oper) (S : World → Prop) (cv fb : Bool) (i : Nat) (K : Act → World → Prop) (a : Act) (w : World) : Prop :=
  match ops[i]? with
  | none=>False
  | some o=>if Region.wanted o (yielded ops a.tmps) then chainOp cv o = true ∧ chainRes P (cls ops S fb i) (fun v w'=>K (a.put o.dst v) w') ((execOp a.eval o).run P w) else K (a.put o.dst undef) w
def wpT0 (P : Program) (ops : Array Oper) (S : World → Prop) (cv fb : Bool) (Q : Act → World → Prop) : Sched → Act → World → Prop
  | .done,a,w=>Q a w
  | .loose i n,a,w =>
    match ops[i]? with
    | none=>False
    | some o=>if Region.wanted o (yielded ops a.tmps) then chainOp cv o = false ∧ ∃ v,(∀ w',S w' → looseRes w' v ((execOp a.eval o).run P w')) ∧ wpT0 P ops S cv fb Q n (a.put o.dst v) w else wpT0 P ops S cv fb Q n (a.put o.dst undef) w
  | .one i n,a,w=>stepT P ops S cv fb i (wpT0 P ops S cv fb Q n) a w
  | .two i n j m,a,w=>stepT P ops S cv fb i (wpT0 P ops S cv fb Q n) a w ∧ stepT P ops S cv fb j (wpT0 P ops S cv fb Q m) a w
  | .three i n j m k l,a,w=>stepT P ops S cv fb i (wpT0 P ops S cv fb Q n) a w ∧ stepT P ops S cv fb j (wpT0 P ops S cv fb Q m) a w ∧ stepT P ops S cv fb k (wpT0 P ops S cv fb Q l) a w
theorem stepT_lx {i : Nat} {K K' : Act → World → Prop} {a : Act} {w : World} (hS : S w) (hk : ∀ a w,cls ops S fb i w → K a w → K' a w) (h : stepT P ops S cv fb i K a w) : lxOp P ops S cv fb i K' a w:=by
  unfold stepT at h;unfold lxOp;split at h
  · exact h.elim
  · rename_i o ho
    simp only [ho];split at h
    · rename_i hw
      rw [if_pos hw,if_pos h.1];exact chainRes_mono (fun v w' hs hk'=>hk _ _ hs hk') h.2
    · rename_i hw
      rw [if_neg hw];exact hk _ _ (.inl hS) h
theorem wpAnyX_tree {Q : Act → World → Prop} (hs : Region.noSelect ops = true) : ∀ (T : Sched) (fuel : Nat) (listed : Array Bool) (a : Act) (w : World),EndInv md ops fb listed → (S w ∨ (fb = true ∧ Region.ready md ops listed = [])) →
    T.ok md ops listed = true → T.depth ≤ fuel → wpT0 P ops S cv fb Q T a w → wpAnyX P md ops S cv fb Q fuel listed a w:=by
  have after : ∀ {i : Nat} {listed : Array Bool} {w' : World},EndInv md ops fb listed → i ∈ Region.ready md ops listed → cls ops S fb i w' → S w' ∨ (fb = true ∧ Region.ready md ops (listed.setIfInBounds i true) = []):=by
    intro i listed w' hI hi hc;rcases hc with hc | ⟨hfb,he⟩
    · exact .inl hc
    · right
      refine ⟨hfb,?_⟩;rcases ((hI.set hi).inv hfb).2 with h1 | h1
      · exfalso
        have:=h1.tail i (by omega) (by omega);have hsz : i < (listed.setIfInBounds i true).size:=by rw [h1.size];omega
        have hsz' : i < listed.size:=by simpa using hsz
        simp [hsz'] at this
      · exact h1
  have nonempty : ∀ {i : Nat} {listed : Array Bool} {w : World},i ∈ Region.ready md ops listed → (S w ∨ (fb = true ∧ Region.ready md ops listed = [])) → S w:=by
    intro i listed w hi h;rcases h with h | ⟨_,h⟩
    · exact h
    · rw [h] at hi;cases hi
  intro T;induction T with
  | done =>
    intro fuel listed a w _ _ hok _ h;have h0 : Region.ready md ops listed = []:=by simpa [Sched.ok] using hok
    cases fuel with
    | zero=>exact ⟨h0,h⟩
    | succ f=>exact ⟨fun _=>h,fun i hi=>by rw [h0] at hi;cases hi⟩
  | loose i n ih =>
    intro fuel listed a w hI hSw hok hd h;simp only [Sched.ok,Bool.and_eq_true] at hok;obtain ⟨⟨hr,hf⟩,hn⟩:=hok;have hr' : i ∈ Region.ready md ops listed:=by simpa using hr
    have hS:=nonempty hr' hSw;cases fuel with
    | zero=>simp [Sched.depth] at hd
    | succ f =>
      have hd' : n.depth ≤ f:=by simp [Sched.depth] at hd;omega
      unfold wpT0 at h;split at h
      · exact h.elim
      · rename_i o ho
        split at h
        · rename_i hw
          obtain ⟨hc,v,hv,hk⟩:=h;exact X_first_loose ho (Region.noSelect_spec hs) f listed a w hI hS (Region.free_spec ho hf) hr' (.inl ⟨hw,hc,hv⟩) (ih f _ _ w (hI.set hr') (.inl hS) hn hd' hk)
        · rename_i hw
          exact X_first_loose ho (Region.noSelect_spec hs) f listed a w hI hS (Region.free_spec ho hf) hr' (.inr ⟨by simpa using hw,rfl⟩) (ih f _ _ w (hI.set hr') (.inl hS) hn hd' h)
  | one i n ih =>
    intro fuel listed a w hI hSw hok hd h;simp only [Sched.ok,Bool.and_eq_true,beq_iff_eq] at hok;obtain ⟨hr,hn⟩:=hok;have hr' : i ∈ Region.ready md ops listed:=by rw [hr];simp
    have hS:=nonempty hr' hSw;cases fuel with
    | zero=>simp [Sched.depth] at hd
    | succ f =>
      have hd' : n.depth ≤ f:=by simp [Sched.depth] at hd;omega
      refine ⟨fun h0=>(by rw [hr] at h0;cases h0),fun x hx=>?_⟩;have hx':=hx;rw [hr] at hx';obtain rfl : x = i:=by simpa using hx'
      exact stepT_lx hS (fun a' w' hc hk=>ih f _ a' w' (hI.set hx) (after hI hx hc) hn hd' hk) h
  | two i n j m ih1 ih2 =>
    intro fuel listed a w hI hSw hok hd h;simp only [Sched.ok,Bool.and_eq_true,beq_iff_eq] at hok;obtain ⟨⟨hr,hn⟩,hm⟩:=hok;have hS:=nonempty (i:=i) (by rw [hr];simp) hSw;cases fuel with
    | zero=>simp [Sched.depth] at hd
    | succ f =>
      have hd1 : n.depth ≤ f:=by simp [Sched.depth] at hd;omega
      have hd2 : m.depth ≤ f:=by simp [Sched.depth] at hd;omega
      refine ⟨fun h0=>(by rw [hr] at h0;cases h0),fun x hx=>?_⟩;have hx':=hx;rw [hr] at hx';rcases List.mem_cons.1 hx' with rfl | hx'
      · exact stepT_lx hS (fun a' w' hc hk=>ih1 f _ a' w' (hI.set hx) (after hI hx hc) hn hd1 hk) h.1
      · obtain rfl : x = j:=by simpa using hx'
        exact stepT_lx hS (fun a' w' hc hk=>ih2 f _ a' w' (hI.set hx) (after hI hx hc) hm hd2 hk) h.2
  | three i n j m k l ih1 ih2 ih3 =>
    intro fuel listed a w hI hSw hok hd h;simp only [Sched.ok,Bool.and_eq_true,beq_iff_eq] at hok;obtain ⟨⟨⟨hr,hn⟩,hm⟩,hl⟩:=hok;have hS:=nonempty (i:=i) (by rw [hr];simp) hSw;cases fuel with
    | zero=>simp [Sched.depth] at hd
    | succ f =>
      have hd1 : n.depth ≤ f:=by simp [Sched.depth] at hd;omega
      have hd2 : m.depth ≤ f:=by simp [Sched.depth] at hd;omega
      have hd3 : l.depth ≤ f:=by simp [Sched.depth] at hd;omega
      refine ⟨fun h0=>(by rw [hr] at h0;cases h0),fun x hx=>?_⟩;have hx':=hx;rw [hr] at hx';rcases List.mem_cons.1 hx' with rfl | hx'
      · exact stepT_lx hS (fun a' w' hc hk=>ih1 f _ a' w' (hI.set hx) (after hI hx hc) hn hd1 hk) h.1
      · rcases List.mem_cons.1 hx' with rfl | hx'
        · exact stepT_lx hS (fun a' w' hc hk=>ih2 f _ a' w' (hI.set hx) (after hI hx hc) hm hd2 hk) h.2.1
        · obtain rfl : x = k:=by simpa using hx'
          exact stepT_lx hS (fun a' w' hc hk=>ih3 f _ a' w' (hI.set hx) (after hI hx hc) hl hd3 hk) h.2.2
structure wpTx (P : Program) (ops : Array Oper) (S : World → Prop) (cv fb : Bool) (Q : Act → World → Prop) (T : Sched) (a : Act) (w : World) : Prop where
  out : wpT0 P ops S cv fb Q T a w
theorem wp_region_tree {id : Nat} {Q : Exit → Act → World → Prop} {a : Act} {w : World} {ops : Array Oper} (T : Sched) (S : World → Prop) (cv : Bool) (hm : P.follows .mixedOrders = true) (hs : Region.noSelect ops = true) (hT : T.ok .any ops (Array.replicate ops.size false) = true) (hd : Nat.ble T.depth ops.size = true) (hS : S w.drew)
    (h : wpTx P ops S cv false (fun a' w'=>S w' → Q .normal a' w') T a w.drew) : (Code.region id ops true).wp P Q a w:=by
  have hI : EndInv .any ops false (Array.replicate ops.size false):=⟨by simp⟩
  exact wp_region_any hm (wpAny_of_X (S:=S) (cv:=cv) (fb:=false) (Q:=fun a' w'=>S w' → Q .normal a' w') (fun _ w' hw' h=>h (hw'.elim (fun h=>h) (by simp))) _ _ _ _ hI (.inl hS)
    (wpAnyX_tree (md:=.any) hs T _ _ a w.drew hI (.inl hS) hT (Nat.le_of_ble_eq_true hd) h.out))
variable {Q : Act → World → Prop} {a : Act} {w : World} {o : Oper} {i j k : Nat} {n m l : Sched}
theorem wpTx_done (h : Q a w) : wpTx P ops S cv fb Q .done a w:=⟨h⟩
theorem wpTx_loose (ho' : nthL ops.toList i = some o) (hc : chainOp cv o = false)
    (h : ∀ K : Act → Prop,(∀ a,wpTx P ops S cv fb Q n a w → K a) → if Region.wanted o (yielded ops a.tmps) then (∃ v,(∀ x : Subtype S,looseRes x.1 v ((execOp a.eval o).run P x.1)) ∧ K (a.put o.dst v)) else K (a.put o.dst undef)) : wpTx P ops S cv fb Q (.loose i n) a w:=by
  have ho:=nthL_ops ho';have:=h _ (fun _ h=>h);refine ⟨?_⟩;unfold wpT0;simp only [ho];split
  · rename_i hw
    rw [if_pos hw] at this;obtain ⟨v,hv,hk⟩:=this;exact ⟨hc,v,fun w' hs=>hv ⟨w',hs⟩,hk.out⟩
  · rename_i hw;rw [if_neg hw] at this;exact this.out
theorem wpTx_one (hS : S w) (ho' : nthL ops.toList i = some o) (hc : chainOp cv o = true)
    (h : ∀ K : Act → World → Prop,(∀ a w,wpTx P ops S cv fb Q n a w → K a w) → if Region.wanted o (yielded ops a.tmps) then chainRes P S (fun v w'=>K (a.put o.dst v) w') ((execOp a.eval o).run P w) else K (a.put o.dst undef) w) : wpTx P ops S cv fb Q (.one i n) a w:=by
  have ho:=nthL_ops ho';have:=h _ (fun _ _ h=>h);refine ⟨?_⟩;unfold wpT0 stepT;simp only [ho];split
  · rename_i hw;rw [if_pos hw] at this;exact ⟨hc,chainRes_weaken (fun _ h=>.inl h) (fun _ _ _ h=>h.out) this⟩
  · rename_i hw;rw [if_neg hw] at this;exact this.out
end
end
section
open Go.RowKit
def slS (T : TypeId) (x : Value) (lo hi mx : Option Value) : Sem Value:=Instr.sliceAt T x lo hi mx
section
variable {P : Program} {T E : TypeId} {k bytes : Nat}
theorem ElemInfo.sizeOf_run (I : ElemInfo P T E k bytes) (w : World) : (Go.sizeOf E).run P w = .ok k w:=by
  obtain ⟨i,z,hi,hz,hsz,hby,hzs⟩:=I.info;simp [Go.sizeOf,typeInfo,hi,hsz]
theorem run_bound (w : World) (m cap : Nat) (hm : m ≤ cap) (c : BoundsCode) : (Instr.sliceBound (.int .i64 m) cap c).run P w = .ok m w:=by
  unfold Instr.sliceBound;have h1 : (asIntOf (.int .i64 (m : Int))).run P w = .ok (.i64,(m : Int)) w:=rfl;simp only [Sem.run_bind,h1,Result.andThen_ok];rw [if_pos ⟨by omega,by omega⟩]
  simp
theorem run_slS (I : ElemInfo P T E k bytes) (w : World) (x : Value) (lo hi mx : Option Value) : (slS T x lo hi mx).run P w = (Instr.slice T x lo hi mx).run P w:=by
  unfold slS;simp [Instr.sliceAt,run_underlying I.und]
theorem run_slS_lo (I : ElemInfo P T E k bytes) (w : World) (A : Option Addr) (n cap m : Nat) (hm : m ≤ cap) :
    (slS T (.slice A n cap) none (some (.int .i64 m)) none).run P w = .ok (.slice A m cap) w:=by
  rw [run_slS I];unfold Instr.slice Instr.sliceBounds;simp only [Sem.run_bind,run_underlying I.und,Result.andThen_ok,Sem.run_pure,run_bound w m cap hm,I.sizeOf_run w];have e : (if cap = 0 then A else A.map fun a=>a.add (0 * k)) = A:=by
    split
    · rfl
    · cases A with
      | none=>rfl
      | some a=>simp [Addr.add]
  simp only [Nat.sub_zero,e]
theorem run_slS_hi (I : ElemInfo P T E k bytes) (w : World) (A : Option Addr) (n cap m : Nat) (hm : m ≤ n) (hc : n ≤ cap) (hA : A = none → cap = 0) (hsp : ∀ a,A = some a → a.spot = none) :
    ∃ A2 c2,(slS T (.slice A n cap) (some (.int .i64 m)) none none).run P w = .ok (.slice A2 (n - m) c2) w ∧ (∀ (w' : World) (L : List (Array Value)),SlR w' A n k L → SlR w' A2 (n - m) k (L.drop m)) ∧ (A2 = none → c2 = 0):=by
  refine ⟨if cap = m then A else A.map fun a=>a.add (m * k),cap - m,?_,?_,?_⟩
  · rw [run_slS I];unfold Instr.slice Instr.sliceBounds;simp only [Sem.run_bind,run_underlying I.und,Result.andThen_ok,Sem.run_pure,run_bound w m n hm,I.sizeOf_run w,Option.isSome_none,Bool.false_eq_true,if_false]
  · intro w' L hL;by_cases hcm : cap = m
    · have : n - m = 0:=by omega
      rw [this];exact ⟨by rw [List.length_drop,hL.1];omega,fun h=>absurd h (by omega)⟩
    · rw [if_neg hcm];cases A with
      | none=>exact absurd (hA rfl) (by omega)
      | some a =>
        obtain ⟨g,o,sp⟩:=a;have : sp = none:=hsp _ rfl;subst this;have e : (⟨g,o,none⟩ : Addr).add (m * k) = ⟨g,o + m * k,none⟩:=by unfold Addr.add;split <;> simp_all
        simp only [Option.map_some,e];exact hL.drop_ hm
  · intro h;by_cases hcm : cap = m
    · omega
    · rw [if_neg hcm] at h;cases A with
      | none=>have:=hA rfl;omega
      | some a=>cases h
end
end
section
open Go.RowKit
structure SlW (w : World) (A : Option Addr) (n cap k : Nat) (L : List (Array Value)) : Prop where
  rd : SlR w A n k L
  le : n ≤ cap
  nil : A = none → cap = 0
  plain : ∀ a,A = some a → a.spot = none
section
variable {P : Program} {T E : TypeId} {k bytes : Nat} {w w' : World} {A : Option Addr} {n cap : Nat} {L : List (Array Value)}
theorem SlW.none_ : SlW w none 0 0 k []:=⟨SlR.nil_,Nat.le_refl _,fun _=>rfl,fun a e=>by cases e⟩
theorem SlW.kept {S : List Nat} (h : SlW w A n cap k L) (hk : Keep S w w') (hn : ∀ x ∈ blk A,x ∉ S) : SlW w' A n cap k L:=⟨h.rd.kept hk hn,h.le,h.nil,h.plain⟩
theorem SlW.below (h : SlW w A n cap k L) (hb : Below w.heap.size w w') : SlW w' A n cap k L:=⟨h.rd.below hb,h.le,h.nil,h.plain⟩
theorem SlW.len (h : SlW w A n cap k L) : L.length = n:=h.rd.1
theorem Own.slw {B : Nat} (h : Own w B E k A n cap L) : SlW w A n cap k L:=by
  have hA:=h.cap_le;refine ⟨h.slr,hA.1,fun e=>(hA.2 e).2,fun a e=>?_⟩;rcases h.addr with e' | ⟨g,e'⟩
  · rw [e'] at e;cases e
  · rw [e'] at e;injection e with e;rw [← e]
theorem SlW.lo (I : ElemInfo P T E k bytes) (h : SlW w A n cap k L) {m : Nat} (hm : m ≤ n) (w0 : World) : (slS T (.slice A n cap) none (some (.int .i64 m)) none).run P w0 = .ok (.slice A m cap) w0 :=
  run_slS_lo I w0 A n cap m (Nat.le_trans hm h.le)
theorem SlW.hi (I : ElemInfo P T E k bytes) (h : SlW w A n cap k L) {m : Nat} (hm : m ≤ n) :
    ∃ A2 c2,(∀ w0 : World,(slS T (.slice A n cap) (some (.int .i64 m)) none none).run P w0 = .ok (.slice A2 (n - m) c2) w0) ∧ (∀ w' : World,SlR w' A n k L → SlR w' A2 (n - m) k (L.drop m)) ∧ (A2 = none → c2 = 0):=by
  obtain ⟨A2,c2,h1,h2,h3⟩:=run_slS_hi (P:=P) I w A n cap m hm h.le h.nil h.plain;refine ⟨A2,c2,fun w0=>?_,fun w' hw=>h2 w' L hw,h3⟩;obtain ⟨A3,c3,k1,_,_⟩:=run_slS_hi (P:=P) I w0 A n cap m hm h.le h.nil h.plain;rw [run_slS I] at h1 k1 ⊢;unfold Instr.slice Instr.sliceBounds at h1 k1 ⊢;simp only [Sem.run_bind,run_underlying I.und,Result.andThen_ok,Sem.run_pure,run_bound _ m n hm,I.sizeOf_run,Option.isSome_none,Bool.false_eq_true,if_false] at h1 ⊢;injection h1 with h1 _
  rw [h1]
end
end
section
open Go.RowKit
structure SNode where
  h : Int
  ref : Id32
  val : ByteArray
def sNodeC (x : SNode) : Array Value:=#[.int .i64 x.h] ++ idC x.ref ++ #[.string x.val]
@[simp] theorem sNodeC_size (x : SNode) : (sNodeC x).size = 34:=by simp [sNodeC]
@[go_sem] theorem sNodeC_g0 (x : SNode) : (sNodeC x)[0]? = some (.int .i64 x.h):=by first | (simp [sNodeC,Array.getElem?_append];done) | (rw [show sNodeC x = ((#[] : Array Value)) ++ #[.int .i64 x.h] ++ (idC x.ref ++ #[.string x.val]) from by apply Array.ext';simp [sNodeC]];exact arr_at _ _ _ _ (by simp))
@[go_sem] theorem sNodeC_gg0 (x : SNode) (h : 0 < (sNodeC x).size) : (sNodeC x)[0]'h = .int .i64 x.h:=Option.some.inj ((Array.getElem?_eq_getElem h).symm.trans (sNodeC_g0 x))
@[go_sem] theorem sNodeC_e1 (x : SNode) : (sNodeC x).extract 1 33 = idC x.ref:=by
  have h : sNodeC x = (#[.int .i64 x.h]) ++ idC x.ref ++ (#[.string x.val]):=by first | (simp [sNodeC,Array.append_assoc];done) | (apply Array.ext';simp [sNodeC];done)
  rw [h];exact arr_mid _ _ _ _ _ (by simp) (by simp)
@[go_sem] theorem sNodeC_g33 (x : SNode) : (sNodeC x)[33]? = some (.string x.val):=by first | (simp [sNodeC,Array.getElem?_append];done) | (rw [show sNodeC x = (#[.int .i64 x.h] ++ idC x.ref) ++ #[.string x.val] ++ ((#[] : Array Value)) from by apply Array.ext';simp [sNodeC]];exact arr_at _ _ _ _ (by simp))
@[go_sem] theorem sNodeC_gg33 (x : SNode) (h : 33 < (sNodeC x).size) : (sNodeC x)[33]'h = .string x.val:=Option.some.inj ((Array.getElem?_eq_getElem h).symm.trans (sNodeC_g33 x))
@[go_sem] theorem sNodeC_all (x : SNode) : (sNodeC x).extract 0 34 = sNodeC x:=by have:=Array.extract_size (xs:=sNodeC x);rwa [sNodeC_size] at this
theorem sNodeC_one (x : SNode) : ∀ u ∈ (sNodeC x).toList,u.oneCell' = true:=by
  intro u hu;simp only [sNodeC,Array.toList_append,List.mem_append] at hu;rcases hu with (hu | hu) | hu
  · simp at hu;subst hu;rfl
  · exact idC_one _ u hu
  · simp at hu;subst hu;rfl
def sNode0 : SNode:=⟨0,id0,⟨#[]⟩⟩
theorem SNode_ext {x y : SNode} (h : x.h = y.h ∧ x.ref = y.ref ∧ x.val = y.val) : x = y:=by cases x;cases y;simp_all
instance : DecidableEq SNode:=fun x y=>if h : x.h = y.h ∧ x.ref = y.ref ∧ x.val = y.val then isTrue (SNode_ext h) else isFalse (fun e=>h (by subst e;simp))
theorem infoSNode : (Tryz.prog.info? 193).map (·.size) = some 34:=by kernel_rfl
@[go_sem ↓] theorem zeroSNode_run (w : World) : (zeroValue 193).run Tryz.prog w = .ok (.agg (sNodeC sNode0)) w:=by
  have h : (Tryz.prog.info? 193).bind (·.zero) = some (.agg (sNodeC sNode0)):=by kernel_rfl
  cases hi : Tryz.prog.info? 193 with
  | none=>rw [hi] at h;cases h
  | some i =>
    rw [hi] at h;have hz : i.zero = some (.agg (sNodeC sNode0)):=h;simp [zeroValue,typeInfo,hi,hz]
@[go_sem ↓] theorem loadSNode_rw (a : Addr) : loadVar 193 a = ldS 193 a:=rfl
@[go_sem ↓] theorem storeSNode_rw (a : Addr) (v : Value) : storeVar 193 a v = stS 193 a v:=rfl
@[go_sem] theorem loadSNode_run (w : World) (g o : Nat) : (ldS 193 ⟨g,o,none⟩).run Tryz.prog w = match rowAt w g o 34 with | some cs=>.ok (.agg cs) w | none=>(loadVar 193 ⟨g,o,none⟩).run Tryz.prog w :=
  run_ldS Tryz.underlying193 rfl infoSNode w g o
@[go_sem] theorem storeSNode_run (w : World) (g : Nat) (hg : g = w.heap.size) (z : Array Value) (hz : z.size = 34) (x : SNode) (e : TypeId) : (stS 193 ⟨g,0,none⟩ (.agg (sNodeC x))).run Tryz.prog (w.alloc (.cells z e)) = .ok () (w.alloc (.cells (sNodeC x) e)) :=
  hg ▸ run_stS_new infoSNode w z (sNodeC x) hz (sNodeC_size x) (sNodeC_one x)
theorem fieldsSNode : Tryz.prog.underlying 193 = some (.struct (Tryz.prog.fieldsOf 193)):=by kernel_rfl
theorem placesSNode (w : World) : ((Tryz.prog.fieldsOf 193).mapM fun (f : Field)=>do pure (f.offset,← sizeOf f.type)).run Tryz.prog w = .ok #[(0,1),(1,32),(33,1)] w:=by kernel_rfl
@[go_sem ↓] theorem buildSNode_rw (parts : Array (Nat × Value)) : Instr.build 193 parts = bdS 193 parts:=rfl
@[go_sem ↓] theorem fieldSNode_0 (x : SNode) (w : World) : (Instr.field 193 (.agg (sNodeC x)) 0).run Tryz.prog w = .ok (.int .i64 x.h) w:=by
  unfold Instr.field;simp only [Sem.run_bind,run_underlying Tryz.underlying193,Result.andThen_ok,part,asAgg,isAgg];simp [go_sem]
@[go_sem ↓] theorem fieldSNode_2 (x : SNode) (w : World) : (Instr.field 193 (.agg (sNodeC x)) 2).run Tryz.prog w = .ok (.string x.val) w:=by
  unfold Instr.field;simp only [Sem.run_bind,run_underlying Tryz.underlying193,Result.andThen_ok,part,asAgg,isAgg];simp [go_sem]
@[go_sem] theorem buildSNode (a0 : Int) (a1 : Id32) (a2 : ByteArray) (w : World) : (bdS 193 #[(0,.int .i64 a0),(1,.agg (idC a1)),(2,.string a2)]).run Tryz.prog w = .ok (.agg (sNodeC ⟨a0,a1,a2⟩)) w:=by
  refine run_build w fieldsSNode _ (zeroSNode_run w) _ (placesSNode w) [(0,.int .i64 a0),(1,.agg (idC a1)),(2,.string a2)] _ ?_;rw [show sNodeC sNode0 = (#[] : Array Value) ++ #[.int .i64 0] ++ (idC id0 ++ (#[.string ⟨#[]⟩])) from by first | (simp [sNodeC,sNode0,Array.append_assoc];done) | (apply Array.ext';simp [sNodeC,sNode0])];rw [fill_step (off:=0) (size:=1) rfl (by simp) (by simp) (by simp [Value.cells])];rw [show (#[] : Array Value) ++ (Value.int .i64 a0).cells ++ (idC id0 ++ (#[.string ⟨#[]⟩])) = (#[.int .i64 a0]) ++ idC id0 ++ (#[.string ⟨#[]⟩]) from by first | (simp [Value.cells,Array.append_assoc];done) | (apply Array.ext';simp [Value.cells];done) | (apply Array.ext';simp only [Array.toList_append];simp [Value.cells])];rw [fill_step (off:=1) (size:=32) rfl (by simp) (by simp) (by simp [Value.cells])];rw [show (#[.int .i64 a0]) ++ (Value.agg (idC a1)).cells ++ (#[.string ⟨#[]⟩]) = (#[.int .i64 a0] ++ (idC a1)) ++ #[.string ⟨#[]⟩] ++ (#[] : Array Value) from by first | (simp [Value.cells,Array.append_assoc];done) | (apply Array.ext';simp [Value.cells];done) | (apply Array.ext';simp only [Array.toList_append];simp [Value.cells])];rw [fill_step (off:=33) (size:=1) rfl (by simp) (by simp) (by simp [Value.cells])];first | (simp [Instr.fill,sNodeC,Array.append_assoc,Value.cells];done) | (simp only [Instr.fill,sNodeC];congr 1;apply Array.ext';simp [Value.cells];done) | (simp only [Instr.fill,sNodeC];congr 1;done) | (simp only [Instr.fill,sNodeC];done)
def nodeVV (x : SNode) : Value:=.agg (sNodeC x)
def snode (n : NodeV) : SNode:=⟨n.h,n.ref,n.val⟩
structure Sl where
  A : Option Addr
  n : Nat
  c : Nat
def slV (s : Sl) : Value:=.slice s.A s.n s.c
structure SeqAt (w : World) (M : List Nat) (g bn bb bg : Nat) (N : List NodeV) (G : List Id32) : Prop where
  blk : w.heap[g]? = some (.cells #[.map (some bn),.map (some bb),.map (some bg)] 191 (0,0))
  nodes : ∃ es clk,MapAt w bn idV nodeVV okId (N.map fun n=>(n.id,snode n)) es clk
  behind : ∃ BM es clk,MapAt w bb idV slV okId BM es clk ∧ (∀ p ∈ BM,SlW w p.2.A p.2.n p.2.c 32 (((kids N p.1).map NodeV.id).map idC) ∧ ∀ x ∈ Go.Proofs.YtgfpjjppeldhbaaGreatDoor.blk p.2.A,x ∉ M ∧ x < w.heap.size) ∧ ∀ r,r ∉ BM.map (·.1) → kids N r = []
  gone : IdSet w bg G
  inM : bn ∈ M ∧ bb ∈ M ∧ bg ∈ M
  ne : bn ≠ bb ∧ bn ≠ bg ∧ bb ≠ bg
  one : OneId N
  ok : ∀ n ∈ N,nodeE n = 0
section
variable {w w' : World} {M : List Nat} {g bn bb bg : Nat} {N : List NodeV} {G : List Id32}
theorem SeqAt.cell0 (h : SeqAt w M g bn bb bg N G) : w.cell? ⟨g,0,none⟩ = some (.map (some bn)):=by rw [cell_of_row w g 0 _ _ _ h.blk];rfl
theorem SeqAt.cell1 (h : SeqAt w M g bn bb bg N G) : w.cell? ⟨g,1,none⟩ = some (.map (some bb)):=by rw [cell_of_row w g 1 _ _ _ h.blk];rfl
theorem SeqAt.cell2 (h : SeqAt w M g bn bb bg N G) : w.cell? ⟨g,2,none⟩ = some (.map (some bg)):=by rw [cell_of_row w g 2 _ _ _ h.blk];rfl
theorem SeqAt.ltg (h : SeqAt w M g bn bb bg N G) : g < w.heap.size:=(Array.getElem?_eq_some_iff.1 h.blk).1
theorem mapAt_ne {κ ν : Type} {kv : κ → Value} {vv : ν → Value} {ok : κ → Prop} {w : World} {b g : Nat} {X : List (κ × ν)} {es : Array MapEntry} {clk : Nat} {cs : Array Value} {t : TypeId} {f : Nat × Nat} (h : MapAt w b kv vv ok X es clk) (hg : w.heap[g]? = some (.cells cs t f)) : g ≠ b:=by
  rintro rfl;rw [h.heap] at hg;cases hg
theorem SeqAt.neg (h : SeqAt w M g bn bb bg N G) : g ≠ bn ∧ g ≠ bb ∧ g ≠ bg:=by
  obtain ⟨es,clk,hn⟩:=h.nodes;obtain ⟨BM,es',clk',hb,_⟩:=h.behind;refine ⟨mapAt_ne hn h.blk,mapAt_ne hb h.blk,?_⟩;rintro rfl;obtain ⟨M',es,clk,hm,_⟩:=h.gone;have:=h.blk.symm.trans hm.heap;cases this
theorem SeqAt.lt (h : SeqAt w M g bn bb bg N G) : bn < w.heap.size ∧ bb < w.heap.size ∧ bg < w.heap.size:=by
  obtain ⟨es,clk,hn⟩:=h.nodes;obtain ⟨BM,es',clk',hb,_⟩:=h.behind;exact ⟨hn.lt,hb.lt,h.gone.lt⟩
theorem SeqAt.kept {S : List Nat} (h : SeqAt w M g bn bb bg N G) (k : Keep S w w') (hS : ∀ x ∈ S,x ∈ M ∨ w.heap.size ≤ x) (hg : g ∉ S) (h1 : bn ∉ S) (h2 : bb ∉ S) (h3 : bg ∉ S) : SeqAt w' M g bn bb bg N G:=by
  obtain ⟨es,clk,hn⟩:=h.nodes;obtain ⟨BM,es',clk',hb,hsl,hno⟩:=h.behind;refine ⟨(k.block g h.ltg hg).trans h.blk,⟨es,clk,hn.kept k h1⟩,⟨BM,es',clk',hb.kept k h2,fun p hp=>?_,hno⟩,h.gone.kept k h3,h.inM,h.ne,h.one,h.ok⟩;obtain ⟨s1,s2⟩:=hsl p hp;refine ⟨?_,fun x hx=>⟨(s2 x hx).1,Nat.lt_of_lt_of_le (s2 x hx).2 k.size⟩⟩;refine ⟨⟨s1.rd.1,fun h0=>?_⟩,s1.le,s1.nil,s1.plain⟩;obtain ⟨q,o,e,hc⟩:=s1.rd.2 h0;refine ⟨q,o,e,fun i hi=>?_⟩;have hql:=rowAt_lt (hc i hi);rw [k.row hql (fun hm=>(hS q hm).elim (s2 q (by simp [Go.Proofs.YtgfpjjppeldhbaaGreatDoor.blk,e])).1 (by omega)) _ _];exact hc i hi
theorem SeqAt.below (h : SeqAt w M g bn bb bg N G) (k : Below w.heap.size w w') : SeqAt w' M g bn bb bg N G:=h.kept (Keep.of_below k) (by simp) (by simp) (by simp) (by simp) (by simp)
end
theorem sqnone_live (w : World) (g b : Nat) (h : w.cell? ⟨g,0,none⟩ = some (.map (some b))) : Calls Tryz.prog 203 #[.pointer (some ⟨g,0,none⟩)] w fun e w'=>e = .returned (.bool false) ∧ w = w':=by
  have hn:=fun r=>run_eql_map_nil (P:=Tryz.prog) w 188 39 193 r Tryz.underlying188;go_enter Tryz.func203,Tryz.ntmps203
  (go_wp2_with fail);go_ret;exact ⟨rfl,rfl⟩
theorem sqnew (w : World) : Calls Tryz.prog 119 #[] w fun e w'=>∃ g bn bb bg,e = .returned (.pointer (some ⟨g,0,none⟩)) ∧ (∀ M,bn ∈ M → bb ∈ M → bg ∈ M → SeqAt w' M g bn bb bg [] []) ∧ w.heap.size ≤ g ∧ w.heap.size ≤ bn ∧ w.heap.size ≤ bb ∧ w.heap.size ≤ bg ∧ Below w.heap.size w w':=by
  have hmm:=@run_makeMap Tryz.prog;go_enter Tryz.func119,Tryz.ntmps119
  (go_wp2_with fail);go_ret;have k1:=MapAt.new (kv:=idV) (vv:=nodeVV) (ok:=okId) w w.heap.size rfl;have k2:=MapAt.new (kv:=idV) (vv:=slV) (ok:=okId) (w.alloc (.map #[] 0)) (w.heap.size + 1) (by simp);have k3:=SetAt.new (kv:=idV) (ok:=okId) ((w.alloc (.map #[] 0)).alloc (.map #[] 0)) (w.heap.size + 2) (by simp);refine ⟨w.heap.size + 3,w.heap.size,w.heap.size + 1,w.heap.size + 2,rfl,fun M i1 i2 i3=>⟨?_,⟨_,_,((k1.kept (Keep.alloc _ _) (by simp)).kept (Keep.alloc _ _) (by simp)).kept (Keep.alloc _ _) (by simp)⟩,⟨[],_,_,(k2.kept (Keep.alloc _ _) (by simp)).kept (Keep.alloc _ _) (by simp),by simp,fun r _=>rfl⟩,k3.kept (Keep.alloc _ _) (by simp),⟨i1,i2,i3⟩,by omega,fun a ha=>by simp at ha,by simp⟩,by omega,by omega,by omega,by omega,((((Below.refl _ _).alloc (Nat.le_refl _) _).alloc (by simp) _).alloc (by simp;omega) _).alloc (by simp;omega) _⟩;have:=heap_alloc_new (((w.alloc (.map #[] 0)).alloc (.map #[] 0)).alloc (.map #[] 0)) (.cells #[.map (some w.heap.size),.map (some (w.heap.size + 1)),.map (some (w.heap.size + 2))] 191 (0,0));simpa using this
theorem sqcheck (d : Id32) (n : NodeV) (hd : d = n.id) (w : World) (hv : n.val.size ≤ 9223372036854775807) :
    Calls Tryz.prog 214 #[.agg (idC d),.agg (sNodeC (snode n))] w fun e w'=>e = .returned (.int .i64 (nodeE n)) ∧ Below w.heap.size w w':=by
  subst hd;obtain ⟨d,h,ref,val⟩:=n;unfold snode;have hB : Below w.heap.size w ((w.alloc (.cells (idC d) 39)).alloc (.cells (sNodeC ⟨h,ref,val⟩) 193)):=((Below.refl _ _).alloc (Nat.le_refl _) _).alloc (by simp) _;have hE : nodeE ⟨d,h,ref,val⟩ = if 16 < val.size then 3 else if h < 1 ∨ 1073741824 < h ∨ d = id0 then 5 else 0:=rfl;have HE:=Lib.hid hE;clear hE;dsimp only at *;obtain ⟨b,hb⟩ : ∃ b,(d == id0) = b:=⟨_,rfl⟩
  have Hb:=Lib.hid hb;cases b
  all_goals
    clear hb;go_enter Tryz.func214,Tryz.ntmps214
    go_wp2_with fail
    all_goals
      go_ret;exact ⟨ret_int (by rw [HE.out];have hdd:=Hb.out;(repeat' split) <;> first | rfl | omega | (simp_all;done) | (simp_all;omega)),hB⟩
theorem hahead (ah : Int) (a : Id32) (bh : Int) (b : Id32) (w : World) :
    Calls Tryz.prog 113 #[.int .i64 ah,.agg (idC a),.int .i64 bh,.agg (idC b)] w fun e w'=>e = .returned (.bool (aheadB ah a bh b)) ∧ Below w.heap.size w w':=by
  have hB : Below w.heap.size w ((w.alloc (.cells (idC a) 39)).alloc (.cells (idC b) 39)):=((Below.refl _ _).alloc (Nat.le_refl _) _).alloc (by simp) _;have hA : aheadB ah a bh b = if ah = bh then decide (cmpId a b < 0) else decide (ah < bh):=rfl;have HA:=Lib.hid hA;clear hA;by_cases h : ah = bh
  · subst h;go_enter Tryz.func113,Tryz.ntmps113
    (go_wp2_with fail);refine (cmp_id a b _).mono ?_;rintro e w1 ⟨rfl,hb1⟩;have hbb:=bel2 hB hb1;clear hB hb1;(go_wp2_with fail);go_ret;exact ⟨ret_bool (by rw [HA.out];simp),hbb⟩
  · have hn : (ah != bh) = true:=by simpa using h
    have hn2 : (ah == bh) = false:=by simpa using h
    have Hh:=Lib.hid h;clear h;go_enter Tryz.func113,Tryz.ntmps113
    (go_wp2_with fail);go_ret;exact ⟨ret_bool (by rw [HA.out,if_neg Hh.out]),hB⟩
theorem sqdel (d : Id32) (w : World) (M : List Nat) (g bn bb bg : Nat) (N : List NodeV) (G : List Id32) (h : SeqAt w M g bn bb bg N G) :
    Calls Tryz.prog 143 #[.pointer (some ⟨g,0,none⟩),.agg (idC d)] w fun e w'=>e = .returned (.int .i64 0) ∧ SeqAt w' M g bn bb bg N (insC cmpId G d) ∧ Keep [bg] w w':=by
  have hB : Below w.heap.size w (w.alloc (.cells (idC d) 39)):=(Below.refl _ _).alloc (Nat.le_refl _) _;have h1:=h.below hB;have hr : rowAt (w.alloc (.cells (idC d) 39)) w.heap.size 0 32 = some (idC d):=by simp [go_sem]
  have hlt:=h.lt;go_enter Tryz.func143,Tryz.ntmps143
  go_upto_region 1 with fail
  obtain ⟨ga,hga⟩ : ∃ ga,w.heap.size = ga:=⟨_,rfl⟩
  have Hga:=Lib.hid hga;rw [hga] at hr hB hlt ⊢;obtain ⟨W,hW⟩ : ∃ W,W = w.alloc (.cells (idC d) 39):=⟨_,rfl⟩
  rw [← hW] at h1 hr hB ⊢;clear hW hga;(go_wp2_with fail);refine (sqnone_live W g bn h1.cell0).mono ?_;rintro e w1 ⟨rfl,rfl⟩;go_upto_region 3 with fail
  have hc2:=h1.cell2;obtain ⟨w2,hrun,hG2,hk2⟩:=iput (x:=d) (h1.gone.kept (Keep.drew W) (by simp));have hgb : g ∉ [bg]:=by simpa using h1.neg.2.2
  refine wp_region_lex (Kp [bg] W) false (by kernel_rfl) (by kernel_rfl) (by kernel_rfl) (kp_drew [bg] W) ?_;have hne:=kp_some [bg] W;have hS:=kp_drew [bg] W;have b1:=ksub_cell hc2 hgb;have b2:=ksub_row hr (S:=[bg]) (by simp;omega);repeat (refine wpLx_loose ?_ ?_;(focus (simp only [chainOp];done));intro K hK;go_simp;refine hK _ ?_;clear hK K)
  refine wpLx_chain ?_ ?_ ?_;(focus (exact hS));(focus (simp only [chainOp];done));intro K hK;go_simp;refine step_keep (kp_next hS hk2 (by simp)) (fun hS=>?_);refine hK _ _ ?_;clear hK K;refine wpLx_nil ?_;intro hS;have hS' : Keep [bg] W w2:=hS;obtain ⟨es,clk,hn⟩:=h1.nodes;obtain ⟨BM,es',clk',hb,hsl,hno⟩:=h1.behind;have hfin : SeqAt w2 M g bn bb bg N (insC cmpId G d):=by
    refine ⟨(hS'.block g h1.ltg hgb).trans h1.blk,⟨es,clk,hn.kept hS' (by simpa using h1.ne.2.1)⟩,⟨BM,es',clk',hb.kept hS' (by simpa using h1.ne.2.2),fun p hp=>?_,hno⟩,SetAt.congr hG2 (fun x=>by rw [mem_insC totId,List.mem_cons]),h1.inM,h1.ne,h1.one,h1.ok⟩;obtain ⟨s1,s2⟩:=hsl p hp;exact ⟨s1.kept hS' (fun x hx hm=>by have e : x = bg:=by simpa using hm
                                                                                                                                                                                                                                                                                                                              subst e;exact (s2 x hx).1 h1.inM.2.2),fun x hx=>⟨(s2 x hx).1,Nat.lt_of_lt_of_le (s2 x hx).2 hS'.size⟩⟩
  have hkf : Keep [bg] w w2:=Keep.trans ((Keep.of_below (hB.mono (by rw [Hga.out];exact Nat.le_refl _))).mono (S':=[bg]) (by simp)) hS' (fun x hx=>.inl hx);clear b1 b2 hne hS hk2 hrun hr hc2 h1 hB hG2 hn hb hsl hno hS';(go_wp2_with fail);go_ret;exact ⟨rfl,hfin,hkf⟩
end
section
open Go.RowKit Go.Shelf
theorem run_slS_max {P : Program} {T E : TypeId} {k bytes : Nat} (I : ElemInfo P T E k bytes) (w : World) (A : Option Addr) (n cap m : Nat) (hm : m ≤ cap) :
    (slS T (.slice A n cap) none (some (.int .i64 m)) (some (.int .i64 m))).run P w = .ok (.slice A m m) w:=by
  rw [run_slS I];unfold Instr.slice Instr.sliceBounds;simp only [Sem.run_bind,run_underlying I.und,Result.andThen_ok,Sem.run_pure,run_bound w m cap hm,run_bound w m m (Nat.le_refl _),I.sizeOf_run w];have e : (if m = 0 then A else A.map fun a=>a.add (0 * k)) = A:=by
    split
    · rfl
    · cases A with
      | none=>rfl
      | some a=>simp [Addr.add]
  simp only [Nat.sub_zero,e]
theorem grow0 (w : World) (n : Nat) (h0 : 0 < n) (hn : n ≤ 1000000) :
    Calls Tryz.prog 297 #[.slice none 0 0,.int .i64 n] w fun e w'=>∃ A cap,e = .returned (.slice A 0 cap) ∧ Own w' w.heap.size 39 32 A 0 cap [] ∧ Below w.heap.size w w':=by
  obtain ⟨i,z,hi,hz,hsz,hby,hzs⟩:=einfoId.info;have c:=Any8.slices_Grow_grow Tryz.layGrowId i z hi hz (by omega) none 0 0 n [] w (Nat.le_refl _) (by omega) (by rw [hby];omega) (by omega) (by simp) (fun _=>rfl) (by simp);have e25 : Tryz.layGrowId_ren.t 25 = 39:=rfl;have hG:=grownCap_ge w (0 + n) 0 39;have hM:=grownCap_le_maxLen w (0 + n) 0 39 (by unfold maxLen;omega);rw [e25] at c;obtain ⟨G,hGe⟩ : ∃ G,grownCap w (0 + n) 0 39 = G:=⟨_,rfl⟩
  rw [hGe] at c hG hM;clear hGe e25;refine c.mono ?_;rintro e w' ⟨rfl,rfl⟩;obtain ⟨cs,hcs⟩ : ∃ cs,(#[] ++ Builtin.zeroCells z.cells (0 + n - 0) ++ Builtin.zeroCells z.cells (G - (0 + n)) : Array Value) = cs:=⟨_,rfl⟩
  have hsz2 : cs.size = G * 32:=by
    rw [← hcs,Array.size_append,Array.size_append,size_zeroCells,size_zeroCells,hzs];simp only [List.size_toArray,List.length_nil,Nat.zero_add,Nat.sub_zero];rw [← Nat.add_mul,show n + (G - n) = G from by omega]
  have hcs' : (([] : List Value).toArray ++ Builtin.zeroCells z.cells (0 + n - 0) ++ Builtin.zeroCells z.cells (G - (0 + n)) : Array Value) = cs:=hcs;rw [hcs'];refine ⟨some ⟨w.heap.size,0,none⟩,G,rfl,⟨⟨rfl,.inr ⟨w.heap.size,G,cs,rfl,Nat.le_refl _,heap_alloc_new w.drew _,Nat.zero_le _,hM,hsz2,rfl⟩⟩,rfl,by simp⟩,((Below.refl _ _).drew).alloc (Nat.le_refl _) _⟩
theorem concat3 (w : World) (q c0 : Nat) (A1 A2 A3 : Option Addr) (n1 n2 n3 c1 c2 c3 : Nat) (R1 R2 R3 : List Id32) (h1 : TagsIn w A1 n1 R1) (h2 : TagsIn w A2 n2 R2) (h3 : TagsIn w A3 n3 R3) (f1 : A1 = none → c1 = 0) (f2 : A2 = none → c2 = 0) (f3 : A3 = none → c3 = 0)
    (k0 : w.cell? ⟨q,0,none⟩ = some (.slice A1 n1 c1)) (k1 : w.cell? ⟨q,1,none⟩ = some (.slice A2 n2 c2)) (k2 : w.cell? ⟨q,2,none⟩ = some (.slice A3 n3 c3)) (hp : 0 < n1 + n2 + n3) (hn : n1 + n2 + n3 ≤ 1000000) :
    Calls Tryz.prog 264 #[.slice (some ⟨q,0,none⟩) 3 c0] w fun e w'=>∃ A cap,e = .returned (.slice A (n1 + n2 + n3) cap) ∧ Own w' w.heap.size 39 32 A (n1 + n2 + n3) cap ((R1 ++ R2 ++ R3).map idC) ∧ Below w.heap.size w w':=by
  have cg:=grow0 w (n1 + n2 + n3) hp hn;rw [show ((n1 + n2 + n3 : Nat) : Int) = (n1 : Int) + (n2 : Int) + (n3 : Int) from by omega] at cg;go_enter Tryz.func264,Tryz.ntmps264
  (go_wp2_with fail);refine wp_loop_rounds 4 ?_;rw [rounds_succ];(go_wp2_with fail);rw [rounds_succ];(go_wp2_with fail);rw [rounds_succ];(go_wp2_with fail);rw [rounds_succ];(go_wp2_with fail);refine cg.mono ?_;rintro e w1 ⟨A,cap,rfl,hown,hb⟩;have k0':=(hb.cell (World.block_lt_of_cell? w _ k0)).trans k0;have k1':=(hb.cell (World.block_lt_of_cell? w _ k1)).trans k1;have k2':=(hb.cell (World.block_lt_of_cell? w _ k2)).trans k2;have t1 : TagsIn w1 A1 n1 R1:=SlR.below h1 hb;have t2 : TagsIn w1 A2 n2 R2:=SlR.below h2 hb;have t3 : TagsIn w1 A3 n3 R3:=SlR.below h3 hb;have hq : q < w.heap.size:=World.block_lt_of_cell? w _ k0;have hone : ∀ R : List Id32,∀ r ∈ R.map idC,∀ u ∈ r.toList,u.oneCell' = true:=fun R r hr=>by
    obtain ⟨x,_,rfl⟩:=List.mem_map.1 hr;exact idC_one x
  have hsz:=hb.size;have Hone:=Lib.hid hone;clear cg hone;(go_wp2_with fail);refine wp_loop_rounds 4 ?_;rw [rounds_succ];go_wp2_with (at_builtin;refine L_appends einfoId rfl hown rfl t1 f1 (Hone.out _) (by omega) (by omega) (by omega) ?_;intro B1 d1 w2 hown2 hk2 hsub2)
  simp only [Nat.zero_add,List.nil_append] at hown2;have hb2 : Below w.heap.size w w2:=hb.trans (hk2.below (by have:=hb.size;omega) (fun x hx=>(hown.at_base hx).1));have hsz2:=hb2.size;have k12:=(hb2.cell (World.block_lt_of_cell? w _ k1)).trans k1;have k22:=(hb2.cell (World.block_lt_of_cell? w _ k2)).trans k2;have k02:=(hb2.cell (World.block_lt_of_cell? w _ k0)).trans k0;have t22 : TagsIn w2 A2 n2 R2:=SlR.below h2 hb2;clear hk2 hsub2 hown k0' k1' k2';rw [rounds_succ];go_wp2_with (at_builtin;refine L_appends einfoId rfl hown2 rfl t22 f2 (Hone.out _) (by omega) (by omega) (by omega) ?_;intro B3 d3 w3 hown3 hk3 hsub3)
  simp only [← List.map_append] at hown3;have hb3 : Below w.heap.size w w3:=hb2.trans (hk3.below (by have:=hb2.size;omega) (fun x hx=>(hown2.at_base hx).1));have hsz3:=hb3.size;have k13:=(hb3.cell (World.block_lt_of_cell? w _ k1)).trans k1;have k23:=(hb3.cell (World.block_lt_of_cell? w _ k2)).trans k2;have k03:=(hb3.cell (World.block_lt_of_cell? w _ k0)).trans k0;have t33 : TagsIn w3 A3 n3 R3:=SlR.below h3 hb3;clear hk3 hsub3 hown2 k02 k12 k22;rw [rounds_succ];go_wp2_with (at_builtin;refine L_appends einfoId rfl hown3 rfl t33 f3 (Hone.out _) (by omega) (by omega) (by omega) ?_;intro B4 d4 w4 hown4 hk4 hsub4)
  have hb4 : Below w.heap.size w w4:=hb3.trans (hk4.below (by omega) (fun x hx=>(hown3.at_base hx).1));rw [← List.map_append] at hown4;have Hown4:=Lib.hid hown4;have k04:=(hb4.cell (World.block_lt_of_cell? w _ k0)).trans k0;clear hk4 hsub4 hown3 k03 k13 k23 hown4;rw [rounds_succ];(go_wp2_with fail);go_ret;exact ⟨B4,d4,rfl,Hown4.out,hb4⟩
end
section
open Go.RowKit
theorem kids_snoc (N : List NodeV) (n : NodeV) (r : Id32) : kids (N ++ [n]) r = if n.ref = r then insC cmpN (kids N r) n else kids N r:=by
  rw [← kids_cons];exact kids_congr (fun x=>by simp [or_comm]) r
theorem mem_putL {κ ν : Type} [DecidableEq κ] {M : List (κ × ν)} {k : κ} {v : ν} {p : κ × ν} (h : p ∈ putL M k v) : p = (k,v) ∨ (p ∈ M ∧ p.1 ≠ k):=by
  unfold putL at h;split at h
  · obtain ⟨q,hq,rfl⟩:=List.mem_map.1 h;split
    · exact .inl rfl
    · rename_i hne;exact .inr ⟨hq,hne⟩
  · rename_i hno
    rcases List.mem_append.1 h with h | h
    · exact .inr ⟨h,fun e=>hno (List.mem_map.2 ⟨p,h,e⟩)⟩
    · exact .inl (by simpa using h)
theorem keys_putL {κ ν : Type} [DecidableEq κ] {M : List (κ × ν)} {k r : κ} {v : ν} (h : r ∉ (putL M k v).map (·.1)) : r ∉ M.map (·.1) ∧ r ≠ k:=by
  unfold putL at h;split at h
  · rename_i hin
    have e : (M.map fun p=>if p.1 = k then (k,v) else p).map (·.1) = M.map (·.1):=by
      rw [List.map_map];refine List.map_congr_left fun p _=>?_;simp only [Function.comp_apply];split
      · rename_i h;exact h.symm
      · rfl
    rw [e] at h;exact ⟨h,fun e=>h (by rw [e];exact hin)⟩
  · rw [List.map_append,List.mem_append] at h;exact ⟨fun h1=>h (.inl h1),fun e=>h (.inr (by simp [e]))⟩
theorem zeroSlIds (w : World) : (zeroValue 50).run Tryz.prog w = .ok (.slice none 0 0) w:=by kernel_rfl
theorem blook {w : World} {M : List Nat} {bb : Nat} {N : List NodeV} {BM : List (Id32 × Sl)} {es : Array MapEntry} {clk : Nat} (hb : MapAt w bb idV slV okId BM es clk)
    (hsl : ∀ p ∈ BM,SlW w p.2.A p.2.n p.2.c 32 (((kids N p.1).map NodeV.id).map idC) ∧ ∀ x ∈ blk p.2.A,x ∉ M ∧ x < w.heap.size) (hno : ∀ r,r ∉ BM.map (·.1) → kids N r = []) (r : Id32) :
    ∃ s : Sl,SlW w s.A s.n s.c 32 (((kids N r).map NodeV.id).map idC) ∧ (∀ x ∈ blk s.A,x ∉ M ∧ x < w.heap.size) ∧
      ∀ w',MapAt w' bb idV slV okId BM es clk → (Instr.lookup 189 (.map (some bb)) (.agg (idC r)) false).run Tryz.prog w' = .ok (.slice s.A s.n s.c) w':=by
  by_cases h : r ∈ BM.map (·.1)
  · obtain ⟨p,hp,rfl⟩:=List.mem_map.1 h;exact ⟨p.2,(hsl p hp).1,(hsl p hp).2,fun w' hm=>hm.hit idKey Tryz.underlying189 trivial hp false⟩
  · refine ⟨⟨none,0,0⟩,?_,by simp [blk],fun w' hm=>hm.miss idKey Tryz.underlying189 (zeroSlIds w') trivial h false⟩;rw [hno r h];exact SlW.none_
theorem nlook {w : World} {bn : Nat} {N : List NodeV} {es : Array MapEntry} {clk : Nat} (hn : MapAt w bn idV nodeVV okId (N.map fun n=>(n.id,snode n)) es clk) {y : NodeV} (hy : y ∈ N) (comma : Bool) :
    (Instr.lookup 188 (.map (some bn)) (.agg (idC y.id)) comma).run Tryz.prog w = .ok (if comma then .tuple #[.agg (sNodeC (snode y)),.bool true] else .agg (sNodeC (snode y))) w :=
  hn.hit idKey Tryz.underlying188 trivial (List.mem_map.2 ⟨y,hy,rfl⟩) comma
@[go_sem ↓] theorem slIdC_rw (x : Value) (lo hi mx : Option Value) : Instr.sliceAt 50 x lo hi mx = slS 50 x lo hi mx:=rfl
@[go_sem ↓] theorem bsIds3_run (w : World) (A B C : Option Addr) (n m k a b c : Nat) : (Instr.buildSlice 370 3 #[(0,.slice A n a),(1,.slice B m b),(2,.slice C k c)]).run Tryz.prog w = .ok (.slice (some ⟨w.heap.size,0,none⟩) 3 3) (w.alloc (.cells #[.slice A n a,.slice B m b,.slice C k c] 50)):=by kernel_rfl
set_option maxRecDepth 100000 in
set_option maxHeartbeats 4000000 in
theorem sqhang (n : NodeV) (w : World) (M : List Nat) (g bn bb bg : Nat) (N : List NodeV) (G : List Id32) (h : SeqAt w M g bn bb bg N G) (hM : ∀ x ∈ M,x < w.heap.size) (hnew : n.id ∉ N.map NodeV.id) (hE : nodeE n = 0) (hl : N.length ≤ 100000) :
    Calls Tryz.prog 215 #[.pointer (some ⟨g,0,none⟩),.agg (idC n.id),.agg (sNodeC (snode n))] w fun e w'=>e = .returned (.tuple #[]) ∧ SeqAt w' M g bn bb bg (N ++ [n]) G ∧ Keep [bn,bb] w w':=by
  have hB : Below w.heap.size w ((w.alloc (.cells (idC n.id) 39)).alloc (.cells (sNodeC (snode n)) 193)):=((Below.refl _ _).alloc (Nat.le_refl _) _).alloc (by simp) _;have h1:=h.below hB;have hrd : rowAt ((w.alloc (.cells (idC n.id) 39)).alloc (.cells (sNodeC (snode n)) 193)) w.heap.size 0 32 = some (idC n.id):=by simp [go_sem]
  have hrn : rowAt ((w.alloc (.cells (idC n.id) 39)).alloc (.cells (sNodeC (snode n)) 193)) (w.heap.size + 1) 0 34 = some (sNodeC (snode n)):=by simp [go_sem]
  have hltw:=h.lt;have hgw:=h.ltg;go_enter Tryz.func215,Tryz.ntmps215
  go_upto_region 1 with fail
  obtain ⟨ga,hga⟩ : ∃ ga,w.heap.size = ga:=⟨_,rfl⟩
  have Hga:=Lib.hid hga;rw [hga] at hrd hrn hB hltw hgw hM ⊢;obtain ⟨W,hW⟩ : ∃ W,W = (w.alloc (.cells (idC n.id) 39)).alloc (.cells (sNodeC (snode n)) 193):=⟨_,rfl⟩
  rw [← hW] at h1 hrd hrn hB ⊢;clear hW hga;have hrr : rowAt W (ga + 1) 1 32 = some (idC n.ref):=by have:=rowAt_sub hrn (j:=1) (m:=32) (by omega);rw [sNodeC_e1] at this;simpa [snode] using this
  have hch : W.cell? ⟨ga + 1,0,none⟩ = some (.int .i64 n.h):=by have:=rowAt_cell hrn (j:=0) (by omega);rw [sNodeC_g0] at this;simpa [snode] using this
  obtain ⟨es,clk,hn⟩:=h1.nodes;obtain ⟨BM,es',clk',hb,hsl,hno⟩:=h1.behind;obtain ⟨⟨A,sn,sc⟩,hsw,hsM,hlook⟩:=blook hb hsl hno n.ref;dsimp only at hsw hsM hlook;have hKN : ∀ y ∈ kids N n.ref,y ∈ N:=fun y hy=>(mem_kids.1 hy).1;have hKl:=kids_length N n.ref;have hKn : n ∉ kids N n.ref:=fun hm=>hnew (List.mem_map.2 ⟨n,hKN n hm,rfl⟩);have hc1:=h1.cell1;have hk : ∀ x : Subtype (Bel W),(Instr.lookup 189 (.map (some bb)) (.agg (idC n.ref)) false).run Tryz.prog x.1 = .ok (.slice A sn sc) x.1:=fun x=>hlook x.1 (hb.kept (Keep.of_below x.2) (by simp));refine wp_region_lex (Bel W) false (by kernel_rfl) (by kernel_rfl) (by kernel_rfl) (bel_drew W) ?_;have hne:=bel_some W;have hS:=bel_drew W;have b1:=sub_cell hc1;have b2:=sub_row hrr;repeat (refine wpLx_loose ?_ ?_;(focus (simp only [chainOp];done));intro K hK;go_simp;refine hK _ ?_;clear hK K)
  refine wpLx_nil ?_;intro hS;have hB1 : Below ga w W.drew:=hB.drew;have h2 : SeqAt W.drew M g bn bb bg N G:=h1.below (bel_drew W);have hn2:=hn.kept (Keep.drew W) (by simp);have hsw2:=hsw.below (bel_drew W);have hrd2 : rowAt W.drew ga 0 32 = some (idC n.id):=hrd;have hrn2 : rowAt W.drew (ga + 1) 0 34 = some (sNodeC (snode n)):=hrn;have hrr2 : rowAt W.drew (ga + 1) 1 32 = some (idC n.ref):=hrr;have hch2 : W.drew.cell? ⟨ga + 1,0,none⟩ = some (.int .i64 n.h):=hch;clear b1 b2 hne hS hk hlook hc1 hb hsl hno hn hsw hrd hrn hrr hch h1 hB;have hlen : (kids N n.ref).length = sn:=by have:=hsw2.len;simpa using this
  obtain ⟨K,hK⟩ : ∃ K,kids N n.ref = K:=⟨_,rfl⟩
  rw [hK] at hsw2 hKN hKl hKn hlen;have HK:=Lib.hid hK;have Hlen:=Lib.hid hlen;have hsnl : sn ≤ 100000:=by omega
  clear hK hlen hKl;obtain ⟨W1,hW1⟩ : ∃ W1,W.drew = W1:=⟨_,rfl⟩
  rw [hW1] at hB1 h2 hn2 hsw2 hrd2 hrn2 hrr2 hch2 ⊢;have hW1s : W1.heap.size = W.heap.size:=by rw [← hW1];rfl
  rw [← hW1s] at hsM;clear hW1 hW1s;(go_wp2_with fail);go_loopw [7] (fun j wj=>∃ m : Nat,m ≤ sn ∧ j = .int .i64 m ∧ Hid (∀ i (hi : i < K.length),i < m → cmpN K[i] n < 0) ∧ Below W1.heap.size W1 wj) (fun j _=>sn - (intOf j).toNat)
  case atStart=>exact ⟨0,Nat.zero_le _,rfl,(show ∀ i (hi : i < K.length),i < 0 → _ from fun i _ h=>absurd h (by omega)),Below.refl _ _⟩
  case round =>
    obtain ⟨m,hmO,rfl,hlow,hbj⟩:=hrel;have hrdj : rowAt wr ga 0 32 = some (idC n.id):=(rowAt_of_block (hbj.block ga (rowAt_lt hrd2)) _ _).trans hrd2;have hchj : wr.cell? ⟨ga + 1,0,none⟩ = some (.int .i64 n.h):=(hbj.cell (p:=⟨ga + 1,0,none⟩) (rowAt_lt hrn2)).trans hch2;have hsj:=h2.below hbj;have hswj:=hsw2.below hbj;by_cases hmlt : m < sn
    · obtain ⟨q,o,rfl,hrO⟩:=hswj.rd.at_ hmlt;rw [List.getElem_map,List.getElem_map] at hrO;have hmem : K[m]'(by rw [Hlen.out];exact hmlt) ∈ K:=List.getElem_mem _;obtain ⟨y,hy⟩ : ∃ y,K[m]'(by rw [Hlen.out];exact hmlt) = y:=⟨_,rfl⟩
      rw [hy] at hrO hmem;have hyN:=hKN y hmem;have hne' : n.id ≠ y.id:=fun e=>hnew (List.mem_map.2 ⟨y,hyN,e.symm⟩);have hca:=cmpN_ahead (a:=n) (b:=y) hne';have hk2 : ∀ x : Subtype (Bel wr),(Instr.lookup 188 (.map (some bn)) (.agg (idC y.id)) false).run Tryz.prog x.1 = .ok (.agg (sNodeC ⟨y.h,y.ref,y.val⟩)) x.1:=fun x=>nlook ((hn2.kept (Keep.of_below hbj) (by simp)).kept (Keep.of_below x.2) (by simp)) hyN false;have hc0:=hsj.cell0;have c2:=hahead n.h n.id y.h y.id wr.drew;obtain ⟨c,hc⟩ : ∃ c,aheadB n.h n.id y.h y.id = c:=⟨_,rfl⟩
      rw [hc] at c2 hca;have Hy:=Lib.hid hy;have Hca:=Lib.hid hca;have Hmem:=Lib.hid hmem;clear hc hy hca hmem hne';go_upto_region 3 with fail
      refine wp_region_lex (Bel wr) false (by kernel_rfl) (by kernel_rfl) (by kernel_rfl) (bel_drew wr) ?_;have hne:=bel_some wr;have hS:=bel_drew wr;have b1:=sub_row hrdj;have b2:=sub_row hrO;have b3:=sub_cell hchj;have b4:=sub_cell hc0;repeat (refine wpLx_loose ?_ ?_;(focus (simp only [chainOp];done));intro K hK;go_simp;refine hK _ ?_;clear hK K)
      refine wpLx_chain ?_ ?_ ?_;(focus (exact hS));(focus (simp only [chainOp];done));intro K hK;go_simp;refine (c2).mono ?_;rintro e w' ⟨rfl,hb⟩;replace hS:=bel_next hS hb;refine ⟨_,rfl,hS,hK _ _ ?_⟩;clear hK K hb;repeat (refine wpLx_loose ?_ ?_;(focus (simp only [chainOp];done));intro K hK;go_simp;refine hK _ ?_;clear hK K)
      refine wpLx_nil ?_;intro hS;have hS' : Below wr.heap.size wr w':=hS;have hbz:=bel2 hbj hS';clear b1 b2 b3 b4 hne hS c2 hk2 hc0;cases c with
      | true =>
        (go_wp2_with fail);go_roundw
        case rel =>
          refine ⟨m + 1,by omega,by go_num,(show ∀ i (hi : i < K.length),i < m + 1 → cmpN K[i] n < 0 from fun i hi hlt=>?_),hbz⟩;by_cases e : i = m
          · subst e;rw [Hy.out];exact of_decide_eq_true Hca.out
          · exact hlow.out i hi (by omega)
        case measure=>simp [intOf];omega
      | false =>
        have hat:=insC_at (c:=cmpN) K n m (by rw [Hlen.out];exact hmO) hlow.out (fun hk'=>by
          rw [Hy.out];have h1 : ¬ cmpN y n < 0:=of_decide_eq_false Hca.out;have h2 : cmpN y n ≠ 0:=fun e=>hKn (by rw [← (totN.zero _ _).1 e];exact Hmem.out);omega)
        have Hat:=Lib.hid hat;have hsq:=h2.below hbz;have hswz:=hsw2.below hbz;have hrdz : rowAt w' ga 0 32 = some (idC n.id):=(rowAt_of_block (hbz.block ga (rowAt_lt hrd2)) _ _).trans hrd2;have hrnz : rowAt w' (ga + 1) 0 34 = some (sNodeC (snode n)):=(rowAt_of_block (hbz.block (ga + 1) (rowAt_lt hrn2)) _ _).trans hrn2;have hBz : Below ga w w':=hB1.trans (hbz.mono (by have:=rowAt_lt hrd2;omega));have hszz:=hbz.size;clear hat hrO hrdj hchj hsj hswj hbj hbz hS';obtain ⟨V,rfl⟩ : ∃ V,V = w':=⟨w',rfl⟩
        obtain ⟨A,hA1⟩ : ∃ A,(some ⟨q,o,none⟩ : Option Addr) = A:=⟨_,rfl⟩
        rw [hA1] at hswz hsM ⊢;clear hA1;have hrrz : rowAt V (ga + 1) 1 32 = some (idC n.ref):=by have:=rowAt_sub hrnz (j:=1) (m:=32) (by omega);rw [sNodeC_e1] at this;simpa [snode] using this
        have hc1:=hsq.cell1;have hmc : m ≤ sc:=Nat.le_trans hmO hswz.le;have hmx : ∀ w0 : World,(slS 50 (.slice A sn sc) none (some (.int .i64 m)) (some (.int .i64 m))).run Tryz.prog w0 = .ok (.slice A m m) w0:=fun w0=>run_slS_max einfoId w0 A sn sc m hmc;obtain ⟨Ah,ch,hhi,hhs,hhf⟩:=hswz.hi (P:=Tryz.prog) einfoId (m:=m) hmO;have hgbb : g ∉ [bb]:=by simpa using hsq.neg.2.1
        go_upto_region 5 with fail
        refine wp_region_lex (Kp [bb] V) false (by kernel_rfl) (by kernel_rfl) (by kernel_rfl) (kp_drew [bb] V) ?_;have hne:=kp_some [bb] V;have hS:=kp_drew [bb] V;have b1:=ksub_cell hc1 hgbb;have b2:=ksub_row hrdz (S:=[bb]) (by simp;omega);have b3:=ksub_row hrrz (S:=[bb]) (by simp;omega);repeat (refine wpLx_loose ?_ ?_;(focus (simp only [chainOp];done));intro K hK;go_simp;refine hK _ ?_;clear hK K)
        refine wpLx_chain ?_ ?_ ?_;(focus (exact hS));(focus (simp only [chainOp];done));intro K hK;go_simp;refine step_keep (kp_alloc hS _) (fun hS=>?_);refine hK _ _ ?_;clear hK K;repeat (refine wpLx_loose ?_ ?_;(focus (simp only [chainOp];done));intro K hK;go_simp;refine hK _ ?_;clear hK K)
        refine wpLx_chain ?_ ?_ ?_;(focus (exact hS));(focus (simp only [chainOp];done));intro K hK;go_simp;refine step_keep (kp_alloc hS _) (fun hS=>?_);refine hK _ _ ?_;clear hK K;have hbX : Below V.heap.size V ((V.alloc (.cells (idC n.id) 39)).alloc (.cells #[.slice A m m,.slice (some ⟨V.heap.size,0,none⟩) 1 1,.slice Ah (sn - m) ch] 50)).drew:=(((Below.refl _ _).alloc (Nat.le_refl _) _).alloc (by simp) _).drew;have t1 : TagsIn ((V.alloc (.cells (idC n.id) 39)).alloc (.cells #[.slice A m m,.slice (some ⟨V.heap.size,0,none⟩) 1 1,.slice Ah (sn - m) ch] 50)).drew A m ((K.map NodeV.id).take m):=by
          have:=(hswz.rd.below hbX).take_ hmO
          rwa [← List.map_take] at this
        have t3 : TagsIn ((V.alloc (.cells (idC n.id) 39)).alloc (.cells #[.slice A m m,.slice (some ⟨V.heap.size,0,none⟩) 1 1,.slice Ah (sn - m) ch] 50)).drew Ah (sn - m) ((K.map NodeV.id).drop m):=by
          have:=hhs _ (hswz.rd.below hbX)
          rwa [← List.map_drop] at this
        have t2 : TagsIn ((V.alloc (.cells (idC n.id) 39)).alloc (.cells #[.slice A m m,.slice (some ⟨V.heap.size,0,none⟩) 1 1,.slice Ah (sn - m) ch] 50)).drew (some ⟨V.heap.size,0,none⟩) 1 [n.id]:=⟨rfl,fun _=>⟨V.heap.size,0,rfl,fun i hi=>by
          have : i = 0:=by simpa using hi
          subst this;simp [go_sem]⟩⟩
        have k0 : ((V.alloc (.cells (idC n.id) 39)).alloc (.cells #[.slice A m m,.slice (some ⟨V.heap.size,0,none⟩) 1 1,.slice Ah (sn - m) ch] 50)).drew.cell? ⟨V.heap.size + 1,0,none⟩ = some (.slice A m m):=by simp [go_sem]
        have k1 : ((V.alloc (.cells (idC n.id) 39)).alloc (.cells #[.slice A m m,.slice (some ⟨V.heap.size,0,none⟩) 1 1,.slice Ah (sn - m) ch] 50)).drew.cell? ⟨V.heap.size + 1,1,none⟩ = some (.slice (some ⟨V.heap.size,0,none⟩) 1 1):=by simp [go_sem]
        have k2 : ((V.alloc (.cells (idC n.id) 39)).alloc (.cells #[.slice A m m,.slice (some ⟨V.heap.size,0,none⟩) 1 1,.slice Ah (sn - m) ch] 50)).drew.cell? ⟨V.heap.size + 1,2,none⟩ = some (.slice Ah (sn - m) ch):=by simp [go_sem]
        have hXs : ((V.alloc (.cells (idC n.id) 39)).alloc (.cells #[.slice A m m,.slice (some ⟨V.heap.size,0,none⟩) 1 1,.slice Ah (sn - m) ch] 50)).drew.heap.size = V.heap.size + 2:=by simp [World.drew]
        have hsV:=hBz.size;have hgaV:=rowAt_lt hrdz;obtain ⟨X,hX⟩ : ∃ X,((V.alloc (.cells (idC n.id) 39)).alloc (.cells #[.slice A m m,.slice (some ⟨V.heap.size,0,none⟩) 1 1,.slice Ah (sn - m) ch] 50)).drew = X:=⟨_,rfl⟩
        rw [hX] at hbX t1 t2 t3 k0 k1 k2 hXs hS ⊢;clear hX;have cc:=concat3 X (V.heap.size + 1) 3 A (some ⟨V.heap.size,0,none⟩) Ah m 1 (sn - m) m 1 ch _ _ _ t1 t2 t3 (fun e=>by have:=hswz.nil e;omega) (fun e=>by cases e) hhf k0 k1 k2 (by omega) (by omega);repeat (refine wpLx_loose ?_ ?_;(focus (simp only [chainOp];done));intro K hK;go_simp;refine hK _ ?_;clear hK K)
        refine wpLx_chain ?_ ?_ ?_;(focus (exact hS));(focus (simp only [chainOp];done));intro K hK;go_simp;refine cc.mono ?_;rintro e wC ⟨A5,cap5,rfl,hown5,hb5⟩;replace hS:=kp_below hS hb5;refine ⟨_,rfl,hS,hK _ _ ?_⟩;clear hK K cc k0 k1 k2 t1 t2 t3;have hSC : Keep [bb] V wC:=hS;obtain ⟨BM2,es2,clk2,hb2,hsl2,hno2⟩:=hsq.behind;have hVC:=bel2 hbX hb5;have hbC:=hb2.kept (Keep.of_below hVC) (by simp);have hL5 : ((K.map NodeV.id).take m ++ [n.id] ++ (K.map NodeV.id).drop m) = (insC cmpN K n).map NodeV.id:=by rw [Hat.out];simp [List.map_take,List.map_drop]
        rw [hL5] at hown5;have hslC:=hown5.slw;have hblC : ∀ x ∈ blk A5,x ∉ M ∧ x < wC.heap.size:=fun x hx=>by
          obtain ⟨h1,h2⟩:=hown5.at_base hx;exact ⟨fun hm=>by have:=hM x hm;omega,h2⟩
        obtain ⟨wD,esD,clkD,hrun,hmD,hkD⟩:=hbC.update (P:=Tryz.prog) (v:=(⟨A5,m + 1 + (sn - m),cap5⟩ : Sl)) idKey Tryz.underlying189 (k:=n.ref) trivial;change (Instr.mapUpdate 189 (.map (some bb)) (.agg (idC n.ref)) (.slice A5 (m + 1 + (sn - m)) cap5)).run Tryz.prog wC = .ok () wD at hrun;refine wpLx_chain ?_ ?_ ?_;(focus (exact hS));(focus (simp only [chainOp];done));intro K hK;go_simp;refine step_keep (kp_next hS hkD (by simp)) (fun hS=>?_);refine hK _ _ ?_;clear hK K;refine wpLx_nil ?_;intro hS;have hSD : Keep [bb] V wD:=hS;have hblkD:=(hSD.block g hsq.ltg hgbb).trans hsq.blk;have hbnb : bn ∉ [bb]:=by simpa using hsq.ne.1
        have hbgb : bg ∉ [bb]:=by simpa using fun e=>hsq.ne.2.2 e.symm
        obtain ⟨esN,clkN,hnV⟩:=hsq.nodes;have hnD:=hnV.kept hSD hbnb;have hgD:=hsq.gone.kept hSD hbgb;have hslD : SlW wD A5 (m + 1 + (sn - m)) cap5 32 (((insC cmpN K n).map NodeV.id).map idC):=hslC.kept hkD (fun x hx hm=>by
          have e : x = bb:=by simpa using hm
          subst e;exact (hblC _ hx).1 hsq.inM.2.1)
        have hrdD : rowAt wD ga 0 32 = some (idC n.id):=(hSD.row hgaV (by simp;omega) _ _).trans hrdz;have hrnD : rowAt wD (ga + 1) 0 34 = some (sNodeC (snode n)):=(hSD.row (rowAt_lt hrnz) (by simp;omega) _ _).trans hrnz;have hc0D : wD.cell? ⟨g,0,none⟩ = some (.map (some bn)):=by rw [cell_of_row wD g 0 _ _ _ hblkD];rfl
        have hsDs:=hSD.size;clear b1 b2 b3 hne hS hrun hbC hnV hslC hb5 hbX hVC hmx hhi hhs hrrz hc1;go_upto_region 6 with fail
        obtain ⟨wE,esE,clkE,hrun,hmE,hkE⟩:=(hnD.kept (Keep.drew wD) (by simp)).update (P:=Tryz.prog) (v:=snode n) idKey Tryz.underlying188 (k:=n.id) trivial;change (Instr.mapUpdate 188 (.map (some bn)) (.agg (idC n.id)) (.agg (sNodeC (snode n)))).run Tryz.prog wD.drew = .ok () wE at hrun;have hgbn : g ∉ [bn]:=by simpa using hsq.neg.1
        refine wp_region_lex (Kp [bn] wD) false (by kernel_rfl) (by kernel_rfl) (by kernel_rfl) (kp_drew [bn] wD) ?_;have hne:=kp_some [bn] wD;have hS:=kp_drew [bn] wD;have b1:=ksub_cell hc0D hgbn;have b2:=ksub_row hrdD (S:=[bn]) (by simp;omega);have b3:=ksub_row hrnD (S:=[bn]) (by simp;omega);repeat (refine wpLx_loose ?_ ?_;(focus (simp only [chainOp];done));intro K hK;go_simp;refine hK _ ?_;clear hK K)
        refine wpLx_chain ?_ ?_ ?_;(focus (exact hS));(focus (simp only [chainOp];done));intro K hK;go_simp;refine step_keep (kp_next hS hkE (by simp)) (fun hS=>?_);refine hK _ _ ?_;clear hK K;refine wpLx_nil ?_;intro hS;have hSE : Keep [bn] wD wE:=hS;have hput : putL (N.map fun n=>(n.id,snode n)) n.id (snode n) = (N ++ [n]).map fun n=>(n.id,snode n):=by
          unfold putL;rw [if_neg (by rw [List.map_map];exact hnew),List.map_append];rfl
        rw [hput] at hmE;have hbnE : bb ∉ [bn]:=by simpa using fun e=>hsq.ne.1 e.symm
        have hbgE : bg ∉ [bn]:=by simpa using fun e=>hsq.ne.2.1 e.symm
        have hfin : SeqAt wE M g bn bb bg (N ++ [n]) G:=by
          refine ⟨(hSE.block g (by have:=hsq.ltg;omega) hgbn).trans hblkD,⟨esE,clkE,hmE⟩,⟨_,esD,clkD,hmD.kept hSE hbnE,fun p hp=>?_,fun r hr=>?_⟩,hgD.kept hSE hbgE,hsq.inM,hsq.ne,?_,?_⟩
          · rcases mem_putL hp with e | ⟨hp,hne⟩
            · subst e;dsimp only;have hki : kids (N ++ [n]) n.ref = insC cmpN (kids N n.ref) n:=by rw [kids_snoc,if_pos rfl]
              rw [hki,HK.out];exact ⟨hslD.kept hSE (fun x hx hm=>by
                have e : x = bn:=by simpa using hm
                subst e;exact (hblC _ hx).1 hsq.inM.1),fun x hx=>⟨(hblC x hx).1,Nat.lt_of_lt_of_le (hblC x hx).2 (Nat.le_trans hkD.size hSE.size)⟩⟩
            · obtain ⟨s1,s2⟩:=hsl2 p hp;rw [kids_snoc,if_neg (fun e=>hne e.symm)];refine ⟨(s1.kept hSD (fun x hx hm=>?_)).kept hSE (fun x hx hm=>?_),fun x hx=>⟨(s2 x hx).1,Nat.lt_of_lt_of_le (s2 x hx).2 (Nat.le_trans hSD.size hSE.size)⟩⟩
              · have e : x = bb:=by simpa using hm
                subst e;exact (s2 _ hx).1 hsq.inM.2.1
              · have e : x = bn:=by simpa using hm
                subst e;exact (s2 _ hx).1 hsq.inM.1
          · obtain ⟨h1,h2⟩:=keys_putL hr;rw [kids_snoc,if_neg (fun e=>h2 e.symm)];exact hno2 r h1
          · intro a ha b hb' e;rcases List.mem_append.1 ha with ha1 | ha1 <;> rcases List.mem_append.1 hb' with hb1 | hb1
            · exact hsq.one a ha1 b hb1 e
            · have e2 : b = n:=by simpa using hb1
              rw [e2] at e;exact absurd (List.mem_map.2 ⟨a,ha1,e⟩) hnew
            · have e2 : a = n:=by simpa using ha1
              rw [e2] at e;exact absurd (List.mem_map.2 ⟨b,hb1,e.symm⟩) hnew
            · have e1 : a = n:=by simpa using ha1
              have e2 : b = n:=by simpa using hb1
              rw [e1,e2]
          · intro x hx;rcases List.mem_append.1 hx with hx | hx
            · exact hsq.ok x hx
            · have e : x = n:=by simpa using hx
              rw [e];exact hE
        have hkf : Keep [bn,bb] w wE:=Keep.trans (Keep.trans ((Keep.of_below (hBz.mono (by rw [Hga.out];exact Nat.le_refl _))).mono (S':=[bn,bb]) (by simp)) (hSD.mono (S':=[bn,bb]) (by simp)) (fun x hx=>.inl hx)) (hSE.mono (S':=[bn,bb]) (by simp)) (fun x hx=>.inl hx);clear b1 b2 b3 hne hS hkE hkD hrun hmE hmD hnD hgD hslD hrdD hrnD hc0D hblkD hsl2 hno2 hSE hSD hsq hput;(go_wp2_with fail);go_end0;exact ⟨rfl,hfin,hkf⟩
    · have hd : decide (m < sn) = false:=by simpa using hmlt
      have hat:=insC_at (c:=cmpN) K n m (by rw [Hlen.out];exact hmO) hlow.out (fun hk'=>absurd (by rw [← Hlen.out];exact hk') hmlt);have Hat:=Lib.hid hat;clear hat;go_upto_region 3 with fail
      refine wp_region_lex (Bel wr) false (by kernel_rfl) (by kernel_rfl) (by kernel_rfl) (bel_drew wr) ?_;have hne:=bel_some wr;have hS:=bel_drew wr;repeat (refine wpLx_loose ?_ ?_;(focus (simp only [chainOp];done));intro K hK;go_simp;refine hK _ ?_;clear hK K)
      refine wpLx_chain ?_ ?_ ?_;(focus (exact hS));(focus (simp only [chainOp];done));intro K hK;go_simp;refine hK _ _ ?_;clear hK K;repeat (refine wpLx_loose ?_ ?_;(focus (simp only [chainOp];done));intro K hK;go_simp;refine hK _ ?_;clear hK K)
      refine wpLx_nil ?_;intro hS;have hbz:=hbj.drew;have hsq:=h2.below hbz;have hswz:=hsw2.below hbz;have hrdz : rowAt wr.drew ga 0 32 = some (idC n.id):=hrdj;have hrnz : rowAt wr.drew (ga + 1) 0 34 = some (sNodeC (snode n)):=(rowAt_of_block (hbz.block (ga + 1) (rowAt_lt hrn2)) _ _).trans hrn2;have hBz : Below ga w wr.drew:=hB1.trans (hbz.mono (by have:=rowAt_lt hrd2;omega));have hszz:=hbz.size;clear hne hS hbz hbj hmlt hd hsj hswj hchj hrdj;obtain ⟨V,hV⟩ : ∃ V,wr.drew = V:=⟨_,rfl⟩
      rw [hV] at hsq hswz hrdz hrnz hBz hszz ⊢;clear hV;have hrrz : rowAt V (ga + 1) 1 32 = some (idC n.ref):=by have:=rowAt_sub hrnz (j:=1) (m:=32) (by omega);rw [sNodeC_e1] at this;simpa [snode] using this
      have hc1:=hsq.cell1;have hmc : m ≤ sc:=Nat.le_trans hmO hswz.le;have hmx : ∀ w0 : World,(slS 50 (.slice A sn sc) none (some (.int .i64 m)) (some (.int .i64 m))).run Tryz.prog w0 = .ok (.slice A m m) w0:=fun w0=>run_slS_max einfoId w0 A sn sc m hmc;obtain ⟨Ah,ch,hhi,hhs,hhf⟩:=hswz.hi (P:=Tryz.prog) einfoId (m:=m) hmO;have hgbb : g ∉ [bb]:=by simpa using hsq.neg.2.1
      go_upto_region 5 with fail
      refine wp_region_lex (Kp [bb] V) false (by kernel_rfl) (by kernel_rfl) (by kernel_rfl) (kp_drew [bb] V) ?_;have hne:=kp_some [bb] V;have hS:=kp_drew [bb] V;have b1:=ksub_cell hc1 hgbb;have b2:=ksub_row hrdz (S:=[bb]) (by simp;omega);have b3:=ksub_row hrrz (S:=[bb]) (by simp;omega);repeat (refine wpLx_loose ?_ ?_;(focus (simp only [chainOp];done));intro K hK;go_simp;refine hK _ ?_;clear hK K)
      refine wpLx_chain ?_ ?_ ?_;(focus (exact hS));(focus (simp only [chainOp];done));intro K hK;go_simp;refine step_keep (kp_alloc hS _) (fun hS=>?_);refine hK _ _ ?_;clear hK K;repeat (refine wpLx_loose ?_ ?_;(focus (simp only [chainOp];done));intro K hK;go_simp;refine hK _ ?_;clear hK K)
      refine wpLx_chain ?_ ?_ ?_;(focus (exact hS));(focus (simp only [chainOp];done));intro K hK;go_simp;refine step_keep (kp_alloc hS _) (fun hS=>?_);refine hK _ _ ?_;clear hK K;have hbX : Below V.heap.size V ((V.alloc (.cells (idC n.id) 39)).alloc (.cells #[.slice A m m,.slice (some ⟨V.heap.size,0,none⟩) 1 1,.slice Ah (sn - m) ch] 50)).drew:=(((Below.refl _ _).alloc (Nat.le_refl _) _).alloc (by simp) _).drew;have t1 : TagsIn ((V.alloc (.cells (idC n.id) 39)).alloc (.cells #[.slice A m m,.slice (some ⟨V.heap.size,0,none⟩) 1 1,.slice Ah (sn - m) ch] 50)).drew A m ((K.map NodeV.id).take m):=by
        have:=(hswz.rd.below hbX).take_ hmO
        rwa [← List.map_take] at this
      have t3 : TagsIn ((V.alloc (.cells (idC n.id) 39)).alloc (.cells #[.slice A m m,.slice (some ⟨V.heap.size,0,none⟩) 1 1,.slice Ah (sn - m) ch] 50)).drew Ah (sn - m) ((K.map NodeV.id).drop m):=by
        have:=hhs _ (hswz.rd.below hbX)
        rwa [← List.map_drop] at this
      have t2 : TagsIn ((V.alloc (.cells (idC n.id) 39)).alloc (.cells #[.slice A m m,.slice (some ⟨V.heap.size,0,none⟩) 1 1,.slice Ah (sn - m) ch] 50)).drew (some ⟨V.heap.size,0,none⟩) 1 [n.id]:=⟨rfl,fun _=>⟨V.heap.size,0,rfl,fun i hi=>by
        have : i = 0:=by simpa using hi
        subst this;simp [go_sem]⟩⟩
      have k0 : ((V.alloc (.cells (idC n.id) 39)).alloc (.cells #[.slice A m m,.slice (some ⟨V.heap.size,0,none⟩) 1 1,.slice Ah (sn - m) ch] 50)).drew.cell? ⟨V.heap.size + 1,0,none⟩ = some (.slice A m m):=by simp [go_sem]
      have k1 : ((V.alloc (.cells (idC n.id) 39)).alloc (.cells #[.slice A m m,.slice (some ⟨V.heap.size,0,none⟩) 1 1,.slice Ah (sn - m) ch] 50)).drew.cell? ⟨V.heap.size + 1,1,none⟩ = some (.slice (some ⟨V.heap.size,0,none⟩) 1 1):=by simp [go_sem]
      have k2 : ((V.alloc (.cells (idC n.id) 39)).alloc (.cells #[.slice A m m,.slice (some ⟨V.heap.size,0,none⟩) 1 1,.slice Ah (sn - m) ch] 50)).drew.cell? ⟨V.heap.size + 1,2,none⟩ = some (.slice Ah (sn - m) ch):=by simp [go_sem]
      have hXs : ((V.alloc (.cells (idC n.id) 39)).alloc (.cells #[.slice A m m,.slice (some ⟨V.heap.size,0,none⟩) 1 1,.slice Ah (sn - m) ch] 50)).drew.heap.size = V.heap.size + 2:=by simp [World.drew]
      have hsV:=hBz.size;have hgaV:=rowAt_lt hrdz;obtain ⟨X,hX⟩ : ∃ X,((V.alloc (.cells (idC n.id) 39)).alloc (.cells #[.slice A m m,.slice (some ⟨V.heap.size,0,none⟩) 1 1,.slice Ah (sn - m) ch] 50)).drew = X:=⟨_,rfl⟩
      rw [hX] at hbX t1 t2 t3 k0 k1 k2 hXs hS ⊢;clear hX;have cc:=concat3 X (V.heap.size + 1) 3 A (some ⟨V.heap.size,0,none⟩) Ah m 1 (sn - m) m 1 ch _ _ _ t1 t2 t3 (fun e=>by have:=hswz.nil e;omega) (fun e=>by cases e) hhf k0 k1 k2 (by omega) (by omega);repeat (refine wpLx_loose ?_ ?_;(focus (simp only [chainOp];done));intro K hK;go_simp;refine hK _ ?_;clear hK K)
      refine wpLx_chain ?_ ?_ ?_;(focus (exact hS));(focus (simp only [chainOp];done));intro K hK;go_simp;refine cc.mono ?_;rintro e wC ⟨A5,cap5,rfl,hown5,hb5⟩;replace hS:=kp_below hS hb5;refine ⟨_,rfl,hS,hK _ _ ?_⟩;clear hK K cc k0 k1 k2 t1 t2 t3;have hSC : Keep [bb] V wC:=hS;obtain ⟨BM2,es2,clk2,hb2,hsl2,hno2⟩:=hsq.behind;have hVC:=bel2 hbX hb5;have hbC:=hb2.kept (Keep.of_below hVC) (by simp);have hL5 : ((K.map NodeV.id).take m ++ [n.id] ++ (K.map NodeV.id).drop m) = (insC cmpN K n).map NodeV.id:=by rw [Hat.out];simp [List.map_take,List.map_drop]
      rw [hL5] at hown5;have hslC:=hown5.slw;have hblC : ∀ x ∈ blk A5,x ∉ M ∧ x < wC.heap.size:=fun x hx=>by
        obtain ⟨h1,h2⟩:=hown5.at_base hx;exact ⟨fun hm=>by have:=hM x hm;omega,h2⟩
      obtain ⟨wD,esD,clkD,hrun,hmD,hkD⟩:=hbC.update (P:=Tryz.prog) (v:=(⟨A5,m + 1 + (sn - m),cap5⟩ : Sl)) idKey Tryz.underlying189 (k:=n.ref) trivial;change (Instr.mapUpdate 189 (.map (some bb)) (.agg (idC n.ref)) (.slice A5 (m + 1 + (sn - m)) cap5)).run Tryz.prog wC = .ok () wD at hrun;refine wpLx_chain ?_ ?_ ?_;(focus (exact hS));(focus (simp only [chainOp];done));intro K hK;go_simp;refine step_keep (kp_next hS hkD (by simp)) (fun hS=>?_);refine hK _ _ ?_;clear hK K;refine wpLx_nil ?_;intro hS;have hSD : Keep [bb] V wD:=hS;have hblkD:=(hSD.block g hsq.ltg hgbb).trans hsq.blk;have hbnb : bn ∉ [bb]:=by simpa using hsq.ne.1
      have hbgb : bg ∉ [bb]:=by simpa using fun e=>hsq.ne.2.2 e.symm
      obtain ⟨esN,clkN,hnV⟩:=hsq.nodes;have hnD:=hnV.kept hSD hbnb;have hgD:=hsq.gone.kept hSD hbgb;have hslD : SlW wD A5 (m + 1 + (sn - m)) cap5 32 (((insC cmpN K n).map NodeV.id).map idC):=hslC.kept hkD (fun x hx hm=>by
        have e : x = bb:=by simpa using hm
        subst e;exact (hblC _ hx).1 hsq.inM.2.1)
      have hrdD : rowAt wD ga 0 32 = some (idC n.id):=(hSD.row hgaV (by simp;omega) _ _).trans hrdz;have hrnD : rowAt wD (ga + 1) 0 34 = some (sNodeC (snode n)):=(hSD.row (rowAt_lt hrnz) (by simp;omega) _ _).trans hrnz;have hc0D : wD.cell? ⟨g,0,none⟩ = some (.map (some bn)):=by rw [cell_of_row wD g 0 _ _ _ hblkD];rfl
      have hsDs:=hSD.size;clear b1 b2 b3 hne hS hrun hbC hnV hslC hb5 hbX hVC hmx hhi hhs hrrz hc1;go_upto_region 6 with fail
      obtain ⟨wE,esE,clkE,hrun,hmE,hkE⟩:=(hnD.kept (Keep.drew wD) (by simp)).update (P:=Tryz.prog) (v:=snode n) idKey Tryz.underlying188 (k:=n.id) trivial;change (Instr.mapUpdate 188 (.map (some bn)) (.agg (idC n.id)) (.agg (sNodeC (snode n)))).run Tryz.prog wD.drew = .ok () wE at hrun;have hgbn : g ∉ [bn]:=by simpa using hsq.neg.1
      refine wp_region_lex (Kp [bn] wD) false (by kernel_rfl) (by kernel_rfl) (by kernel_rfl) (kp_drew [bn] wD) ?_;have hne:=kp_some [bn] wD;have hS:=kp_drew [bn] wD;have b1:=ksub_cell hc0D hgbn;have b2:=ksub_row hrdD (S:=[bn]) (by simp;omega);have b3:=ksub_row hrnD (S:=[bn]) (by simp;omega);repeat (refine wpLx_loose ?_ ?_;(focus (simp only [chainOp];done));intro K hK;go_simp;refine hK _ ?_;clear hK K)
      refine wpLx_chain ?_ ?_ ?_;(focus (exact hS));(focus (simp only [chainOp];done));intro K hK;go_simp;refine step_keep (kp_next hS hkE (by simp)) (fun hS=>?_);refine hK _ _ ?_;clear hK K;refine wpLx_nil ?_;intro hS;have hSE : Keep [bn] wD wE:=hS;have hput : putL (N.map fun n=>(n.id,snode n)) n.id (snode n) = (N ++ [n]).map fun n=>(n.id,snode n):=by
        unfold putL;rw [if_neg (by rw [List.map_map];exact hnew),List.map_append];rfl
      rw [hput] at hmE;have hbnE : bb ∉ [bn]:=by simpa using fun e=>hsq.ne.1 e.symm
      have hbgE : bg ∉ [bn]:=by simpa using fun e=>hsq.ne.2.1 e.symm
      have hfin : SeqAt wE M g bn bb bg (N ++ [n]) G:=by
        refine ⟨(hSE.block g (by have:=hsq.ltg;omega) hgbn).trans hblkD,⟨esE,clkE,hmE⟩,⟨_,esD,clkD,hmD.kept hSE hbnE,fun p hp=>?_,fun r hr=>?_⟩,hgD.kept hSE hbgE,hsq.inM,hsq.ne,?_,?_⟩
        · rcases mem_putL hp with e | ⟨hp,hne⟩
          · subst e;dsimp only;have hki : kids (N ++ [n]) n.ref = insC cmpN (kids N n.ref) n:=by rw [kids_snoc,if_pos rfl]
            rw [hki,HK.out];exact ⟨hslD.kept hSE (fun x hx hm=>by
              have e : x = bn:=by simpa using hm
              subst e;exact (hblC _ hx).1 hsq.inM.1),fun x hx=>⟨(hblC x hx).1,Nat.lt_of_lt_of_le (hblC x hx).2 (Nat.le_trans hkD.size hSE.size)⟩⟩
          · obtain ⟨s1,s2⟩:=hsl2 p hp;rw [kids_snoc,if_neg (fun e=>hne e.symm)];refine ⟨(s1.kept hSD (fun x hx hm=>?_)).kept hSE (fun x hx hm=>?_),fun x hx=>⟨(s2 x hx).1,Nat.lt_of_lt_of_le (s2 x hx).2 (Nat.le_trans hSD.size hSE.size)⟩⟩
            · have e : x = bb:=by simpa using hm
              subst e;exact (s2 _ hx).1 hsq.inM.2.1
            · have e : x = bn:=by simpa using hm
              subst e;exact (s2 _ hx).1 hsq.inM.1
        · obtain ⟨h1,h2⟩:=keys_putL hr;rw [kids_snoc,if_neg (fun e=>h2 e.symm)];exact hno2 r h1
        · intro a ha b hb' e;rcases List.mem_append.1 ha with ha1 | ha1 <;> rcases List.mem_append.1 hb' with hb1 | hb1
          · exact hsq.one a ha1 b hb1 e
          · have e2 : b = n:=by simpa using hb1
            rw [e2] at e;exact absurd (List.mem_map.2 ⟨a,ha1,e⟩) hnew
          · have e2 : a = n:=by simpa using ha1
            rw [e2] at e;exact absurd (List.mem_map.2 ⟨b,hb1,e.symm⟩) hnew
          · have e1 : a = n:=by simpa using ha1
            have e2 : b = n:=by simpa using hb1
            rw [e1,e2]
        · intro x hx;rcases List.mem_append.1 hx with hx | hx
          · exact hsq.ok x hx
          · have e : x = n:=by simpa using hx
            rw [e];exact hE
      have hkf : Keep [bn,bb] w wE:=Keep.trans (Keep.trans ((Keep.of_below (hBz.mono (by rw [Hga.out];exact Nat.le_refl _))).mono (S':=[bn,bb]) (by simp)) (hSD.mono (S':=[bn,bb]) (by simp)) (fun x hx=>.inl hx)) (hSE.mono (S':=[bn,bb]) (by simp)) (fun x hx=>.inl hx);clear b1 b2 b3 hne hS hkE hkD hrun hmE hmD hnD hgD hslD hrdD hrnD hc0D hblkD hsl2 hno2 hSE hSD hsq hput;(go_wp2_with fail);go_end0;exact ⟨rfl,hfin,hkf⟩
end
section
open Go.RowKit
def addN (N : List NodeV) (n : NodeV) : List NodeV:=if nodeE n = 0 then (if n.id ∈ N.map NodeV.id then N else N ++ [n]) else N
@[go_sem] theorem zeroNode_run (w : World) : (zeroValue 193).run Tryz.prog w = .ok (.agg (sNodeC sNode0)) w:=by kernel_rfl
set_option maxRecDepth 100000 in
set_option maxHeartbeats 4000000 in
theorem sqinsert (n : NodeV) (w : World) (M : List Nat) (g bn bb bg : Nat) (N : List NodeV) (G : List Id32) (h : SeqAt w M g bn bb bg N G) (hM : ∀ x ∈ M,x < w.heap.size) (hv : n.val.size ≤ 9223372036854775807) (hl : N.length ≤ 100000) :
    Calls Tryz.prog 142 #[.pointer (some ⟨g,0,none⟩),.agg (idC n.id),.int .i64 n.h,.agg (idC n.ref),.string n.val] w fun e w'=>e = .returned (.int .i64 (nodeE n)) ∧ SeqAt w' M g bn bb bg (addN N n) G ∧ Keep [bn,bb] w w':=by
  have hb0 : Below w.heap.size w (((w.alloc (.cells (idC n.id) 39)).alloc (.cells (idC n.ref) 39)).alloc (.cells (sNodeC ⟨n.h,n.ref,n.val⟩) 193)):=(((Below.refl _ _).alloc (Nat.le_refl _) _).alloc (by simp) _).alloc (by simp;omega) _;have h0:=h.below hb0;have hrd : rowAt (((w.alloc (.cells (idC n.id) 39)).alloc (.cells (idC n.ref) 39)).alloc (.cells (sNodeC ⟨n.h,n.ref,n.val⟩) 193)) w.heap.size 0 32 = some (idC n.id):=by simp [go_sem];intro e;omega
  have hrn : rowAt (((w.alloc (.cells (idC n.id) 39)).alloc (.cells (idC n.ref) 39)).alloc (.cells (sNodeC ⟨n.h,n.ref,n.val⟩) 193)) (w.heap.size + 2) 0 34 = some (sNodeC ⟨n.h,n.ref,n.val⟩):=by simp [go_sem]
  have hc00 : ((w.alloc (.cells (idC n.id) 39)).alloc (.cells (idC n.ref) 39)).cell? ⟨g,0,none⟩ = some (.map (some bn)):=((((Below.refl w.heap.size w).alloc (Nat.le_refl _) (.cells (idC n.id) 39)).alloc (by simp) (.cells (idC n.ref) 39)).cell (p:=⟨g,0,none⟩) h.ltg).trans h.cell0;have hhn : sNodeC (snode n) = sNodeC ⟨n.h,n.ref,n.val⟩:=rfl;go_enter Tryz.func142,Tryz.ntmps142
  (go_wp2_with fail);refine (sqnone_live _ g bn hc00).mono ?_;rintro e w1 ⟨rfl,rfl⟩;go_upto_region 4 with fail
  obtain ⟨ga,hga⟩ : ∃ ga,w.heap.size = ga:=⟨_,rfl⟩
  have Hga:=Lib.hid hga;rw [hga] at hrd hrn hb0 hM ⊢;obtain ⟨W,hW⟩ : ∃ W,W = (((w.alloc (.cells (idC n.id) 39)).alloc (.cells (idC n.ref) 39)).alloc (.cells (sNodeC ⟨n.h,n.ref,n.val⟩) 193)):=⟨_,rfl⟩
  rw [← hW] at h0 hrd hrn hb0 ⊢;clear hW hga hc00;have cc:=sqcheck n.id n rfl W hv;rw [hhn] at cc;obtain ⟨E,hE⟩ : ∃ E,nodeE n = E:=⟨_,rfl⟩
  rw [hE] at cc;have HE:=Lib.hid hE;have Hadd : Hid (addN N n = if nodeE n = 0 then (if n.id ∈ N.map NodeV.id then N else N ++ [n]) else N):=rfl;clear hE;(go_wp2_with fail);refine cc.mono ?_;rintro e w2 ⟨rfl,hb2⟩;have hB2 : Below ga w w2:=hb0.trans (hb2.mono (by have:=hb0.size;have:=Hga.out;omega));have h2:=h0.below hb2;have hrd2 : rowAt w2 ga 0 32 = some (idC n.id):=(rowAt_of_block (hb2.block ga (rowAt_lt hrd)) _ _).trans hrd;have hrn2 : rowAt w2 (ga + 2) 0 34 = some (sNodeC ⟨n.h,n.ref,n.val⟩):=(rowAt_of_block (hb2.block (ga + 2) (rowAt_lt hrn)) _ _).trans hrn;clear cc hb2 hrd hrn h0 hb0;by_cases hE0 : E = 0
  · subst hE0;go_upto_region 7 with fail
    have hc0:=h2.cell0;obtain ⟨es,clk,hn⟩:=h2.nodes;by_cases hin : n.id ∈ N.map NodeV.id
    · obtain ⟨y,hyN,hyi⟩:=List.mem_map.1 hin;have hk : ∀ x : Subtype (Bel w2),(Instr.lookup 188 (.map (some bn)) (.agg (idC n.id)) true).run Tryz.prog x.1 = .ok (.tuple #[.agg (sNodeC ⟨y.h,y.ref,y.val⟩),.bool true]) x.1:=fun x=>by
        have:=nlook (hn.kept (Keep.of_below x.2) (by simp)) hyN true;rw [hyi] at this;exact this
      have Hin:=Lib.hid hin;clear hin hyi hn;have hst : (stS 193 ⟨w2.heap.size,0,none⟩ (.agg (sNodeC ⟨y.h,y.ref,y.val⟩))).run Tryz.prog (w2.alloc (.cells (sNodeC sNode0) 193)).drew = .ok () (w2.alloc (.cells (sNodeC ⟨y.h,y.ref,y.val⟩) 193)).drew:=storeSNode_run w2.drew _ rfl _ (by simp) ⟨y.h,y.ref,y.val⟩ _;have hSn : Hid (Bel w2 (w2.alloc (.cells (sNodeC ⟨y.h,y.ref,y.val⟩) 193)).drew):=((Below.refl _ _).alloc (Nat.le_refl _) _).drew;refine wp_region_lex (Bel w2) false (by kernel_rfl) (by kernel_rfl) (by kernel_rfl) (bel_drew w2) ?_;have hne:=bel_some w2;have hS:=bel_drew w2;have b1:=sub_cell hc0;have b2:=sub_row hrd2;repeat (refine wpLx_loose ?_ ?_;(focus (simp only [chainOp];done));intro K hK;go_simp;refine hK _ ?_;clear hK K)
      refine wpLx_chain ?_ ?_ ?_;(focus (exact hS));(focus (simp only [chainOp];done));intro K hK;go_simp;refine step_keep (bel_alloc hS _) (fun hS=>?_);refine hK _ _ ?_;clear hK K;repeat (refine wpLx_loose ?_ ?_;(focus (simp only [chainOp];done));intro K hK;go_simp;refine hK _ ?_;clear hK K)
      refine wpLx_chain ?_ ?_ ?_;(focus (exact hS));(focus (simp only [chainOp];done));intro K hK;go_simp;first | refine step_keep hSn.out (fun hS=>?_) | skip
      refine hK _ _ ?_;clear hK K;repeat (refine wpLx_loose ?_ ?_;(focus (simp only [chainOp];done));intro K hK;go_simp;refine hK _ ?_;clear hK K)
      refine wpLx_nil ?_;intro hS;have hS' : Below w2.heap.size w2 (w2.alloc (.cells (sNodeC ⟨y.h,y.ref,y.val⟩) 193)).drew:=hS;have h3:=h2.below hS';have hB3:=hB2.trans (hS'.mono (by have:=rowAt_lt hrd2;omega));have hrd3 : rowAt (w2.alloc (.cells (sNodeC ⟨y.h,y.ref,y.val⟩) 193)).drew ga 0 32 = some (idC n.id):=(rowAt_of_block (hS'.block ga (rowAt_lt hrd2)) _ _).trans hrd2;have hrn3 : rowAt (w2.alloc (.cells (sNodeC ⟨y.h,y.ref,y.val⟩) 193)).drew (ga + 2) 0 34 = some (sNodeC ⟨n.h,n.ref,n.val⟩):=(rowAt_of_block (hS'.block (ga + 2) (rowAt_lt hrn2)) _ _).trans hrn2;clear b1 b2 hne hS hS' hst hSn hk hc0 hrd2 hrn2 h2 hB2;obtain ⟨w3,hw3⟩ : ∃ w3,(w2.alloc (.cells (sNodeC ⟨y.h,y.ref,y.val⟩) 193)).drew = w3:=⟨_,rfl⟩
      rw [hw3] at h3 hB3 hrd3 hrn3 ⊢;clear hw3;(go_wp2_with fail);go_ret;have e1 : addN N n = N:=by rw [Hadd.out,if_pos HE.out,if_pos Hin.out]
      exact ⟨ret_int (by rw [HE.out]),by rw [e1];exact h3,(Keep.of_below (hB3.mono (by rw [Hga.out];exact Nat.le_refl _))).mono (by simp)⟩
    · have hno : n.id ∉ (N.map fun n=>(n.id,snode n)).map (·.1):=by rw [List.map_map];exact hin
      have hk : ∀ x : Subtype (Bel w2),(Instr.lookup 188 (.map (some bn)) (.agg (idC n.id)) true).run Tryz.prog x.1 = .ok (.tuple #[.agg (sNodeC sNode0),.bool false]) x.1:=fun x =>
        (hn.kept (Keep.of_below x.2) (by simp)).miss idKey Tryz.underlying188 (zeroNode_run x.1) trivial hno true
      have Hin:=Lib.hid hin;clear hno hn;have hst : (stS 193 ⟨w2.heap.size,0,none⟩ (.agg (sNodeC sNode0))).run Tryz.prog (w2.alloc (.cells (sNodeC sNode0) 193)).drew = .ok () (w2.alloc (.cells (sNodeC sNode0) 193)).drew:=storeSNode_run w2.drew _ rfl _ (by simp) sNode0 _;have hSn : Hid (Bel w2 (w2.alloc (.cells (sNodeC sNode0) 193)).drew):=((Below.refl _ _).alloc (Nat.le_refl _) _).drew;refine wp_region_lex (Bel w2) false (by kernel_rfl) (by kernel_rfl) (by kernel_rfl) (bel_drew w2) ?_;have hne:=bel_some w2;have hS:=bel_drew w2;have b1:=sub_cell hc0;have b2:=sub_row hrd2;repeat (refine wpLx_loose ?_ ?_;(focus (simp only [chainOp];done));intro K hK;go_simp;refine hK _ ?_;clear hK K)
      refine wpLx_chain ?_ ?_ ?_;(focus (exact hS));(focus (simp only [chainOp];done));intro K hK;go_simp;refine step_keep (bel_alloc hS _) (fun hS=>?_);refine hK _ _ ?_;clear hK K;repeat (refine wpLx_loose ?_ ?_;(focus (simp only [chainOp];done));intro K hK;go_simp;refine hK _ ?_;clear hK K)
      refine wpLx_chain ?_ ?_ ?_;(focus (exact hS));(focus (simp only [chainOp];done));intro K hK;go_simp;first | refine step_keep hSn.out (fun hS=>?_) | skip
      refine hK _ _ ?_;clear hK K;repeat (refine wpLx_loose ?_ ?_;(focus (simp only [chainOp];done));intro K hK;go_simp;refine hK _ ?_;clear hK K)
      refine wpLx_nil ?_;intro hS;have hS' : Below w2.heap.size w2 (w2.alloc (.cells (sNodeC sNode0) 193)).drew:=hS;have h3:=h2.below hS';have hB3:=hB2.trans (hS'.mono (by have:=rowAt_lt hrd2;omega));have hrd3 : rowAt (w2.alloc (.cells (sNodeC sNode0) 193)).drew ga 0 32 = some (idC n.id):=(rowAt_of_block (hS'.block ga (rowAt_lt hrd2)) _ _).trans hrd2;have hrn3 : rowAt (w2.alloc (.cells (sNodeC sNode0) 193)).drew (ga + 2) 0 34 = some (sNodeC ⟨n.h,n.ref,n.val⟩):=(rowAt_of_block (hS'.block (ga + 2) (rowAt_lt hrn2)) _ _).trans hrn2;clear b1 b2 hne hS hS' hst hSn hk hc0 hrd2 hrn2 h2 hB2;obtain ⟨w3,hw3⟩ : ∃ w3,(w2.alloc (.cells (sNodeC sNode0) 193)).drew = w3:=⟨_,rfl⟩
      rw [hw3] at h3 hB3 hrd3 hrn3 ⊢;clear hw3;have hs3:=hB3.size;have hM3 : ∀ x ∈ M,x < w3.heap.size:=fun x hx=>(by have:=hM x hx;have:=Hga.out;omega);have ch:=sqhang n w3 M g bn bb bg N G h3 hM3 hin HE.out hl;rw [hhn] at ch;clear hin;(go_wp2_with fail);refine ch.mono ?_;rintro e w4 ⟨rfl,h4,hk4⟩;have hkf : Keep [bn,bb] w w4:=Keep.trans ((Keep.of_below (hB3.mono (by rw [Hga.out];exact Nat.le_refl _))).mono (S':=[bn,bb]) (by simp)) hk4 (fun x hx=>.inl hx);clear ch hk4 h3 hB3 hrd3 hrn3;(go_wp2_with fail);go_ret;have e1 : addN N n = N ++ [n]:=by rw [Hadd.out,if_pos HE.out,if_neg Hin.out]
      exact ⟨ret_int (by rw [HE.out]),by rw [e1];exact h4,hkf⟩
  · have hne : (E != 0) = true:=by simpa using hE0
    have Hne:=Lib.hid hE0;clear hE0;(go_wp2_with fail);go_ret;have e1 : addN N n = N:=by rw [Hadd.out,if_neg (by rw [HE.out];exact Hne.out)]
    exact ⟨ret_int (by rw [HE.out]),by rw [e1];exact h2,(Keep.of_below (hB2.mono (by rw [Hga.out];exact Nat.le_refl _))).mono (by simp)⟩
end
section
open Go.RowKit
theorem vfresh_b (w : World) : Calls Tryz.prog 55 #[.int .i64 2] w fun e w'=>∃ gs,e = .returned (.iface 102 (.pointer (some ⟨gs,0,none⟩))) ∧ (∃ bl bg,BagAt w' gs bl bg [] [] ∧ w.heap.size ≤ gs ∧ w.heap.size ≤ bl ∧ w.heap.size ≤ bg) ∧ Below w.heap.size w w':=by
  go_enter Tryz.func55,Tryz.ntmps55
  (go_wp2_with fail);refine (bnew w).mono ?_;rintro e w1 ⟨g,bl,bg,rfl,h1,h2,h3,h4,hb⟩;have H:=Lib.hid (And.intro h1 (And.intro h2 (And.intro h3 h4)));clear h1 h2 h3 h4;(go_wp2_with fail);go_ret;exact ⟨_,rfl,⟨bl,bg,H.out⟩,hb⟩
theorem vfresh_l (w : World) : Calls Tryz.prog 55 #[.int .i64 3] w fun e w'=>∃ gs,e = .returned (.iface 104 (.pointer (some ⟨gs,0,none⟩))) ∧ (∃ b,LastAt w' gs b [] ∧ w.heap.size ≤ gs ∧ w.heap.size ≤ b) ∧ Below w.heap.size w w':=by
  go_enter Tryz.func55,Tryz.ntmps55
  (go_wp2_with fail);refine (lnew w).mono ?_;rintro e w1 ⟨g,b,rfl,h1,h2,h3,hb⟩;have H:=Lib.hid (And.intro h1 (And.intro h2 h3));clear h1 h2 h3;(go_wp2_with fail);go_ret;exact ⟨_,rfl,⟨b,H.out⟩,hb⟩
theorem vfresh_m (w : World) : Calls Tryz.prog 55 #[.int .i64 4] w fun e w'=>∃ gs,e = .returned (.iface 105 (.pointer (some ⟨gs,0,none⟩))) ∧ (∃ bl bo,MultiAt w' gs bl bo [] [] ∧ w.heap.size ≤ gs ∧ w.heap.size ≤ bl ∧ w.heap.size ≤ bo) ∧ Below w.heap.size w w':=by
  go_enter Tryz.func55,Tryz.ntmps55
  (go_wp2_with fail);refine (mnew w).mono ?_;rintro e w1 ⟨g,bl,bg,rfl,h1,h2,h3,h4,hb⟩;have H:=Lib.hid (And.intro h1 (And.intro h2 (And.intro h3 h4)));clear h1 h2 h3 h4;(go_wp2_with fail);go_ret;exact ⟨_,rfl,⟨bl,bg,H.out⟩,hb⟩
theorem vfresh_s (w : World) : Calls Tryz.prog 55 #[.int .i64 5] w fun e w'=>∃ gs,e = .returned (.iface 106 (.pointer (some ⟨gs,0,none⟩))) ∧ (∃ bn bb bg,(∀ M,bn ∈ M → bb ∈ M → bg ∈ M → SeqAt w' M gs bn bb bg [] []) ∧ w.heap.size ≤ gs ∧ w.heap.size ≤ bn ∧ w.heap.size ≤ bb ∧ w.heap.size ≤ bg) ∧ Below w.heap.size w w':=by
  go_enter Tryz.func55,Tryz.ntmps55
  (go_wp2_with fail);refine (sqnew w).mono ?_;rintro e w1 ⟨g,bn,bb,bg,rfl,h1,h2,h3,h4,h5,hb⟩;have H:=Lib.hid (And.intro h1 (And.intro h2 (And.intro h3 (And.intro h4 h5))));clear h1 h2 h3 h4 h5;(go_wp2_with fail);go_ret;exact ⟨_,rfl,⟨bn,bb,bg,H.out⟩,hb⟩
end
section
open Go.RowKit
set_option maxRecDepth 100000 in
set_option maxHeartbeats 1000000 in
theorem vdoes_b2 (m : MarkV) (o : OpV) (A : Option Addr) (c : Nat) (w : World) (g gt bl bg : Nat) (t : ByteArray) (b : Nat) (I : List Id32) (L G : List BRow) (h : ViewAt w g t b I (.iface 102 (.pointer (some ⟨gt,0,none⟩)))) (hT : BagAt w gt bl bg L G) (hk : o.k = 2) (hv : o.val.size ≤ 16) :
    Calls Tryz.prog 64 #[.pointer (some ⟨g,0,none⟩),.agg (markVC m),.agg (opC o A c)] w fun e w'=>e = .returned (.tuple #[]) ∧ BagAt w' gt bl bg (addB L G ⟨m.id,o.val⟩) G ∧ Keep [bl] w w':=by
  obtain ⟨k,n,key,val,ref,refs⟩:=o;dsimp only at *;unfold opC at *;dsimp only at *;have hB : Below w.heap.size w ((w.alloc (.cells (markVC m) 41)).alloc (.cells (opPC ⟨k,n,key,val,ref,.slice A refs.length c⟩) 52)):=((Below.refl _ _).alloc (Nat.le_refl _) _).alloc (by simp) _;have hc:=(h.below hB).cell2;have hT1:=hT.below hB;have hrm : rowAt ((w.alloc (.cells (markVC m) 41)).alloc (.cells (opPC ⟨k,n,key,val,ref,.slice A refs.length c⟩) 52)) w.heap.size 0 34 = some (markVC m):=((Keep.alloc (w.alloc (.cells (markVC m) 41)) _).row (by simp) (by simp) 0 34).trans (by simp [go_sem]);have hr0 : rowAt ((w.alloc (.cells (markVC m) 41)).alloc (.cells (opPC ⟨k,n,key,val,ref,.slice A refs.length c⟩) 52)) w.heap.size 0 32 = some (idC m.id):=by have:=rowAt_sub hrm (j:=0) (m:=32) (by omega);rwa [markVC_e0] at this
  have hk2 : ((k : Int) == 2) = true:=by rw [hk];rfl
  clear hk;have ci:=fun w' (h' : BagAt w' gt bl bg L G)=>badd m.id val w' gt bl bg L G h' (by omega);clear hT h;have Hv:=Lib.hid hv;clear hv;go_enter Tryz.func64,Tryz.ntmps64
  (go_wp2_with fail);refine (ci _ hT1).mono ?_;rintro e w1 ⟨rfl,h1,hk1⟩;have hfin : Keep [bl] w w1:=Keep.trans ((Keep.of_below hB).mono (S':=[bl]) (by simp)) hk1 (fun x hx=>.inl hx);clear hB hc hT1 ci hk1 hrm hr0;(go_wp2_with fail);go_end0;exact ⟨rfl,h1,hfin⟩
set_option maxRecDepth 100000 in
set_option maxHeartbeats 1000000 in
theorem vdoes_b3 (m : MarkV) (o : OpV) (A : Option Addr) (c : Nat) (w : World) (g gt bl bg : Nat) (t : ByteArray) (b : Nat) (I : List Id32) (L G : List BRow) (h : ViewAt w g t b I (.iface 102 (.pointer (some ⟨gt,0,none⟩)))) (hT : BagAt w gt bl bg L G) (hk : (o.k == 2) = false) (hv : o.val.size ≤ 16) (hA : TagsIn w A o.refs.length o.refs) (hn : o.refs.length ≤ 8) :
    Calls Tryz.prog 64 #[.pointer (some ⟨g,0,none⟩),.agg (markVC m),.agg (opC o A c)] w fun e w'=>e = .returned (.tuple #[]) ∧ BagAt w' gt bl bg (remL L o.val o.refs) (remG G o.val o.refs) ∧ Keep [bl,bg] w w':=by
  obtain ⟨k,n,key,val,ref,refs⟩:=o;dsimp only at *;unfold opC at *;dsimp only at *;have hB : Below w.heap.size w ((w.alloc (.cells (markVC m) 41)).alloc (.cells (opPC ⟨k,n,key,val,ref,.slice A refs.length c⟩) 52)):=((Below.refl _ _).alloc (Nat.le_refl _) _).alloc (by simp) _;have hc:=(h.below hB).cell2;have hT1:=hT.below hB;have hrm : rowAt ((w.alloc (.cells (markVC m) 41)).alloc (.cells (opPC ⟨k,n,key,val,ref,.slice A refs.length c⟩) 52)) w.heap.size 0 34 = some (markVC m):=((Keep.alloc (w.alloc (.cells (markVC m) 41)) _).row (by simp) (by simp) 0 34).trans (by simp [go_sem]);have hr0 : rowAt ((w.alloc (.cells (markVC m) 41)).alloc (.cells (opPC ⟨k,n,key,val,ref,.slice A refs.length c⟩) 52)) w.heap.size 0 32 = some (idC m.id):=by have:=rowAt_sub hrm (j:=0) (m:=32) (by omega);rwa [markVC_e0] at this
  have hA1 : TagsIn _ A refs.length refs:=SlR.below hA hB;have ci:=fun w' (h' : BagAt w' gt bl bg L G) (hA' : TagsIn w' A refs.length refs)=>brem_ok val A refs.length c refs w' gt bl bg L G h' hA' hv (by omega);have HA:=Lib.hid hA1;clear hT h hA hn hA1;have Hv:=Lib.hid hv;clear hv;go_enter Tryz.func64,Tryz.ntmps64
  (go_wp2_with fail);refine (ci _ hT1 HA.out).mono ?_;rintro e w1 ⟨rfl,h1,hk1⟩;have hfin : Keep [bl,bg] w w1:=Keep.trans ((Keep.of_below hB).mono (S':=[bl,bg]) (by simp)) hk1 (fun x hx=>.inl hx);clear hB hc hT1 ci hk1 hrm hr0 HA;(go_wp2_with fail);go_end0;exact ⟨rfl,h1,hfin⟩
end
section
open Go.RowKit
set_option maxRecDepth 100000 in
set_option maxHeartbeats 1000000 in
theorem vdoes_l (m : MarkV) (o : OpV) (A : Option Addr) (c : Nat) (w : World) (g gt bl : Nat) (t : ByteArray) (b : Nat) (I : List Id32) (L : List LRow) (h : ViewAt w g t b I (.iface 104 (.pointer (some ⟨gt,0,none⟩)))) (hT : LastAt w gt bl L) (hk : o.key.size ≤ 16) (hv : o.val.size ≤ 16) :
    Calls Tryz.prog 64 #[.pointer (some ⟨g,0,none⟩),.agg (markVC m),.agg (opC o A c)] w fun e w'=>e = .returned (.tuple #[]) ∧ LastAt w' gt bl (setL L o.key ⟨o.val,o.n,m.id⟩) ∧ Keep [bl] w w':=by
  obtain ⟨k,n,key,val,ref,refs⟩:=o;dsimp only at *;unfold opC at *;dsimp only at *;have hB : Below w.heap.size w ((w.alloc (.cells (markVC m) 41)).alloc (.cells (opPC ⟨k,n,key,val,ref,.slice A refs.length c⟩) 52)):=((Below.refl _ _).alloc (Nat.le_refl _) _).alloc (by simp) _;have hc:=(h.below hB).cell2;have hT1:=hT.below hB;have hrm : rowAt ((w.alloc (.cells (markVC m) 41)).alloc (.cells (opPC ⟨k,n,key,val,ref,.slice A refs.length c⟩) 52)) w.heap.size 0 34 = some (markVC m):=((Keep.alloc (w.alloc (.cells (markVC m) 41)) _).row (by simp) (by simp) 0 34).trans (by simp [go_sem]);have hr0 : rowAt ((w.alloc (.cells (markVC m) 41)).alloc (.cells (opPC ⟨k,n,key,val,ref,.slice A refs.length c⟩) 52)) w.heap.size 0 32 = some (idC m.id):=by have:=rowAt_sub hrm (j:=0) (m:=32) (by omega);rwa [markVC_e0] at this
  have ci:=fun w' (h' : LastAt w' gt bl L)=>lset key val n m.id w' gt bl L h' (by omega) (by omega);clear hT h;have Hv:=Lib.hid (And.intro hk hv);clear hv hk;go_enter Tryz.func64,Tryz.ntmps64
  (go_wp2_with fail);refine (ci _ hT1).mono ?_;rintro e w1 ⟨rfl,h1,hk1⟩;have hfin : Keep [bl] w w1:=Keep.trans ((Keep.of_below hB).mono (S':=[bl]) (by simp)) hk1 (fun x hx=>.inl hx);clear hB hc hT1 ci hk1 hrm hr0;(go_wp2_with fail);go_end0;exact ⟨rfl,h1,hfin⟩
end
section
open Go.RowKit
set_option maxRecDepth 100000 in
set_option maxHeartbeats 1000000 in
theorem vdoes_m (m : MarkV) (o : OpV) (A : Option Addr) (c : Nat) (w : World) (g gt bl bo : Nat) (t : ByteArray) (b : Nat) (I : List Id32) (X : List MRow) (O : List Id32) (h : ViewAt w g t b I (.iface 105 (.pointer (some ⟨gt,0,none⟩)))) (hT : MultiAt w gt bl bo X O) (hk : o.key.size ≤ 16) (hv : o.val.size ≤ 16) (hA : TagsIn w A o.refs.length o.refs) (hn : o.refs.length ≤ 8) (hX : X.length < 1000000) :
    Calls Tryz.prog 64 #[.pointer (some ⟨g,0,none⟩),.agg (markVC m),.agg (opC o A c)] w fun e w'=>e = .returned (.tuple #[]) ∧ MultiAt w' gt bl bo (setX X O ⟨m.id,o.key,o.val⟩ o.refs) (putO O o.refs) ∧ Keep [bl,bo] w w':=by
  obtain ⟨k,n,key,val,ref,refs⟩:=o;dsimp only at *;unfold opC at *;dsimp only at *;have hB : Below w.heap.size w ((w.alloc (.cells (markVC m) 41)).alloc (.cells (opPC ⟨k,n,key,val,ref,.slice A refs.length c⟩) 52)):=((Below.refl _ _).alloc (Nat.le_refl _) _).alloc (by simp) _;have hc:=(h.below hB).cell2;have hT1:=hT.below hB;have hrm : rowAt ((w.alloc (.cells (markVC m) 41)).alloc (.cells (opPC ⟨k,n,key,val,ref,.slice A refs.length c⟩) 52)) w.heap.size 0 34 = some (markVC m):=((Keep.alloc (w.alloc (.cells (markVC m) 41)) _).row (by simp) (by simp) 0 34).trans (by simp [go_sem]);have hr0 : rowAt ((w.alloc (.cells (markVC m) 41)).alloc (.cells (opPC ⟨k,n,key,val,ref,.slice A refs.length c⟩) 52)) w.heap.size 0 32 = some (idC m.id):=by have:=rowAt_sub hrm (j:=0) (m:=32) (by omega);rwa [markVC_e0] at this
  have hA1 : TagsIn _ A refs.length refs:=SlR.below hA hB;have ci:=fun w' (h' : MultiAt w' gt bl bo X O) (hA' : TagsIn w' A refs.length refs)=>mset m.id key val A refs.length c refs w' gt bl bo X O h' hA' hk hv (by omega) hX;have HA:=Lib.hid hA1;clear hT h hA hn hA1 hX;have Hv:=Lib.hid (And.intro hk hv);clear hv hk;go_enter Tryz.func64,Tryz.ntmps64
  (go_wp2_with fail);refine (ci _ hT1 HA.out).mono ?_;rintro e w1 ⟨rfl,h1,hk1⟩;have hfin : Keep [bl,bo] w w1:=Keep.trans ((Keep.of_below hB).mono (S':=[bl,bo]) (by simp)) hk1 (fun x hx=>.inl hx);clear hB hc hT1 ci hk1 hrm hr0 HA;(go_wp2_with fail);go_end0;exact ⟨rfl,h1,hfin⟩
end
section
open Go.RowKit
set_option maxRecDepth 100000 in
set_option maxHeartbeats 1000000 in
theorem vdoes_s6 (m : MarkV) (o : OpV) (A : Option Addr) (c : Nat) (w : World) (g gt bn bb bg : Nat) (t : ByteArray) (b : Nat) (I : List Id32) (M : List Nat) (N : List NodeV) (G : List Id32) (h : ViewAt w g t b I (.iface 106 (.pointer (some ⟨gt,0,none⟩)))) (hT : SeqAt w M gt bn bb bg N G) (hM : ∀ x ∈ M,x < w.heap.size) (hk : o.k = 6) (hv : o.val.size ≤ 16) (hN : N.length ≤ 100000) :
    Calls Tryz.prog 64 #[.pointer (some ⟨g,0,none⟩),.agg (markVC m),.agg (opC o A c)] w fun e w'=>e = .returned (.tuple #[]) ∧ SeqAt w' M gt bn bb bg (addN N ⟨m.id,m.h,o.ref,o.val⟩) G ∧ Keep [bn,bb] w w':=by
  obtain ⟨k,n,key,val,ref,refs⟩:=o;dsimp only at *;unfold opC at *;dsimp only at *;have hB : Below w.heap.size w ((w.alloc (.cells (markVC m) 41)).alloc (.cells (opPC ⟨k,n,key,val,ref,.slice A refs.length c⟩) 52)):=((Below.refl _ _).alloc (Nat.le_refl _) _).alloc (by simp) _;have hc:=(h.below hB).cell2;have hT1:=hT.below hB;have hrm : rowAt ((w.alloc (.cells (markVC m) 41)).alloc (.cells (opPC ⟨k,n,key,val,ref,.slice A refs.length c⟩) 52)) w.heap.size 0 34 = some (markVC m):=((Keep.alloc (w.alloc (.cells (markVC m) 41)) _).row (by simp) (by simp) 0 34).trans (by simp [go_sem]);have hr0 : rowAt ((w.alloc (.cells (markVC m) 41)).alloc (.cells (opPC ⟨k,n,key,val,ref,.slice A refs.length c⟩) 52)) w.heap.size 0 32 = some (idC m.id):=by have:=rowAt_sub hrm (j:=0) (m:=32) (by omega);rwa [markVC_e0] at this
  have hk2 : ((k : Int) == 6) = true:=by rw [hk];rfl
  clear hk;have hM1 : Hid (∀ x ∈ M,x < _):=Lib.hid fun x hx=>Nat.lt_of_lt_of_le (hM x hx) hB.size;have hr1:=rowAt_cell hrm (j:=33 - 1) (by omega);have ci:=fun w' (h' : SeqAt w' M gt bn bb bg N G) (hM' : ∀ x ∈ M,x < w'.heap.size)=>sqinsert ⟨m.id,m.h,ref,val⟩ w' M gt bn bb bg N G h' hM' (by simp only;omega) hN;clear hT h hM hN;have Hv:=Lib.hid hv;clear hv;go_enter Tryz.func64,Tryz.ntmps64
  (go_wp2_with fail);refine (ci _ hT1 hM1.out).mono ?_;rintro e w1 ⟨rfl,h1,hk1⟩;have hfin : Keep [bn,bb] w w1:=Keep.trans ((Keep.of_below hB).mono (S':=[bn,bb]) (by simp)) hk1 (fun x hx=>.inl hx);clear hB hc hT1 ci hk1 hrm hr0 hr1 hM1;(go_wp2_with fail);go_end0;exact ⟨rfl,h1,hfin⟩
set_option maxRecDepth 100000 in
set_option maxHeartbeats 1000000 in
theorem vdoes_s7 (m : MarkV) (o : OpV) (A : Option Addr) (c : Nat) (w : World) (g gt bn bb bg : Nat) (t : ByteArray) (b : Nat) (I : List Id32) (M : List Nat) (N : List NodeV) (G : List Id32) (h : ViewAt w g t b I (.iface 106 (.pointer (some ⟨gt,0,none⟩)))) (hT : SeqAt w M gt bn bb bg N G) (hk : (o.k == 6) = false) :
    Calls Tryz.prog 64 #[.pointer (some ⟨g,0,none⟩),.agg (markVC m),.agg (opC o A c)] w fun e w'=>e = .returned (.tuple #[]) ∧ SeqAt w' M gt bn bb bg N (insC cmpId G o.ref) ∧ Keep [bg] w w':=by
  obtain ⟨k,n,key,val,ref,refs⟩:=o;dsimp only at *;unfold opC at *;dsimp only at *;have hB : Below w.heap.size w ((w.alloc (.cells (markVC m) 41)).alloc (.cells (opPC ⟨k,n,key,val,ref,.slice A refs.length c⟩) 52)):=((Below.refl _ _).alloc (Nat.le_refl _) _).alloc (by simp) _;have hc:=(h.below hB).cell2;have hT1:=hT.below hB;have hrm : rowAt ((w.alloc (.cells (markVC m) 41)).alloc (.cells (opPC ⟨k,n,key,val,ref,.slice A refs.length c⟩) 52)) w.heap.size 0 34 = some (markVC m):=((Keep.alloc (w.alloc (.cells (markVC m) 41)) _).row (by simp) (by simp) 0 34).trans (by simp [go_sem]);have hr0 : rowAt ((w.alloc (.cells (markVC m) 41)).alloc (.cells (opPC ⟨k,n,key,val,ref,.slice A refs.length c⟩) 52)) w.heap.size 0 32 = some (idC m.id):=by have:=rowAt_sub hrm (j:=0) (m:=32) (by omega);rwa [markVC_e0] at this
  have ci:=fun w' (h' : SeqAt w' M gt bn bb bg N G)=>sqdel ref w' M gt bn bb bg N G h';clear hT h;go_enter Tryz.func64,Tryz.ntmps64
  (go_wp2_with fail);refine (ci _ hT1).mono ?_;rintro e w1 ⟨rfl,h1,hk1⟩;have hfin : Keep [bg] w w1:=Keep.trans ((Keep.of_below hB).mono (S':=[bg]) (by simp)) hk1 (fun x hx=>.inl hx);clear hB hc hT1 ci hk1 hrm hr0;(go_wp2_with fail);go_end0;exact ⟨rfl,h1,hfin⟩
end
section
open Go.RowKit
structure Pair where
  key : ByteArray
  val : ByteArray
def pairC (x : Pair) : Array Value:=#[.string x.key] ++ #[.string x.val]
@[simp] theorem pairC_size (x : Pair) : (pairC x).size = 2:=by simp [pairC]
@[go_sem] theorem pairC_g0 (x : Pair) : (pairC x)[0]? = some (.string x.key):=by first | (simp [pairC,Array.getElem?_append];done) | (rw [show pairC x = ((#[] : Array Value)) ++ #[.string x.key] ++ (#[.string x.val]) from by apply Array.ext';simp [pairC]];exact arr_at _ _ _ _ (by simp))
@[go_sem] theorem pairC_gg0 (x : Pair) (h : 0 < (pairC x).size) : (pairC x)[0]'h = .string x.key:=Option.some.inj ((Array.getElem?_eq_getElem h).symm.trans (pairC_g0 x))
@[go_sem] theorem pairC_g1 (x : Pair) : (pairC x)[1]? = some (.string x.val):=by first | (simp [pairC,Array.getElem?_append];done) | (rw [show pairC x = (#[.string x.key]) ++ #[.string x.val] ++ ((#[] : Array Value)) from by apply Array.ext';simp [pairC]];exact arr_at _ _ _ _ (by simp))
@[go_sem] theorem pairC_gg1 (x : Pair) (h : 1 < (pairC x).size) : (pairC x)[1]'h = .string x.val:=Option.some.inj ((Array.getElem?_eq_getElem h).symm.trans (pairC_g1 x))
@[go_sem] theorem pairC_all (x : Pair) : (pairC x).extract 0 2 = pairC x:=by have:=Array.extract_size (xs:=pairC x);rwa [pairC_size] at this
theorem pairC_one (x : Pair) : ∀ u ∈ (pairC x).toList,u.oneCell' = true:=by
  intro u hu;simp only [pairC,Array.toList_append,List.mem_append] at hu;rcases hu with hu | hu
  · simp at hu;subst hu;rfl
  · simp at hu;subst hu;rfl
def pair0 : Pair:=⟨⟨#[]⟩,⟨#[]⟩⟩
theorem Pair_ext {x y : Pair} (h : x.key = y.key ∧ x.val = y.val) : x = y:=by cases x;cases y;simp_all
instance : DecidableEq Pair:=fun x y=>if h : x.key = y.key ∧ x.val = y.val then isTrue (Pair_ext h) else isFalse (fun e=>h (by subst e;simp))
theorem infoPair : (Tryz.prog.info? 98).map (·.size) = some 2:=by kernel_rfl
@[go_sem ↓] theorem zeroPair_run (w : World) : (zeroValue 98).run Tryz.prog w = .ok (.agg (pairC pair0)) w:=by
  have h : (Tryz.prog.info? 98).bind (·.zero) = some (.agg (pairC pair0)):=by kernel_rfl
  cases hi : Tryz.prog.info? 98 with
  | none=>rw [hi] at h;cases h
  | some i =>
    rw [hi] at h;have hz : i.zero = some (.agg (pairC pair0)):=h;simp [zeroValue,typeInfo,hi,hz]
@[go_sem ↓] theorem loadPair_rw (a : Addr) : loadVar 98 a = ldS 98 a:=rfl
@[go_sem ↓] theorem storePair_rw (a : Addr) (v : Value) : storeVar 98 a v = stS 98 a v:=rfl
@[go_sem] theorem loadPair_run (w : World) (g o : Nat) : (ldS 98 ⟨g,o,none⟩).run Tryz.prog w = match rowAt w g o 2 with | some cs=>.ok (.agg cs) w | none=>(loadVar 98 ⟨g,o,none⟩).run Tryz.prog w :=
  run_ldS Tryz.underlying98 rfl infoPair w g o
theorem fieldsPair : Tryz.prog.underlying 98 = some (.struct (Tryz.prog.fieldsOf 98)):=by kernel_rfl
theorem placesPair (w : World) : ((Tryz.prog.fieldsOf 98).mapM fun (f : Field)=>do pure (f.offset,← sizeOf f.type)).run Tryz.prog w = .ok #[(0,1),(1,1)] w:=by kernel_rfl
@[go_sem ↓] theorem buildPair_rw (parts : Array (Nat × Value)) : Instr.build 98 parts = bdS 98 parts:=rfl
@[go_sem] theorem buildPair (a0 : ByteArray) (a1 : ByteArray) (w : World) : (bdS 98 #[(0,.string a0),(1,.string a1)]).run Tryz.prog w = .ok (.agg (pairC ⟨a0,a1⟩)) w:=by
  refine run_build w fieldsPair _ (zeroPair_run w) _ (placesPair w) [(0,.string a0),(1,.string a1)] _ ?_;rw [show pairC pair0 = (#[] : Array Value) ++ #[.string ⟨#[]⟩] ++ (#[.string ⟨#[]⟩]) from by first | (simp [pairC,pair0,Array.append_assoc];done) | (apply Array.ext';simp [pairC,pair0])];rw [fill_step (off:=0) (size:=1) rfl (by simp) (by simp) (by simp [Value.cells])];rw [show (#[] : Array Value) ++ (Value.string a0).cells ++ (#[.string ⟨#[]⟩]) = (#[.string a0]) ++ #[.string ⟨#[]⟩] ++ (#[] : Array Value) from by first | (simp [Value.cells,Array.append_assoc];done) | (apply Array.ext';simp [Value.cells];done) | (apply Array.ext';simp only [Array.toList_append];simp [Value.cells])];rw [fill_step (off:=1) (size:=1) rfl (by simp) (by simp) (by simp [Value.cells])];first | (simp [Instr.fill,pairC,Array.append_assoc,Value.cells];done) | (simp only [Instr.fill,pairC];congr 1;apply Array.ext';simp [Value.cells];done) | (simp only [Instr.fill,pairC];congr 1;done) | (simp only [Instr.fill,pairC];done)
@[go_sem] theorem buildPair_0 (a0 : ByteArray) (w : World) : (bdS 98 #[(0,.string a0)]).run Tryz.prog w = .ok (.agg (pairC ⟨a0,⟨#[]⟩⟩)) w:=by
  refine run_build w fieldsPair _ (zeroPair_run w) _ (placesPair w) [(0,.string a0)] _ ?_;rw [show pairC pair0 = (#[] : Array Value) ++ #[.string ⟨#[]⟩] ++ (#[.string ⟨#[]⟩]) from by first | (simp [pairC,pair0,Array.append_assoc];done) | (apply Array.ext';simp [pairC,pair0])];rw [fill_step (off:=0) (size:=1) rfl (by simp) (by simp) (by simp [Value.cells])];first | (simp [Instr.fill,pairC,Array.append_assoc,Value.cells];done) | (simp only [Instr.fill,pairC];congr 1;apply Array.ext';simp [Value.cells];done) | (simp only [Instr.fill,pairC];congr 1;done) | (simp only [Instr.fill,pairC];done)
theorem einfoPair : ElemInfo Tryz.prog 23 98 2 32 :=
  .of (z:=.agg (pairC pair0)) Tryz.underlying23 (by kernel_rfl) (by kernel_rfl) (by kernel_rfl) (pairC_size _) (by omega)
@[go_sem ↓] theorem bsPair_rw (n : Nat) (parts : Array (Nat × Value)) : Instr.buildSlice 23 n parts = bsS 23 n parts:=rfl
@[go_sem] theorem bsPair_run (w : World) (x : Pair) : (bsS 23 1 #[(0,.agg (pairC x))]).run Tryz.prog w = .ok (.slice (some ⟨w.heap.size,0,none⟩) 1 1) (w.alloc (.cells (pairC x) 98)) :=
  run_bsS1 einfoPair (by omega) w (pairC x) (pairC_size x)
end
end Go.Proofs.YtgfpjjppeldhbaaGreatDoor
