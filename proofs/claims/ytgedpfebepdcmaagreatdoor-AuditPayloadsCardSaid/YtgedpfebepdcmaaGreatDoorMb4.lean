/- Part 4 of the texts that lead to this claim: the walks of the functions and the plain law, in order. -/
import Derived.Test.YtgedpfebepdcmaaGreatDoorMb3
import Derived.Shelf.Spec.SlicesGrow
import Derived.LoopN
import Derived.Shelf.SlSortCmp.NoneTotal
import Derived.Shelf.SlicesQ.IndexFunc
import Derived.Shelf.SortM.Plain
import Derived.Shelf.SortM.SortNone
import Derived.Shelf.Slices.CompactS
import Derived.Shelf.SlIter.Nil
import Derived.Ground.GgzProg
import Derived.Ground.SlgmProg
import Derived.Test.YtgedpfebepdcmaaGreatDoorLayView
import Derived.IntWalk
import Derived.ArgAppend
import Derived.Laws.StructEq
namespace Go.Proofs.YtgedpfebepdcmaaGreatDoor
open Go.RowKit
set_option maxRecDepth 100000
set_option maxHeartbeats 8000000
structure j6 where
  id:zJ
  key:ByteArray
  val:ByteArray
def zX (x:j6):Array Value:=idC x.id ++ #[.string x.key] ++ #[.string x.val]
@[simp] theorem wU (x:j6):(zX x).size=34:=by simp[zX]
@[go_sem] theorem nY (x:j6):(zX x).extract 0 32=idC x.id:=by
  have h:zX x=((#[]:Array Value))++idC x.id++(#[.string x.key] ++ #[.string x.val]):=by first | (simp[zX,Array.append_assoc];done) | (apply Array.ext';simp[zX];done)
  rw[h];exact fM _ _ _ _ _ (by simp) (by simp)
@[go_sem] theorem lP (x:j6):(zX x)[32]? = some (.string x.key):=by first | (simp[zX,Array.getElem?_append];done) | (rw[show zX x=(idC x.id) ++ #[.string x.key]++(#[.string x.val])from by apply Array.ext';simp[zX]];exact xS _ _ _ _ (by simp))
@[go_sem] theorem mRowC_gg32 (x:j6) (h:32<(zX x).size):(zX x)[32]'h = .string x.key:=Option.some.inj ((Array.getElem?_eq_getElem h).symm.trans (lP x))
@[go_sem] theorem lO (x:j6):(zX x)[33]? = some (.string x.val):=by first | (simp[zX,Array.getElem?_append];done) | (rw[show zX x=(idC x.id ++ #[.string x.key]) ++ #[.string x.val]++((#[]:Array Value))from by apply Array.ext';simp[zX]];exact xS _ _ _ _ (by simp))
@[go_sem] theorem mRowC_gg33 (x:j6) (h:33<(zX x).size):(zX x)[33]'h = .string x.val:=Option.some.inj ((Array.getElem?_eq_getElem h).symm.trans (lO x))
@[go_sem] theorem mRowC_all (x:j6):(zX x).extract 0 34=zX x:=by have:=Array.extract_size (xs:=zX x);rwa [wU]at this
theorem vS (x:j6):∀u∈(zX x).toList,u.oneCell'=true:=by
  intro u hu;simp only[zX,Array.toList_append,List.mem_append]at hu;rcases hu with(hu | hu) | hu
  · exact qJ _ u hu
  · simp at hu;subst hu;rfl
  · simp at hu;subst hu;rfl
def rZ:j6:=⟨id0,⟨#[]⟩,⟨#[]⟩⟩
theorem MRow_ext {x y:j6} (h:x.id=y.id/\x.key=y.key/\x.val=y.val):x=y:=by cases x;cases y;simp_all
instance:DecidableEq j6:=fun x y=>if h:x.id=y.id/\x.key=y.key/\x.val=y.val then isTrue (MRow_ext h)else isFalse (fun e=>h (by subst e;simp))
instance:Inhabited j6:=⟨rZ⟩
def vN (x y:j6):Int:=orL [zO x.id y.id,xP x.key y.key,xP x.val y.val]
theorem orL3 (a b c:Int):orL [a,b,c]=orC a (orC b c):=by
  unfold orC orL orL orL orL;split
  · split
    · split <;> simp_all
    · rfl
  · rfl
theorem t9:j8 vN:=(qP.pair (pO.pair pO)).of (fun x:j6=>(x.id,x.key,x.val)) (fun x y h=>by
  cases x;cases y
  simp only[Prod.mk.injEq]at h;obtain⟨h1,h2,h3⟩:=h;subst h1;subst h2;subst h3;rfl) (fun x y=>orL3 _ _ _)
abbrev okM (x:j6):Prop:=x.key.size<=maxLen/\x.val.size<=maxLen
def mrowV (x:j6):Value:=.agg (zX x)
section
open Go.RowKit
abbrev MSet (w:World) (b:Nat) (L:List j6):Prop:=qQ w b mrowV okM L
def msmall (x:j6):Prop:=x.key.size<=16/\x.val.size<=16
section
variable {w w':World} {g bl bo:Nat} {X:List j6} {O:List zJ}
end
def VT (X:List j6) (O:List zJ):List j6:=X.filter fun x=>decide (x.id∉O)
end
def cY (O T:List zJ):List zJ:=T.foldl (xU zO) O
theorem cW {O T:List zJ} (h:Ris zO O):Ris zO (cY O T):=(gT qP T O h).1
theorem nS {O T:List zJ} (h:Ris zO O) {x:zJ}:x∈cY O T↔x∈O\/x∈T:=(gT qP T O h).2 x
def zn (X:List j6) (O:List zJ) (x:j6) (T:List zJ):List j6:=VT (xU vN X x) (cY O T)
section
section
variable {ι ν:Type} (kid:ι->List ν) (idn:ν->ι) (N:List ν) (refn:ν->ι) (z:ι)
def lW:Nat->ι->List ν
  | 0,_=>[]
  | k+1,r=>(kid r).flatMap fun c=>c :: lW k (idn c)
def Deep:Nat->ι->Prop
  | 0,_=>False
  | k+1,r=>∀c∈kid r,Deep k (idn c)
def workL:Nat->List ν->List ν
  | 0,_=>[]
  | _+1,[]=>[]
  | k+1,n :: row=>n :: workL k (kid (idn n)++row)
def jW (k:Nat) (row:List ν):List ν:=row.flatMap fun c=>c :: lW kid idn k (idn c)
variable {kid idn N refn z}
theorem lS:∀ {k:Nat} {r:ι},Deep kid idn k r->Deep kid idn (k+1) r
  | 0,_,h=>h.elim
  | _+1,_,h=>fun c hc=>lS (h c hc)
theorem YA:∀ {k:Nat} {r:ι},Deep kid idn k r->lW kid idn (k+1) r=lW kid idn k r
  | 0,_,h=>h.elim
  | k+1,r,h=>by
    show(kid r).flatMap _=(kid r).flatMap _;have:∀l:List ν,(∀c∈l,Deep kid idn k (idn c))->l.flatMap (fun c=>c :: lW kid idn (k+1) (idn c))=l.flatMap (fun c=>c :: lW kid idn k (idn c)):=by
      intro l;induction l with
      | nil=>intro _;rfl
      | cons c l ih =>
        intro hl;rw[List.flatMap_cons,List.flatMap_cons,YA (hl c (by simp)),ih (fun d hd=>hl d (by simp[hd]))]
    exact this _ h
theorem wD {k:Nat} {n:ν} {row:List ν} (hn:Deep kid idn k (idn n)):jW kid idn k (n :: row)=n :: jW kid idn k (kid (idn n)++row):=by
  cases k with
  | zero=>exact hn.elim
  | succ k =>
    unfold jW;rw[List.flatMap_cons,List.flatMap_append,List.cons_append];congr 2
    show(kid (idn n)).flatMap _=_;have h2:lW kid idn (k+1+1) (idn n)=lW kid idn (k+1) (idn n):=YA hn;exact h2.symm
theorem rH {k:Nat} {n:ν} (hn:Deep kid idn k (idn n)):∀c∈kid (idn n),Deep kid idn k (idn c):=by
  cases k with
  | zero=>exact hn.elim
  | succ k=>exact fun c hc=>lS (hn c hc)
inductive JG (kid:ι->List ν) (idn:ν->ι) (z:ι):List ι->Prop
  | root:JG kid idn z [z]
  | step {r:ι} {p:List ι} {c:ν} (h:JG kid idn z (r :: p)) (hc:c∈kid r):JG kid idn z (idn c :: r :: p)
theorem VC (hid:∀a∈N,∀b∈N,idn a=idn b->a=b) (hk:∀r,∀c∈kid r,c∈N/\refn c=r) (hz:∀a∈N,idn a≠z) {q:List ι} (h:JG kid idn z q) {c:ν} (hc:c∈N) (hm:idn c∈q) :
    ∃s t,q=s++idn c :: refn c :: t:=by
  induction h with
  | root=>simp at hm;exact absurd hm (hz c hc)
  | @step r p d h hd ih =>
    by_cases e:idn c=idn d
    · obtain⟨hdN,hdr⟩:=hk _ _ hd;have:=hid c hc d hdN e;subst this;exact⟨[],p,by simp[hdr]⟩
    · rcases List.mem_cons.1 hm with h1 | h1
      · exact absurd h1 e
      · obtain⟨s,t,hq⟩:=ih h1;exact⟨idn d :: s,t,by rw[hq];rfl⟩
theorem VD (hid:∀a∈N,∀b∈N,idn a=idn b->a=b) (hk:∀r,∀c∈kid r,c∈N/\refn c=r) (hz:∀a∈N,idn a≠z) {q:List ι} (h:JG kid idn z q):q.Nodup:=by
  induction h with
  | root=>simp
  | @step r p d h hd ih =>
    refine List.nodup_cons.2 ⟨fun hm=>?_,ih⟩;obtain⟨hdN,hdr⟩:=hk _ _ hd;obtain⟨s,t,hq⟩:=VC hid hk hz h hdN hm;rw[hdr]at hq;rw[hq]at ih;cases s with
    | nil =>
      simp only[List.nil_append]at ih hq;injection hq with h1 h2
      rw[<-h1]at ih;simp at ih
    | cons a s =>
      injection hq with h1 h2
      rw[<-h1]at ih;simp at ih
theorem kg (hk:∀r,∀c∈kid r,c∈N/\refn c=r) {q:List ι} (h:JG kid idn z q):∀x∈q,x∈z :: N.map idn:=by
  induction h with
  | root=>simp
  | @step r p d h hd ih =>
    intro x hx;rcases List.mem_cons.1 hx with e | hx
    · subst e;exact List.mem_cons.2 (.inr (List.mem_map.2 ⟨d,(hk _ _ hd).1,rfl⟩))
    · exact ih x hx
theorem cB {α:Type}:∀ {S M:List α},S.Nodup->(∀x∈S,x∈M)->S.length<=M.length
  | [],M,_,_=>Nat.zero_le _
  | x :: S,M,hn,hs=>by
    classical
    obtain⟨h1,h2⟩:=List.nodup_cons.1 hn;have:=cB (M:=M.erase x) h2 (fun y hy=>(List.mem_erase_of_ne (fun e=>h1 (by rw[<-e];exact hy))).2 (hs y (by simp[hy])));rw[List.length_erase_of_mem (hs x (by simp))]at this;have h3:=List.length_pos_of_mem (hs x (by simp));simp only[List.length_cons];omega
theorem ZM (hid:∀a∈N,∀b∈N,idn a=idn b->a=b) (hk:∀r,∀c∈kid r,c∈N/\refn c=r) (hz:∀a∈N,idn a≠z) :
    ∀(f:Nat) (r:ι) (p:List ι),JG kid idn z (r :: p)->N.length+1<f+(r :: p).length->Deep kid idn f r
  | 0,r,p,h,hf=>by
    have:=cB (VD hid hk hz h) (kg hk h);simp only[List.length_cons,List.length_map]at this hf;omega
  | f+1,r,p,h,hf=>fun c hc=>ZM hid hk hz f _ _ (h.step hc) (by simp only[List.length_cons]at hf |-;omega)
theorem qn (hid:∀a∈N,∀b∈N,idn a=idn b->a=b) (hk:∀r,∀c∈kid r,c∈N/\refn c=r) (hz:∀a∈N,idn a≠z):Deep kid idn (N.length+1) z :=
  ZM hid hk hz _ z [] JG.root (by simp)
theorem e9 {k:Nat} (h:Deep kid idn k z):lW kid idn k z=jW kid idn k (kid z):=by
  rw[<-YA h];rfl
theorem YB {k:Nat} {r:ι} (h:Deep kid idn k r):∀j,lW kid idn (k+j) r=lW kid idn k r/\Deep kid idn (k+j) r
  | 0=>⟨rfl,h⟩
  | j+1=>by
    obtain⟨h1,h2⟩:=YB h j;exact⟨(YA h2).trans h1,lS h2⟩
theorem pre_any {k m:Nat} {r:ι} (h:Deep kid idn k r) (h':Deep kid idn m r):lW kid idn k r=lW kid idn m r:=by
  rw[<-(YB h m).1,Nat.add_comm,(YB h' k).1]
structure dT (N:List ν) (idn:ν->ι) (refn:ν->ι) (z:ι) (out row:List ν):Prop where
  nodup:(out++row).Nodup
  sub:∀x∈out++row,x∈N
  par:∀x∈out++row,refn x=z\/∃y∈out,idn y=refn x
theorem dT.step (hid:∀a∈N,∀b∈N,idn a=idn b->a=b) (hk:∀r,∀c∈kid r,c∈N/\refn c=r) (hz:∀a∈N,idn a≠z) (hkn:∀r,(kid r).Nodup) {out row:List ν} {n:ν} (h:dT N idn refn z out (n :: row)) :
    dT N idn refn z (out ++ [n]) (kid (idn n)++row):=by
  have hnN:n∈N:=h.sub n (by simp);have hno:n∉out:=fun hm=>by
    have:=h.nodup;rw[List.nodup_append]at this;exact this.2.2 n hm n (by simp) rfl
  have hdis:∀x∈kid (idn n),x∉out++n :: row:=by
    intro x hx hm;obtain⟨hxN,hxr⟩:=hk _ x hx;rcases h.par x hm with e | ⟨y,hy,e⟩
    · exact hz n hnN (hxr.symm.trans e)
    · rw[hxr]at e;have:=hid y (h.sub y (List.mem_append.2 (.inl hy))) n hnN e;subst this;exact hno hy
  have hp:(out ++ [n]++(kid (idn n)++row)).Perm (kid (idn n)++(out++n :: row)):=by
    have:out ++ [n]++(kid (idn n)++row)=(out ++ [n])++kid (idn n)++row:=by simp
    rw[this];have e2:kid (idn n)++(out++n :: row)=kid (idn n)++(out ++ [n])++row:=by simp
    rw[e2];exact List.Perm.append_right _ List.perm_append_comm
  refine⟨hp.nodup_iff.2 ?_,fun x hx=>?_,fun x hx=>?_⟩
  · rw[List.nodup_append];exact⟨hkn _,h.nodup,fun a ha b hb e=>by subst e;exact hdis a ha hb⟩
  · rcases List.mem_append.1 (hp.mem_iff.1 hx)with hx | hx
    · exact(hk _ x hx).1
    · exact h.sub x hx
  · rcases List.mem_append.1 (hp.mem_iff.1 hx)with hx | hx
    · exact .inr ⟨n,by simp,(hk _ x hx).2.symm⟩
    · rcases h.par x hx with e | ⟨y,hy,e⟩
      · exact .inl e
      · exact .inr ⟨y,by simp[hy],e⟩
theorem dT.all (hid:∀a∈N,∀b∈N,idn a=idn b->a=b) (hk:∀r,∀c∈kid r,c∈N/\refn c=r) (hz:∀a∈N,idn a≠z) (hkn:∀r,(kid r).Nodup) {k:Nat} :
    ∀(m:Nat) {out row:List ν},dT N idn refn z out row->(∀c∈row,Deep kid idn k (idn c))->(jW kid idn k row).length=m->(out++jW kid idn k row).Nodup/\∀x∈out++jW kid idn k row,x∈N
  | m,out,[],h,_,_=>⟨by simpa[jW]using h.nodup,fun x hx=>h.sub x (by simpa[jW]using hx)⟩
  | 0,out,n :: row,h,hd,hm=>by rw[wD (hd n (by simp))]at hm;simp at hm
  | m+1,out,n :: row,h,hd,hm=>by
    have hn:=hd n (by simp);rw[wD hn]at hm |-;have:=dT.all hid hk hz hkn m (h.step hid hk hz hkn) (fun c hc=>by
      rcases List.mem_append.1 hc with hc | hc
      · exact rH hn c hc
      · exact hd c (by simp[hc])) (by simpa using hm)
    simpa using this
theorem dT.root (hk:∀r,∀c∈kid r,c∈N/\refn c=r) (hkn:∀r,(kid r).Nodup):dT N idn refn z [] (kid z) :=
  ⟨by simpa using hkn z,fun x hx=>(hk z x (by simpa using hx)).1,fun x hx=>.inl (hk z x (by simpa using hx)).2⟩
theorem yg (hid:∀a∈N,∀b∈N,idn a=idn b->a=b) (hk:∀r,∀c∈kid r,c∈N/\refn c=r) (hz:∀a∈N,idn a≠z) (hkn:∀r,(kid r).Nodup) {k:Nat} (h:Deep kid idn k z) :
    (lW kid idn k z).Nodup/\∀x∈lW kid idn k z,x∈N:=by
  have hd:∀c∈kid z,Deep kid idn k (idn c):=by
    cases k with
    | zero=>exact h.elim
    | succ k=>exact fun c hc=>lS (h c hc)
  have:=dT.all hid hk hz hkn _ (dT.root (z:=z) (refn:=refn) (idn:=idn) hk hkn) hd rfl;rw[e9 h];simpa using this
end
end
structure zT where
  id:zJ
  h:Int
  ref:zJ
  val:ByteArray
theorem zT.ext' {a b:zT} (h1:a.id=b.id) (h2:a.h=b.h) (h3:a.ref=b.ref) (h4:a.val=b.val):a=b:=by cases a;cases b;simp_all
theorem totI:j8 vK where
  zero a b:=by unfold vK;constructor <;> intro h <;> (repeat' split at *) <;> omega
  anti a b:=by unfold vK;(repeat' split) <;> omega
  trans a b d:=by unfold vK;(repeat' split) <;> omega
theorem j8.rev {α:Type} {c:α->α->Int} (T:j8 c):j8 (fun a b=>c b a) where
  zero a b:=by rw[T.zero];exact⟨Eq.symm,Eq.symm⟩
  anti a b:=T.anti _ _
  trans a b d h1 h2:=T.trans _ _ _ h2 h1
def pJ (a b:zT):Int:=orC (vK b.h a.h) (orC (zO b.id a.id) (orC (zO a.ref b.ref) (xP a.val b.val)))
theorem BX:j8 pJ :=
  j8.of (c:=fun (x y:Int×(zJ×(zJ×ByteArray)))=>orC (vK y.1 x.1) (orC (zO y.2.1 x.2.1) (orC (zO x.2.2.1 y.2.2.1) (xP x.2.2.2 y.2.2.2))))
    (j8.pair (c:=fun a b=>vK b a) totI.rev (j8.pair (c:=fun a b=>zO b a) qP.rev (j8.pair qP pO))) (fun n=>(n.h,n.id,n.ref,n.val))
    (fun x y h=>by simp only[Prod.mk.injEq]at h;exact zT.ext' h.2.1 h.1 h.2.2.1 h.2.2.2) (fun _ _=>rfl)
def pK (a b:zT):Int:=orC (zO a.id b.id) (orC (vK a.h b.h) (orC (zO a.ref b.ref) (xP a.val b.val)))
theorem ZY:j8 pK :=
  j8.of (c:=fun (x y:zJ×(Int×(zJ×ByteArray)))=>orC (zO x.1 y.1) (orC (vK x.2.1 y.2.1) (orC (zO x.2.2.1 y.2.2.1) (xP x.2.2.2 y.2.2.2))))
    (j8.pair qP (j8.pair totI (j8.pair qP pO))) (fun n=>(n.id,n.h,n.ref,n.val))
    (fun x y h=>by simp only[Prod.mk.injEq]at h;exact zT.ext' h.1 h.2.1 h.2.2.1 h.2.2.2) (fun _ _=>rfl)
def gX (ah:Int) (a:zJ) (bh:Int) (b:zJ):Bool:=if ah=bh then decide (zO a b<0)else decide (ah<bh)
def OneId (N:List zT):Prop:=∀a∈N,∀b∈N,a.id=b.id->a=b
theorem iE {a b:zT} (h:a.id≠b.id):decide (pJ b a<0)=gX a.h a.id b.h b.id:=by
  have hid:zO a.id b.id≠0:=fun e=>h ((jO _ _).1 e);unfold pJ gX orC vK;by_cases e:a.h=b.h
  · rw[if_pos (by rw[if_neg (by omega),if_neg (by omega)]),if_neg hid,if_pos e]
  · rw[if_neg e];rw[if_neg (by(repeat' split) <;> omega)];by_cases h1:a.h<b.h
    · rw[if_pos h1];simp[h1]
    · rw[if_neg h1,if_pos (by omega)];simp[h1]
def xY (N:List zT) (r:zJ):List zT:=yF pJ (N.filter fun n=>decide (n.ref=r))
theorem nT {N:List zT} {r:zJ} {n:zT}:n∈xY N r↔n∈N/\n.ref=r:=by unfold xY;rw[qI BX];simp
theorem cP (N:List zT) (r:zJ):Ris pJ (xY N r):=xE BX _
theorem VX {N M:List zT} (h:∀n,n∈N↔n∈M) (r:zJ):xY N r=xY M r:=dC BX fun z=>by simp[h]
theorem fV (N:List zT) (r:zJ):(xY N r).length<=N.length:=by
  unfold xY;exact Nat.le_trans (qF _) (List.length_filter_le _ _)
def j4 (N:List zT):List zT:=lW (xY N) zT.id (N.length+1) id0
def fJ (N:List zT):Prop:=OneId N/\∀a∈N,a.id≠id0
theorem fJ.deep {N:List zT} (h:fJ N):Deep (xY N) zT.id (N.length+1) id0 :=
  qn (N:=N) (refn:=zT.ref) h.1 (fun _ _ hc=>nT.1 hc) h.2
theorem kids_fun {N M:List zT} (h:∀n,n∈N↔n∈M):xY N=xY M:=funext fun r=>VX h r
theorem fJ.congr {N M:List zT} (h:∀n,n∈N↔n∈M) (f:fJ N):fJ M :=
  ⟨fun a ha b hb e=>f.1 a ((h a).2 ha) b ((h b).2 hb) e,fun a ha=>f.2 a ((h a).2 ha)⟩
theorem wS {N M:List zT} (h:∀n,n∈N↔n∈M) (f:fJ N):j4 N=j4 M:=by
  unfold j4;have h1:=f.deep;have h2:=(f.congr h).deep;rw[kids_fun h]at h1 |-;exact pre_any h1 h2
theorem nP {N:List zT} (f:fJ N):(j4 N).Nodup/\∀x∈j4 N,x∈N :=
  yg (refn:=zT.ref) f.1 (fun _ _ hc=>nT.1 hc) f.2 (fun r=>(cP N r).nodup BX) f.deep
theorem fL {N:List zT} (f:fJ N):(j4 N).length<=N.length:=cB (nP f).1 (nP f).2
def fZ (N:List zT) (G:List zJ):List ByteArray:=((j4 N).filter fun n=>decide (n.id∉G)).map zT.val
def g6 (n:zT):Int:=if 16<n.val.size then 3 else if n.h<1\/1073741824<n.h\/n.id=id0 then 5 else 0
def tQ (N:List zT) (n:zT):List zT:=if g6 n=0 then(if n.id∈N.map zT.id then N else xU pK N n)else N
structure vH (N:List zT):Prop where
  ris:Ris pK N
  one:OneId N
  ok:∀n∈N,g6 n=0
theorem eH {n:zT} (h:g6 n=0):n.id≠id0/\n.val.size<=16/\1<=n.h/\n.h<=1073741824:=by
  unfold g6 at h;split at h
  · cases h
  · split at h
    · cases h
    · rename_i h1 h2
      refine⟨fun e=>h2 (.inr (.inr e)),by omega,?_,?_⟩
      · exact Classical.byContradiction fun hh=>h2 (.inl (by omega))
      · exact Classical.byContradiction fun hh=>h2 (.inr (.inl (by omega)))
theorem vH.forest {N:List zT} (h:vH N):fJ N:=⟨h.one,fun a ha=>(eH (h.ok a ha)).1⟩
theorem vH.nil:vH []:=⟨Ris.nil,fun a ha=>by simp at ha,by simp⟩
theorem vH.ins {N:List zT} (h:vH N) (n:zT):vH (tQ N n):=by
  unfold tQ;split
  · rename_i hE
    split
    · exact h
    · rename_i hn
      have hne:∀a∈N,a.id≠n.id:=fun a ha e=>hn (List.mem_map.2 ⟨a,ha,e⟩);refine⟨vR ZY h.ris,fun a ha b hb e=>?_,fun a ha=>?_⟩
      · rcases (vE ZY).1 ha with ha1 | ha1 <;> rcases (vE ZY).1 hb with hb1 | hb1
        · rw[ha1,hb1]
        · rw[ha1]at e;exact absurd e.symm (hne b hb1)
        · rw[hb1]at e;exact absurd e (hne a ha1)
        · exact h.one a ha1 b hb1 e
      · rcases (vE ZY).1 ha with ha | ha
        · rw[ha];exact hE
        · exact h.ok a ha
  · exact h
section
open Go.RowKit
def lX {α:Type}:List α->Nat->Option α
  | [],_=>none
  | x :: _,0=>some x
  | _ :: l,i+1=>lX l i
theorem nQ {α:Type}:∀(l:List α) (i:Nat),lX l i=l[i]?
  | [],_=>rfl
  | _ :: _,0=>rfl
  | _ :: l,i+1=>by simpa[lX]using nQ l i
theorem fQ {ops:Array Oper} {i:Nat} {o:Oper} (h:lX ops.toList i=some o):ops[i]? = some o:=by
  rw[nQ]at h;simpa using h
inductive yR where
  | done:yR
  | loose (i:Nat) (n:yR):yR
  | one (i:Nat) (n:yR):yR
  | two (i:Nat) (n:yR) (j:Nat) (m:yR):yR
  | three (i:Nat) (n:yR) (j:Nat) (m:yR) (k:Nat) (l:yR):yR
def yR.depth:yR->Nat
  | .done=>0
  | .loose _ n=>n.depth+1
  | .one _ n=>n.depth+1
  | .two _ n _ m=>max n.depth m.depth+1
  | .three _ n _ m _ l=>max (max n.depth m.depth) l.depth+1
def yR.ok (md:Region.Mode) (ops:Array Oper):yR->Array Bool->Bool
  | .done,listed=>(Region.ready md ops listed).isEmpty
  | .loose i n,listed=>(Region.ready md ops listed).contains i&&Region.free md ops listed i&&n.ok md ops (listed.setIfInBounds i true)
  | .one i n,listed=>(Region.ready md ops listed == [i])&&n.ok md ops (listed.setIfInBounds i true)
  | .two i n j m,listed=>(Region.ready md ops listed == [i,j])&&n.ok md ops (listed.setIfInBounds i true)&&m.ok md ops (listed.setIfInBounds j true)
  | .three i n j m k l,listed=>(Region.ready md ops listed == [i,j,k])&&n.ok md ops (listed.setIfInBounds i true)&&m.ok md ops (listed.setIfInBounds j true)&&l.ok md ops (listed.setIfInBounds k true)
def vY (md:Region.Mode) (cv:Bool) (ops:Array Oper) (skip:List Nat):Nat->Array Bool->yR
  | 0,_=>.done
  | f+1,listed =>
    match (Region.ready md ops listed).find? (fun i=>(!jJ cv ops i||skip.contains i)&&Region.free md ops listed i)with
    | some i=>.loose i (vY md cv ops skip f (listed.setIfInBounds i true))
    | none =>
      match Region.ready md ops listed with
      | [i]=>.one i (vY md cv ops skip f (listed.setIfInBounds i true))
      | [i,j]=>.two i (vY md cv ops skip f (listed.setIfInBounds i true)) j (vY md cv ops skip f (listed.setIfInBounds j true))
      | [i,j,k]=>.three i (vY md cv ops skip f (listed.setIfInBounds i true)) j (vY md cv ops skip f (listed.setIfInBounds j true)) k (vY md cv ops skip f (listed.setIfInBounds k true))
      | _=>.done
section
variable {P:Program} {ops:Array Oper} {md:Region.Mode} {S:World->Prop} {cv fb:Bool}
def kW (P:Program) (ops:Array Oper) (S:World->Prop) (cv fb:Bool) (i:Nat) (K:Act->World->Prop) (a:Act) (w:World):Prop :=
  match ops[i]? with
  | none=>False
  | some o=>if Region.wanted o (yielded ops a.tmps)then z3 cv o=true/\xG P (cls ops S fb i) (fun v w'=>K (a.put o.dst v) w') ((execOp a.eval o).run P w)else K (a.put o.dst undef) w
def bL (P:Program) (ops:Array Oper) (S:World->Prop) (cv fb:Bool) (Q:Act->World->Prop):yR->Act->World->Prop
  | .done,a,w=>Q a w
  | .loose i n,a,w =>
    match ops[i]? with
    | none=>False
    | some o=>if Region.wanted o (yielded ops a.tmps)then z3 cv o=false/\∃v,(∀w',S w'->jD w' v ((execOp a.eval o).run P w'))/\bL P ops S cv fb Q n (a.put o.dst v) w else bL P ops S cv fb Q n (a.put o.dst undef) w
  | .one i n,a,w=>kW P ops S cv fb i (bL P ops S cv fb Q n) a w
  | .two i n j m,a,w=>kW P ops S cv fb i (bL P ops S cv fb Q n) a w/\kW P ops S cv fb j (bL P ops S cv fb Q m) a w
  | .three i n j m k l,a,w=>kW P ops S cv fb i (bL P ops S cv fb Q n) a w/\kW P ops S cv fb j (bL P ops S cv fb Q m) a w/\kW P ops S cv fb k (bL P ops S cv fb Q l) a w
theorem vQ {i:Nat} {K K':Act->World->Prop} {a:Act} {w:World} (hS:S w) (hk:∀a w,cls ops S fb i w->K a w->K' a w) (h:kW P ops S cv fb i K a w):lxOp P ops S cv fb i K' a w:=by
  unfold kW at h;unfold lxOp;split at h
  · exact h.elim
  · rename_i o ho
    simp only[ho];split at h
    · rename_i hw
      rw[if_pos hw,if_pos h.1];exact jY (fun v w' hs hk'=>hk _ _ hs hk') h.2
    · rename_i hw
      rw[if_neg hw];exact hk _ _ (.inl hS) h
theorem dA {Q:Act->World->Prop} (hs:Region.noSelect ops=true):∀(T:yR) (fuel:Nat) (listed:Array Bool) (a:Act) (w:World),qY md ops fb listed->(S w\/(fb=true/\Region.ready md ops listed = [])) ->
    T.ok md ops listed=true->T.depth<=fuel->bL P ops S cv fb Q T a w->kR P md ops S cv fb Q fuel listed a w:=by
  have after:∀ {i:Nat} {listed:Array Bool} {w':World},qY md ops fb listed->i∈Region.ready md ops listed->cls ops S fb i w'->S w'\/(fb=true/\Region.ready md ops (listed.setIfInBounds i true) = []):=by
    intro i listed w' hI hi hc;rcases hc with hc | ⟨hfb,he⟩
    · exact .inl hc
    · right
      refine⟨hfb,?_⟩;rcases ((hI.set hi).inv hfb).2 with h1 | h1
      · exfalso
        have:=h1.tail i (by omega) (by omega);have hsz:i<(listed.setIfInBounds i true).size:=by rw[h1.size];omega
        have hsz':i<listed.size:=by simpa using hsz
        simp[hsz']at this
      · exact h1
  have nonempty:∀ {i:Nat} {listed:Array Bool} {w:World},i∈Region.ready md ops listed->(S w\/(fb=true/\Region.ready md ops listed = []))->S w:=by
    intro i listed w hi h;rcases h with h | ⟨_,h⟩
    · exact h
    · rw[h]at hi;cases hi
  intro T;induction T with
  | done =>
    intro fuel listed a w _ _ hok _ h;have h0:Region.ready md ops listed = []:=by simpa[yR.ok]using hok
    cases fuel with
    | zero=>exact⟨h0,h⟩
    | succ f=>exact⟨fun _=>h,fun i hi=>by rw[h0]at hi;cases hi⟩
  | loose i n ih =>
    intro fuel listed a w hI hSw hok hd h;simp only[yR.ok,Bool.and_eq_true]at hok;obtain⟨⟨hr,hf⟩,hn⟩:=hok;have hr':i∈Region.ready md ops listed:=by simpa using hr
    have hS:=nonempty hr' hSw;cases fuel with
    | zero=>simp[yR.depth]at hd
    | succ f =>
      have hd':n.depth<=f:=by simp[yR.depth]at hd;omega
      unfold bL at h;split at h
      · exact h.elim
      · rename_i o ho
        split at h
        · rename_i hw
          obtain⟨hc,v,hv,hk⟩:=h;exact vM ho (Region.noSelect_spec hs) f listed a w hI hS (Region.free_spec ho hf) hr' (.inl ⟨hw,hc,hv⟩) (ih f _ _ w (hI.set hr') (.inl hS) hn hd' hk)
        · rename_i hw
          exact vM ho (Region.noSelect_spec hs) f listed a w hI hS (Region.free_spec ho hf) hr' (.inr ⟨by simpa using hw,rfl⟩) (ih f _ _ w (hI.set hr') (.inl hS) hn hd' h)
  | one i n ih =>
    intro fuel listed a w hI hSw hok hd h;simp only[yR.ok,Bool.and_eq_true,beq_iff_eq]at hok;obtain⟨hr,hn⟩:=hok;have hr':i∈Region.ready md ops listed:=by rw[hr];simp
    have hS:=nonempty hr' hSw;cases fuel with
    | zero=>simp[yR.depth]at hd
    | succ f =>
      have hd':n.depth<=f:=by simp[yR.depth]at hd;omega
      refine⟨fun h0=>(by rw[hr]at h0;cases h0),fun x hx=>?_⟩;have hx':=hx;rw[hr]at hx';obtain rfl:x=i:=by simpa using hx'
      exact vQ hS (fun a' w' hc hk=>ih f _ a' w' (hI.set hx) (after hI hx hc) hn hd' hk) h
  | two i n j m ih1 ih2 =>
    intro fuel listed a w hI hSw hok hd h;simp only[yR.ok,Bool.and_eq_true,beq_iff_eq]at hok;obtain⟨⟨hr,hn⟩,hm⟩:=hok;have hS:=nonempty (i:=i) (by rw[hr];simp) hSw;cases fuel with
    | zero=>simp[yR.depth]at hd
    | succ f =>
      have hd1:n.depth<=f:=by simp[yR.depth]at hd;omega
      have hd2:m.depth<=f:=by simp[yR.depth]at hd;omega
      refine⟨fun h0=>(by rw[hr]at h0;cases h0),fun x hx=>?_⟩;have hx':=hx;rw[hr]at hx';rcases List.mem_cons.1 hx' with rfl | hx'
      · exact vQ hS (fun a' w' hc hk=>ih1 f _ a' w' (hI.set hx) (after hI hx hc) hn hd1 hk) h.1
      · obtain rfl:x=j:=by simpa using hx'
        exact vQ hS (fun a' w' hc hk=>ih2 f _ a' w' (hI.set hx) (after hI hx hc) hm hd2 hk) h.2
  | three i n j m k l ih1 ih2 ih3 =>
    intro fuel listed a w hI hSw hok hd h;simp only[yR.ok,Bool.and_eq_true,beq_iff_eq]at hok;obtain⟨⟨⟨hr,hn⟩,hm⟩,hl⟩:=hok;have hS:=nonempty (i:=i) (by rw[hr];simp) hSw;cases fuel with
    | zero=>simp[yR.depth]at hd
    | succ f =>
      have hd1:n.depth<=f:=by simp[yR.depth]at hd;omega
      have hd2:m.depth<=f:=by simp[yR.depth]at hd;omega
      have hd3:l.depth<=f:=by simp[yR.depth]at hd;omega
      refine⟨fun h0=>(by rw[hr]at h0;cases h0),fun x hx=>?_⟩;have hx':=hx;rw[hr]at hx';rcases List.mem_cons.1 hx' with rfl | hx'
      · exact vQ hS (fun a' w' hc hk=>ih1 f _ a' w' (hI.set hx) (after hI hx hc) hn hd1 hk) h.1
      · rcases List.mem_cons.1 hx' with rfl | hx'
        · exact vQ hS (fun a' w' hc hk=>ih2 f _ a' w' (hI.set hx) (after hI hx hc) hm hd2 hk) h.2.1
        · obtain rfl:x=k:=by simpa using hx'
          exact vQ hS (fun a' w' hc hk=>ih3 f _ a' w' (hI.set hx) (after hI hx hc) hl hd3 hk) h.2.2
structure fY (P:Program) (ops:Array Oper) (S:World->Prop) (cv fb:Bool) (Q:Act->World->Prop) (T:yR) (a:Act) (w:World):Prop where
  out:bL P ops S cv fb Q T a w
theorem t8 {id:Nat} {Q:Exit->Act->World->Prop} {a:Act} {w:World} {ops:Array Oper} (T:yR) (S:World->Prop) (cv:Bool) (hm:P.follows .mixedOrders=true) (hs:Region.noSelect ops=true) (hT:T.ok .any ops (Array.replicate ops.size false)=true) (hd:Nat.ble T.depth ops.size=true) (hS:S w.drew)
    (h:fY P ops S cv false (fun a' w'=>S w'->Q .normal a' w') T a w.drew):(Code.region id ops true).wp P Q a w:=by
  have hI:qY .any ops false (Array.replicate ops.size false):=⟨by simp⟩
  exact wp_region_any hm (kF (S:=S) (cv:=cv) (fb:=false) (Q:=fun a' w'=>S w'->Q .normal a' w') (fun _ w' hw' h=>h (hw'.elim (fun h=>h) (by simp))) _ _ _ _ hI (.inl hS)
    (dA (md:=.any) hs T _ _ a w.drew hI (.inl hS) hT (Nat.le_of_ble_eq_true hd) h.out))
theorem fX {id:Nat} {Q:Exit->Act->World->Prop} {a:Act} {w:World} {ops:Array Oper} (T:yR) (S:World->Prop) (cv:Bool) (hm:P.follows .mixedOrders=true) (hs:Region.noSelect ops=true) (hT:T.ok .any ops (Array.replicate ops.size false)=true) (hd:Nat.ble T.depth ops.size=true) (hE:YR .any ops=true) (hS:S w.drew)
    (h:fY P ops S cv true (fun a' w'=>Q .normal a' w') T a w.drew):(Code.region id ops true).wp P Q a w:=by
  have hI:qY .any ops true (Array.replicate ops.size false):=⟨fun _=>⟨hE,.inl ⟨by simp,fun j oj _ hj=>(by rw[getD_replicate_false]at hj;cases hj),fun t ht hts=>by simp[hts]⟩⟩⟩
  exact wp_region_any hm (kF (S:=S) (cv:=cv) (fb:=true) (Q:=fun a' w'=>Q .normal a' w') (fun _ w' _ h=>h) _ _ _ _ hI (.inl hS)
    (dA (md:=.any) hs T _ _ a w.drew hI (.inl hS) hT (Nat.le_of_ble_eq_true hd) h.out))
variable {Q:Act->World->Prop} {a:Act} {w:World} {o:Oper} {i j k:Nat} {n m l:yR}
theorem aN (h:Q a w):fY P ops S cv fb Q .done a w:=⟨h⟩
theorem xW (ho':lX ops.toList i=some o) (hc:z3 cv o=false)
    (h:∀K:Act->Prop,(∀a,fY P ops S cv fb Q n a w->K a)->if Region.wanted o (yielded ops a.tmps)then(∃v,(∀x:Subtype S,jD x.1 v ((execOp a.eval o).run P x.1))/\K (a.put o.dst v))else K (a.put o.dst undef)):fY P ops S cv fb Q (.loose i n) a w:=by
  have ho:=fQ ho';have:=h _ (fun _ h=>h);refine⟨?_⟩;unfold bL;simp only[ho];split
  · rename_i hw
    rw[if_pos hw]at this;obtain⟨v,hv,hk⟩:=this;exact⟨hc,v,fun w' hs=>hv ⟨w',hs⟩,hk.out⟩
  · rename_i hw;rw[if_neg hw]at this;exact this.out
theorem qA (hS:S w) (ho':lX ops.toList i=some o) (hc:z3 cv o=true)
    (h:∀K:Act->World->Prop,(∀a w,fY P ops S cv fb Q n a w->K a w)->if Region.wanted o (yielded ops a.tmps)then xG P S (fun v w'=>K (a.put o.dst v) w') ((execOp a.eval o).run P w)else K (a.put o.dst undef) w):fY P ops S cv fb Q (.one i n) a w:=by
  have ho:=fQ ho';have:=h _ (fun _ _ h=>h);refine⟨?_⟩;unfold bL kW;simp only[ho];split
  · rename_i hw;rw[if_pos hw]at this;exact⟨hc,jP (fun _ h=>.inl h) (fun _ _ _ h=>h.out) this⟩
  · rename_i hw;rw[if_neg hw]at this;exact this.out
theorem gH (h1:fY P ops S cv fb Q (.one i n) a w) (h2:fY P ops S cv fb Q (.one j m) a w):fY P ops S cv fb Q (.two i n j m) a w:=⟨⟨h1.out,h2.out⟩⟩
theorem bP (ho':lX ops.toList i=some o) (hc:z3 cv o=true) (hi:(i+1==ops.size)=true)
    (h:∀K:Act->World->Prop,(∀a w,Q a w->K a w)->if Region.wanted o (yielded ops a.tmps)then xG P (fun _=>True) (fun v w'=>K (a.put o.dst v) w') ((execOp a.eval o).run P w)else K (a.put o.dst undef) w):fY P ops S cv true Q (.one i .done) a w:=by
  have ho:=fQ ho';have:=h _ (fun _ _ h=>h);refine⟨?_⟩;unfold bL kW;simp only[ho];split
  · rename_i hw;rw[if_pos hw]at this;exact⟨hc,jP (fun _ _=>.inr ⟨rfl,beq_iff_eq.1 hi⟩) (fun _ _ _ h=>h) this⟩
  · rename_i hw;rw[if_neg hw]at this;exact this
end
end
section
open Go.RowKit
def slS (T:TypeId) (x:Value) (lo hi mx:Option Value):Sem Value:=Instr.sliceAt T x lo hi mx
section
variable {P:Program} {T E:TypeId} {k bytes:Nat}
theorem yY.sizeOf_run (I:yY P T E k bytes) (w:World):(Go.sizeOf E).run P w = .ok k w:=by
  obtain⟨i,z,hi,hz,hsz,hby,hzs⟩:=I.info;simp[Go.sizeOf,typeInfo,hi,hsz]
theorem kN (w:World) (m cap:Nat) (hm:m<=cap) (c:BoundsCode):(Instr.sliceBound (.int .i64 m) cap c).run P w = .ok m w:=by
  unfold Instr.sliceBound;have h1:(asIntOf (.int .i64 (m:Int))).run P w = .ok (.i64,(m:Int)) w:=rfl;simp only[Sem.run_bind,h1,Result.andThen_ok];rw[if_pos ⟨by omega,by omega⟩]
  simp
theorem dD (I:yY P T E k bytes) (w:World) (x:Value) (lo hi mx:Option Value):(slS T x lo hi mx).run P w=(Instr.slice T x lo hi mx).run P w:=by
  unfold slS;simp[Instr.sliceAt,run_underlying I.und]
theorem gJ (I:yY P T E k bytes) (w:World) (A:Option Addr) (n cap m:Nat) (hm:m<=cap) :
    (slS T (.slice A n cap) none (some (.int .i64 m)) none).run P w = .ok (.slice A m cap) w:=by
  rw[dD I];unfold Instr.slice Instr.sliceBounds;simp only[Sem.run_bind,run_underlying I.und,Result.andThen_ok,Sem.run_pure,kN w m cap hm,I.sizeOf_run w];have e:(if cap=0 then A else A.map fun a=>a.add (0*k))=A:=by
    split
    · rfl
    · cases A with
      | none=>rfl
      | some a=>simp[Addr.add]
  simp only[Nat.sub_zero,e]
theorem wQ (I:yY P T E k bytes) (w:World) (A:Option Addr) (n cap m:Nat) (hm:m<=n) (hc:n<=cap) (hA:A=none->cap=0) (hsp:∀a,A=some a->a.spot=none) :
    ∃A2 c2,(slS T (.slice A n cap) (some (.int .i64 m)) none none).run P w = .ok (.slice A2 (n-m) c2) w/\(∀(w':World) (L:List (Array Value)),SlR w' A n k L->SlR w' A2 (n-m) k (L.drop m))/\(A2=none->c2=0):=by
  refine⟨if cap=m then A else A.map fun a=>a.add (m*k),cap-m,?_,?_,?_⟩
  · rw[dD I];unfold Instr.slice Instr.sliceBounds;simp only[Sem.run_bind,run_underlying I.und,Result.andThen_ok,Sem.run_pure,kN w m n hm,I.sizeOf_run w,Option.isSome_none,Bool.false_eq_true,if_false]
  · intro w' L hL;by_cases hcm:cap=m
    · have:n-m=0:=by omega
      rw[this];exact⟨by rw[List.length_drop,hL.1];omega,fun h=>absurd h (by omega)⟩
    · rw[if_neg hcm];cases A with
      | none=>exact absurd (hA rfl) (by omega)
      | some a =>
        obtain⟨g,o,sp⟩:=a;have:sp=none:=hsp _ rfl;subst this;have e:(⟨g,o,none⟩:Addr).add (m*k)=⟨g,o+m*k,none⟩:=by unfold Addr.add;split <;> simp_all
        simp only[Option.map_some,e];exact hL.drop_ hm
  · intro h;by_cases hcm:cap=m
    · omega
    · rw[if_neg hcm]at h;cases A with
      | none=>have:=hA rfl;omega
      | some a=>cases h
theorem Own.hi (I:yY P T E k bytes) {w:World} {B:Nat} {A:Option Addr} {n cap:Nat} {L:List (Array Value)} (h:Own w B E k A n cap L) {m:Nat} (hm:m<=n) :
    ∃A2 c2,(∀w0:World,(slS T (.slice A n cap) (some (.int .i64 m)) none none).run P w0 = .ok (.slice A2 (n-m) c2) w0)/\(∀w':World,SlR w' A n k L->SlR w' A2 (n-m) k (L.drop m))/\(A2=none->c2=0):=by
  have hA:=h.cap_le;have hsp:∀a,A=some a->a.spot=none:=fun a e=>by
    rcases h.addr with e' | ⟨g,e'⟩
    · rw[e']at e;cases e
    · rw[e']at e;injection e with e;rw[<-e]
  obtain⟨A2,c2,h1,h2,h3⟩:=wQ (P:=P) I w A n cap m hm hA.1 (fun e=>(hA.2 e).2) hsp;refine⟨A2,c2,fun w0=>?_,fun w' hw=>h2 w' L hw,h3⟩;obtain⟨A3,c3,k1,_,_⟩:=wQ (P:=P) I w0 A n cap m hm hA.1 (fun e=>(hA.2 e).2) hsp;rw[dD I]at h1 k1 |-;unfold Instr.slice Instr.sliceBounds at h1 k1 |-;simp only[Sem.run_bind,run_underlying I.und,Result.andThen_ok,Sem.run_pure,kN _ m n hm,I.sizeOf_run,Option.isSome_none,Bool.false_eq_true,if_false]at h1 |-;injection h1 with h1 _
  rw[h1]
end
theorem gE {P:Program} {ops:Array Oper} {S:World->Prop} {cv fb:Bool} {Q:Act->World->Prop} {a:Act} {w:World} {i:Nat} {nx:yR} {dst:Option Tmp} {s x:Operand} {ty:TypeId} {pos:String} {after:Array Edge} {T E:TypeId} {k bytes:Nat} (I:yY P T E k bytes)
    (ho':lX ops.toList i=some { dst:=dst,op:=.call { callee:=.builtin .append,args:=#[s,x],argTypes:=#[T,T] },type:=ty,pos:=pos,after:=after,guard:=none })
    {B:Nat} {A:Option Addr} {n cap:Nat} {L:List (Array Value)} (hs:a.eval s = .slice A n cap) (hown:Own w B E k A n cap L)
    {A2:Option Addr} {m c:Nat} {R:List (Array Value)} (hx:a.eval x = .slice A2 m c) (hsrc:SlR w A2 m k R) (hform:A2=none->c=0) (hone:∀r∈R,∀u∈r.toList,u.oneCell'=true) (hbytes:(n+m)*bytes<=140737488355328) (hn:n+m<=9223372036854775807) (hB:B<=w.heap.size)
    (h:∀A' cap' w',Own w' B E k A' (n+m) cap' (L++R)->z4 (blk A) w w'->(∀x∈blk A',x∈blk A\/w.heap.size<=x)->S w'/\fY P ops S cv fb Q nx (a.put dst (.slice A' (n+m) cap')) w') :
    fY P ops S cv fb Q (.one i nx) a w:=by
  obtain⟨A',cap',w',hrun,h1,h2,h3⟩:=sD I hown hsrc hform hone hbytes hn hB ty;obtain⟨k1,k2⟩:=h A' cap' w' h1 h2 h3;have ho:=fQ ho';refine⟨?_⟩;unfold bL kW;simp only[ho];rw[if_pos (by rfl)];rw[bJ a.eval hs hx hrun];exact⟨rfl,.inl k1,k2.out⟩
theorem kO {P:Program} {ops:Array Oper} {S:World->Prop} {cv fb:Bool} {Q:Act->World->Prop} {a:Act} {w:World} {i:Nat} {nx:yR} {dst:Option Tmp} {s x:Operand} {ty:TypeId} {pos:String} {after:Array Edge} {T E:TypeId} {k bytes:Nat} (I:yY P T E k bytes)
    (ho':lX ops.toList i=some { dst:=dst,op:=.call { callee:=.builtin .append,args:=#[s,x],argTypes:=#[T,T] },type:=ty,pos:=pos,after:=after,guard:=none })
    {B:Nat} {A:Option Addr} {n cap:Nat} {L:List (Array Value)} (hs:a.eval s = .slice A n cap) (hown:Own w B E k A n cap L)
    {q o c:Nat} {cs:Array Value} (hx:a.eval x = .slice (some ⟨q,o,none⟩) 1 c) (hrow:z9 w q o k=some cs) (hone:∀u∈cs.toList,u.oneCell'=true) (hbytes:(n+1)*bytes<=140737488355328) (hn:n+1<=9223372036854775807) (hB:B<=w.heap.size)
    (h:∀A' cap' w',Own w' B E k A' (n+1) cap' (L ++ [cs])->z4 (blk A) w w'->(∀x∈blk A',x∈blk A\/w.heap.size<=x)->S w'/\fY P ops S cv fb Q nx (a.put dst (.slice A' (n+1) cap')) w') :
    fY P ops S cv fb Q (.one i nx) a w:=by
  obtain⟨A',cap',w',hrun,h1,h2,h3⟩:=wZ I hown (c:=c) hrow hone hbytes hn hB ty;obtain⟨k1,k2⟩:=h A' cap' w' h1 h2 h3;have ho:=fQ ho';refine⟨?_⟩;unfold bL kW;simp only[ho];rw[if_pos (by rfl)];rw[bJ a.eval hs hx hrun];exact⟨rfl,.inl k1,k2.out⟩
end
section
open Go.RowKit
structure SlW (w:World) (A:Option Addr) (n cap k:Nat) (L:List (Array Value)):Prop where
  rd:SlR w A n k L
  le:n<=cap
  nil:A=none->cap=0
  plain:∀a,A=some a->a.spot=none
section
variable {P:Program} {T E:TypeId} {k bytes:Nat} {w w':World} {A:Option Addr} {n cap:Nat} {L:List (Array Value)}
theorem SlW.none_:SlW w none 0 0 k []:=⟨SlR.nil_,Nat.le_refl _,fun _=>rfl,fun a e=>by cases e⟩
theorem SlW.kept {S:List Nat} (h:SlW w A n cap k L) (hk:z4 S w w') (hn:∀x∈blk A,x∉S):SlW w' A n cap k L:=⟨h.rd.kept hk hn,h.le,h.nil,h.plain⟩
theorem SlW.below (h:SlW w A n cap k L) (hb:Below w.heap.size w w'):SlW w' A n cap k L:=⟨h.rd.below hb,h.le,h.nil,h.plain⟩
theorem SlW.len (h:SlW w A n cap k L):L.length=n:=h.rd.1
theorem Own.slw {B:Nat} (h:Own w B E k A n cap L):SlW w A n cap k L:=by
  have hA:=h.cap_le;refine⟨h.slr,hA.1,fun e=>(hA.2 e).2,fun a e=>?_⟩;rcases h.addr with e' | ⟨g,e'⟩
  · rw[e']at e;cases e
  · rw[e']at e;injection e with e;rw[<-e]
theorem SlW.lo (I:yY P T E k bytes) (h:SlW w A n cap k L) {m:Nat} (hm:m<=n) (w0:World):(slS T (.slice A n cap) none (some (.int .i64 m)) none).run P w0 = .ok (.slice A m cap) w0 :=
  gJ I w0 A n cap m (Nat.le_trans hm h.le)
theorem SlW.hi (I:yY P T E k bytes) (h:SlW w A n cap k L) {m:Nat} (hm:m<=n) :
    ∃A2 c2,(∀w0:World,(slS T (.slice A n cap) (some (.int .i64 m)) none none).run P w0 = .ok (.slice A2 (n-m) c2) w0)/\(∀w':World,SlR w' A n k L->SlR w' A2 (n-m) k (L.drop m))/\(A2=none->c2=0):=by
  obtain⟨A2,c2,h1,h2,h3⟩:=wQ (P:=P) I w A n cap m hm h.le h.nil h.plain;refine⟨A2,c2,fun w0=>?_,fun w' hw=>h2 w' L hw,h3⟩;obtain⟨A3,c3,k1,_,_⟩:=wQ (P:=P) I w0 A n cap m hm h.le h.nil h.plain;rw[dD I]at h1 k1 |-;unfold Instr.slice Instr.sliceBounds at h1 k1 |-;simp only[Sem.run_bind,run_underlying I.und,Result.andThen_ok,Sem.run_pure,kN _ m n hm,I.sizeOf_run,Option.isSome_none,Bool.false_eq_true,if_false]at h1 |-;injection h1 with h1 _
  rw[h1]
end
end
section
open Go.RowKit
structure ZT where
  h:Int
  ref:zJ
  val:ByteArray
def sNodeC (x:ZT):Array Value:=#[.int .i64 x.h]++idC x.ref ++ #[.string x.val]
def sNode0:ZT:=⟨0,id0,⟨#[]⟩⟩
theorem je {x y:ZT} (h:x.h=y.h/\x.ref=y.ref/\x.val=y.val):x=y:=by cases x;cases y;simp_all
instance:DecidableEq ZT:=fun x y=>if h:x.h=y.h/\x.ref=y.ref/\x.val=y.val then isTrue (je h)else isFalse (fun e=>h (by subst e;simp))
def nodeVV (x:ZT):Value:=.agg (sNodeC x)
def snode (n:zT):ZT:=⟨n.h,n.ref,n.val⟩
structure Sl where
  A:Option Addr
  n:Nat
  c:Nat
def slV (s:Sl):Value:=.slice s.A s.n s.c
section
variable {w w':World} {M:List Nat} {g bn bb bg:Nat} {N:List zT} {G:List zJ}
end
theorem hahead (ah:Int) (a:zJ) (bh:Int) (b:zJ) (w:World) :
    Calls Tryz.prog 148 #[.int .i64 ah,.agg (idC a),.int .i64 bh,.agg (idC b)] w fun e w'=>e = .returned (.bool (gX ah a bh b))/\Below w.heap.size w w':=by
  have hB:Below w.heap.size w ((w.alloc (.cells (idC a) 24)).alloc (.cells (idC b) 24)):=((Below.refl _ _).alloc (Nat.le_refl _) _).alloc (by simp) _;have hA:gX ah a bh b=if ah=bh then decide (zO a b<0)else decide (ah<bh):=rfl;have HA:=Lib.hid hA;clear hA;by_cases h:ah=bh
  · subst h;go_enter Tryz.func148,Tryz.ntmps148
    (go_wp2_with fail);refine(K6 a b _).mono ?_;rintro e w1 ⟨rfl,hb1⟩;have hbb:=xM hB hb1;clear hB hb1;(go_wp2_with fail);go_ret;exact⟨zS (by rw[HA.out];simp),hbb⟩
  · have hn:(ah != bh)=true:=by simpa using h
    have hn2:(ah==bh)=false:=by simpa using h
    have Hh:=Lib.hid h;clear h;go_enter Tryz.func148,Tryz.ntmps148
    (go_wp2_with fail);go_ret;exact⟨zS (by rw[HA.out,if_neg Hh.out]),hB⟩
end
section
open Go.RowKit Go.Shelf
end
theorem eJ {κ ν:Type} [DecidableEq κ] {M:List (κ×ν)} {k:κ} {v:ν} {p:κ×ν} (h:p∈gB M k v):p=(k,v)\/(p∈M/\p.1≠k):=by
  unfold gB at h;split at h
  · obtain⟨q,hq,rfl⟩:=List.mem_map.1 h;split
    · exact .inl rfl
    · rename_i hne;exact .inr ⟨hq,hne⟩
  · rename_i hno
    rcases List.mem_append.1 h with h | h
    · exact .inr ⟨h,fun e=>hno (List.mem_map.2 ⟨p,h,e⟩)⟩
    · exact .inl (by simpa using h)
theorem xx {κ ν:Type} [DecidableEq κ] {M:List (κ×ν)} {k r:κ} {v:ν} (h:r∉(gB M k v).map (·.1)):r∉M.map (·.1)/\r≠k:=by
  unfold gB at h;split at h
  · rename_i hin
    have e:(M.map fun p=>if p.1=k then(k,v)else p).map (·.1)=M.map (·.1):=by
      rw[List.map_map];refine List.map_congr_left fun p _=>?_;simp only[Function.comp_apply];split
      · rename_i h;exact h.symm
      · rfl
    rw[e]at h;exact⟨h,fun e=>h (by rw[e];exact hin)⟩
  · rw[List.map_append,List.mem_append]at h;exact⟨fun h1=>h (.inl h1),fun e=>h (.inr (by simp[e]))⟩
@[go_sem ↓] theorem slIdC_rw (x:Value) (lo hi mx:Option Value):Instr.sliceAt 26 x lo hi mx=slS 26 x lo hi mx:=rfl
def aH (N:List zT) (n:zT):List zT:=if g6 n=0 then(if n.id∈N.map zT.id then N else N ++ [n])else N
section
open Go.RowKit
end
section
open Go.RowKit
end
section
open Go.RowKit
end
section
open Go.RowKit
end
section
open Go.RowKit
end
structure xZ where
  key:ByteArray
  val:ByteArray
def zN (x:xZ):Array Value:=#[.string x.key] ++ #[.string x.val]
@[simp] theorem bF (x:xZ):(zN x).size=2:=by simp[zN]
@[go_sem] theorem nO (x:xZ):(zN x)[0]? = some (.string x.key):=by first | (simp[zN,Array.getElem?_append];done) | (rw[show zN x=((#[]:Array Value)) ++ #[.string x.key]++(#[.string x.val])from by apply Array.ext';simp[zN]];exact xS _ _ _ _ (by simp))
@[go_sem] theorem pairC_gg0 (x:xZ) (h:0<(zN x).size):(zN x)[0]'h = .string x.key:=Option.some.inj ((Array.getElem?_eq_getElem h).symm.trans (nO x))
@[go_sem] theorem eE (x:xZ):(zN x)[1]? = some (.string x.val):=by first | (simp[zN,Array.getElem?_append];done) | (rw[show zN x=(#[.string x.key]) ++ #[.string x.val]++((#[]:Array Value))from by apply Array.ext';simp[zN]];exact xS _ _ _ _ (by simp))
@[go_sem] theorem pairC_gg1 (x:xZ) (h:1<(zN x).size):(zN x)[1]'h = .string x.val:=Option.some.inj ((Array.getElem?_eq_getElem h).symm.trans (eE x))
@[go_sem] theorem pairC_all (x:xZ):(zN x).extract 0 2=zN x:=by have:=Array.extract_size (xs:=zN x);rwa [bF]at this
theorem xQ (x:xZ):∀u∈(zN x).toList,u.oneCell'=true:=by
  intro u hu;simp only[zN,Array.toList_append,List.mem_append]at hu;rcases hu with hu | hu
  · simp at hu;subst hu;rfl
  · simp at hu;subst hu;rfl
def gN:xZ:=⟨⟨#[]⟩,⟨#[]⟩⟩
theorem JH {x y:xZ} (h:x.key=y.key/\x.val=y.val):x=y:=by cases x;cases y;simp_all
instance:DecidableEq xZ:=fun x y=>if h:x.key=y.key/\x.val=y.val then isTrue (JH h)else isFalse (fun e=>h (by subst e;simp))
theorem eS:(Tryz.prog.info? 122).map (·.size)=some 2:=by kernel_rfl
@[go_sem ↓] theorem nE (w:World):(zeroValue 122).run Tryz.prog w = .ok (.agg (zN gN)) w:=by
  have h:(Tryz.prog.info? 122).bind (·.zero)=some (.agg (zN gN)):=by kernel_rfl
  cases hi:Tryz.prog.info? 122 with
  | none=>rw[hi]at h;cases h
  | some i =>
    rw[hi]at h;have hz:i.zero=some (.agg (zN gN)):=h;simp[zeroValue,typeInfo,hi,hz]
@[go_sem ↓] theorem loadPair_rw (a:Addr):loadVar 122 a=ldS 122 a:=rfl
@[go_sem ↓] theorem storePair_rw (a:Addr) (v:Value):storeVar 122 a v=stS 122 a v:=rfl
@[go_sem] theorem loadPair_run (w:World) (g o:Nat):(ldS 122 ⟨g,o,none⟩).run Tryz.prog w=match z9 w g o 2 with | some cs=>.ok (.agg cs) w | none=>(loadVar 122 ⟨g,o,none⟩).run Tryz.prog w :=
  vD Tryz.underlying122 rfl eS w g o
@[go_sem] theorem iY (w:World) (g:Nat) (hg:g=w.heap.size) (z:Array Value) (hz:z.size=2) (x:xZ) (e:TypeId):(stS 122 ⟨g,0,none⟩ (.agg (zN x))).run Tryz.prog (w.alloc (.cells z e)) = .ok () (w.alloc (.cells (zN x) e)) :=
  hg ▸ qB eS w z (zN x) hz (bF x) (xQ x)
theorem n6:Tryz.prog.underlying 122=some (.struct (Tryz.prog.fieldsOf 122)):=by kernel_rfl
theorem eC (w:World):((Tryz.prog.fieldsOf 122).mapM fun (f:Field)=>do pure (f.offset,<-sizeOf f.type)).run Tryz.prog w = .ok #[(0,1),(1,1)] w:=by kernel_rfl
@[go_sem ↓] theorem buildPair_rw (parts:Array (Nat×Value)):Instr.build 122 parts=bdS 122 parts:=rfl
@[go_sem] theorem buildPair (a0:ByteArray) (a1:ByteArray) (w:World):(bdS 122 #[(0,.string a0),(1,.string a1)]).run Tryz.prog w = .ok (.agg (zN ⟨a0,a1⟩)) w:=by
  refine vB w n6 _ (nE w) _ (eC w) [(0,.string a0),(1,.string a1)] _ ?_;rw[show zN gN=(#[]:Array Value) ++ #[.string ⟨#[]⟩]++(#[.string ⟨#[]⟩])from by first | (simp[zN,gN,Array.append_assoc];done) | (apply Array.ext';simp[zN,gN])];rw[xD (off:=0) (size:=1) rfl (by simp) (by simp) (by simp[Value.cells])];rw[show(#[]:Array Value)++(Value.string a0).cells++(#[.string ⟨#[]⟩])=(#[.string a0]) ++ #[.string ⟨#[]⟩]++(#[]:Array Value)from by first | (simp[Value.cells,Array.append_assoc];done) | (apply Array.ext';simp[Value.cells];done) | (apply Array.ext';simp only[Array.toList_append];simp[Value.cells])];rw[xD (off:=1) (size:=1) rfl (by simp) (by simp) (by simp[Value.cells])];first | (simp[Instr.fill,zN,Array.append_assoc,Value.cells];done) | (simp only[Instr.fill,zN];congr 1;apply Array.ext';simp[Value.cells];done) | (simp only[Instr.fill,zN];congr 1;done) | (simp only[Instr.fill,zN];done)
@[go_sem] theorem buildPair_0 (a0:ByteArray) (w:World):(bdS 122 #[(0,.string a0)]).run Tryz.prog w = .ok (.agg (zN ⟨a0,⟨#[]⟩⟩)) w:=by
  refine vB w n6 _ (nE w) _ (eC w) [(0,.string a0)] _ ?_;rw[show zN gN=(#[]:Array Value) ++ #[.string ⟨#[]⟩]++(#[.string ⟨#[]⟩])from by first | (simp[zN,gN,Array.append_assoc];done) | (apply Array.ext';simp[zN,gN])];rw[xD (off:=0) (size:=1) rfl (by simp) (by simp) (by simp[Value.cells])];first | (simp[Instr.fill,zN,Array.append_assoc,Value.cells];done) | (simp only[Instr.fill,zN];congr 1;apply Array.ext';simp[Value.cells];done) | (simp only[Instr.fill,zN];congr 1;done) | (simp only[Instr.fill,zN];done)
theorem yL:yY Tryz.prog 41 122 2 32 :=
  .of (z:=.agg (zN gN)) Tryz.underlying41 (by kernel_rfl) (by kernel_rfl) (by kernel_rfl) (bF _) (by omega)
@[go_sem ↓] theorem bsPair_rw (n:Nat) (parts:Array (Nat×Value)):Instr.buildSlice 41 n parts=bsS 41 n parts:=rfl
@[go_sem] theorem bsPair_run (w:World) (x:xZ):(bsS 41 1 #[(0,.agg (zN x))]).run Tryz.prog w = .ok (.slice (some ⟨w.heap.size,0,none⟩) 1 1) (w.alloc (.cells (zN x) 122)) :=
  k8 yL (by omega) w (zN x) (bF x)
section
open Go.RowKit
end
section
open Go.RowKit Go.Sort Go.Shelf
section
variable {α:Type} [Inhabited α] {enc:α->Array Value} {k:Nat}
theorem own_holds {w:World} {B:Nat} {E:TypeId} {g n cap:Nat} {L:List α} (hk:0<k) (hs:∀x,(enc x).size=k) (h:Own w B E k (some ⟨g,0,none⟩) n cap (L.map enc)) :
    HoldsK (fun x=>(enc x).toList) k w g 0 L.toArray:=by
  intro j hj;have hj':j<L.length*k:=by simpa using hj
  have hi:j / k<L.length:=Nat.div_lt_of_lt_mul (by rw[Nat.mul_comm];exact hj');have hr:j % k<k:=Nat.mod_lt _ hk;have he:j / k*k+j % k=j:=by rw[Nat.mul_comm];exact Nat.div_add_mod j k
  have hl:L.length=n:=by simpa using h.len
  obtain⟨g',o,e,hrow⟩:=h.slr.at_ (i:=j / k) (by omega);injection e with e
  injection e with e1 e2
  subst e1;subst e2;rw[List.getElem_map]at hrow;have hc:=z8 hrow hr;rw[Nat.zero_add,he]at hc;refine⟨?_,?_⟩
  · rw[Nat.zero_add,hc,get_flatK _ _ _ j (by simpa using hj'),getElem!_pos L.toArray (j / k) (by simpa using hi)];have hsz:j % k<(enc L[j / k]).toList.length:=by simpa[hs]using hr
    rw[getElem!_pos _ (j % k) (by simpa using hsz)];simp[hs,hr]
  · obtain⟨⟨_,h2⟩,_,_⟩:=h;rcases h2 with⟨h2,_⟩ | ⟨g',c,cur,hv,hb,hg,_⟩
    · cases h2
    · injection hv with hA
      injection hA with hA
      injection hA with hA
      subst hA;simp[World.frozen?,hg]
theorem kl {w:World} {B:Nat} {E:TypeId} {g n n' cap:Nat} {L L':List (Array Value)} (h:Own w B E k (some ⟨g,0,none⟩) n cap L) (hn':n'<=n) (m:Nat) (F:Array Value) (hF:F.size=n*k) (hL:F.toList.take (n'*k)=L'.flatMap Array.toList) (hl:L'.length=n') (hs:∀c∈L',c.size=k) (os:Array Obj) :
    Own (grow (putRow id (Sort.ahead w m) g 0 F) os) B E k (some ⟨g,0,none⟩) n' cap L'/\z4 [g] w (grow (putRow id (Sort.ahead w m) g 0 F) os):=by
  obtain⟨⟨_,h2⟩,_,_⟩:=h;rcases h2 with⟨h2,_⟩ | ⟨g',c,cur,hv,hb,hg,hnc,hcm,hcs,htake⟩
  · cases h2
  injection hv with hA _ hc
  injection hA with hA
  injection hA with hA
  subst hA;subst hc;have hgl:g<w.heap.size:=(Array.getElem?_eq_some_iff.1 hg).1;have hheap:(grow (putRow id (Sort.ahead w m) g 0 F) os).heap[g]? = some (.cells (putCells id 0 F cur) E (0,0)):=by
    rw[heap_grow_old _ _ (by simpa[putRow,mapBlock,Sort.ahead]using hgl)];show(w.heap.modify g _)[g]? = _;rw[Array.getElem?_modify,if_pos rfl,hg];rfl
  have hle:n*k<=cur.size:=by rw[hcs];exact Nat.mul_le_mul_right k hnc
  have hle':n'*k<=n*k:=Nat.mul_le_mul_right k hn';refine⟨⟨⟨?_,.inr ⟨g,cap,_,rfl,hb,hheap,by omega,hcm,?_,?_⟩⟩,hl,hs⟩,?_⟩
  · rw[kJ _ k hs,hl]
  · simp[putCells,hcs]
  · rw[<-hL];apply List.ext_getElem?;intro j;by_cases hj:j<n'*k
    · rw[List.getElem?_take,List.getElem?_take,if_pos hj,if_pos hj,Array.getElem?_toList,Array.getElem?_toList];unfold putCells;rw[Array.getElem?_mapIdx,Array.getElem?_eq_getElem (show j<cur.size by omega),Array.getElem?_eq_getElem (show j<F.size by omega)];simp only[Option.map_some,Nat.zero_le,true_and,Nat.zero_add,Nat.sub_zero,hF];rw[if_pos (by omega),getElem!_pos _ j (by omega)];rfl
    · rw[List.getElem?_eq_none (by simp;omega),List.getElem?_eq_none (by simp;omega)]
  · refine⟨rfl,rfl,rfl,?_,fun x hx hn=>?_⟩
    · rw[size_grow];simp[putRow,mapBlock,Sort.ahead]
    · rw[heap_grow_old _ _ (by simpa[putRow,mapBlock,Sort.ahead]using hx)];show(w.heap.modify g _)[x]? = _;rw[Array.getElem?_modify,if_neg (by simpa[eq_comm]using hn)]
theorem VF {w:World} {B:Nat} {E:TypeId} {g n cap:Nat} {L:List α} (hk:0<k) (hs:∀x,(enc x).size=k) (h:Own w B E k (some ⟨g,0,none⟩) n cap (L.map enc)) (m:Nat) (L':List α) (hl:L'.length=L.length) (os:Array Obj) :
    Own (sortWorldK (fun x=>(enc x).toList) k w g 0 m L'.toArray os) B E k (some ⟨g,0,none⟩) n cap (L'.map enc)/\z4 [g] w (sortWorldK (fun x=>(enc x).toList) k w g 0 m L'.toArray os):=by
  have hn:L.length=n:=by simpa using h.len
  have hsz:∀c∈L'.map enc,c.size=k:=fun c hc=>(by obtain⟨x,_,rfl⟩:=List.mem_map.1 hc;exact hs x);have hflat:(L'.map enc).flatMap Array.toList=(flatK (fun x=>(enc x).toList) k L'.toArray).toList:=by
    apply List.ext_getElem?;intro j;have hfl:=kJ (L'.map enc) k hsz;rw[List.length_map]at hfl;by_cases hj:j<L'.length*k
    · have hi:j / k<L'.length:=Nat.div_lt_of_lt_mul (by rw[Nat.mul_comm];exact hj);have hr:j % k<k:=Nat.mod_lt _ hk;have he:j / k*k+j % k=j:=by rw[Nat.mul_comm];exact Nat.div_add_mod j k
      have e1:=wJ (L'.map enc) k hsz (j / k) (j % k) (by simpa using hi) hr;rw[he]at e1;rw[e1];have hsz:j<(flatK (fun x=>(enc x).toList) k L'.toArray).size:=by simpa using hj
      rw[Array.getElem?_toList,Array.getElem?_eq_getElem hsz,<-getElem!_pos _ j hsz,get_flatK _ _ _ j (by simpa using hj),getElem!_pos L'.toArray (j / k) (by simpa using hi)];have hsz2:j % k<(enc L'[j / k]).toList.length:=by simpa[hs]using hr
      rw[List.getElem_map,List.getElem_toArray,getElem!_pos _ (j % k) hsz2];simp[hs,hr]
    · rw[List.getElem?_eq_none (by omega),List.getElem?_eq_none (by simpa using hj)]
  have hF:(flatK (fun x=>(enc x).toList) k L'.toArray).size=n*k:=by simp[hl,hn]
  exact kl h (Nat.le_refl _) m (flatK (fun x=>(enc x).toList) k L'.toArray) hF (by rw[hflat,List.take_of_length_le (by simpa using Nat.le_of_eq hF)]) (by simp[hl,hn]) hsz os
end
section
variable {α:Type} [Inhabited α] {f:α->Value}
end
end
section
open Go.RowKit Go.Sort Go.Shelf
instance:Inhabited xH:=⟨sC⟩
def tagsOf (L:List xH) (v:ByteArray):List zJ:=(L.filter fun x=>decide (x.val=v)).map (·.tag)
end
section
open Go.RowKit Go.Sort
section
variable {α:Type} [Inhabited α] [DecidableEq α] {c:α->α->Int}
theorem pI (T:j8 c) (d:Array α) (hs:∀i j,i<j->j<d.size->¬c d[j]! d[i]! < 0):∀m,m<=d.size ->
    Ris c (Lib.compactUpTo d m)/\(∀z,z∈Lib.compactUpTo d m↔∃j,j<m/\d[j]! = z)/\(0<m->∀y∈Lib.compactUpTo d m,¬c d[m-1]! y<0)
  | 0,_=>⟨by simp[Lib.compactUpTo,Ris],by simp[Lib.compactUpTo],by simp⟩
  | m+1,hm=>by
    obtain⟨h1,h2,h3⟩:=pI T d hs m (by omega);rw[Lib.compactUpTo_succ];by_cases hk:Lib.keeps d m=true
    · rw[if_pos hk];have hlt:∀y∈Lib.compactUpTo d m,c y d[m]! < 0:=by
        intro y hy;have hm0:0<m:=by
          rcases Nat.eq_zero_or_pos m with h | h
          · subst h;simp[Lib.compactUpTo]at hy
          · exact h
        have hne:d[m]!≠d[m-1]!:=by
          have:m=0\/d[m]!≠d[m-1]!:=by simpa[Lib.keeps]using hk
          rcases this with h | h
          · omega
          · exact h
        exact T.le_trans (h3 hm0 y hy) (T.flip (hs (m-1) m (by omega) (by omega)) hne)
      refine⟨?_,fun z=>?_,fun _ y hy=>?_⟩
      · refine List.pairwise_append.2 ⟨h1,by simp,fun y hy z hz=>?_⟩;simp at hz;subst hz;exact hlt y hy
      · rw[List.mem_append,h2,List.mem_singleton];constructor
        · rintro(⟨j,hj,e⟩ | e)
          · exact⟨j,by omega,e⟩
          · exact⟨m,by omega,e.symm⟩
        · rintro⟨j,hj,e⟩;by_cases hjm:j=m
          · subst hjm;exact .inr e.symm
          · exact .inl ⟨j,by omega,e⟩
      · rw[Nat.add_sub_cancel];rcases List.mem_append.1 hy with hy | hy
        · exact T.asym (hlt y hy)
        · simp at hy;subst hy;exact T.irr _
    · rw[if_neg hk,List.append_nil];have hm0:¬m=0:=fun e=>hk (by simp[Lib.keeps,e]);have heq:d[m]! = d[m-1]!:=Classical.byContradiction fun e=>hk (Lib.keeps_pos e);refine⟨h1,fun z=>?_,fun _ y hy=>?_⟩
      · rw[h2];constructor
        · rintro⟨j,hj,e⟩;exact⟨j,by omega,e⟩
        · rintro⟨j,hj,e⟩;by_cases hjm:j=m
          · subst hjm;exact⟨j-1,by omega,by rw[<-heq];exact e⟩
          · exact⟨j,by omega,e⟩
      · rw[Nat.add_sub_cancel,heq];exact h3 (by omega) y hy
theorem iD (T:j8 c) (l:List α) (hs:l.Pairwise (fun x y=>¬c y x<0)):Lib.compact l=yF c l:=by
  have h:=pI T l.toArray (fun i j hij hj=>by
    have hj':j<l.length:=by simpa using hj
    rw[getElem!_pos l.toArray i (by simp;omega),getElem!_pos l.toArray j hj];exact List.pairwise_iff_getElem.1 hs i j (by omega) hj' hij) l.length (by simp)
  refine jT T h.1 (xE T l) fun z=>?_;rw[qI T];refine(h.2.1 z).trans ⟨?_,?_⟩
  · rintro⟨j,hj,e⟩;rw[getElem!_pos l.toArray j (by simpa using hj)]at e;rw[<-e];exact List.getElem_mem hj
  · intro hz;obtain⟨j,hj,e⟩:=List.mem_iff_getElem.1 hz;exact⟨j,hj,by rw[getElem!_pos l.toArray j (by simpa using hj)];simpa using e⟩
end
end
section
open Go.RowKit Go.Sort Go.Shelf
def strR (s:ByteArray):Array Value:=#[.string s]
def bl (s:ByteArray):List UInt8:=s.data.toList
def kD (L:List xH):List ByteArray:=yF xP (L.map (·.val))
def gM (s:ByteArray):xZ:=⟨s,⟨#[]⟩⟩
theorem Z7 (L:List xH):(kD L).length<=L.length:=by have:=qF (c:=xP) (L.map (·.val));simpa[kD]using this
end
section
open Go.RowKit Go.Sort Go.Shelf Go.Lib
@[go_sem ↓] theorem bsStr_rw (n:Nat) (parts:Array (Nat×Value)):Instr.buildSlice 39 n parts=bsS 39 n parts:=rfl
@[go_sem] theorem bsStr_run (w:World) (x:ByteArray):(bsS 39 1 #[(0,.string x)]).run Tryz.prog w = .ok (.slice (some ⟨w.heap.size,0,none⟩) 1 1) (w.alloc (.cells (strR x) 9)):=by kernel_rfl
def zR (z:List UInt8):Array Value:=#[encStr z]
abbrev OwnL (w:World) (B:Nat) (A:Option Addr) (n cap:Nat) (L:List ByteArray):Prop:=Own w B 122 2 A n cap (L.map fun s=>zN (gM s))
end
section
open Go.RowKit Go.Sort Go.Maps
def unitR (_:Value):Option (DataW Unit×List MemPlace):=some (.nil,[])
end
def tI (p:bB):xZ:=⟨p.1,p.2.val⟩
def listC (L:List bB):List (Array Value):=L.map fun p=>zN (tI p)
section
open Go.RowKit Go.Sort Go.Shelf
instance:Inhabited zJ:=⟨id0⟩
end
section
open Go.RowKit Go.Sort Go.Shelf
end
@[go_sem ↓] theorem slPair_rw (x:Value) (lo hi mx:Option Value):Instr.sliceAt 41 x lo hi mx=slS 41 x lo hi mx:=rfl
section
open Go.RowKit
section
variable {P:Program} {T E:TypeId} {k bytes:Nat}
theorem iV {z:Array Value} {n:Nat} (hz:0<z.size) (h1:∀u∈z.toList,u.oneCell'=true):∀u∈(Builtin.zeroCells z n).toList,u.oneCell'=true:=by
  intro u hu;unfold Builtin.zeroCells at hu;simp only[Array.toList_map,List.mem_map]at hu;obtain⟨i,_,rfl⟩:=hu;have hi:i % z.size<z.size:=Nat.mod_lt _ hz;rw[getElem!_pos z _ hi];exact h1 _ (by simp)
theorem ym (I:yY P T E k bytes) {z:Value} (hz:(P.info? E).bind (·.zero)=some z) (hz1:∀u∈z.cells.toList,u.oneCell'=true) {w:World} {B g n cap m:Nat} {L:List (Array Value)} (h:Own w B E k (some ⟨g,0,none⟩) n cap L) (hm:m<=n) (ty:TypeId) :
    ∃A2 c2,(∀w0:World,(slS T (.slice (some ⟨g,0,none⟩) n cap) (some (.int .i64 m)) none none).run P w0 = .ok (.slice A2 (n-m) c2) w0) /\
      ∃w',(Builtin.clear_ #[T] ty #[.slice A2 (n-m) c2]).run P w = .ok (.tuple #[]) w'/\Own w' B E k (some ⟨g,0,none⟩) m cap (L.take m)/\z4 [g] w w':=by
  have hA:=h.cap_le;have hrun:∀w0:World,(slS T (.slice (some ⟨g,0,none⟩) n cap) (some (.int .i64 m)) none none).run P w0 = .ok (.slice (if cap=m then some ⟨g,0,none⟩ else some ⟨g,m*k,none⟩) (n-m) (cap-m)) w0:=by
    intro w0;rw[dD I];unfold Instr.slice Instr.sliceBounds;simp only[Sem.run_bind,run_underlying I.und,Result.andThen_ok,Sem.run_pure,kN w0 m n hm,I.sizeOf_run w0,Option.isSome_none,Bool.false_eq_true,if_false];congr 3
    show some ((⟨g,0,none⟩:Addr).add (m*k))=_;unfold Addr.add;split <;> simp_all
  refine⟨_,_,hrun,?_⟩;have hown2:=h;have hlen:=kJ L k h.size;have hL:=h.len;have hsz:=h.size;obtain⟨⟨h1,h2⟩,_,hs⟩:=h;rcases h2 with⟨h2,_⟩ | ⟨g',c,cur,hv,hb,hg,hnc,hcm,hcsz,htake⟩
  · cases h2
  injection hv with hA' _ hc
  injection hA' with hA'
  injection hA' with hA'
  subst hA';subst hc;have hmk:m*k<=n*k:=Nat.mul_le_mul_right k hm;have hnk:n*k<=cur.size:=by rw[hcsz];exact Nat.mul_le_mul_right k hnc
  have htk:(L.take m).flatMap Array.toList=(L.flatMap Array.toList).take (m*k):=by
    apply List.ext_getElem?;intro j;have hlt:(L.take m).length=m:=by simp;omega
    have hl2:=kJ (L.take m) k (fun c hc=>hs c (List.mem_of_mem_take hc));rw[hlt]at hl2;by_cases hj:j<m*k
    · rw[List.getElem?_take,if_pos hj];have hk0:=I.pos;have hi:j / k<m:=Nat.div_lt_of_lt_mul (by rw[Nat.mul_comm];exact hj);have hr:j % k<k:=Nat.mod_lt _ hk0;have he:j=j / k*k+j % k:=by rw[Nat.mul_comm];exact(Nat.div_add_mod j k).symm
      rw[he,wJ (L.take m) k (fun c hc=>hs c (List.mem_of_mem_take hc)) (j / k) (j % k) (by rw[hlt];exact hi) hr,wJ L k hs (j / k) (j % k) (by omega) hr];congr 1
      rw[List.getElem_take]
    · rw[List.getElem?_eq_none (by omega),List.getElem?_eq_none (by simp;omega)]
  have hfin:∀w' cur',w'.heap[g]? = some (.cells cur' E (0,0))->cur'.size=cap*k->cur'.toList.take (m*k)=cur.toList.take (m*k)->Own w' B E k (some ⟨g,0,none⟩) m cap (L.take m):=by
    intro w' cur' hg' hcs' htk';refine⟨⟨?_,.inr ⟨g,cap,cur',rfl,hb,hg',by omega,hcm,hcs',?_⟩⟩,by simp;omega,fun c hc=>hs c (List.mem_of_mem_take hc)⟩
    · rw[kJ _ k (fun c hc=>hs c (List.mem_of_mem_take hc)),List.length_take,hL,Nat.min_eq_left hm]
    · rw[htk',htk,<-htake,List.take_take,Nat.min_eq_left hmk]
  by_cases hmn:m=n
  · subst hmn;refine⟨w,?_,hfin w cur hg hcsz rfl,(z4.refl _ _)⟩;rw[Nat.sub_self];obtain⟨A2,hA2⟩:∃A2,(if cap=m then(some ⟨g,0,none⟩:Option Addr)else some ⟨g,m*k,none⟩)=A2:=⟨_,rfl⟩
    rw[hA2];cases A2 <;> simp[Builtin.clear_,run_underlying I.und]
  · have hcm':¬cap=m:=by omega
    rw[if_neg hcm'];obtain⟨inf,z',hinf,hz',hisz,hby,hzs⟩:=I.info;have hzz:z'=z:=by
      rw[hinf]at hz;have:inf.zero=some z:=hz;rw[hz']at this;injection this
    subst hzz;have hk0:=I.pos;have hst:=run_storeCells_at P g (m*k) E (Builtin.zeroCells z'.cells (n-m)).toList 0 cur w hg (by
      simp only[Nat.add_zero,Array.length_toList,size_zeroCells,hzs];have:m*k+(n-m)*k=n*k:=by rw[<-Nat.add_mul];congr 1;omega
      omega) (iV (by omega) hz1)
    simp only[Nat.add_zero,Array.length_toList,size_zeroCells,hzs]at hst;have hsum:m*k+(n-m)*k=n*k:=by rw[<-Nat.add_mul];congr 1;omega
    have hzl:(Builtin.zeroCells z'.cells (n-m)).toList.length=(n-m)*k:=by rw[Array.length_toList,size_zeroCells,hzs]
    have hcl:cur.toList.length=cap*k:=by rw[Array.length_toList];exact hcsz
    obtain⟨NC,hNC⟩:∃NC,(cur.toList.take (m*k)++(Builtin.zeroCells z'.cells (n-m)).toList++cur.toList.drop (m*k+(n-m)*k)).toArray=NC:=⟨_,rfl⟩
    rw[hNC]at hst;have hNs:NC.size=cap*k:=by
      rw[<-hNC];simp only[List.size_toArray,List.length_append,List.length_take,List.length_drop,hzl,hcl];omega
    have hNt:NC.toList.take (m*k)=cur.toList.take (m*k):=by
      rw[<-hNC];show List.take (m*k) (cur.toList.take (m*k)++(Builtin.zeroCells z'.cells (n-m)).toList++cur.toList.drop (m*k+(n-m)*k))=_;rw[List.append_assoc,List.take_append_of_le_length (by rw[List.length_take,hcl];omega),List.take_take,Nat.min_self]
    refine⟨w.setRow g NC,?_,hfin _ _ (setRow_heap w g cur NC E (0,0) hg) hNs hNt,⟨rfl,rfl,rfl,by simp[World.setRow],fun x _ hx=>setRow_other w g x _ (by simpa using hx)⟩⟩;obtain⟨d,hd⟩:∃d,n-m=d+1:=⟨n-m-1,by omega⟩
    rw[hd]at hst |-;have hzr:(zeroValue E).run P w = .ok z' w:=by simp[zeroValue,typeInfo,hinf,hz']
    simp[Builtin.clear_,run_underlying I.und,hzr,hst]
end
end
def bR (x y:xZ):Bool:=(x.key.toList==y.key.toList)&&(x.val.toList==y.val.toList)
theorem vX (x y:xZ):bR x y=true↔x=y:=by
  unfold bR;simp only[Bool.and_eq_true,beq_iff_eq,toList_inj];exact⟨fun h=>JH h,fun h=>by subst h;exact⟨rfl,rfl⟩⟩
theorem ZK (x y:xZ) (w:World):(Op.equalIn 10000 122 (.agg (zN x)) (.agg (zN y))).run Tryz.prog w = .ok (bR x y) w:=by
  rw[show(10000:Nat)=9999+1 from rfl,run_equalIn_agg w 9999 122 _ _ n6 (by kernel_rfl)];unfold bR;have e1:=run_equalIn_string (P:=Tryz.prog) w 9998 9 x.key y.key Tryz.underlying9;have e2:=run_equalIn_string (P:=Tryz.prog) w 9998 9 x.val y.val Tryz.underlying9;simp only[Program.fieldsOf,Tryz.underlying122];simp[Op.eqFields,part,asAgg,isAgg,go_sem,Tryz.underlying9,e1,e2];by_cases h1:x.key.toList=y.key.toList <;> by_cases h2:x.val.toList=y.val.toList <;> simp[h1,h2]
@[go_sem ↓] theorem neqPair_run (x y:xZ) (w:World):(binOp .neq 122 (.agg (zN x)) (.agg (zN y))).run Tryz.prog w = .ok (.bool (!(bR x y))) w:=by
  rw[run_neq_struct,ZK];rfl
def xL (w:World) (A:Option Addr) (n:Nat) (L:List xZ):Prop:=SlR w A n 2 (L.map zN)
theorem xL.get {w:World} {A:Option Addr} {n:Nat} {R:List xZ} (h:xL w A n R) {i:Nat} (hi:i<n) (hR:i<R.length) :
    ∃g o,A=some ⟨g,o,none⟩/\z9 w g (o+i*2) 2=some (zN R[i])/\w.cell? ⟨g,o+i*2,none⟩=some (.string (R[i]).key)/\w.cell? ⟨g,o+i*2+1,none⟩=some (.string (R[i]).val):=by
  obtain⟨g,o,e,hr⟩:=SlR.at_ h hi;rw[List.getElem_map]at hr;refine⟨g,o,e,hr,?_,?_⟩
  · have:=z8 hr (j:=0) (by omega)
    rwa [nO]at this
  · have:=z8 hr (j:=1) (by omega)
    rwa [eE]at this
theorem xL.len {w:World} {A:Option Addr} {n:Nat} {R:List xZ} (h:xL w A n R):R.length=n:=by simpa using h.1
theorem rpairs (w:World) (A B:Option Addr) (n m cap cap':Nat) (X Y:List xZ) (hx:xL w A n X) (hy:xL w B m Y) (hn:n<=1000000) (hm:m<=1000000) :
    Calls Tryz.prog 61 #[.slice A n cap,.slice B m cap'] w fun e w'=>e = .returned (.bool (decide (X=Y)))/\Below w.heap.size w w':=by
  have hlx:=hx.len;have hly:=hy.len;have Hlx:=Lib.hid hlx;have Hly:=Lib.hid hly;by_cases hnm:n=m
  · subst hnm;clear hlx hly;go_enter Tryz.func61,Tryz.ntmps61
    (go_wp2_with fail);go_loopw [5] (fun i wr=>∃k:Nat,k<=n/\i = .int .i64 k/\Hid (X.take k=Y.take k)/\Below w.heap.size w wr) (fun i _=>n-(intOf i).toNat)
    case atStart=>exact⟨0,Nat.zero_le _,rfl,rfl,Below.refl _ _⟩
    case round =>
      obtain⟨k,hk,rfl,heq,hb⟩:=hrel;by_cases hlt:k<n
      · obtain⟨q,o,rfl,hr,_,_⟩:=xL.get (SlR.below hx hb) hlt (by rw[Hlx.out];exact hlt);obtain⟨q2,o2,rfl,hr2,_,_⟩:=xL.get (SlR.below hy hb) hlt (by rw[Hly.out];exact hlt);have hX:X.take (k+1)=X.take k ++ [X[k]'(by rw[Hlx.out];exact hlt)]:=by rw[List.take_add_one,List.getElem?_eq_getElem (by rw[Hlx.out];exact hlt)];rfl
        have hY:Y.take (k+1)=Y.take k ++ [Y[k]'(by rw[Hly.out];exact hlt)]:=by rw[List.take_add_one,List.getElem?_eq_getElem (by rw[Hly.out];exact hlt)];rfl
        obtain⟨x,hx'⟩:∃x,X[k]'(by rw[Hlx.out];exact hlt)=x:=⟨_,rfl⟩
        obtain⟨y,hy'⟩:∃y,Y[k]'(by rw[Hly.out];exact hlt)=y:=⟨_,rfl⟩
        rw[hx']at hr hX;rw[hy']at hr2 hY;have HX:=Lib.hid hX;have HY:=Lib.hid hY;clear hX hY;have HX':=Lib.hid hx';have HY':=Lib.hid hy';clear hx' hy';go_upto_region 6 with fail
        refine zA (Bel wr) false (by kernel_rfl) (by kernel_rfl) (by kernel_rfl) (zC wr) ?_;have hne:=zQ wr;have hS:=zC wr;have b1:=zY hr;have b2:=zY hr2;repeat(refine z6 ?_ ?_;(focus(simp only[z3];done));intro K hK;go_simp;refine hK _ ?_;clear hK K)
        refine zK ?_;intro hS;clear hne hS b1 b2 hr hr2;have hb':Below w.heap.size w wr.drew:=hb.drew;cases hpe:bR x y with
        | true =>
          have e:=(vX x y).1 hpe;have E:=Lib.hid e;clear e;(go_wp2_with fail);go_roundw
          case rel=>exact⟨k+1,by omega,by go_num,(show X.take (k+1)=Y.take (k+1) by rw[HX.out,HY.out,heq.out,E.out]),hb'⟩
          case measure=>simp[intOf];omega
        | false =>
          have hne:X≠Y:=by
            intro e;subst e;have:x=y:=HX'.out.symm.trans HY'.out;rw[(vX x y).2 this]at hpe;cases hpe
          have hd:=Lib.hid (decide_eq_false hne);clear hne;(go_wp2_with fail);go_ret;exact⟨zS (by rw[hd.out]),hb'⟩
      · have hkn:k=n:=by omega
        have e:X=Y:=by
          have:=heq.out
          rwa [List.take_of_length_le (by rw[Hlx.out];omega),List.take_of_length_le (by rw[Hly.out];omega)]at this
        have E:=Lib.hid (decide_eq_true e);clear e hkn;(go_wp2_with fail);go_ret;exact⟨zS (by rw[E.out]),hb⟩
  · have hne:X≠Y:=by intro e;subst e;exact hnm (hlx.symm.trans hly)
    have hd:=Lib.hid (decide_eq_false hne);have hnm2:(n==m)=false:=by simpa using hnm
    have hnm3:((n:Int)==(m:Int))=false:=by rw[beq_eq_false_iff_ne];omega
    clear hlx hly hne;go_enter Tryz.func61,Tryz.ntmps61
    (go_wp2_with fail);go_ret;exact⟨zS (by rw[hd.out]),Below.refl _ _⟩
section
open Go.RowKit Go.Sort Go.Shelf
instance:Inhabited xZ:=⟨gN⟩
@[go_sem ↓] theorem eqPair_run (x y:xZ) (w:World):(Op.equalIn 10000 122 (.agg (zN x)) (.agg (zN y))).run Tryz.prog w = .ok (bR x y) w:=ZK x y w
def yG (x y:xZ):Int:=orL [xP x.key y.key,xP x.val y.val]
theorem jH:j8 yG:=(pO.pair pO).of (fun x:xZ=>(x.key,x.val)) (fun x y h=>by
  cases x;cases y
  simp only[Prod.mk.injEq]at h;obtain⟨h1,h2⟩:=h;subst h1;subst h2;rfl) (fun x y=>orL2 _ _)
theorem Own.hi_at {P:Program} {T E:TypeId} {k bytes:Nat} (I:yY P T E k bytes) {w:World} {B g n cap:Nat} {L:List (Array Value)} (h:Own w B E k (some ⟨g,0,none⟩) n cap L) {m:Nat} (hm:m<n) (w0:World) :
    (slS T (.slice (some ⟨g,0,none⟩) n cap) (some (.int .i64 m)) none none).run P w0 = .ok (.slice (some ⟨g,m*k,none⟩) (n-m) (cap-m)) w0:=by
  have hA:=h.cap_le;rw[dD I];unfold Instr.slice Instr.sliceBounds;simp only[Sem.run_bind,run_underlying I.und,Result.andThen_ok,Sem.run_pure,kN w0 m n (Nat.le_of_lt hm),I.sizeOf_run w0,Option.isSome_none,Bool.false_eq_true,if_false];rw[if_neg (by omega)];congr 2
  show some ((⟨g,0,none⟩:Addr).add (m*k))=_;unfold Addr.add;split <;> simp_all
theorem Own.get {α:Type} [Inhabited α] {enc:α->Array Value} {w:World} {B g n cap k:Nat} {E:TypeId} {d:Array α} (h:Own w B E k (some ⟨g,0,none⟩) n cap (d.toList.map enc)) {j:Nat} (hj:j<n):z9 w g (j*k) k=some (enc d[j]!):=by
  have hl:d.size=n:=by simpa using h.len
  obtain⟨q,o,e,hr⟩:=h.slr.at_ hj;injection e with e;injection e with e1 e2
  subst e1;subst e2;rw[Nat.zero_add]at hr;rw[hr,List.getElem_map,getElem!_pos d j (by omega)]
  simp
theorem aE (w:World) (B g n cap:Nat) (R:List xZ) (hown:Own w B 122 2 (some ⟨g,0,none⟩) n cap (R.map zN)) (hn:n<=1000000) (hs:R.Pairwise (fun x y=>¬yG y x<0)) :
    Calls Tryz.prog 135 #[.slice (some ⟨g,0,none⟩) n cap] w fun e w'=>e = .returned (.slice (some ⟨g,0,none⟩) (yF yG R).length cap)/\Own w' B 122 2 (some ⟨g,0,none⟩) (yF yG R).length cap ((yF yG R).map zN)/\z4 [g] w w':=by
  have hlen:R.length=n:=by simpa using hown.len
  rw[<-iD jH R hs];obtain⟨d,hd⟩:∃d,R.toArray=d:=⟨_,rfl⟩
  have hRd:R=d.toList:=by rw[<-hd]
  have hdn:d.size=n:=by rw[<-hd];simpa using hlen
  have hcd:Lib.compact R=Lib.compactUpTo d n:=by unfold Lib.compact;rw[hd,hlen]
  rw[hcd];rw[hRd]at hown;have hfin:(∀j,j<n->Lib.keeps d j=true)->Lib.compactUpTo d n=d.toList:=fun h=>by
    rw[Lib.compactUpTo_all d n h,<-hdn];exact Lib.range_map_get d
  have Hdn:=Lib.hid hdn;clear hd hRd hcd hs hlen hdn;have hgl:g<w.heap.size:=(hown.at_base (x:=g) (by simp[blk])).2;go_enter Tryz.func135,Tryz.ntmps135
  by_cases h2:n<2
  · have he:=hfin (fun j hj=>by
      have:j=0:=by
        by_cases h1:j=0
        · exact h1
        · have hj1:j=1:=by omega
          omega
      subst this;simp[Lib.keeps])
    have He:=Lib.hid he;clear he hfin;(go_wp2_with fail);go_ret;rw[He.out];have hl:d.toList.length=n:=by rw[Array.length_toList];exact Hdn.out
    exact⟨by rw[hl];rfl,by rw[hl];exact hown,z4.refl _ _⟩
  · (go_wp2_with fail);go_loopw [3] (fun i wr=>∃k:Nat,1<=k/\k<=n/\i = .int .i64 k/\Hid (∀j,j<k->Lib.keeps d j=true)/\Below w.heap.size w wr) (fun i _=>n-(intOf i).toNat)
    case atStart=>exact⟨1,Nat.le_refl _,by omega,rfl,(show ∀j,j<1->_ from Lib.keeps_lt_one d),Below.refl _ _⟩
    case round =>
      obtain⟨k,hk1,hk,rfl,hall,hb⟩:=hrel;have hownr:=hown.below hb;by_cases hlt:k<n
      · have hr1:=hownr.get hlt;have hr2:=hownr.get (j:=k-1) (by omega);obtain⟨x,hx⟩:∃x,d[k]! = x:=⟨_,rfl⟩
        obtain⟨y,hy⟩:∃y,d[k-1]! = y:=⟨_,rfl⟩
        rw[hx]at hr1;rw[hy]at hr2;obtain⟨k1,hkk⟩:∃k1,k-1=k1:=⟨_,rfl⟩
        have hk1':((k:Int)-1)=(k1:Int):=by omega
        have hk1n:k1<n:=by omega
        have hwr:IntKind.i64.wrap (k1:Int)=(k1:Int):=IntWalk.i64_in _ (by omega);rw[hkk]at hr2;obtain⟨eb,heb⟩:∃eb,bR x y=eb:=⟨_,rfl⟩
        have Heb:=Lib.hid heb;have Hx:=Lib.hid hx;have Hy:=Lib.hid hy;have Hkk:=Lib.hid hkk;clear hx hy hkk;go_upto_region 6 with fail
        refine zA (Bel wr) false (by kernel_rfl) (by kernel_rfl) (by kernel_rfl) (zC wr) ?_;have hne:=zQ wr;have hS:=zC wr;have b1:=zY hr1;have b2:=zY hr2;repeat(refine z6 ?_ ?_;(focus(simp only[z3];done));intro K hK;go_simp;refine hK _ ?_;clear hK K)
        refine zK ?_;intro hS;have hb':Below w.heap.size w wr.drew:=hb.drew;have hown':Own wr.drew B 122 2 (some ⟨g,0,none⟩) n cap (d.toList.map zN):=hownr.kept (z4.drew wr) (by simp);clear hne hS b1 b2 hr1 hr2 heb hb hownr;obtain⟨W,hW⟩:∃W,wr.drew=W:=⟨_,rfl⟩
        rw[hW]at hb' hown' |-;clear hW;cases eb with
        | false =>
          have hne:d[k]!≠d[k-1]!:=by
            rw[Hx.out,Hy.out];intro e;have:=(vX x y).2 e;rw[Heb.out]at this;cases this
          have hkp:=Lib.keeps_pos hne;have Hkp:=Lib.hid hkp;clear hne hkp;(go_wp2_with fail);go_roundw
          case rel=>exact⟨k+1,by omega,by omega,by go_num,(show ∀j,j<k+1->Lib.keeps d j=true from fun j hj=>by
            by_cases e:j=k
            · rw[e];exact Hkp.out
            · exact hall.out j (by omega)),hb'⟩
          case measure=>simp[intOf];omega
        | true =>
          have heq:d[k]! = d[k-1]!:=by rw[Hx.out,Hy.out];exact(vX x y).1 Heb.out
          have hinv:=Lib.CompInv.start hall.out (Lib.keeps_neg (by omega) heq);have Hinv:=Lib.hid hinv;have hsl:=fun w0=>hown'.hi_at (P:=Tryz.prog) yL hlt w0;clear heq hinv;(go_wp2_with fail);go_loopw [3,5] (fun kv iv ws=>∃(k2 kk:Nat) (dk:Array xZ),1<=k2/\k2<=n-k/\iv = .int .i64 k2/\kv = .int .i64 kk/\Hid (Lib.CompInv d (k+k2) kk dk)/\Own ws B 122 2 (some ⟨g,0,none⟩) n cap (dk.toList.map zN)/\z4 [g] w ws/\kk<k+k2) (fun _ iv _=>(n-k)-(intOf iv).toNat)
          case atStart=>exact⟨1,k,d,Nat.le_refl _,by omega,rfl,rfl,Hinv,hown',(z4.of_below hb').mono (by simp),by omega⟩
          case round =>
            obtain⟨k2,kk,dk,hk21,hk2n,rfl,rfl,hinv,hownk,hkw,hkk2⟩:=hrel;by_cases hlt2:k2<n-k
            · have hdk:dk.size=n:=by simpa using hownk.len
              have hr1:=hownk.get (j:=k+k2) (by omega);have hr2:=hownk.get (j:=k+k2-1) (by omega);obtain⟨x2,hx2⟩:∃x2,dk[k+k2]! = x2:=⟨_,rfl⟩
              obtain⟨y2,hy2⟩:∃y2,dk[k+k2-1]! = y2:=⟨_,rfl⟩
              have hdx:d[k+k2]! = x2:=by rw[<-hx2];exact(hinv.out.high _ (by omega)).symm
              have hdy:d[k+k2-1]! = y2:=by rw[<-hy2];exact(hinv.out.high _ (by omega)).symm
              rw[hx2]at hr1;rw[hy2]at hr2;obtain⟨j1,hj1⟩:∃j1,k2-1=j1:=⟨_,rfl⟩
              have hj1':((k2:Int)-1)=(j1:Int):=by omega
              have hj1n:j1<n-k:=by omega
              have hwr1:IntKind.i64.wrap (j1:Int)=(j1:Int):=IntWalk.i64_in _ (by omega);rw[show k+k2-1=k+j1 by omega,Nat.add_mul]at hr2;rw[Nat.add_mul]at hr1;obtain⟨nb,hnb⟩:∃nb,bR x2 y2=nb:=⟨_,rfl⟩
              have Hnb:=Lib.hid hnb;have Hdx:=Lib.hid hdx;have Hdy:=Lib.hid hdy;have Hj1:=Lib.hid hj1;have Hdk:=Lib.hid hdk;clear hx2 hy2 hj1 hdx hdy hdk;go_upto_region 11 with fail
              refine zA (Bel wr) false (by kernel_rfl) (by kernel_rfl) (by kernel_rfl) (zC wr) ?_;have hne:=zQ wr;have hS:=zC wr;have b1:=zY hr1;have b2:=zY hr2;repeat(refine z6 ?_ ?_;(focus(simp only[z3];done));intro K hK;go_simp;refine hK _ ?_;clear hK K)
              refine zK ?_;intro hS;have hkw':z4 [g] w wr.drew:=z4.trans hkw (z4.drew wr) (by simp);have hownk':Own wr.drew B 122 2 (some ⟨g,0,none⟩) n cap (dk.toList.map zN):=hownk.kept (z4.drew wr) (by simp);have hr1':z9 wr.drew g (k*2+k2*2) 2=some (zN x2):=hr1;clear hne hS b1 b2 hr1 hr2 hnb hkw hownk;obtain⟨W2,hW2⟩:∃W2,wr.drew=W2:=⟨_,rfl⟩
              rw[hW2]at hkw' hownk' hr1' |-;clear hW2;cases nb with
              | true =>
                have heq:d[k+k2]! = d[k+k2-1]!:=by rw[Hdx.out,Hdy.out];exact(vX x2 y2).1 Hnb.out
                have hsk:=hinv.out.skip (Lib.keeps_neg (by omega) heq);have Hsk:=Lib.hid hsk;clear heq hsk;(go_wp2_with fail);go_roundw
                case rel=>exact⟨k2+1,kk,dk,by omega,by omega,by go_num,rfl,(show Lib.CompInv d (k+(k2+1)) kk dk from Hsk.out),hownk',hkw',by omega⟩
                case measure=>simp[intOf];omega
              | false =>
                have hneq:d[k+k2]!≠d[k+k2-1]!:=by
                  rw[Hdx.out,Hdy.out];intro e;have:=(vX x2 y2).2 e;rw[Hnb.out]at this;cases this
                have hkp:=hinv.out.keep (by rw[Hdn.out];omega) (Lib.keeps_pos hneq);rw[Hdx.out]at hkp;have Hkp:=Lib.hid hkp;clear hneq hkp;obtain⟨w7,hst,hown7,hk7⟩:=pU yL hownk' (i:=kk) (by omega) (cs:=zN x2) (by simp) (xQ x2);have hl7:(dk.toList.map zN).set kk (zN x2)=(dk.setIfInBounds kk x2).toList.map zN:=by
                  rw[Array.toList_setIfInBounds,List.map_set]
                rw[hl7]at hown7;have hkw7:=z4.trans hkw' hk7 (fun x hx=>.inl hx);have hkn:kk<n:=by omega
                clear hl7 hk7 hownk';(go_wp2_with fail);go_roundw
                case rel=>exact⟨k2+1,kk+1,_,by omega,by omega,by go_num,by go_num,(show Lib.CompInv d (k+(k2+1)) (kk+1) _ from Hkp.out),hown7,hkw7,by omega⟩
                case measure=>simp[intOf];omega
            · have hm:k+k2=n:=by omega
              have hinv':=hinv.out;rw[hm]at hinv';have hkn:kk<n:=by have:=hinv'.lt;omega
              have hdk:dk.size=n:=by simpa using hownk.len
              have hcu:dk.toList.take kk=Lib.compactUpTo d n:=by
                apply List.ext_getElem?;intro j;by_cases hj:j<kk
                · rw[hinv'.low j hj,List.getElem?_take,if_pos hj,Array.getElem?_toList,getElem!_pos dk j (by omega),Array.getElem?_eq_getElem (by omega)]
                · rw[List.getElem?_eq_none (by simp;omega),List.getElem?_eq_none (by rw[hinv'.len];omega)]
              obtain⟨A2,c2,hsl2,w8,hclr,hown8,hk8⟩:=ym yL (z:=.agg (zN gN)) (by kernel_rfl) (xQ gN) hownk (m:=kk) (by omega) 0;rw[<-List.map_take,hcu]at hown8;have hlk:(Lib.compactUpTo d n).length=kk:=hinv'.len;have hlo:=fun w0=>SlW.lo (P:=Tryz.prog) yL hownk.slw (m:=kk) (by omega) w0;have hkf:=z4.trans hkw hk8 (fun x hx=>.inl hx);have Hlk:=Lib.hid hlk;have Hown8:=Lib.hid hown8;clear hcu hinv' hlk hown8 hdk hm hk8 hownk;(go_wp2_with fail);go_ret;exact⟨by rw[Hlk.out];rfl,by rw[Hlk.out];exact Hown8.out,hkf⟩
      · have he:=hfin (fun j hj=>hall.out j (by omega));have He:=Lib.hid he;clear he hfin;(go_wp2_with fail);go_ret;rw[He.out];have hl:d.toList.length=n:=by rw[Array.length_toList];exact Hdn.out
        exact⟨by rw[hl];rfl,by rw[hl];exact hownr,(z4.of_below hb).mono (by simp)⟩
end
section
open Go.RowKit Go.Sort Go.Shelf
def nN (S:List xZ):List xZ:=S.mergeSort fun x y=>!(ltOf yG y x)
theorem ka (S:List xZ):(nN S).Pairwise (fun x y=>¬yG y x<0):=by
  have htot:∀a b:xZ,((!ltOf yG b a) || !ltOf yG a b)=true:=fun a b=>by
    unfold ltOf;by_cases h1:yG b a<0
    · have:=jH.asym h1;simp[this]
    · simp[h1]
  have htr:∀a b d:xZ,(!ltOf yG b a)=true->(!ltOf yG d b)=true->(!ltOf yG d a)=true:=fun a b d h1 h2=>by
    unfold ltOf at *;simp only[Bool.not_eq_true',decide_eq_false_iff_not]at h1 h2 |-;intro h3;exact h2 (jH.le_trans (a:=d) (b:=a) (d:=b) (jH.asym h3) (by
      by_cases e:a=b
      · subst e;exact absurd h3 h2
      · exact jH.flip h1 (fun e'=>e e'.symm)))
  exact List.Pairwise.imp (fun {a b} h=>by simpa[ltOf]using h) (List.pairwise_mergeSort htr htot S)
theorem cZ (S:List xZ):(nN S).Perm S:=List.mergeSort_perm _ _
theorem xy (w:World):(isAgg 122).run Tryz.prog w = .ok true w:=by simp[isAgg,run_underlying Tryz.underlying122]
theorem JV (w:World):(Go.sizeOf 122).run Tryz.prog w = .ok 2 w:=by
  have h:=eS;cases hi:Tryz.prog.info? 122 with
  | none=>rw[hi]at h;cases h
  | some i =>
    rw[hi]at h;have hk:i.size=2:=by simpa using h
    simp[Go.sizeOf,typeInfo,hi,hk]
theorem J0 (w:World) (cap:Nat):Calls Tryz.prog 135 #[.slice none 0 cap] w fun e w'=>e = .returned (.slice none 0 cap)/\w=w':=by
  go_enter Tryz.func135,Tryz.ntmps135
  (go_wp2_with fail);go_ret;exact⟨rfl,rfl⟩
def mpair (x:j6):xZ:=⟨x.key,x.val⟩
def kY (X:List j6):List xZ:=yF yG (X.map mpair)
theorem Z6 (X:List j6):(kY X).length<=X.length:=by have:=qF (c:=yG) (X.map mpair);simpa[kY]using this
end
def mD (N:List zT) (G:List zJ):List xZ:=(fZ N G).map fun v=>⟨⟨#[]⟩,v⟩
theorem xt {N:List zT} {G:List zJ} (hf:fJ N):(mD N G).length<=N.length:=by
  unfold mD fZ;rw[List.length_map,List.length_map];exact Nat.le_trans (List.length_filter_le _ _) (fL hf)
@[go_sem] theorem buildPair_v (v:ByteArray) (w:World):(bdS 122 #[(1,.string v)]).run Tryz.prog w = .ok (.agg (zN ⟨⟨#[]⟩,v⟩)) w:=by kernel_rfl
def pS (T:List zT) (G:List zJ):List xZ:=((T.filter fun n=>decide (n.id∉G)).map zT.val).map fun v=>⟨⟨#[]⟩,v⟩
theorem B5 (T:List zT) (G:List zJ) (c:zT):pS (T ++ [c]) G=if c.id∈G then pS T G else pS T G ++ [⟨⟨#[]⟩,c.val⟩]:=by
  unfold pS;rw[List.filter_append];by_cases e:c.id∈G <;> simp[e]
theorem ki (T:List zT) (G:List zJ):(pS T G).length<=T.length:=by
  unfold pS;rw[List.length_map,List.length_map];exact List.length_filter_le _ _
inductive VSt where
  | t (n:Int)
  | b (L G:List xH)
  | l (L:List bB)
  | m (X:List j6) (O:List zJ)
  | s (N:List zT) (G:List zJ)
def VSt.kind:VSt->Int
  | .t _=>1
  | .b ..=>2
  | .l _=>3
  | .m ..=>4
  | .s ..=>5
def VSt.len:VSt->Nat
  | .t _=>0
  | .b L _=>L.length
  | .l L=>L.length
  | .m X _=>X.length
  | .s N _=>N.length
def doS (m:zG) (o:OpV):VSt->VSt
  | .t n=>.t (wrap64 (n+o.n))
  | .b L G=>if o.k=2 then .b (aI L G ⟨m.id,o.val⟩) G else .b (a8 L o.val o.refs) (a9 G o.val o.refs)
  | .l L=>.l (iZ L o.key ⟨o.val,o.n,m.id⟩)
  | .m X Ov=>.m (zn X Ov ⟨m.id,o.key,o.val⟩ o.refs) (cY Ov o.refs)
  | .s N G=>if o.k=6 then .s (aH N ⟨m.id,m.h,o.ref,o.val⟩) G else .s N (xU zO G o.ref)
theorem iC (m:zG) (o:OpV) (L G:List xH) (h:o.k=2):doS m o (.b L G) = .b (aI L G ⟨m.id,o.val⟩) G:=if_pos h
theorem iB (m:zG) (o:OpV) (L G:List xH) (h:¬o.k=2):doS m o (.b L G) = .b (a8 L o.val o.refs) (a9 G o.val o.refs):=if_neg h
theorem iA (m:zG) (o:OpV) (N:List zT) (G:List zJ) (h:o.k=6):doS m o (.s N G) = .s (aH N ⟨m.id,m.h,o.ref,o.val⟩) G:=if_pos h
theorem i9 (m:zG) (o:OpV) (N:List zT) (G:List zJ) (h:¬o.k=6):doS m o (.s N G) = .s N (xU zO G o.ref):=if_neg h
theorem QZ (m:zG) (o:OpV) (s:VSt):(doS m o s).kind=s.kind:=by
  cases s <;> simp only[doS] <;> (try split) <;> rfl
theorem cR (v:ByteArray):∀(T:List zJ) (L:List xH),(a8 L v T).length<=L.length
  | [],L=>Nat.le_refl _
  | t :: T,L=>Nat.le_trans (cR v T _) (List.length_filter_le _ _)
theorem BL (m:zG) (o:OpV) (s:VSt):(doS m o s).len<=s.len+1:=by
  cases s with
  | t n=>exact Nat.zero_le _
  | b L G =>
    by_cases h:o.k=2
    · rw[iC m o L G h];show(aI L G ⟨m.id,o.val⟩).length<=L.length+1;unfold aI;have:=jX (c:=x8) L ⟨m.id,o.val⟩
      repeat' split
      all_goals omega
    · rw[iB m o L G h];show(a8 L o.val o.refs).length<=L.length+1;have:=cR o.val o.refs L;omega
  | l L=>exact rV _ _ _
  | m X Ov =>
    show(zn X Ov ⟨m.id,o.key,o.val⟩ o.refs).length<=X.length+1;unfold zn VT;exact Nat.le_trans (List.length_filter_le _ _) (jX (c:=vN) X _)
  | s N G =>
    by_cases h:o.k=6
    · rw[iA m o N G h];show(aH N ⟨m.id,m.h,o.ref,o.val⟩).length<=N.length+1;unfold aH;repeat' split
      all_goals simp
    · rw[i9 m o N G h];exact Nat.le_succ N.length
structure OpFit (s:VSt) (o:OpV):Prop where
  kind:k7 o.k=s.kind
  key:o.key.size<=16
  val:o.val.size<=16
  refs:o.refs.length<=8
  lo:-2147483648<=o.n
  hi:o.n<2147483648
def VSt.num:VSt->Int
  | .t n=>n
  | _=>0
def VSt.pairs:VSt->List xZ
  | .t _=>[]
  | .b L _=>(kD L).map gM
  | .l L=>L.map tI
  | .m X _=>kY X
  | .s N G=>mD N G
abbrev q9 (w:World) (A:Option Addr) (n:Nat) (R:List zG):Prop:=SlR w A n 34 (R.map zL)
theorem q9.get {w:World} {A:Option Addr} {n:Nat} {R:List zG} (h:q9 w A n R) {i:Nat} (hi:i<n) (hR:i<R.length) :
    ∃g o,A=some ⟨g,o,none⟩/\z9 w g (o+i*34) 34=some (zL R[i])/\z9 w g (o+i*34) 32=some (idC (R[i]).id)/\w.cell? ⟨g,o+i*34+33,none⟩=some (.string (R[i]).body):=by
  obtain⟨g,o,e,hr⟩:=SlR.at_ h hi;rw[List.getElem_map]at hr;refine⟨g,o,e,hr,?_,?_⟩
  · have:=zV hr (j:=0) (m:=32) (by omega)
    rwa [jM]at this
  · have:=z8 hr (j:=33) (by omega)
    rwa [mY]at this
theorem q9.len {w:World} {A:Option Addr} {n:Nat} {R:List zG} (h:q9 w A n R):R.length=n:=by simpa using h.1
structure MarksOk (w:World) (A:Option Addr) (n:Nat) (R:List zG):Prop where
  rows:q9 w A n R
  big:n<=9223372036854775807
  each:∀a∈R,a.body.size<=9223372036854775807
def FewMarks (R:List zG):Prop:=R.length<=30/\∀a∈R,a.body.size<=600
def VSt.new (k:Int):VSt:=if k=1 then .t 0 else if k=2 then .b [] []else if k=3 then .l []else if k=4 then .m [] []else .s [] []
theorem fU (t:ByteArray):yO t=0\/yO t=1\/yO t=2\/yO t=3\/yO t=4\/yO t=5:=by
  unfold yO s4
  repeat' split
  all_goals simp
theorem kt (l:List UInt8) (h:opE l=0):-2147483648<=(opO l).n:=by
  have hn:=fF l h;have hk:1<=xO 1 l 0/\xO 1 l 0<=7:=by
    unfold opE at h;split at h
    · contradiction
    split at h
    · cases h
    · omega
  have h2:=Q2 (xO 1 l 0) (yS 1 l 0) 0 hk.1 hk.2;have e:(yT (xO 1 l 0) (yS 1 l 0) 0).o=opO l:=rfl;rw[e,decide_eq_true hn.2.2.2.2.2.2.2]at h2;unfold aB at h2;simp only[Bool.and_eq_true,decide_eq_true_eq]at h2;exact h2.2.2
def t7 (t:ByteArray) (m:zG) (s:VSt):VSt:=if kE t m then doS m (opO m.body.data.toList) s else s
theorem K0 (t:ByteArray) (m:zG) (s:VSt):(t7 t m s).kind=s.kind:=by
  unfold t7;split
  · exact QZ _ _ _
  · rfl
theorem qe (t:ByteArray) (m:zG) (s:VSt):(t7 t m s).len<=s.len+1:=by
  unfold t7;split
  · exact BL _ _ _
  · omega
theorem q7 (a:bB) (l:List bB) (k:ByteArray):bT (a :: l) k=if a.1=k then some a.2 else bT l k:=by
  unfold bT;rw[List.find?_cons];by_cases h:a.1=k <;> simp[h]
theorem tT:∀(l:List bB) (k k':ByteArray) (x:xJ),k≠k'->bT (gS l k x) k'=bT l k'
  | [],k,k',x,h=>by simp[gS,bT,h]
  | a :: l,k,k',x,h=>by
    unfold gS;split
    · rw[q7,q7,tT l k k' x h]
    · split
      · rename_i he
        split
        · rw[q7,q7];simp only;rw[if_neg h,if_neg (fun e=>h (he.symm.trans e))]
        · rfl
      · rw[q7];simp only;rw[if_neg h]
theorem p9 {l:List bB} {k:ByteArray} (h:∀y∈l,xP k y.1<0):bT l k=none:=by
  unfold bT;rw[Option.map_eq_none_iff,List.find?_eq_none];intro y hy e;have:=h y hy;have e':y.1=k:=by simpa using e
  rw[e']at this;exact J1 this
theorem mE:∀(l:List bB) (k:ByteArray) (x:xJ),gY l->bT (gS l k x) k=some (match bT l k with | none=>x | some was=>if 0<vJ x was then x else was)
  | [],k,x,_=>by simp[gS,bT]
  | a :: l,k,x,hr=>by
    unfold gS;split
    · rename_i hlt
      have hne:a.1≠k:=fun e=>(by rw[e]at hlt;exact J1 hlt);rw[q7,q7,if_neg hne,if_neg hne];exact mE l k x hr.2
    · rename_i hnl
      split
      · rename_i he
        rw[q7 a l,if_pos he];split
        · rename_i h0;rw[q7];simp[h0]
        · rename_i h0;rw[q7,if_pos he];simp[h0]
      · rename_i he
        rw[q7];simp only[if_true];rw[q7,if_neg he,p9];intro y hy;exact fI _ _ _ (YV hnl he) (hr.1 y hy)
theorem yr {a b c:Int}:orL [a,b,c]=0↔a=0/\b=0/\c=0:=by
  simp only[orL]
  repeat' split
  all_goals simp_all
theorem lT {a b:Int}:vK a b=0↔a=b:=by
  unfold vK
  repeat' split
  all_goals first | (simp;omega) | (constructor <;> intro h <;> omega)
theorem qp (a b:Int):vK b a = - vK a b:=by
  unfold vK
  repeat' split
  all_goals first | omega | simp
theorem KB {a b c:Int} (h:vK a b<0) (k:vK b c<0):vK a c<0:=by
  have h1:a<b:=by unfold vK at h;repeat' split at h
                  all_goals first | assumption | omega
  have h2:b<c:=by unfold vK at k;repeat' split at k
                  all_goals first | assumption | omega
  unfold vK;rw[if_pos (by omega)];omega
theorem dJ {x y:xJ}:vJ x y=0↔x=y:=by
  unfold vJ;rw[yr,lT,jO,fH];constructor
  · rintro⟨h1,h2,h3⟩;cases x;cases y;simp_all
  · rintro rfl;simp
theorem kp (a b c:Int):orL [-a,-b,-c] = - orL [a,b,c]:=by
  simp only[orL]
  repeat' split
  all_goals first | omega | simp
theorem dK (x y:xJ):vJ y x = - vJ x y:=by
  unfold vJ;rw[qp,bH,rI,kp]
theorem orL3_lt {a b c:Int}:orL [a,b,c]<0↔a<0\/a=0/\(b<0\/b=0/\c<0):=by
  simp only[orL]
  repeat' split
  all_goals (constructor <;> intro h <;> omega)
theorem YU {x y z:xJ} (h:vJ x y<0) (k:vJ y z<0):vJ x z<0:=by
  unfold vJ at *;rw[orL3_lt]at *;rcases h with h | ⟨h1,h | ⟨h2,h⟩⟩
  · rcases k with k | ⟨k1,_⟩
    · exact .inl (KB h k)
    · rw[lT]at k1;rw[<-k1];exact .inl h
  · rw[lT]at h1;rw[h1];rcases k with k | ⟨k1,k | ⟨k2,k⟩⟩
    · exact .inl k
    · exact .inr ⟨k1,.inl (tZ _ _ _ h k)⟩
    · rw[jO]at k2;rw[<-k2];exact .inr ⟨k1,.inl h⟩
  · rw[lT]at h1;rw[jO]at h2;rw[h1,h2];rcases k with k | ⟨k1,k | ⟨k2,k⟩⟩
    · exact .inl k
    · exact .inr ⟨k1,.inl k⟩
    · exact .inr ⟨k1,.inr ⟨k2,fI _ _ _ h k⟩⟩
def maxS (o:Option xJ) (x:xJ):xJ:=match o with | none=>x | some was=>if 0<vJ x was then x else was
theorem xl (x:xJ):maxS none x=x:=rfl
theorem xj (u x:xJ):maxS (some u) x=if 0<vJ x u then x else u:=rfl
theorem cL:∀ {L L':List bB},gY L->gY L'->(∀k,bT L k=bT L' k)->L=L'
  | [],[],_,_,_=>rfl
  | [],b :: l',_,_,h=>by
    have:=h b.1;rw[q7,if_pos rfl]at this;cases this
  | a :: l,[],_,_,h=>by
    have:=h a.1;rw[q7,if_pos rfl]at this;cases this
  | a :: l,b :: l',h1,h2,h=>by
    have ha:=h a.1;have hb:=h b.1;rw[q7,if_pos rfl]at ha;rw[q7 (a:=b),if_pos rfl]at hb;have hk:a.1=b.1:=by
      by_cases hlt:xP a.1 b.1<0
      · have:bT (b :: l') a.1=none:=p9 (fun y hy=>by
          rcases List.mem_cons.1 hy with e | hy
          · rw[e];exact hlt
          · exact fI _ _ _ hlt (h2.1 y hy))
        rw[this]at ha;cases ha
      · by_cases he:a.1=b.1
        · exact he
        · have hlt2:=YV hlt he;have:bT (a :: l) b.1=none:=p9 (fun y hy=>by
            rcases List.mem_cons.1 hy with e | hy
            · rw[e];exact hlt2
            · exact fI _ _ _ hlt2 (h1.1 y hy))
          rw[this]at hb;cases hb
    rw[q7,if_pos hk.symm]at ha;have hv:a.2=b.2:=by injection ha
    have hab:a=b:=Prod.ext hk hv;subst hab;congr 1
    refine cL h1.2 h2.2 fun k=>?_;by_cases e:a.1=k
    · subst e;rw[p9 h1.1,p9 h2.1]
    · have:=h k
      rwa [q7,q7,if_neg e,if_neg e]at this
theorem YP {l:List bB} {k:ByteArray} {x:xJ} (h:gY l):bT (gS l k x) k=some (maxS (bT l k) x):=by
  rw[mE l k x h];cases bT l k <;> rfl
def oOf (m:zG):OpV:=opO m.body.data.toList
def vA (m:zG):xJ:=⟨(oOf m).val,(oOf m).n,m.id⟩
def jU (m:zG):zT:=⟨m.id,m.h,(oOf m).ref,(oOf m).val⟩
def mK (m:zG):j6:=⟨m.id,(oOf m).key,(oOf m).val⟩
def sF (F:List zG):Int:=(F.map fun m=>(oOf m).n).sum
theorem BZ (F:List zG) (m:zG):sF (F ++ [m])=sF F+(oOf m).n:=by simp[sF]
theorem zi {F F':List zG} (h:F.Perm F'):sF F=sF F':=by
  unfold sF;induction h with
  | nil=>rfl
  | cons x _ ih=>simp only[List.map_cons,List.sum_cons,ih]
  | swap x y l=>simp only[List.map_cons,List.sum_cons];omega
  | trans _ _ h1 h2=>rw[h1,h2]
theorem X3 (a b:Int):wrap64 (wrap64 a+b)=wrap64 (a+b):=by unfold wrap64;omega
def dU (F:List zG) (k:ByteArray):Option xJ->Prop
  | none=>∀m∈F,bU (oOf m).key (vA m)=0->(oOf m).key≠k
  | some s=>(∃m∈F,bU (oOf m).key (vA m)=0/\(oOf m).key=k/\s=vA m)/\∀m∈F,bU (oOf m).key (vA m)=0->(oOf m).key=k->¬0<vJ (vA m) s
def fA (F:List zG):VSt->Prop
  | .t n=>n=wrap64 (sF F)
  | .b L G=>Ris x8 L/\Ris x8 G/\(∀z,z∈G↔∃m∈F,(oOf m).k≠2/\z.val=(oOf m).val/\z.tag∈(oOf m).refs)/\∀z,z∈L↔(∃m∈F,(oOf m).k=2/\z=⟨m.id,(oOf m).val⟩)/\z∉G
  | .l L=>iO L/\∀k,dU F k (bT L k)
  | .m X O=>Ris vN X/\Ris zO O/\(∀z,z∈O↔∃m∈F,z∈(oOf m).refs)/\∀z,z∈X↔(∃m∈F,z=mK m)/\z.id∉O
  | .s N G=>(∀z,z∈N↔∃m∈F,(oOf m).k=6/\z=jU m/\g6 z=0)/\Ris zO G/\∀z,z∈G↔∃m∈F,(oOf m).k≠6/\z=(oOf m).ref
theorem vZ {F:List zG} {m:zG} {P:zG->Prop}:(∃a∈F ++ [m],P a)↔(∃a∈F,P a)\/P m:=by
  constructor
  · rintro⟨a,ha,hp⟩;rcases List.mem_append.1 ha with h | h
    · exact .inl ⟨a,h,hp⟩
    · have e:a=m:=by simpa using h
      subst e;exact .inr hp
  · rintro(⟨a,ha,hp⟩ | hp)
    · exact⟨a,List.mem_append_left _ ha,hp⟩
    · exact⟨m,by simp,hp⟩
theorem kA {F:List zG} {m:zG} {P:zG->Prop}:(∀a∈F ++ [m],P a)↔(∀a∈F,P a)/\P m:=by
  constructor
  · intro h;exact⟨fun a ha=>h a (List.mem_append_left _ ha),h m (by simp)⟩
  · rintro⟨h1,h2⟩ a ha;rcases List.mem_append.1 ha with h | h
    · exact h1 a h
    · have e:a=m:=by simpa using h
      subst e;exact h2
theorem Z5 (k:Int):fA [] (VSt.new k):=by
  unfold VSt.new;split
  · show(0:Int)=wrap64 (sF []);decide +kernel
  split
  · exact⟨Ris.nil,Ris.nil,by simp,by simp⟩
  split
  · exact⟨⟨trivial,by simp⟩,fun k=>by show dU [] k none;intro m hm;simp at hm⟩
  split
  · exact⟨Ris.nil,Ris.nil,by simp,by simp⟩
  · exact⟨by simp,Ris.nil,by simp⟩
theorem Q9 {F:List zG} {m:zG} {L:List bB} (hr:gY L) (h:∀k,dU F k (bT L k)) (hc:bU (oOf m).key (vA m)=0) (k:ByteArray):dU (F ++ [m]) k (bT (gS L (oOf m).key (vA m)) k):=by
  by_cases hk:(oOf m).key=k
  · subst hk;rw[YP hr];have h1:=h (oOf m).key;cases hg:bT L (oOf m).key with
    | none =>
      rw[hg]at h1;rw[xl];refine⟨vZ.2 (.inr ⟨hc,rfl,rfl⟩),kA.2 ⟨fun a ha hca e=>absurd e (h1 a ha hca),fun _ _=>?_⟩⟩;rw[(dJ (x:=vA m)).2 rfl];omega
    | some u =>
      rw[hg]at h1;rw[xj];obtain⟨h2,h3⟩:=h1;by_cases hu:0<vJ (vA m) u
      · rw[if_pos hu];refine⟨vZ.2 (.inr ⟨hc,rfl,rfl⟩),kA.2 ⟨fun a ha hca e hlt=>?_,fun _ _=>?_⟩⟩
        · have h4:=h3 a ha hca e;have h5:=dK (vA a) (vA m);have h6:=dK (vA a) u;have h8:=dK (vA m) u;by_cases h7:vJ (vA a) u=0
          · rw[dJ.1 h7]at hlt;omega
          · have:=YU (x:=u) (y:=vA m) (z:=vA a) (by omega) (by omega);omega
        · rw[(dJ (x:=vA m)).2 rfl];omega
      · rw[if_neg hu];exact⟨vZ.2 (.inl h2),kA.2 ⟨h3,fun _ _=>hu⟩⟩
  · rw[tT _ _ _ _ hk];have h1:=h k;cases hg:bT L k with
    | none=>rw[hg]at h1;exact kA.2 ⟨h1,fun _=>hk⟩
    | some u =>
      rw[hg]at h1;exact⟨vZ.2 (.inl h1.1),kA.2 ⟨h1.2,fun _ e=>absurd e hk⟩⟩
theorem QA {F:List zG} {m:zG} {k:ByteArray} {o:Option xJ} (h:dU F k o) (hc:bU (oOf m).key (vA m)≠0):dU (F ++ [m]) k o:=by
  cases o with
  | none=>exact kA.2 ⟨h,fun e=>absurd e hc⟩
  | some u=>exact⟨vZ.2 (.inl h.1),kA.2 ⟨h.2,fun e=>absurd e hc⟩⟩
theorem Q3 {L G:List xH} {x z:xH} (hv:x.val.size<=16) (hr:Ris x8 L) (hl:∀y∈L,y∉G):z∈aI L G x↔(z∈L\/z=x)/\z∉G:=by
  unfold aI;rw[if_neg (by omega)];split
  · rename_i h
    constructor
    · intro hz;exact⟨.inl hz,hl z hz⟩
    · rintro⟨h1 | h1,h2⟩
      · exact h1
      · subst h1;exact absurd h h2
  · rename_i h
    rw[vE bD];constructor
    · rintro(h1 | h1)
      · subst h1;exact⟨.inr rfl,h⟩
      · exact⟨.inl h1,hl z h1⟩
    · rintro⟨h1 | h1,_⟩
      · exact .inr h1
      · exact .inl h1
theorem XT {L G:List xH} {x:xH} (hr:Ris x8 L):Ris x8 (aI L G x):=by
  unfold aI;split
  · exact hr
  · split
    · exact hr
    · exact vR bD hr
theorem eK {F:List zG} {m:zG} {s:VSt} (h:fA F s) (hv:(oOf m).val.size<=16) (hid:∀a∈F,a.id≠m.id):fA (F ++ [m]) (doS m (oOf m) s):=by
  cases s with
  | t n =>
    show wrap64 (n+(oOf m).n)=wrap64 (sF (F ++ [m]));have e:n=wrap64 (sF F):=h;rw[BZ,e,X3]
  | b L G =>
    obtain⟨h1,h2,h3,h4⟩:=h;by_cases hk:(oOf m).k=2
    · rw[iC m _ L G hk];refine⟨XT h1,h2,fun z=>?_,fun z=>?_⟩
      · rw[vZ,<-h3];exact⟨.inl,fun h=>h.elim id fun h=>absurd hk h.1⟩
      · rw[Q3 (x:=⟨m.id,(oOf m).val⟩) hv h1 (fun y hy=>((h4 y).1 hy).2),vZ,h4];constructor
        · rintro⟨⟨h5,_⟩ | h5,h6⟩
          · exact⟨.inl h5,h6⟩
          · exact⟨.inr ⟨hk,h5⟩,h6⟩
        · rintro⟨h5 | ⟨_,h5⟩,h6⟩
          · exact⟨.inl ⟨h5,h6⟩,h6⟩
          · exact⟨.inr h5,h6⟩
    · rw[iB m _ L G hk];refine⟨cM h1,cN h2,fun z=>?_,fun z=>?_⟩
      · rw[nR,vZ,h3];exact⟨fun h=>h.elim .inl fun h=>.inr ⟨hk,h.1,h.2⟩,fun h=>h.elim .inl fun h=>.inr ⟨h.2.1,h.2.2⟩⟩
      · rw[eI,nR,vZ,h4];constructor
        · rintro⟨⟨h5,h6⟩,h7⟩;exact⟨.inl h5,fun h=>h.elim h6 h7⟩
        · rintro⟨h5 | h5,h6⟩
          · exact⟨⟨h5,fun h=>h6 (.inl h)⟩,fun h=>h6 (.inr h)⟩
          · exact absurd h5.1 hk
  | l L =>
    obtain⟨h1,h2⟩:=h;show iO (iZ L (oOf m).key (vA m))/\_;refine⟨KT h1 _ _,fun k=>?_⟩;show dU _ k (bT (iZ L (oOf m).key (vA m)) k);unfold iZ;by_cases hc:bU (oOf m).key (vA m)=0
    · rw[if_pos hc];exact Q9 h1.1 h2 hc k
    · rw[if_neg hc];exact QA (h2 k) hc
  | m X O =>
    obtain⟨h1,h2,h3,h4⟩:=h;have hO:∀z,z∈cY O (oOf m).refs↔∃a∈F ++ [m],z∈(oOf a).refs:=fun z=>(by rw[nS h2,vZ,h3]);refine⟨(vR t9 h1).filter _,cW h2,hO,fun z=>?_⟩;show z∈VT (xU vN X (mK m)) (cY O (oOf m).refs)↔_;unfold VT;rw[List.mem_filter,vE t9,vZ,h4];simp only[decide_eq_true_eq];constructor
    · rintro⟨h5 | ⟨h5,_⟩,h6⟩
      · exact⟨.inr h5,h6⟩
      · exact⟨.inl h5,h6⟩
    · rintro⟨h5 | h5,h6⟩
      · exact⟨.inr ⟨h5,fun h=>h6 ((nS h2).2 (.inl h))⟩,h6⟩
      · exact⟨.inl h5,h6⟩
  | s N G =>
    obtain⟨h1,h2,h3⟩:=h;by_cases hk:(oOf m).k=6
    · rw[iA m _ N G hk];refine⟨fun z=>?_,h2,fun z=>?_⟩
      · show z∈aH N (jU m)↔_;unfold aH;rw[vZ,<-h1];by_cases hE:g6 (jU m)=0
        · rw[if_pos hE];have hn:(jU m).id∉N.map zT.id:=fun hx=>by
            obtain⟨a,ha,e⟩:=List.mem_map.1 hx;obtain⟨b,hb,_,e2,_⟩:=(h1 a).1 ha;rw[e2]at e;exact hid b hb e
          rw[if_neg hn,List.mem_append,List.mem_singleton];exact⟨fun h=>h.elim .inl fun h=>.inr ⟨hk,h,by rw[h];exact hE⟩,fun h=>h.elim .inl fun h=>.inr h.2.1⟩
        · rw[if_neg hE];exact⟨.inl,fun h=>h.elim id fun h=>absurd (by rw[<-h.2.1];exact h.2.2) hE⟩
      · rw[vZ,<-h3];exact⟨.inl,fun h=>h.elim id fun h=>absurd hk h.1⟩
    · rw[i9 m _ N G hk];refine⟨fun z=>?_,vR qP h2,fun z=>?_⟩
      · rw[vZ,<-h1];exact⟨.inl,fun h=>h.elim id fun h=>absurd h.1 hk⟩
      · rw[vE qP,vZ,h3];exact⟨fun h=>h.elim (fun h=>.inr ⟨hk,h⟩) .inl,fun h=>h.elim .inr fun h=>.inl h.2⟩
def SameS:VSt->VSt->Prop
  | .t a,.t b=>a=b
  | .b L G,.b L' G'=>L=L'/\G=G'
  | .l L,.l L'=>L=L'
  | .m X O,.m X' O'=>X=X'/\O=O'
  | .s N G,.s N' G'=>(∀z,z∈N↔z∈N')/\G=G'
  | _,_=>False
theorem rD {F F':List zG} {P:zG->Prop} (h:∀m,m∈F↔m∈F'):(∃a∈F,P a)↔∃a∈F',P a :=
  ⟨fun ⟨a,ha,hp⟩=>⟨a,(h a).1 ha,hp⟩,fun ⟨a,ha,hp⟩=>⟨a,(h a).2 ha,hp⟩⟩
theorem Q8 {F F':List zG} {k:ByteArray} {o o':Option xJ} (hm:∀m,m∈F↔m∈F') (h:dU F k o) (h':dU F' k o'):o=o':=by
  cases o with
  | none =>
    cases o' with
    | none=>rfl
    | some u =>
      obtain⟨⟨a,ha,hc,e,_⟩,_⟩:=h';exact absurd e (h a ((hm a).2 ha) hc)
  | some v =>
    obtain⟨⟨b,hb,hcb,eb,evb⟩,hmax⟩:=h;cases o' with
    | none=>exact absurd eb (h' b ((hm b).1 hb) hcb)
    | some u =>
      obtain⟨⟨a,ha,hc,e,ea⟩,hmax'⟩:=h';have h1:=hmax a ((hm a).2 ha) hc e;have h2:=hmax' b ((hm b).1 hb) hcb eb;have h3:=dK (vA a) v;rw[<-ea]at h1 h3;rw[<-evb]at h2;have:vJ u v=0:=by omega
      rw[dJ.1 this]
theorem VQ {F F':List zG} {s s':VSt} (hp:F.Perm F') (h:fA F s) (h':fA F' s') (hk:s.kind=s'.kind):SameS s s':=by
  have hm:∀m,m∈F↔m∈F':=fun m=>hp.mem_iff;cases s <;> cases s' <;> simp[VSt.kind]at hk
  · show _=_;have e1:_=wrap64 (sF F):=h;have e2:_=wrap64 (sF F'):=h';rw[e1,e2,zi hp]
  · obtain⟨a1,a2,a3,a4⟩:=h;obtain⟨b1,b2,b3,b4⟩:=h';have hG:=jT bD a2 b2 fun z=>(by rw[a3,b3];exact rD hm);subst hG;exact⟨jT bD a1 b1 fun z=>by rw[a4,b4,rD hm],rfl⟩
  · obtain⟨a1,a2⟩:=h;obtain⟨b1,b2⟩:=h';exact cL a1.1 b1.1 fun k=>Q8 hm (a2 k) (b2 k)
  · obtain⟨a1,a2,a3,a4⟩:=h;obtain⟨b1,b2,b3,b4⟩:=h';have hO:=jT qP a2 b2 fun z=>(by rw[a3,b3];exact rD hm);subst hO;exact⟨jT t9 a1 b1 fun z=>by rw[a4,b4,rD hm],rfl⟩
  · obtain⟨a1,a2,a3⟩:=h;obtain⟨b1,b2,b3⟩:=h';exact⟨fun z=>by rw[a1,b1];exact rD hm,jT qP a2 b2 fun z=>by rw[a3,b3];exact rD hm⟩
section
open Go.RowKit
def dAC (x:OpP) (d:zJ) (h:Int):Array Value:=zD x++idC d ++ #[.int .i64 h]
section
variable (x:OpP) (d:zJ) (h:Int)
@[simp] theorem tX:(dAC x d h).size=70:=by simp[dAC]
@[go_sem] theorem dAC_e0:(dAC x d h).extract 0 37=zD x:=by
  have e:dAC x d h = #[]++zD x++(idC d ++ #[.int .i64 h]):=by simp[dAC,Array.append_assoc]
  rw[e];exact fM _ _ _ _ _ (by simp) (by simp)
@[go_sem] theorem dAC_e37:(dAC x d h).extract 37 69=idC d:=fM _ _ _ _ _ (by simp) (by simp)
@[go_sem] theorem dAC_all:(dAC x d h).extract 0 70=dAC x d h:=by have:=Array.extract_size (xs:=dAC x d h);rwa [tX]at this
theorem pH {i:Nat} (hi:i<37):(dAC x d h)[i]? = (zD x)[i]?:=by
  unfold dAC;rw[Array.append_assoc,Array.getElem?_append_left (by simp;omega)]
@[go_sem] theorem dAC_g0:(dAC x d h)[0]? = some (.int .i64 x.k):=(pH x d h (by omega)).trans (qH x)
@[go_sem] theorem dAC_g1:(dAC x d h)[1]? = some (.int .i64 x.n):=(pH x d h (by omega)).trans (qW x)
@[go_sem] theorem dAC_g2:(dAC x d h)[2]? = some (.string x.key):=(pH x d h (by omega)).trans (qV x)
@[go_sem] theorem dAC_g3:(dAC x d h)[3]? = some (.string x.val):=(pH x d h (by omega)).trans (qU x)
@[go_sem] theorem dAC_g36:(dAC x d h)[36]? = some x.refs:=(pH x d h (by omega)).trans (xX x)
@[go_sem] theorem dAC_e4:(dAC x d h).extract 4 36=idC x.ref:=by
  have e:(dAC x d h).extract 4 36=((dAC x d h).extract 0 37).extract 4 36:=by rw[Array.extract_extract];simp
  rw[e,dAC_e0,jB]
@[go_sem] theorem dAC_g69:(dAC x d h)[69]? = some (.int .i64 h):=by
  have e:dAC x d h=(zD x++idC d) ++ #[.int .i64 h] ++ #[]:=by simp[dAC]
  rw[e];exact xS _ _ _ _ (by simp)
theorem YT (hx:x.refs.oneCell'=true):∀u∈(dAC x d h).toList,u.oneCell'=true:=by
  intro u hu;simp only[dAC,Array.toList_append,List.mem_append]at hu;rcases hu with(hu | hu) | hu
  · exact jC x hx u hu
  · exact qJ d u hu
  · simp at hu;subst hu;rfl
end
theorem YM:(Tryz.prog.info? 168).map (·.size)=some 70:=by kernel_rfl
@[go_sem ↓] theorem rP (w:World):(zeroValue 168).run Tryz.prog w = .ok (.agg (dAC yJ id0 0)) w:=by
  have h:(Tryz.prog.info? 168).bind (·.zero)=some (.agg (dAC yJ id0 0)):=by kernel_rfl
  cases hi:Tryz.prog.info? 168 with
  | none=>rw[hi]at h;cases h
  | some i =>
    rw[hi]at h;have hz:i.zero=some (.agg (dAC yJ id0 0)):=h;simp[zeroValue,typeInfo,hi,hz]
@[go_sem ↓] theorem loadAct_rw (a:Addr):loadVar 168 a=ldS 168 a:=rfl
@[go_sem ↓] theorem storeAct_rw (a:Addr) (v:Value):storeVar 168 a v=stS 168 a v:=rfl
@[go_sem] theorem loadAct_run (w:World) (g o:Nat):(ldS 168 ⟨g,o,none⟩).run Tryz.prog w=match z9 w g o 70 with | some cs=>.ok (.agg cs) w | none=>(loadVar 168 ⟨g,o,none⟩).run Tryz.prog w :=
  vD Tryz.underlying168 rfl YM w g o
theorem qj:Tryz.prog.underlying 168=some (.struct (Tryz.prog.fieldsOf 168)):=by kernel_rfl
theorem yj (w:World):((Tryz.prog.fieldsOf 168).mapM fun (f:Field)=>do pure (f.offset,<-sizeOf f.type)).run Tryz.prog w = .ok #[(0,37),(37,32),(69,1)] w:=by kernel_rfl
@[go_sem ↓] theorem buildAct_rw (parts:Array (Nat×Value)):Instr.build 168 parts=bdS 168 parts:=rfl
@[go_sem] theorem buildAct (x:OpP) (d:zJ) (h:Int) (w:World):(bdS 168 #[(0,.agg (zD x)),(1,.agg (idC d)),(2,.int .i64 h)]).run Tryz.prog w = .ok (.agg (dAC x d h)) w:=by
  refine vB w qj _ (rP w) _ (yj w) [(0,.agg (zD x)),(1,.agg (idC d)),(2,.int .i64 h)] _ ?_;rw[show dAC yJ id0 0=(#[]:Array Value)++zD yJ++(idC id0 ++ #[.int .i64 0])from by simp[dAC,Array.append_assoc]];rw[xD (off:=0) (size:=37) rfl (by simp) (by simp) (by simp[Value.cells])];rw[show(#[]:Array Value)++(Value.agg (zD x)).cells++(idC id0 ++ #[.int .i64 0])=zD x++idC id0 ++ #[.int .i64 0]from by simp[Value.cells,Array.append_assoc]];rw[xD (off:=37) (size:=32) rfl (by simp) (by simp) (by simp[Value.cells])];rw[show zD x++(Value.agg (idC d)).cells ++ #[.int .i64 0]=(zD x++idC d) ++ #[.int .i64 0]++(#[]:Array Value)from by simp[Value.cells]];rw[xD (off:=69) (size:=1) rfl (by simp) (by simp) (by simp[Value.cells])];simp[Instr.fill,dAC,Value.cells]
theorem k9:yY Tryz.prog 116 168 70 144 :=
  .of (z:=.agg (dAC yJ id0 0)) Tryz.underlying116 (by kernel_rfl) (by kernel_rfl) (by kernel_rfl) (tX _ _ _) (by omega)
@[go_sem ↓] theorem bsAct_rw (n:Nat) (parts:Array (Nat×Value)):Instr.buildSlice 116 n parts=bsS 116 n parts:=rfl
@[go_sem] theorem bsAct_run (w:World) (x:OpP) (d:zJ) (h:Int):(bsS 116 1 #[(0,.agg (dAC x d h))]).run Tryz.prog w = .ok (.slice (some ⟨w.heap.size,0,none⟩) 1 1) (w.alloc (.cells (dAC x d h) 168)) :=
  k8 k9 (by omega) w _ (tX _ _ _)
structure yE where
  m:zG
  A:Option Addr
  c:Nat
def opM (a:yE):OpP:=⟨(oOf a.m).k,(oOf a.m).n,(oOf a.m).key,(oOf a.m).val,(oOf a.m).ref,.slice a.A (oOf a.m).refs.length a.c⟩
def yK (a:yE):Array Value:=dAC (opM a) a.m.id a.m.h
@[simp] theorem ZS (a:yE):(yK a).size=70:=tX _ _ _
section
variable (a:yE)
@[go_sem] theorem bV:(yK a).extract 37 69=idC a.m.id:=dAC_e37 _ _ _
@[go_sem] theorem actR_all:(yK a).extract 0 70=yK a:=dAC_all _ _ _
@[go_sem] theorem sT:(yK a).extract 4 36=idC (oOf a.m).ref:=dAC_e4 _ _ _
@[go_sem] theorem actR_g0:(yK a)[0]? = some (.int .i64 (oOf a.m).k):=dAC_g0 _ _ _
@[go_sem] theorem YZ:(yK a)[1]? = some (.int .i64 (oOf a.m).n):=dAC_g1 _ _ _
@[go_sem] theorem sS:(yK a)[2]? = some (.string (oOf a.m).key):=dAC_g2 _ _ _
@[go_sem] theorem dM:(yK a)[3]? = some (.string (oOf a.m).val):=dAC_g3 _ _ _
@[go_sem] theorem JE:(yK a)[36]? = some (.slice a.A (oOf a.m).refs.length a.c):=dAC_g36 _ _ _
@[go_sem] theorem iM:(yK a)[69]? = some (.int .i64 a.m.h):=dAC_g69 _ _ _
@[go_sem] theorem actR_i0 (h:0<(yK a).size):(yK a)[0] = .int .i64 (oOf a.m).k:=Option.some.inj ((Array.getElem?_eq_getElem h).symm.trans (actR_g0 a))
@[go_sem] theorem actR_i1 (h:1<(yK a).size):(yK a)[1] = .int .i64 (oOf a.m).n:=Option.some.inj ((Array.getElem?_eq_getElem h).symm.trans (YZ a))
@[go_sem] theorem actR_i3 (h:3<(yK a).size):(yK a)[3] = .string (oOf a.m).val:=Option.some.inj ((Array.getElem?_eq_getElem h).symm.trans (dM a))
end
theorem pN (a:yE):∀u∈(yK a).toList,u.oneCell'=true:=YT _ _ _ rfl
@[go_sem] theorem storeActR_run (w:World) (g:Nat) (hg:g=w.heap.size) (z:Array Value) (hz:z.size=70) (a:yE) (e:TypeId):(stS 168 ⟨g,0,none⟩ (.agg (yK a))).run Tryz.prog (w.alloc (.cells z e)) = .ok () (w.alloc (.cells (yK a) e)) :=
  hg ▸ qB YM w z _ hz (ZS _) (pN _)
@[go_sem] theorem bsActR_run (w:World) (a:yE):(bsS 116 1 #[(0,.agg (yK a))]).run Tryz.prog w = .ok (.slice (some ⟨w.heap.size,0,none⟩) 1 1) (w.alloc (.cells (yK a) 168)) :=
  k8 k9 (by omega) w _ (ZS _)
def g4 (w:World) (a:yE):Prop:=y8 w a.A (oOf a.m).refs.length (oOf a.m).refs
abbrev q6 (w:World) (A:Option Addr) (n:Nat) (L:List yE):Prop:=SlR w A n 70 (L.map yK)
theorem g4.below {w w':World} {a:yE} (h:g4 w a) (hb:Below w.heap.size w w'):g4 w' a:=SlR.below h hb
theorem q6.get {w:World} {A:Option Addr} {n:Nat} {L:List yE} (h:q6 w A n L) {i:Nat} (hi:i<n) (hL:i<L.length):∃g o,A=some ⟨g,o,none⟩/\z9 w g (o+i*70) 70=some (yK L[i]):=by
  obtain⟨g,o,e,hr⟩:=h.at_ hi;exact⟨g,o,e,by rw[hr,List.getElem_map]⟩
theorem q6.len {w:World} {A:Option Addr} {n:Nat} {L:List yE} (h:q6 w A n L):L.length=n:=by simpa using h.1
end
end Go.Proofs.YtgedpfebepdcmaaGreatDoor
