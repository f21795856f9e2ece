/- Part 5 of the texts that lead to this claim: the walks of the functions and the plain law, in order. -/
import Derived.Test.YtplpiicfkbpkaaaGreatDoorMk4
import Derived.Test.YtplpiicfkbpkaaaGreatDoorLayGrow
import Derived.LoopN
import Derived.Shelf.SlSortCmp.NoneTotal
import Derived.Test.YtplpiicfkbpkaaaGreatDoorLayBag
import Derived.Shelf.Slices.CompactS
import Derived.Test.YtplpiicfkbpkaaaGreatDoorLayKeys
namespace Go.Proofs.YtplpiicfkbpkaaaGreatDoor
open Go.RowKit
open List hiding and get max min or set
open Go.Proofs.Tryz
open World
set_option maxRecDepth 100000
set_option maxHeartbeats 8000000
variable {ops:Array Oper}{a:Act}{w:World}{Q:Exit->Act->World->Prop}{B:Nat}{κ ν:Type}{es:Array MapEntry}{cs:Array Value}{E:TypeId}
section
section
variable {ι ν:Type} (kid:ι->List ν) (idn:ν->ι) (N:List ν) (refn:ν->ι) (z:ι)
def preD:Nat->ι->List ν
 | 0,_=>[]
 | k+1,r=>(kid r).flatMap λc=>c :: preD k (idn c)
def Deep:Nat->ι->Prop
 | 0,_=>False
 | k+1,r=>∀c∈kid r,Deep k (idn c)
variable {kid idn N refn z}
end
end
structure NodeV where
 id:Id32
 h:Int
 ref:Id32
 val:ByteArray
theorem NodeV.ext'{a b:NodeV}(h1:a.id=b.id)(h2:a.h=b.h)(h3:a.ref=b.ref)(h4:a.val=b.val):a=b:=by cases a;cases b;simp_all
theorem totI:TotC cmpI where
 zero a b:=by unfold cmpI;constructor <;> intro h <;> (repeat' split at *) <;> omega
 anti a b:=by unfold cmpI;(repeat' split) <;> omega
 trans a b d:=by unfold cmpI;(repeat' split) <;> omega
theorem TotC.rev{α:Type}{c:α->α->Int}(T:TotC c):TotC (λa b=>c b a) where
 zero a b:=by rw[T.zero];exact⟨Eq.symm,Eq.symm⟩
 anti a b:=T.anti _ _
 trans a b d h1 h2:=T.trans _ _ _ h2 h1
def cmpN(a b:NodeV):Int:=orC (cmpI b.h a.h) (orC (cmpId b.id a.id) (orC (cmpId a.ref b.ref) (cmpS a.val b.val)))
theorem totN:TotC cmpN :=
 TotC.of (c:=fun (x y:Int×(Id32×(Id32×ByteArray)))=>orC (cmpI y.1 x.1) (orC (cmpId y.2.1 x.2.1) (orC (cmpId x.2.2.1 y.2.2.1) (cmpS x.2.2.2 y.2.2.2))))
  (TotC.pair (c:=λa b=>cmpI b a) totI.rev (TotC.pair (c:=λa b=>cmpId b a) totId.rev (TotC.pair totId totS))) (λn=>(n.h,n.id,n.ref,n.val))
  (λx y h=>by simp only[Prod.mk.injEq]at h;exact NodeV.ext' h.2.1 h.1 h.2.2.1 h.2.2.2) (λ_ _=>rfl)
def cmpM(a b:NodeV):Int:=orC (cmpId a.id b.id) (orC (cmpI a.h b.h) (orC (cmpId a.ref b.ref) (cmpS a.val b.val)))
theorem totM:TotC cmpM :=
 TotC.of (c:=fun (x y:Id32×(Int×(Id32×ByteArray)))=>orC (cmpId x.1 y.1) (orC (cmpI x.2.1 y.2.1) (orC (cmpId x.2.2.1 y.2.2.1) (cmpS x.2.2.2 y.2.2.2))))
  (TotC.pair totId (TotC.pair totI (TotC.pair totId totS))) (λn=>(n.id,n.h,n.ref,n.val))
  (λx y h=>by simp only[Prod.mk.injEq]at h;exact NodeV.ext' h.1 h.2.1 h.2.2.1 h.2.2.2) (λ_ _=>rfl)
def aheadB(ah:Int)(a:Id32)(bh:Int)(b:Id32):Bool:=if ah=bh then decide (cmpId a b<0)else decide (ah<bh)
def OneId(N:List NodeV):Prop:=∀a∈N,∀b∈N,a.id=b.id->a=b
theorem cmpN_ahead{a b:NodeV}(h:a.id≠b.id):decide (cmpN b a<0)=aheadB a.h a.id b.h b.id:=by
 have hid:cmpId a.id b.id≠0:=λe=>h ((cmpId_zero _ _).1 e);unfold cmpN aheadB orC cmpI;by_cases e:a.h=b.h
 ·rw[if_pos (by rw[if_neg oM,if_neg oM]),if_neg hid,if_pos e]
 ·rw[if_neg e];rw[if_neg (by(repeat' split) <;> omega)];by_cases h1:a.h<b.h
  ·rw[if_pos h1];simp[h1]
  ·rw[if_neg h1,if_pos oM];simp[h1]
def kids(N:List NodeV)(r:Id32):List NodeV:=sortC cmpN (N.filter λn=>decide (n.ref=r))
theorem mem_kids{N:List NodeV}{r:Id32}{n:NodeV}:n∈kids N r↔n∈N/\n.ref=r:=by unfold kids;rw[mem_sortC totN];simp
theorem ris_kids(N:List NodeV)(r:Id32):Ris cmpN (kids N r):=ris_sortC totN _
theorem kids_congr{N M:List NodeV}(h:∀n,n∈N↔n∈M)(r:Id32):kids N r=kids M r:=sortC_congr totN λz=>by simp[h]
theorem kids_cons(N:List NodeV)(n:NodeV)(r:Id32):kids (n :: N) r=if n.ref=r then insC cmpN (kids N r) n else kids N r:=by
 refine ris_ext totN (ris_kids _ _) ?_ λz=>?_
 ·split
  ·exact ris_insC totN (ris_kids _ _)
  ·exact ris_kids _ _
 ·rw[mem_kids,mem_cons];split
  ·rename_i e
   rw[mem_insC totN,mem_kids];constructor
   ·rintro⟨h1 | h1,h2⟩
    ·exact .inl h1
    ·exact .inr ⟨h1,h2⟩
   ·rintro(h1 | ⟨h1,h2⟩)
    ·subst h1;exact⟨.inl rfl,e⟩
    ·exact⟨.inr h1,h2⟩
  ·rename_i e
   rw[mem_kids];constructor
   ·rintro⟨h1 | h1,h2⟩
    ·subst h1;exact absurd h2 e
    ·exact⟨h1,h2⟩
   ·rintro⟨h1,h2⟩;exact⟨.inr h1,h2⟩
theorem kids_length(N:List NodeV)(r:Id32):(kids N r).length<=N.length:=by
 unfold kids;exact Nat.le_trans (sortC_length _) (length_filter_le _ _)
def orderN(N:List NodeV):List NodeV:=preD (kids N) NodeV.id (N.length+1) id0
def seen(N:List NodeV)(G:List Id32):List ByteArray:=((orderN N).filter λn=>decide (n.id∉G)).map NodeV.val
def nodeE(n:NodeV):Int:=if 16<n.val.size then 3 else if n.h<1\/1073741824<n.h\/n.id=id0 then 5 else 0
section
def nthL{α:Type}:List α->Nat->Option α
 | [],_=>none
 | x :: _,0=>some x
 | _ :: l,i+1=>nthL l i
theorem nthL_eq{α:Type}:∀(l:List α) (i:Nat),nthL l i=l[i]?
 | [],_=>rfl
 | _ :: _,0=>rfl
 | _ :: l,i+1=>by simpa[nthL]using nthL_eq l i
theorem nthL_ops{i:Nat}{o:Oper}(h:nthL ops.toList i=some o):ops[i]?=some o:=by
 rw[nthL_eq]at h;simpa using h
inductive Sched where
 | done:Sched
 | loose (i:Nat) (n:Sched):Sched
 | one (i:Nat) (n:Sched):Sched
 | two (i:Nat) (n:Sched) (j:Nat) (m:Sched):Sched
 | three (i:Nat) (n:Sched) (j:Nat) (m:Sched) (k:Nat) (l:Sched):Sched
def Sched.depth:Sched->Nat
 | .done=>0
 | .loose _ n=>n.depth+1
 | .one _ n=>n.depth+1
 | .two _ n _ m=>max n.depth m.depth+1
 | .three _ n _ m _ l=>max (max n.depth m.depth) l.depth+1
def Sched.ok(md:Region.Mode)(ops:Array Oper):Sched->Array Bool->Bool
 | .done,listed=>(Region.ready md ops listed).isEmpty
 | .loose i n,listed=>(Region.ready md ops listed).contains i&&Region.free md ops listed i&&n.ok md ops (listed.setIfInBounds i true)
 | .one i n,listed=>(Region.ready md ops listed == [i])&&n.ok md ops (listed.setIfInBounds i true)
 | .two i n j m,listed=>(Region.ready md ops listed == [i,j])&&n.ok md ops (listed.setIfInBounds i true)&&m.ok md ops (listed.setIfInBounds j true)
 | .three i n j m k l,listed=>(Region.ready md ops listed == [i,j,k])&&n.ok md ops (listed.setIfInBounds i true)&&m.ok md ops (listed.setIfInBounds j true)&&l.ok md ops (listed.setIfInBounds k true)
section
variable {P:Program} {ops:Array Oper} {md:Region.Mode} {S:World->Prop} {cv fb:Bool}
def stepT(P:Program)(ops:Array Oper)(S:World->Prop)(cv fb:Bool)(i:Nat)(K:Act->World->Prop)(a:Act)(w:World):Prop :=
 match ops[i]? with
 | none=>False
 | some o=>if Region.wanted o (yielded ops a.tmps)then chainOp cv o=true/\chainRes P (cls ops S fb i) (λv w'=>K (a.put o.dst v) w') ((execOp a.eval o).run P w)else K (a.put o.dst undef) w
def wpT0(P:Program)(ops:Array Oper)(S:World->Prop)(cv fb:Bool)(Q:Act->World->Prop):Sched->Act->World->Prop
 | .done,a,w=>Q a w
 | .loose i n,a,w =>
  match ops[i]? with
  | none=>False
  | some o=>if Region.wanted o (yielded ops a.tmps)then chainOp cv o=false/\∃v,(∀w',S w'->looseRes w' v ((execOp a.eval o).run P w'))/\wpT0 P ops S cv fb Q n (a.put o.dst v) w else wpT0 P ops S cv fb Q n (a.put o.dst undef) w
 | .one i n,a,w=>stepT P ops S cv fb i (wpT0 P ops S cv fb Q n) a w
 | .two i n j m,a,w=>stepT P ops S cv fb i (wpT0 P ops S cv fb Q n) a w/\stepT P ops S cv fb j (wpT0 P ops S cv fb Q m) a w
 | .three i n j m k l,a,w=>stepT P ops S cv fb i (wpT0 P ops S cv fb Q n) a w/\stepT P ops S cv fb j (wpT0 P ops S cv fb Q m) a w/\stepT P ops S cv fb k (wpT0 P ops S cv fb Q l) a w
theorem stepT_lx{i:Nat}{K K':Act->World->Prop}(hS:S w)(hk:∀a w,cls ops S fb i w->K a w->K' a w)(h:stepT P ops S cv fb i K a w):lxOp P ops S cv fb i K' a w:=by
 unfold stepT at h;unfold lxOp;split at h
 ·exact h.elim
 ·rename_i o ho
  simp only[ho];split at h
  ·rename_i hw
   rw[if_pos hw,if_pos h.1];exact chainRes_mono (λv w' hs d=>hk _ _ hs d) h.2
  ·rename_i hw
   rw[if_neg hw];exact hk _ _ (.inl hS) h
theorem wpAnyX_tree{Q:Act->World->Prop}(hs:Region.noSelect ops=true):∀(T:Sched) (r:Nat) (d:Array Bool) (a:Act) (w:World),EndInv md ops fb d->(S w\/(fb=true/\Region.ready md ops d = [])) ->
  T.ok md ops d=true->T.depth<=r->wpT0 P ops S cv fb Q T a w->wpAnyX P md ops S cv fb Q r d a w:=by
 have after:∀ {i:Nat} {d:Array Bool} {w':World},EndInv md ops fb d->i∈Region.ready md ops d->cls ops S fb i w'->S w'\/(fb=true/\Region.ready md ops (d.setIfInBounds i true) = []):=by
  intro i d w' hI hi hc;rcases hc with hc | ⟨G,he⟩
  ·exact .inl hc
  ·right
   refine⟨G,?_⟩;rcases ((hI.set hi).inv G).2 with h1 | h1
   ·exfalso
    have:=h1.tail i oM oM;have H:i<(d.setIfInBounds i true).size:=by rw[h1.size];omega
    have D:i<d.size:=by simpa using H
    simp[D]at this
   ·exact h1
 have g:∀ {i:Nat} {d:Array Bool} {w:World},i∈Region.ready md ops d->(S w\/(fb=true/\Region.ready md ops d = []))->S w:=by
  intro i d w hi h;rcases h with h | ⟨_,h⟩
  ·exact h
  ·rw[h]at hi;cases hi
 intro T;induction T with
 | done =>
  intro r d a w _ _ t _ h;have h0:Region.ready md ops d = []:=by simpa[Sched.ok]using t
  cases r with
  | zero=>exact⟨h0,h⟩
  | succ f=>exact⟨λ_=>h,λi hi=>by rw[h0]at hi;cases hi⟩
 | loose i n ih =>
  intro r d a w hI A t hd h;simp only[Sched.ok,Bool.and_eq_true]at t;obtain⟨⟨hr,hf⟩,hn⟩:=t;have y:i∈Region.ready md ops d:=by simpa using hr
  have hS:=g y A;cases r with
  | zero=>simp[Sched.depth]at hd
  | succ f =>
   have B:n.depth<=f:=by simp[Sched.depth]at hd;omega
   unfold wpT0 at h;split at h
   ·exact h.elim
   ·rename_i o ho
    split at h
    ·rename_i hw
     obtain⟨hc,v,hv,hk⟩:=h;exact X_first_loose ho (Region.noSelect_spec hs) f d a w hI hS (Region.free_spec ho hf) y (.inl ⟨hw,hc,hv⟩) (ih f _ _ w (hI.set y) (.inl hS) hn B hk)
    ·rename_i hw
     exact X_first_loose ho (Region.noSelect_spec hs) f d a w hI hS (Region.free_spec ho hf) y (.inr ⟨by simpa using hw,rfl⟩) (ih f _ _ w (hI.set y) (.inl hS) hn B h)
 | one i n ih =>
  intro r d a w hI A t hd h;simp only[Sched.ok,Bool.and_eq_true,beq_iff_eq]at t;obtain⟨hr,hn⟩:=t;have y:i∈Region.ready md ops d:=by rw[hr];simp
  have hS:=g y A;cases r with
  | zero=>simp[Sched.depth]at hd
  | succ f =>
   have B:n.depth<=f:=by simp[Sched.depth]at hd;omega
   refine⟨λh0=>(by rw[hr]at h0;cases h0),λx hx=>?_⟩;have s:=hx;rw[hr]at s;obtain rfl:x=i:=by simpa using s
   exact stepT_lx hS (λa' w' hc hk=>ih f _ a' w' (hI.set hx) (after hI hx hc) hn B hk) h
 | two i n j m ih1 ih2 =>
  intro r d a w hI A t hd h;simp only[Sched.ok,Bool.and_eq_true,beq_iff_eq]at t;obtain⟨⟨hr,hn⟩,hm⟩:=t;have hS:=g (i:=i) (by rw[hr];simp) A;cases r with
  | zero=>simp[Sched.depth]at hd
  | succ f =>
   have F:n.depth<=f:=by simp[Sched.depth]at hd;omega
   have E:m.depth<=f:=by simp[Sched.depth]at hd;omega
   refine⟨λh0=>(by rw[hr]at h0;cases h0),λx hx=>?_⟩;have s:=hx;rw[hr]at s;rcases mem_cons.1 s with rfl | s
   ·exact stepT_lx hS (λa' w' hc hk=>ih1 f _ a' w' (hI.set hx) (after hI hx hc) hn F hk) h.1
   ·obtain rfl:x=j:=by simpa using s
    exact stepT_lx hS (λa' w' hc hk=>ih2 f _ a' w' (hI.set hx) (after hI hx hc) hm E hk) h.2
 | three i n j m k l ih1 ih2 ih3 =>
  intro r d a w hI A t hd h;simp only[Sched.ok,Bool.and_eq_true,beq_iff_eq]at t;obtain⟨⟨⟨hr,hn⟩,hm⟩,hl⟩:=t;have hS:=g (i:=i) (by rw[hr];simp) A;cases r with
  | zero=>simp[Sched.depth]at hd
  | succ f =>
   have F:n.depth<=f:=by simp[Sched.depth]at hd;omega
   have E:m.depth<=f:=by simp[Sched.depth]at hd;omega
   have I:l.depth<=f:=by simp[Sched.depth]at hd;omega
   refine⟨λh0=>(by rw[hr]at h0;cases h0),λx hx=>?_⟩;have s:=hx;rw[hr]at s;rcases mem_cons.1 s with rfl | s
   ·exact stepT_lx hS (λa' w' hc hk=>ih1 f _ a' w' (hI.set hx) (after hI hx hc) hn F hk) h.1
   ·rcases mem_cons.1 s with rfl | s
    ·exact stepT_lx hS (λa' w' hc hk=>ih2 f _ a' w' (hI.set hx) (after hI hx hc) hm E hk) h.2.1
    ·obtain rfl:x=k:=by simpa using s
     exact stepT_lx hS (λa' w' hc hk=>ih3 f _ a' w' (hI.set hx) (after hI hx hc) hl I hk) h.2.2
structure wpTx(P:Program)(ops:Array Oper)(S:World->Prop)(cv fb:Bool)(Q:Act->World->Prop)(T:Sched)(a:Act)(w:World):Prop where
 out:wpT0 P ops S cv fb Q T a w
theorem wp_region_tree{id:Nat}{ops:Array Oper}(T:Sched)(S:World->Prop)(cv:Bool)(hm:P.follows .mixedOrders=true)(hs:Region.noSelect ops=true)(hT:T.ok .any ops (Array.replicate ops.size false)=true)(hd:Nat.ble T.depth ops.size=true)(hS:S w.drew)
  (h:wpTx P ops S cv false (λa' w'=>S w'->Q .normal a' w') T a w.drew):(Code.region id ops true).wp P Q a w:=by
 have hI:EndInv .any ops false (Array.replicate ops.size false):=⟨sI⟩
 exact wp_region_any hm (wpAny_of_X (S:=S) (cv:=cv) (fb:=false) (Q:=λa' w'=>S w'->Q .normal a' w') (λ_ w' d h=>h (d.elim (λh=>h) sI)) _ _ _ _ hI (.inl hS)
  (wpAnyX_tree (md:=.any) hs T _ _ a w.drew hI (.inl hS) hT (Nat.le_of_ble_eq_true hd) h.out))
theorem wp_region_treef{id:Nat}{ops:Array Oper}(T:Sched)(S:World->Prop)(cv:Bool)(hm:P.follows .mixedOrders=true)(hs:Region.noSelect ops=true)(hT:T.ok .any ops (Array.replicate ops.size false)=true)(hd:Nat.ble T.depth ops.size=true)(hE:endB .any ops=true)(hS:S w.drew)
  (h:wpTx P ops S cv true (λa' w'=>Q .normal a' w') T a w.drew):(Code.region id ops true).wp P Q a w:=by
 have hI:EndInv .any ops true (Array.replicate ops.size false):=⟨λ_=>⟨hE,.inl ⟨sI,λj oj _ hj=>(by rw[getD_replicate_false]at hj;cases hj),λt ht d=>by simp[d]⟩⟩⟩
 exact wp_region_any hm (wpAny_of_X (S:=S) (cv:=cv) (fb:=true) (Q:=λa' w'=>Q .normal a' w') (λ_ w' _ h=>h) _ _ _ _ hI (.inl hS)
  (wpAnyX_tree (md:=.any) hs T _ _ a w.drew hI (.inl hS) hT (Nat.le_of_ble_eq_true hd) h.out))
variable {Q:Act->World->Prop} {a:Act} {w:World} {o:Oper} {i j k:Nat} {n m l:Sched}
theorem wpTx_done(h:Q a w):wpTx P ops S cv fb Q .done a w:=⟨h⟩
theorem wpTx_loose(d:nthL ops.toList i=some o)(hc:chainOp cv o=false)
  (h:∀K:Act->Prop,(∀a,wpTx P ops S cv fb Q n a w->K a)->if Region.wanted o (yielded ops a.tmps)then(∃v,(∀x:Subtype S,looseRes x.1 v ((execOp a.eval o).run P x.1))/\K (a.put o.dst v))else K (a.put o.dst undef)):wpTx P ops S cv fb Q (.loose i n) a w:=by
 have ho:=nthL_ops d;have:=h _ (λ_ h=>h);refine⟨?_⟩;unfold wpT0;simp only[ho];split
 ·rename_i hw
  rw[if_pos hw]at this;obtain⟨v,hv,hk⟩:=this;exact⟨hc,v,λw' hs=>hv ⟨w',hs⟩,hk.out⟩
 ·rename_i hw;rw[if_neg hw]at this;exact this.out
theorem wpTx_one(hS:S w)(d:nthL ops.toList i=some o)(hc:chainOp cv o=true)
  (h:∀K:Act->World->Prop,(∀a w,wpTx P ops S cv fb Q n a w->K a w)->if Region.wanted o (yielded ops a.tmps)then chainRes P S (λv w'=>K (a.put o.dst v) w') ((execOp a.eval o).run P w)else K (a.put o.dst undef) w):wpTx P ops S cv fb Q (.one i n) a w:=by
 have ho:=nthL_ops d;have:=h _ (λ_ _ h=>h);refine⟨?_⟩;unfold wpT0 stepT;simp only[ho];split
 ·rename_i hw;rw[if_pos hw]at this;exact⟨hc,chainRes_weaken (λ_ h=>.inl h) (λ_ _ _ h=>h.out) this⟩
 ·rename_i hw;rw[if_neg hw]at this;exact this.out
theorem wpTx_two(h1:wpTx P ops S cv fb Q (.one i n) a w)(h2:wpTx P ops S cv fb Q (.one j m) a w):wpTx P ops S cv fb Q (.two i n j m) a w:=⟨⟨h1.out,h2.out⟩⟩
theorem wpTx_end(d:nthL ops.toList i=some o)(hc:chainOp cv o=true)(hi:(i+1==ops.size)=true)
  (h:∀K:Act->World->Prop,(∀a w,Q a w->K a w)->if Region.wanted o (yielded ops a.tmps)then chainRes P (λ_=>True) (λv w'=>K (a.put o.dst v) w') ((execOp a.eval o).run P w)else K (a.put o.dst undef) w):wpTx P ops S cv true Q (.one i .done) a w:=by
 have ho:=nthL_ops d;have:=h _ (λ_ _ h=>h);refine⟨?_⟩;unfold wpT0 stepT;simp only[ho];split
 ·rename_i hw;rw[if_pos hw]at this;exact⟨hc,chainRes_weaken (λ_ _=>.inr ⟨rfl,beq_iff_eq.1 hi⟩) (λ_ _ _ h=>h) this⟩
 ·rename_i hw;rw[if_neg hw]at this;exact this
end
end
section
section
variable {P:Program} {ops:Array Oper} {S:World->Prop} {cv fb:Bool} {Q:Act->World->Prop} {a:Act} {w:World} {o:Oper} {i:Nat} {n:Sched}
theorem wpTz(hc:chainOp cv o=false)(h:∀K:Act->Prop,(∀a,wpTx P ops S cv fb Q n a w->K a)->if Region.wanted o (yielded ops a.tmps)then(∃v,(∀x:Subtype S,looseRes x.1 v ((execOp a.eval o).run P x.1))/\K (a.put o.dst v))else K (a.put o.dst undef))(ho:nthL ops.toList i=some o:=by rfl):wpTx P ops S cv fb Q (.loose i n) a w:=wpTx_loose ho hc h
theorem wpTh(hS:S w)(hc:chainOp cv o=true)(h:∀K:Act->World->Prop,(∀a w,wpTx P ops S cv fb Q n a w->K a w)->if Region.wanted o (yielded ops a.tmps)then chainRes P S (λv w'=>K (a.put o.dst v) w') ((execOp a.eval o).run P w)else K (a.put o.dst undef) w)(ho:nthL ops.toList i=some o:=by rfl):wpTx P ops S cv fb Q (.one i n) a w:=wpTx_one hS ho hc h
end
theorem tZ{P Q:Prop}(q:Q)(h:zT Q->P:=by intro z;(repeat(refine wpTz ?_ ?_;(focus(simp only[chainOp];done));intro K hK;go_simp;refine hK _ ?_;clear hK K));exact z.out):P:=h ⟨q⟩
theorem tH{P Q:Prop}(q:Q)(h:zT Q->P:=by intro z;refine wpTh hS ?_ ?_;(focus(simp only[chainOp];done));intro K hK;go_simp;revert K hK;exact z.out):P:=h ⟨q⟩
end
section
def slS(T:TypeId)(x:Value)(lo hi mx:Option Value):Sem Value:=Instr.sliceAt T x lo hi mx
section
variable {P:Program} {T E:TypeId} {k bytes:Nat}
theorem ElemInfo.sizeOf_run(I:ElemInfo P T E k bytes)(w:World):(Go.sizeOf E).run P w=.ok k w:=by
 obtain⟨i,z,hi,hz,d,g,f⟩:=I.info;simp[Go.sizeOf,typeInfo,hi,d]
theorem run_bound(w:World)(m cap:Nat)(hm:m<=cap)(c:BoundsCode):(Instr.sliceBound (.int .i64 m) cap c).run P w=.ok m w:=by
 unfold Instr.sliceBound;have h1:(asIntOf (.int .i64 (m:Int))).run P w=.ok (.i64,(m:Int)) w:=rfl;simp only[Sem.run_bind,h1,Result.andThen_ok];rw[if_pos ⟨oM,oM⟩]
 simp
theorem run_slS(I:ElemInfo P T E k bytes)(w:World)(x:Value)(lo hi mx:Option Value):(slS T x lo hi mx).run P w=(Instr.slice T x lo hi mx).run P w:=by
 unfold slS;simp[Instr.sliceAt,run_underlying I.und]
theorem run_slS_lo(I:ElemInfo P T E k bytes)(w:World)(A:Option Addr)(n cap m:Nat)(hm:m<=cap) :
  (slS T (.slice A n cap) none (some (.int .i64 m)) none).run P w=.ok (.slice A m cap) w:=by
 rw[run_slS I];unfold Instr.slice Instr.sliceBounds;simp only[Sem.run_bind,run_underlying I.und,Result.andThen_ok,Sem.run_pure,run_bound w m cap hm,I.sizeOf_run w];have e:(if cap=0 then A else A.map λa=>a.add (0*k))=A:=by
  split
  ·rfl
  ·cases A with
   | none=>rfl
   | some a=>simp[Addr.add]
 simp only[Nat.sub_zero,e]
theorem run_slS_hi(I:ElemInfo P T E k bytes)(w:World)(A:Option Addr)(n cap m:Nat)(hm:m<=n)(hc:n<=cap)(hA:A=none->cap=0)(f:∀a,A=some a->a.spot=none) :
  ∃A2 c2,(slS T (.slice A n cap) (some (.int .i64 m)) none none).run P w=.ok (.slice A2 (n-m) c2) w/\(∀(w':World) (L:List (Array Value)),SlR w' A n k L->SlR w' A2 (n-m) k (L.drop m))/\(A2=none->c2=0):=by
 refine⟨if cap=m then A else A.map λa=>a.add (m*k),cap-m,?_,?_,?_⟩
 ·rw[run_slS I];unfold Instr.slice Instr.sliceBounds;simp only[Sem.run_bind,run_underlying I.und,Result.andThen_ok,Sem.run_pure,run_bound w m n hm,I.sizeOf_run w,Option.isSome_none,Bool.false_eq_true,if_false]
 ·intro w' L hL;by_cases d:cap=m
  ·have:n-m=0:=oM;rw[this];exact⟨by rw[length_drop,hL.1];omega,λh=>absurd h oM⟩
  ·rw[if_neg d];cases A with
   | none=>exact absurd (hA rfl) oM
   | some a =>
    obtain⟨g,o,sp⟩:=a;have:sp=none:=f _ rfl;subst this;have e:(⟨g,o,none⟩:Addr).add (m*k)=⟨g,o+m*k,none⟩:=by unfold Addr.add;split <;> simp_all
    simp only[Option.map_some,e];exact hL.drop_ hm
 ·intro h;by_cases d:cap=m
  ·omega
  ·rw[if_neg d]at h;cases A with
   | none=>have:=hA rfl;omega
   | some a=>cases h
end
end
section
structure SlW(w:World)(A:Option Addr)(n cap k:Nat)(L:List (Array Value)):Prop where
 rd:SlR w A n k L
 le:n<=cap
 nil:A=none->cap=0
 plain:∀a,A=some a->a.spot=none
section
variable {P:Program} {T E:TypeId} {k bytes:Nat} {w w':World} {A:Option Addr} {n cap:Nat} {L:List (Array Value)}
theorem SlW.none_:SlW w none 0 0 k []:=⟨SlR.nil_,lR,λ_=>rfl,λa e=>by cases e⟩
theorem SlW.kept{S:List Nat}(h:SlW w A n cap k L)(hk:Keep S w w')(hn:∀x∈blk A,x∉S):SlW w' A n cap k L:=⟨h.rd.kept hk hn,h.le,h.nil,h.plain⟩
theorem SlW.below(h:SlW w A n cap k L)(hb:Below w.heap.size w w'):SlW w' A n cap k L:=⟨h.rd.below hb,h.le,h.nil,h.plain⟩
theorem SlW.len(h:SlW w A n cap k L):L.length=n:=h.rd.1
theorem Own.slw(h:Own w B E k A n cap L):SlW w A n cap k L:=by
 have hA:=h.cap_le;refine⟨h.slr,hA.1,λe=>(hA.2 e).2,λa e=>?_⟩;rcases h.addr with e' | ⟨g,e'⟩
 ·rw[e']at e;cases e
 ·rw[e']at e;injection e with e;rw[<-e]
theorem SlW.lo(I:ElemInfo P T E k bytes)(h:SlW w A n cap k L){m:Nat}(hm:m<=n)(w0:World):(slS T (.slice A n cap) none (some (.int .i64 m)) none).run P w0=.ok (.slice A m cap) w0 :=
 run_slS_lo I w0 A n cap m (Nat.le_trans hm h.le)
theorem SlW.hi(I:ElemInfo P T E k bytes)(h:SlW w A n cap k L){m:Nat}(hm:m<=n) :
  ∃A2 c2,(∀w0:World,(slS T (.slice A n cap) (some (.int .i64 m)) none none).run P w0=.ok (.slice A2 (n-m) c2) w0)/\(∀w':World,SlR w' A n k L->SlR w' A2 (n-m) k (L.drop m))/\(A2=none->c2=0):=by
 obtain⟨A2,c2,h1,h2,h3⟩:=run_slS_hi (P:=P) I w A n cap m hm h.le h.nil h.plain;refine⟨A2,c2,λw0=>?_,λw' hw=>h2 w' L hw,h3⟩;obtain⟨A3,c3,k1,_,_⟩:=run_slS_hi (P:=P) I w0 A n cap m hm h.le h.nil h.plain;rw[run_slS I]at h1 k1 |-;unfold Instr.slice Instr.sliceBounds at h1 k1 |-;simp only[Sem.run_bind,run_underlying I.und,Result.andThen_ok,Sem.run_pure,run_bound _ m n hm,I.sizeOf_run,Option.isSome_none,Bool.false_eq_true,if_false]at h1 |-;injection h1 with h1 _
 rw[h1]
end
end
section
structure SNode where
 h:Int
 ref:Id32
 val:ByteArray
def sNodeC(x:SNode):Array Value:=#[.int .i64 x.h]++idC x.ref ++ #[.string x.val]
@[simp] theorem sNodeC_size(x:SNode):(sNodeC x).size=34:=by simp[sNodeC]
@[go_sem] theorem sNodeC_g0(x:SNode):(sNodeC x)[0]?=some (.int .i64 x.h):=by first | (simp[sNodeC,Array.getElem?_append];done) | (rw[show sNodeC x=((#[]:Array Value)) ++ #[.int .i64 x.h]++(idC x.ref ++ #[.string x.val])from by apply Array.ext';simp[sNodeC]];exact arr_at _ _ _ _ sI)
@[go_sem] theorem sNodeC_gg0(x:SNode)(h:0<(sNodeC x).size):(sNodeC x)[0]'h=.int .i64 x.h:=Option.some.inj ((Array.getElem?_eq_getElem h).symm.trans (sNodeC_g0 x))
@[go_sem] theorem sNodeC_e1(x:SNode):(sNodeC x).extract 1 33=idC x.ref:=by
 have h:sNodeC x=(#[.int .i64 x.h])++idC x.ref++(#[.string x.val]):=by first | (simp[sNodeC,Array.append_assoc];done) | (apply Array.ext';simp[sNodeC];done)
 rw[h];exact arr_mid _ _ _ _ _ sI sI
@[go_sem] theorem sNodeC_g33(x:SNode):(sNodeC x)[33]?=some (.string x.val):=by first | (simp[sNodeC,Array.getElem?_append];done) | (rw[show sNodeC x=(#[.int .i64 x.h]++idC x.ref) ++ #[.string x.val]++((#[]:Array Value))from by apply Array.ext';simp[sNodeC]];exact arr_at _ _ _ _ sI)
@[go_sem] theorem sNodeC_gg33(x:SNode)(h:33<(sNodeC x).size):(sNodeC x)[33]'h=.string x.val:=Option.some.inj ((Array.getElem?_eq_getElem h).symm.trans (sNodeC_g33 x))
@[go_sem] theorem sNodeC_all(x:SNode):(sNodeC x).extract 0 34=sNodeC x:=by have:=Array.extract_size (xs:=sNodeC x);rwa [sNodeC_size]at this
theorem sNodeC_one(x:SNode):∀u∈(sNodeC x).toList,u.oneCell'=true:=by
 intro u hu;simp only[sNodeC,Array.toList_append,mem_append]at hu;rcases hu with(hu | hu) | hu
 ·simp at hu;subst hu;rfl
 ·exact idC_one _ u hu
 ·simp at hu;subst hu;rfl
def sNode0:SNode:=⟨0,id0,⟨#[]⟩⟩
theorem SNode_ext{x y:SNode}(h:x.h=y.h/\x.ref=y.ref/\x.val=y.val):x=y:=by cases x;cases y;simp_all
instance:DecidableEq SNode:=λx y=>if h:x.h=y.h/\x.ref=y.ref/\x.val=y.val then isTrue (SNode_ext h)else isFalse (λe=>h (by subst e;simp))
theorem infoSNode:(prog.info? 344).map (·.size)=some 34:=kR
@[go_sem ↓] theorem zeroSNode_run(w:World):(zeroValue 344).run prog w=.ok (.agg (sNodeC sNode0)) w:=by
 have h:(prog.info? 344).bind (·.zero)=some (.agg (sNodeC sNode0)):=kR;cases hi:prog.info? 344 with
 | none=>rw[hi]at h;cases h
 | some i =>
  rw[hi]at h;have hz:i.zero=some (.agg (sNodeC sNode0)):=h;simp[zeroValue,typeInfo,hi,hz]
@[go_sem ↓] theorem loadSNode_rw(a:Addr):loadVar 344 a=ldS 344 a:=rfl
@[go_sem ↓] theorem storeSNode_rw(a:Addr)(v:Value):storeVar 344 a v=stS 344 a v:=rfl
@[go_sem] theorem loadSNode_run(w:World)(g o:Nat):(ldS 344 ⟨g,o,none⟩).run prog w=match rowAt w g o 34 with | some cs=>.ok (.agg cs) w | none=>(loadVar 344 ⟨g,o,none⟩).run prog w :=
 run_ldS underlying344 rfl infoSNode w g o
@[go_sem] theorem storeSNode_run(w:World)(g:Nat)(hg:g=w.heap.size)(z:Array Value)(hz:z.size=34)(x:SNode)(e:TypeId):(stS 344 ⟨g,0,none⟩ (.agg (sNodeC x))).run prog (w.alloc (.cells z e))=.ok () (w.alloc (.cells (sNodeC x) e)) :=
 hg ▸ run_stS_new infoSNode w z (sNodeC x) hz (sNodeC_size x) (sNodeC_one x)
theorem fieldsSNode:prog.underlying 344=some (.struct (prog.fieldsOf 344)):=kR
theorem placesSNode(w:World):((prog.fieldsOf 344).mapM fun (f:Field)=>do pure (f.offset,<-sizeOf f.type)).run prog w=.ok #[(0,1),(1,32),(33,1)] w:=kR
@[go_sem ↓] theorem buildSNode_rw(parts:Array (Nat×Value)):Instr.build 344 parts=bdS 344 parts:=rfl
@[go_sem ↓] theorem fieldSNode_0(x:SNode)(w:World):(Instr.field 344 (.agg (sNodeC x)) 0).run prog w=.ok (.int .i64 x.h) w:=by
 unfold Instr.field;simp only[Sem.run_bind,run_underlying underlying344,Result.andThen_ok,part,asAgg,isAgg];simp[go_sem]
@[go_sem] theorem buildSNode(a0:Int)(a1:Id32)(a2:ByteArray)(w:World):(bdS 344 #[(0,.int .i64 a0),(1,.agg (idC a1)),(2,.string a2)]).run prog w=.ok (.agg (sNodeC ⟨a0,a1,a2⟩)) w:=by
 refine run_build w fieldsSNode _ (zeroSNode_run w) _ (placesSNode w) [(0,.int .i64 a0),(1,.agg (idC a1)),(2,.string a2)] _ ?_;rw[show sNodeC sNode0=(#[]:Array Value) ++ #[.int .i64 0]++(idC id0++(#[.string ⟨#[]⟩]))from by first | (simp[sNodeC,sNode0,Array.append_assoc];done) | (apply Array.ext';simp[sNodeC,sNode0])];rw[fill_step (off:=0) (size:=1) rfl sI sI (by simp[Value.cells])];rw[show(#[]:Array Value)++(Value.int .i64 a0).cells++(idC id0++(#[.string ⟨#[]⟩]))=(#[.int .i64 a0])++idC id0++(#[.string ⟨#[]⟩])from by first | (simp[Value.cells,Array.append_assoc];done) | (apply Array.ext';simp[Value.cells];done) | (apply Array.ext';simp only[Array.toList_append];simp[Value.cells])];rw[fill_step (off:=1) (size:=32) rfl sI sI (by simp[Value.cells])];rw[show(#[.int .i64 a0])++(Value.agg (idC a1)).cells++(#[.string ⟨#[]⟩])=(#[.int .i64 a0]++(idC a1)) ++ #[.string ⟨#[]⟩]++(#[]:Array Value)from by first | (simp[Value.cells,Array.append_assoc];done) | (apply Array.ext';simp[Value.cells];done) | (apply Array.ext';simp only[Array.toList_append];simp[Value.cells])];rw[fill_step (off:=33) (size:=1) rfl sI sI (by simp[Value.cells])];first | (simp[Instr.fill,sNodeC,Array.append_assoc,Value.cells];done) | (simp only[Instr.fill,sNodeC];congr 1;apply Array.ext';simp[Value.cells];done) | (simp only[Instr.fill,sNodeC];congr 1;done) | (simp only[Instr.fill,sNodeC];done)
def nodeVV(x:SNode):Value:=.agg (sNodeC x)
def snode(n:NodeV):SNode:=⟨n.h,n.ref,n.val⟩
structure Sl where
 A:Option Addr
 n:Nat
 c:Nat
def slV(s:Sl):Value:=.slice s.A s.n s.c
structure SeqAt(w:World)(M:List Nat)(g bn bb bg:Nat)(N:List NodeV)(G:List Id32):Prop where
 blk:w.heap[g]?=some (.cells #[.map (some bn),.map (some bb),.map (some bg)] 351 (0,0))
 nodes:∃es clk,MapAt w bn idV nodeVV okId (N.map λn=>(n.id,snode n)) es clk
 behind:∃BM es clk,MapAt w bb idV slV okId BM es clk/\(∀p∈BM,SlW w p.2.A p.2.n p.2.c 32 (((kids N p.1).map NodeV.id).map idC)/\∀x∈Go.Proofs.YtplpiicfkbpkaaaGreatDoor.blk p.2.A,x∉M/\x<w.heap.size)/\∀r,r∉BM.map (·.1)->kids N r = []
 gone:IdSet w bg G
 inM:bn∈M/\bb∈M/\bg∈M
 ne:bn≠bb/\bn≠bg/\bb≠bg
 one:OneId N
 ok:∀n∈N,nodeE n=0
section
variable {w w':World} {M:List Nat} {g bn bb bg:Nat} {N:List NodeV} {G:List Id32}
theorem SeqAt.cell0(h:SeqAt w M g bn bb bg N G):w.cell? ⟨g,0,none⟩=some (.map (some bn)):=by rw[cell_of_row w g 0 _ _ _ h.blk];rfl
theorem SeqAt.cell1(h:SeqAt w M g bn bb bg N G):w.cell? ⟨g,1,none⟩=some (.map (some bb)):=by rw[cell_of_row w g 1 _ _ _ h.blk];rfl
theorem SeqAt.cell2(h:SeqAt w M g bn bb bg N G):w.cell? ⟨g,2,none⟩=some (.map (some bg)):=by rw[cell_of_row w g 2 _ _ _ h.blk];rfl
theorem SeqAt.ltg(h:SeqAt w M g bn bb bg N G):g<w.heap.size:=(aG h.blk).1
theorem mapAt_ne{kv:κ->Value}{vv:ν->Value}{ok:κ->Prop}{w:World}{b g:Nat}{X:List (κ×ν)}{d:Nat}{t:TypeId}{f:Nat×Nat}(h:MapAt w b kv vv ok X es d)(hg:w.heap[g]?=some (.cells cs t f)):g≠b:=by
 rintro rfl;rw[h.heap]at hg;cases hg
theorem SeqAt.neg(h:SeqAt w M g bn bb bg N G):g≠bn/\g≠bb/\g≠bg:=by
 obtain⟨es,f,hn⟩:=h.nodes;obtain⟨BM,j,d,hb,_⟩:=h.behind;refine⟨mapAt_ne hn h.blk,mapAt_ne hb h.blk,?_⟩;rintro rfl;obtain⟨M',es,f,hm,_⟩:=h.gone;have:=h.blk.symm.trans hm.heap;cases this
theorem SeqAt.lt(h:SeqAt w M g bn bb bg N G):bn<w.heap.size/\bb<w.heap.size/\bg<w.heap.size:=by
 obtain⟨es,j,hn⟩:=h.nodes;obtain⟨BM,f,d,hb,_⟩:=h.behind;exact⟨hn.lt,hb.lt,h.gone.lt⟩
theorem SeqAt.kept{S:List Nat}(h:SeqAt w M g bn bb bg N G)(k:Keep S w w')(hS:∀x∈S,x∈M\/w.heap.size<=x)(hg:g∉S)(h1:bn∉S)(h2:bb∉S)(h3:bg∉S):SeqAt w' M g bn bb bg N G:=by
 obtain⟨es,s,hn⟩:=h.nodes;obtain⟨BM,r,d,hb,f,m⟩:=h.behind;refine⟨(k.block g h.ltg hg).trans h.blk,⟨es,s,hn.kept k h1⟩,⟨BM,r,d,hb.kept k h2,λp hp=>?_,m⟩,h.gone.kept k h3,h.inM,h.ne,h.one,h.ok⟩;obtain⟨s1,s2⟩:=f p hp;refine⟨?_,λx hx=>⟨(s2 x hx).1,Nat.lt_of_lt_of_le (s2 x hx).2 k.size⟩⟩;refine⟨⟨s1.rd.1,λh0=>?_⟩,s1.le,s1.nil,s1.plain⟩;obtain⟨q,o,e,hc⟩:=s1.rd.2 h0;refine⟨q,o,e,λi hi=>?_⟩;have j:=rowAt_lt (hc i hi);rw[k.row j (λhm=>(hS q hm).elim (s2 q (by simp[Go.Proofs.YtplpiicfkbpkaaaGreatDoor.blk,e])).1 oM) _ _];exact hc i hi
theorem SeqAt.below(h:SeqAt w M g bn bb bg N G)(k:Below w.heap.size w w'):SeqAt w' M g bn bb bg N G:=h.kept (Keep.of_below k) sI sI sI sI sI
theorem SeqAt.moreM{M':List Nat}(h:SeqAt w M g bn bb bg N G)(hM:∀x∈M,x∈M')(hn:∀x∈M',x∈M\/w.heap.size<=x):SeqAt w M' g bn bb bg N G:=by
 obtain⟨BM,k,f,hb,d,j⟩:=h.behind;refine⟨h.blk,h.nodes,⟨BM,k,f,hb,λp hp=>⟨(d p hp).1,λx hx=>⟨λhm=>?_,((d p hp).2 x hx).2⟩⟩,j⟩,h.gone,⟨hM _ h.inM.1,hM _ h.inM.2.1,hM _ h.inM.2.2⟩,h.ne,h.one,h.ok⟩;rcases hn x hm with h1 | h1
 ·exact((d p hp).2 x hx).1 h1
 ·have:=((d p hp).2 x hx).2;omega
end
theorem sqnone_live(w:World)(g b:Nat)(h:w.cell? ⟨g,0,none⟩=some (.map (some b))):Calls prog 310 #[.pointer (some ⟨g,0,none⟩)] w λe w'=>e=.returned (.bool false)/\w=w':=by
 have hn:=λr=>run_eql_map_nil (P:=prog) w 349 23 344 r underlying349;go_enter func310,ntmps310
 (go_wp2_with fail);go_ret;exact⟨rfl,rfl⟩
theorem sqcheck(d:Id32)(n:NodeV)(hd:d=n.id)(w:World)(hv:n.val.size<=9223372036854775807) :
  Calls prog 251 #[.agg (idC d),.agg (sNodeC (snode n))] w λe w'=>e=.returned (.int .i64 (nodeE n))/\Below w.heap.size w w':=by
 subst hd;obtain⟨d,h,ref,val⟩:=n;unfold snode;have hB:Below w.heap.size w ((w.alloc (.cells (idC d) 23)).alloc (.cells (sNodeC ⟨h,ref,val⟩) 344)):=(bA).alloc sI _;have hE:nodeE ⟨d,h,ref,val⟩=if 16<val.size then 3 else if h<1\/1073741824<h\/d=id0 then 5 else 0:=rfl;have HE:=dH hE;clear hE;dsimp only at *;obtain⟨b,hb⟩:=eX (d==id0)
 have Hb:=dH hb;cases b
 all_goals
  clear hb;go_enter func251,ntmps251
  go_wp2_with fail
  all_goals
   go_ret;exact⟨ret_int (by rw[HE.out];have f:=Hb.out;(repeat' split) <;> first | rfl | omega | (simp_all;done) | (simp_all;omega)),hB⟩
theorem hahead(ah:Int)(a:Id32)(bh:Int)(b:Id32)(w:World) :
  Calls prog 231 #[.int .i64 ah,.agg (idC a),.int .i64 bh,.agg (idC b)] w λe w'=>e=.returned (.bool (aheadB ah a bh b))/\Below w.heap.size w w':=by
 have hB:Below w.heap.size w ((w.alloc (.cells (idC a) 23)).alloc (.cells (idC b) 23)):=(bA).alloc sI _;have hA:aheadB ah a bh b=if ah=bh then decide (cmpId a b<0)else decide (ah<bh):=rfl;have HA:=dH hA;clear hA;by_cases h:ah=bh
 ·subst h;go_enter func231,ntmps231
  (go_wp2_with fail);refine(cmp_id a b _).mono ?_;rintro e w1 ⟨rfl,d⟩;have f:=bel2 hB d;clear hB d;(go_wp2_with fail);go_ret;exact⟨ret_bool (by rw[HA.out];simp),f⟩
 ·have hn:(ah != bh)=true:=by simpa using h
  have g:(ah==bh)=false:=by simpa using h
  have Hh:=dH h;clear h;go_enter func231,ntmps231
  (go_wp2_with fail);go_ret;exact⟨ret_bool (by rw[HA.out,if_neg Hh.out]),hB⟩
theorem sqdel(d:Id32)(w:World)(M:List Nat)(g bn bb bg:Nat)(N:List NodeV)(G:List Id32)(h:SeqAt w M g bn bb bg N G) :
  Calls prog 281 #[.pointer (some ⟨g,0,none⟩),.agg (idC d)] w λe w'=>e=.returned (.int .i64 0)/\SeqAt w' M g bn bb bg N (insC cmpId G d)/\Keep [bg] w w':=by
 have hB:Below w.heap.size w (w.alloc (.cells (idC d) 23)):=bA;have h1:=h.below hB;have hr:rowAt (w.alloc (.cells (idC d) 23)) w.heap.size 0 32=some (idC d):=by simp[go_sem]
 have F:=h.lt;go_enter func281,ntmps281
 go_upto_region 1 with fail
 obtain⟨ga,k⟩:=eX w.heap.size
 have L:=dH k;rw[k]at hr hB F |-;obtain⟨W,hW⟩:=eR (w.alloc (.cells (idC d) 23))
 rw[<-hW]at h1 hr hB |-;clear hW k;(go_wp2_with fail);refine(sqnone_live W g bn h1.cell0).mono ?_;rintro e w1 ⟨rfl,rfl⟩;go_upto_region 3 with fail
 have B:=h1.cell2;obtain⟨w2,j,D,y⟩:=iput (x:=d) (h1.gone.kept (Keep.drew W) sI);have A:g∉[bg]:=by simpa using h1.neg.2.2
 refine kX [bg] W ?_;intro E hS;have b1:=ksub_cell B A;have b2:=ksub_row hr (S:=[bg]) sO;refine lQ ?_;intro K hK;refine step_keep (kp_next hS y sI) (λhS=>?_);refine hK _ _ ?_;clear hK K;refine wpLx_nil ?_;intro hS;have f:Keep [bg] W w2:=hS;obtain⟨es,J,hn⟩:=h1.nodes;obtain⟨BM,I,r,hb,s,t⟩:=h1.behind;have m:SeqAt w2 M g bn bb bg N (insC cmpId G d):=by
  refine⟨(f.block g h1.ltg A).trans h1.blk,⟨es,J,hn.kept f (by simpa using h1.ne.2.1)⟩,⟨BM,I,r,hb.kept f (by simpa using h1.ne.2.2),λp hp=>?_,t⟩,SetAt.congr D (λx=>by rw[mem_insC totId,mem_cons]),h1.inM,h1.ne,h1.one,h1.ok⟩;obtain⟨s1,s2⟩:=s p hp;exact⟨s1.kept f (λx hx hm=>by have e:x=bg:=by simpa using hm
                                                                                                                                                                                                                                                                                   subst e;exact(s2 x hx).1 h1.inM.2.2),λx hx=>⟨(s2 x hx).1,Nat.lt_of_lt_of_le (s2 x hx).2 f.size⟩⟩
 have H:Keep [bg] w w2:=Keep.trans ((Keep.of_below (hB.mono (by rw[L.out];exact lR))).mono (S':=[bg]) sI) f iL;clear b1 b2 E hS y j hr B h1 hB D hn hb s t f;(go_wp2_with fail);go_ret;exact⟨rfl,m,H⟩
end
section
open Go.RowKit Go.Shelf
theorem run_slS_max{P:Program}{T:TypeId}{k bytes:Nat}(I:ElemInfo P T E k bytes)(w:World)(A:Option Addr)(n cap m:Nat)(hm:m<=cap) :
  (slS T (.slice A n cap) none (some (.int .i64 m)) (some (.int .i64 m))).run P w=.ok (.slice A m m) w:=by
 rw[run_slS I];unfold Instr.slice Instr.sliceBounds;simp only[Sem.run_bind,run_underlying I.und,Result.andThen_ok,Sem.run_pure,run_bound w m cap hm,run_bound w m m lR,I.sizeOf_run w];have e:(if m=0 then A else A.map λa=>a.add (0*k))=A:=by
  split
  ·rfl
  ·cases A with
   | none=>rfl
   | some a=>simp[Addr.add]
 simp only[Nat.sub_zero,e]
theorem grow0(w:World)(n:Nat)(h0:0<n)(hn:n<=1000000) :
  Calls prog 312 #[.slice none 0 0,.int .i64 n] w λe w'=>∃A cap,e=.returned (.slice A 0 cap)/\Own w' w.heap.size 23 32 A 0 cap []/\Below w.heap.size w w':=by
 obtain⟨i,z,hi,hz,s,r,m⟩:=einfoId.info;have c:=Any8.slices_Grow_grow layGrowId i z hi hz oM none 0 0 n [] w lR oM (by rw[r];omega) oM sI (λ_=>rfl) sI;have k:layGrowId_ren.t 25=23:=rfl;have hG:=grownCap_ge w (0+n) 0 23;have hM:=grownCap_le_maxLen w (0+n) 0 23 (by unfold maxLen;omega);rw[k]at c;obtain⟨G,j⟩:=eX (grownCap w (0+n) 0 23)
 rw[j]at c hG hM;clear j k;refine c.mono ?_;rintro e w' ⟨rfl,rfl⟩;obtain⟨cs,g⟩:=eX (#[]++Builtin.zeroCells z.cells (0+n-0)++Builtin.zeroCells z.cells (G-(0+n)):Array Value)
 have d:cs.size=G*32:=by
  rw[<-g,Array.size_append,Array.size_append,size_zeroCells,size_zeroCells,m];simp only[size_toArray,length_nil,Nat.zero_add,Nat.sub_zero];rw[<-Nat.add_mul,show n+(G-n)=G from by omega]
 have f:(([]:List Value).toArray++Builtin.zeroCells z.cells (0+n-0)++Builtin.zeroCells z.cells (G-(0+n)):Array Value)=cs:=g;rw[f];refine⟨some ⟨w.heap.size,0,none⟩,G,rfl,⟨⟨rfl,.inr ⟨w.heap.size,G,cs,rfl,lR,heap_alloc_new w.drew _,zL,hM,d,rfl⟩⟩,rfl,sI⟩,((Below.refl _ _).drew).alloc lR _⟩
theorem concat3(w:World)(q c0:Nat)(A1 A2 A3:Option Addr)(n1 n2 n3 c1 c2 c3:Nat)(R1 R2 R3:List Id32)(h1:TagsIn w A1 n1 R1)(h2:TagsIn w A2 n2 R2)(h3:TagsIn w A3 n3 R3)(f1:A1=none->c1=0)(f2:A2=none->c2=0)(f3:A3=none->c3=0)
  (k0:w.cell? ⟨q,0,none⟩=some (.slice A1 n1 c1))(k1:w.cell? ⟨q,1,none⟩=some (.slice A2 n2 c2))(k2:w.cell? ⟨q,2,none⟩=some (.slice A3 n3 c3))(hp:0<n1+n2+n3)(hn:n1+n2+n3<=1000000) :
  Calls prog 289 #[.slice (some ⟨q,0,none⟩) 3 c0] w λe w'=>∃A cap,e=.returned (.slice A (n1+n2+n3) cap)/\Own w' w.heap.size 23 32 A (n1+n2+n3) cap ((R1++R2++R3).map idC)/\Below w.heap.size w w':=by
 have cg:=grow0 w (n1+n2+n3) hp hn;rw[show((n1+n2+n3:Nat):Int)=(n1:Int)+(n2:Int)+(n3:Int)from by omega]at cg;go_enter func289,ntmps289
 (go_wp2_with fail);refine wp_loop_rounds 4 ?_;rw[rounds_succ];(go_wp2_with fail);rw[rounds_succ];(go_wp2_with fail);rw[rounds_succ];(go_wp2_with fail);rw[rounds_succ];(go_wp2_with fail);refine cg.mono ?_;rintro e w1 ⟨A,cap,rfl,j,hb⟩;have U:=(hb.cell (block_lt_of_cell? w _ k0)).trans k0;have X:=(hb.cell (block_lt_of_cell? w _ k1)).trans k1;have O:=(hb.cell (block_lt_of_cell? w _ k2)).trans k2;have t1:TagsIn w1 A1 n1 R1:=SlR.below h1 hb;have t2:TagsIn w1 A2 n2 R2:=SlR.below h2 hb;have t3:TagsIn w1 A3 n3 R3:=SlR.below h3 hb;have hq:q<w.heap.size:=block_lt_of_cell? w _ k0;have D:∀R:List Id32,∀r∈R.map idC,∀u∈r.toList,u.oneCell'=true:=λR r hr=>by
  obtain⟨x,_,rfl⟩:=mem_map.1 hr;exact idC_one x
 have a3:=hb.size;have m:=dH D;clear cg D;(go_wp2_with fail);refine wp_loop_rounds 4 ?_;rw[rounds_succ];go_wp2_with (at_builtin;refine L_appends einfoId rfl j rfl t1 f1 (m.out _) oM oM oM ?_;intro B1 d1 w2 f H B)
 simp only[Nat.zero_add,nil_append]at f;have k:Below w.heap.size w w2:=hb.trans (H.below (oH hb.size) (λx hx=>(j.at_base hx).1));have a1:=k.size;have V:=(k.cell (block_lt_of_cell? w _ k1)).trans k1;have N:=(k.cell (block_lt_of_cell? w _ k2)).trans k2;have Z:=(k.cell (block_lt_of_cell? w _ k0)).trans k0;have L:TagsIn w2 A2 n2 R2:=SlR.below h2 k;clear H B j U X O;rw[rounds_succ];go_wp2_with (at_builtin;refine L_appends einfoId rfl f rfl L f2 (m.out _) oM oM oM ?_;intro B3 d3 w3 d G y)
 simp only[<-map_append]at d;have s:Below w.heap.size w w3:=k.trans (G.below (oH k.size) (λx hx=>(f.at_base hx).1));have a0:=s.size;have T:=(s.cell (block_lt_of_cell? w _ k1)).trans k1;have M:=(s.cell (block_lt_of_cell? w _ k2)).trans k2;have Y:=(s.cell (block_lt_of_cell? w _ k0)).trans k0;have J:TagsIn w3 A3 n3 R3:=SlR.below h3 s;clear G y f Z V N;rw[rounds_succ];go_wp2_with (at_builtin;refine L_appends einfoId rfl d rfl J f3 (m.out _) oM oM oM ?_;intro B4 d4 w4 g F t)
 have I:Below w.heap.size w w4:=s.trans (F.below oM (λx hx=>(d.at_base hx).1));rw[<-map_append]at g;have E:=dH g;have a2:=(I.cell (block_lt_of_cell? w _ k0)).trans k0;clear F t d Y T M g;rw[rounds_succ];(go_wp2_with fail);go_ret;exact⟨B4,d4,rfl,E.out,I⟩
end
theorem kids_snoc(N:List NodeV)(n:NodeV)(r:Id32):kids (N ++ [n]) r=if n.ref=r then insC cmpN (kids N r) n else kids N r:=by
 rw[<-kids_cons];exact kids_congr (λx=>by simp[or_comm]) r
theorem mem_putL[DecidableEq κ]{M:List (κ×ν)}{k:κ}{v:ν}{p:κ×ν}(h:p∈putL M k v):p=(k,v)\/(p∈M/\p.1≠k):=by
 unfold putL at h;split at h
 ·obtain⟨q,hq,rfl⟩:=mem_map.1 h;split
  ·exact .inl rfl
  ·rename_i hne;exact .inr ⟨hq,hne⟩
 ·rename_i hno
  rcases mem_append.1 h with h | h
  ·exact .inr ⟨h,λe=>hno (mem_map.2 ⟨p,h,e⟩)⟩
  ·exact .inl (by simpa using h)
theorem keys_putL[DecidableEq κ]{M:List (κ×ν)}{k r:κ}{v:ν}(h:r∉(putL M k v).map (·.1)):r∉M.map (·.1)/\r≠k:=by
 unfold putL at h;split at h
 ·rename_i hin
  have e:(M.map λp=>if p.1=k then(k,v)else p).map (·.1)=M.map (·.1):=by
   rw[map_map];refine map_congr_left λp _=>?_;simp only[Function.comp_apply];split
   ·rename_i h;exact h.symm
   ·rfl
  rw[e]at h;exact⟨h,λe=>h (by rw[e];exact hin)⟩
 ·rw[map_append,mem_append]at h;exact⟨λh1=>h (.inl h1),λe=>h (.inr (by simp[e]))⟩
theorem zeroSlIds(w:World):(zeroValue 26).run prog w=.ok (.slice none 0 0) w:=kR
theorem blook{M:List Nat}{bb:Nat}{N:List NodeV}{BM:List (Id32×Sl)}{f:Nat}(hb:MapAt w bb idV slV okId BM es f)
  (d:∀p∈BM,SlW w p.2.A p.2.n p.2.c 32 (((kids N p.1).map NodeV.id).map idC)/\∀x∈blk p.2.A,x∉M/\x<w.heap.size)(g:∀r,r∉BM.map (·.1)->kids N r = [])(r:Id32) :
  ∃s:Sl,SlW w s.A s.n s.c 32 (((kids N r).map NodeV.id).map idC)/\(∀x∈blk s.A,x∉M/\x<w.heap.size) /\
   ∀w',MapAt w' bb idV slV okId BM es f->(Instr.lookup 221 (.map (some bb)) (.agg (idC r)) false).run prog w'=.ok (.slice s.A s.n s.c) w':=by
 by_cases h:r∈BM.map (·.1)
 ·obtain⟨p,hp,rfl⟩:=mem_map.1 h;exact⟨p.2,(d p hp).1,(d p hp).2,λw' hm=>hm.hit idKey underlying221 trivial hp false⟩
 ·refine⟨⟨none,0,0⟩,?_,by simp[blk],λw' hm=>hm.miss idKey underlying221 (zeroSlIds w') trivial h false⟩;rw[g r h];exact SlW.none_
theorem nlook{bn:Nat}{N:List NodeV}{f:Nat}(hn:MapAt w bn idV nodeVV okId (N.map λn=>(n.id,snode n)) es f){y:NodeV}(hy:y∈N)(d:Bool) :
  (Instr.lookup 349 (.map (some bn)) (.agg (idC y.id)) d).run prog w=.ok (if d then .tuple #[.agg (sNodeC (snode y)),.bool true]else .agg (sNodeC (snode y))) w :=
 hn.hit idKey underlying349 trivial (mem_map.2 ⟨y,hy,rfl⟩) d
@[go_sem ↓] theorem slIdC_rw(x:Value)(lo hi mx:Option Value):Instr.sliceAt 26 x lo hi mx=slS 26 x lo hi mx:=rfl
@[go_sem ↓] theorem bsIds3_run(w:World)(A B C:Option Addr)(n m k a b c:Nat):(Instr.buildSlice 400 3 #[(0,.slice A n a),(1,.slice B m b),(2,.slice C k c)]).run prog w=.ok (.slice (some ⟨w.heap.size,0,none⟩) 3 3) (w.alloc (.cells #[.slice A n a,.slice B m b,.slice C k c] 26)):=kR
theorem sqhang(n:NodeV)(w:World)(M:List Nat)(g bn bb bg:Nat)(N:List NodeV)(G:List Id32)(h:SeqAt w M g bn bb bg N G)(hM:∀x∈M,x<w.heap.size)(J:n.id∉N.map NodeV.id)(hE:nodeE n=0)(hl:N.length<=100000) :
  Calls prog 252 #[.pointer (some ⟨g,0,none⟩),.agg (idC n.id),.agg (sNodeC (snode n))] w λe w'=>e=.returned (.tuple #[])/\SeqAt w' M g bn bb bg (N ++ [n]) G/\Keep [bn,bb] w w':=by
 have hB:Below w.heap.size w ((w.alloc (.cells (idC n.id) 23)).alloc (.cells (sNodeC (snode n)) 344)):=(bA).alloc sI _;have h1:=h.below hB;have f7:rowAt ((w.alloc (.cells (idC n.id) 23)).alloc (.cells (sNodeC (snode n)) 344)) w.heap.size 0 32=some (idC n.id):=by simp[go_sem]
 have e0:rowAt ((w.alloc (.cells (idC n.id) 23)).alloc (.cells (sNodeC (snode n)) 344)) (w.heap.size+1) 0 34=some (sNodeC (snode n)):=by simp[go_sem]
 have g7:=h.lt;have k8:=h.ltg;go_enter func252,ntmps252
 go_upto_region 1 with fail
 obtain⟨ga,h4⟩:=eX w.heap.size
 have k3:=dH h4;rw[h4]at f7 e0 hB g7 k8 hM |-;obtain⟨W,hW⟩:=eR ((w.alloc (.cells (idC n.id) 23)).alloc (.cells (sNodeC (snode n)) 344))
 rw[<-hW]at h1 f7 e0 hB |-;clear hW h4;have g4:rowAt W (ga+1) 1 32=some (idC n.ref):=by have:=rowAt_sub e0 (j:=1) (m:=32) oM;rw[sNodeC_e1]at this;simpa[snode]using this
 have j4:W.cell? ⟨ga+1,0,none⟩=some (.int .i64 n.h):=by have:=rowAt_cell e0 (j:=0) oM;rw[sNodeC_g0]at this;simpa[snode]using this
 obtain⟨es,l6,hn⟩:=h1.nodes;obtain⟨BM,l5,l2,hb,j0,j1⟩:=h1.behind;obtain⟨⟨A,sn,sc⟩,f9,g1,a8⟩:=blook hb j0 j1 n.ref;dsimp only at f9 g1 a8;have i1:∀y∈kids N n.ref,y∈N:=λy hy=>(mem_kids.1 hy).1;have j8:=kids_length N n.ref;have j7:n∉kids N n.ref:=λhm=>J (mem_map.2 ⟨n,i1 n hm,rfl⟩);have c5:=h1.cell1;have hk:∀x:Subtype (Bel W),(Instr.lookup 221 (.map (some bb)) (.agg (idC n.ref)) false).run prog x.1=.ok (.slice A sn sc) x.1:=λx=>a8 x.1 (hb.kept (Keep.of_below x.2) sI);refine lX W ?_;intro L hS;have b1:=sub_cell c5;have b2:=sub_row g4;refine lZ ?_;refine wpLx_nil ?_;intro hS;have i2:Below ga w W.drew:=hB.drew;have h2:SeqAt W.drew M g bn bb bg N G:=h1.below (bel_drew W);have j2:=hn.kept (Keep.drew W) sI;have Y:=f9.below (bel_drew W);have O:rowAt W.drew ga 0 32=some (idC n.id):=f7;have Z:rowAt W.drew (ga+1) 0 34=some (sNodeC (snode n)):=e0;have g3:rowAt W.drew (ga+1) 1 32=some (idC n.ref):=g4;have f2:W.drew.cell? ⟨ga+1,0,none⟩=some (.int .i64 n.h):=j4;clear b1 b2 L hS hk a8 c5 hb j0 j1 hn f9 f7 e0 g4 j4 h1 hB;have c9:(kids N n.ref).length=sn:=by have:=Y.len;simpa using this
 obtain⟨K,hK⟩:=eX (kids N n.ref)
 rw[hK]at Y i1 j8 j7 c9;have HK:=dH hK;have b8:=dH c9;have k5:sn<=100000:=oM;clear hK c9 j8;obtain⟨W1,h9⟩:=eX W.drew
 rw[h9]at i2 h2 j2 Y O Z g3 f2 |-;have f5:W1.heap.size=W.heap.size:=by rw[<-h9];rfl
 rw[<-f5]at g1;clear h9 f5;(go_wp2_with fail);go_loopw [7] (λj wj=>∃m:Nat,m<=sn/\j=.int .i64 m/\Hid (∀i (hi:i<K.length),i<m->cmpN K[i] n<0)/\Below W1.heap.size W1 wj) (λj _=>sn-(intOf j).toNat)
 case atStart=>exact⟨0,zL,rfl,(show ∀i (hi:i<K.length),i<0->_ from λi _ h=>absurd h oM),Below.refl _ _⟩
 case round =>
  obtain⟨m,c4,rfl,c8,c3⟩:=hrel;have b9:rowAt wr ga 0 32=some (idC n.id):=(rowAt_of_block (c3.block ga (rowAt_lt O)) _ _).trans O;have d2:wr.cell? ⟨ga+1,0,none⟩=some (.int .i64 n.h):=(c3.cell (p:=⟨ga+1,0,none⟩) (rowAt_lt Z)).trans f2;have g0:=h2.below c3;have c6:=Y.below c3;by_cases U:m<sn
  ·obtain⟨q,o,rfl,f8⟩:=c6.rd.at_ U;rw[getElem_map,getElem_map]at f8;have c0:K[m]'(by rw[b8.out];exact U)∈K:=getElem_mem _;obtain⟨y,hy⟩:=eX (K[m]'(by rw[b8.out];exact U))
   rw[hy]at f8 c0;have i9:=i1 y c0;have e5:n.id≠y.id:=λe=>J (mem_map.2 ⟨y,i9,e.symm⟩);have h5:=cmpN_ahead (a:=n) (b:=y) e5;have k7:∀x:Subtype (Bel wr),(Instr.lookup 349 (.map (some bn)) (.agg (idC y.id)) false).run prog x.1=.ok (.agg (sNodeC ⟨y.h,y.ref,y.val⟩)) x.1:=λx=>nlook ((j2.kept (Keep.of_below c3) sI).kept (Keep.of_below x.2) sI) i9 false;have j5:=g0.cell0;have c2:=hahead n.h n.id y.h y.id wr.drew;obtain⟨c,hc⟩:=eX (aheadB n.h n.id y.h y.id)
   rw[hc]at c2 h5;have Hy:=dH hy;have k4:=dH h5;have i7:=dH c0;clear hc hy h5 c0 e5;go_upto_region 3 with fail
   refine lX wr ?_;intro L hS;have b1:=sub_row b9;have b2:=sub_row f8;have b3:=sub_cell d2;have b4:=sub_cell j5;refine lZ ?_;refine lC (c2) ?_;clear hS;intro w' hS;refine lZ ?_;refine wpLx_nil ?_;intro hS;have j6:Below wr.heap.size wr w':=hS;have R:=bel2 c3 j6;clear b1 b2 b3 b4 L hS c2 k7 j5;cases c with
   | true =>
    (go_wp2_with fail);go_roundw
    case rel =>
     refine⟨m+1,oM,by go_num,(show ∀i (hi:i<K.length),i<m+1->cmpN K[i] n<0 from λi hi l4=>?_),R⟩;by_cases e:i=m
     ·subst e;rw[Hy.out];exact of_decide_eq_true k4.out
     ·exact c8.out i hi oM
    case measure=>exact sZ
   | false =>
    have f4:=insC_at (c:=cmpN) K n m (by rw[b8.out];exact c4) c8.out (λj3=>by
     rw[Hy.out];have h1:¬cmpN y n<0:=of_decide_eq_false k4.out;have h2:cmpN y n≠0:=λe=>j7 (by rw[<-(totN.zero _ _).1 e];exact i7.out);omega)
    have i8:=dH f4;have d:=h2.below R;have f:=Y.below R;have I:rowAt w' ga 0 32=some (idC n.id):=(rowAt_of_block (R.block ga (rowAt_lt O)) _ _).trans O;have H:rowAt w' (ga+1) 0 34=some (sNodeC (snode n)):=(rowAt_of_block (R.block (ga+1) (rowAt_lt Z)) _ _).trans Z;have e3:Below ga w w':=i2.trans (R.mono (oH (rowAt_lt O)));have e4:=R.size;clear f4 f8 b9 d2 g0 c6 c3 R j6;obtain⟨V,rfl⟩:∃V,V=w':=⟨w',rfl⟩
    obtain⟨A,j9⟩:=eX (some ⟨q,o,none⟩:Option Addr)
    rw[j9]at f g1 |-;clear j9;have a3:rowAt V (ga+1) 1 32=some (idC n.ref):=by have:=rowAt_sub H (j:=1) (m:=32) oM;rw[sNodeC_e1]at this;simpa[snode]using this
    have c5:=d.cell1;have g6:m<=sc:=Nat.le_trans c4 f.le;have g5:∀w0:World,(slS 26 (.slice A sn sc) none (some (.int .i64 m)) (some (.int .i64 m))).run prog w0=.ok (.slice A m m) w0:=λw0=>run_slS_max einfoId w0 A sn sc m g6;obtain⟨Ah,ch,h0,f0,h3⟩:=f.hi (P:=prog) einfoId (m:=m) c4;have b0:g∉[bb]:=by simpa using d.neg.2.1
    go_upto_region 5 with fail
    refine kX [bb] V ?_;intro L hS;have b1:=ksub_cell c5 b0;have b2:=ksub_row I (S:=[bb]) sO;have b3:=ksub_row a3 (S:=[bb]) sO;refine lQ ?_;intro K hK;refine step_keep (kp_alloc hS _) (λhS=>?_);refine hK _ _ ?_;clear hK K;refine lQ ?_;intro K hK;refine step_keep (kp_alloc hS _) (λhS=>?_);refine hK _ _ ?_;clear hK K;have b6:Below V.heap.size V ((V.alloc (.cells (idC n.id) 23)).alloc (.cells #[.slice A m m,.slice (some ⟨V.heap.size,0,none⟩) 1 1,.slice Ah (sn-m) ch] 26)).drew:=((bA).alloc sI _).drew;have t1:TagsIn ((V.alloc (.cells (idC n.id) 23)).alloc (.cells #[.slice A m m,.slice (some ⟨V.heap.size,0,none⟩) 1 1,.slice Ah (sn-m) ch] 26)).drew A m ((K.map NodeV.id).take m):=by
     have:=(f.rd.below b6).take_ c4
     rwa [<-map_take]at this
    have t3:TagsIn ((V.alloc (.cells (idC n.id) 23)).alloc (.cells #[.slice A m m,.slice (some ⟨V.heap.size,0,none⟩) 1 1,.slice Ah (sn-m) ch] 26)).drew Ah (sn-m) ((K.map NodeV.id).drop m):=by
     have:=f0 _ (f.rd.below b6)
     rwa [<-map_drop]at this
    have t2:TagsIn ((V.alloc (.cells (idC n.id) 23)).alloc (.cells #[.slice A m m,.slice (some ⟨V.heap.size,0,none⟩) 1 1,.slice Ah (sn-m) ch] 26)).drew (some ⟨V.heap.size,0,none⟩) 1 [n.id]:=⟨rfl,λ_=>⟨V.heap.size,0,rfl,λi hi=>by
     have:i=0:=by simpa using hi
     subst this;simp[go_sem]⟩⟩
    have k0:((V.alloc (.cells (idC n.id) 23)).alloc (.cells #[.slice A m m,.slice (some ⟨V.heap.size,0,none⟩) 1 1,.slice Ah (sn-m) ch] 26)).drew.cell? ⟨V.heap.size+1,0,none⟩=some (.slice A m m):=by simp[go_sem]
    have k1:((V.alloc (.cells (idC n.id) 23)).alloc (.cells #[.slice A m m,.slice (some ⟨V.heap.size,0,none⟩) 1 1,.slice Ah (sn-m) ch] 26)).drew.cell? ⟨V.heap.size+1,1,none⟩=some (.slice (some ⟨V.heap.size,0,none⟩) 1 1):=by simp[go_sem]
    have k2:((V.alloc (.cells (idC n.id) 23)).alloc (.cells #[.slice A m m,.slice (some ⟨V.heap.size,0,none⟩) 1 1,.slice Ah (sn-m) ch] 26)).drew.cell? ⟨V.heap.size+1,2,none⟩=some (.slice Ah (sn-m) ch):=by simp[go_sem]
    have h8:((V.alloc (.cells (idC n.id) 23)).alloc (.cells #[.slice A m m,.slice (some ⟨V.heap.size,0,none⟩) 1 1,.slice Ah (sn-m) ch] 26)).drew.heap.size=V.heap.size+2:=by simp[World.drew]
    have k6:=e3.size;have d0:=rowAt_lt I;obtain⟨X,hX⟩:=eX (((V.alloc (.cells (idC n.id) 23)).alloc (.cells #[.slice A m m,.slice (some ⟨V.heap.size,0,none⟩) 1 1,.slice Ah (sn-m) ch] 26)).drew)
    rw[hX]at b6 t1 t2 t3 k0 k1 k2 h8 hS |-;clear hX;have cc:=concat3 X (V.heap.size+1) 3 A (some ⟨V.heap.size,0,none⟩) Ah m 1 (sn-m) m 1 ch _ _ _ t1 t2 t3 (λe=>oH (f.nil e)) (λe=>by cases e) h3 k0 k1 k2 oM oM;refine lQ ?_;intro K hK;refine cc.mono ?_;rintro e wC ⟨A5,T,rfl,t,d7⟩;replace hS:=kp_below hS d7;refine⟨_,rfl,hS,hK _ _ ?_⟩;clear hK K cc k0 k1 k2 t1 t2 t3;have k9:Keep [bb] V wC:=hS;obtain⟨l3,l1,i6,h6,a2,a7⟩:=d.behind;have f6:=bel2 b6 d7;have f3:=h6.kept (Keep.of_below f6) sI;have i0:((K.map NodeV.id).take m ++ [n.id]++(K.map NodeV.id).drop m)=(insC cmpN K n).map NodeV.id:=by rw[i8.out];simp[map_take,map_drop]
    rw[i0]at t;have a1:=t.slw;have E:∀x∈blk A5,x∉M/\x<wC.heap.size:=λx hx=>by
     obtain⟨h1,h2⟩:=t.at_base hx;exact⟨λhm=>oH (hM x hm),h2⟩
    obtain⟨wD,i4,d9,s,e8,c1⟩:=f3.update (P:=prog) (v:=(⟨A5,m+1+(sn-m),T⟩:Sl)) idKey underlying221 (k:=n.ref) trivial;change (Instr.mapUpdate 221 (.map (some bb)) (.agg (idC n.ref)) (.slice A5 (m+1+(sn-m)) T)).run prog wC=.ok () wD at s;refine lH ?_;intro K hK;refine step_keep (kp_next hS c1 sI) (λhS=>?_);refine hK _ _ ?_;clear hK K;refine wpLx_nil ?_;intro hS;have D:Keep [bb] V wD:=hS;have B:=(D.block g d.ltg b0).trans d.blk;have d3:bn∉[bb]:=by simpa using d.ne.1
    have d5:bg∉[bb]:=by simpa using λe=>d.ne.2.2 e.symm
    obtain⟨l0,i5,e6⟩:=d.nodes;have e7:=e6.kept D d3;have f1:=d.gone.kept D d5;have a0:SlW wD A5 (m+1+(sn-m)) T 32 (((insC cmpN K n).map NodeV.id).map idC):=a1.kept c1 (λx hx hm=>by
     have e:x=bb:=by simpa using hm
     subst e;exact(E _ hx).1 d.inM.2.1)
    have a5:rowAt wD ga 0 32=some (idC n.id):=(D.row d0 sO _ _).trans I;have a4:rowAt wD (ga+1) 0 34=some (sNodeC (snode n)):=(D.row (rowAt_lt H) sO _ _).trans H;have b5:wD.cell? ⟨g,0,none⟩=some (.map (some bn)):=by rw[cell_of_row wD g 0 _ _ _ B];rfl
    have g2:=D.size;clear b1 b2 b3 L hS s f3 e6 a1 d7 b6 f6 g5 h0 f0 a3 c5;go_upto_region 6 with fail
    obtain⟨wE,i3,d8,s,c7,e9⟩:=(e7.kept (Keep.drew wD) sI).update (P:=prog) (v:=snode n) idKey underlying349 (k:=n.id) trivial;change (Instr.mapUpdate 349 (.map (some bn)) (.agg (idC n.id)) (.agg (sNodeC (snode n)))).run prog wD.drew=.ok () wE at s;have a9:g∉[bn]:=by simpa using d.neg.1
    refine kX [bn] wD ?_;intro L hS;have b1:=ksub_cell b5 a9;have b2:=ksub_row a5 (S:=[bn]) sO;have b3:=ksub_row a4 (S:=[bn]) sO;refine lQ ?_;intro K hK;refine step_keep (kp_next hS e9 sI) (λhS=>?_);refine hK _ _ ?_;clear hK K;refine wpLx_nil ?_;intro hS;have F:Keep [bn] wD wE:=hS;have a6:putL (N.map λn=>(n.id,snode n)) n.id (snode n)=(N ++ [n]).map λn=>(n.id,snode n):=by
     unfold putL;rw[if_neg (by rw[map_map];exact J),map_append];rfl
    rw[a6]at c7;have d4:bb∉[bn]:=by simpa using λe=>d.ne.1 e.symm
    have d6:bg∉[bn]:=by simpa using λe=>d.ne.2.1 e.symm
    have d1:SeqAt wE M g bn bb bg (N ++ [n]) G:=by
     refine⟨(F.block g (oH d.ltg) a9).trans B,⟨i3,d8,c7⟩,⟨_,i4,d9,e8.kept F d4,λp hp=>?_,λr hr=>?_⟩,f1.kept F d6,d.inM,d.ne,?_,?_⟩
     ·rcases mem_putL hp with e | ⟨hp,L⟩
      ·subst e;dsimp only;have g8:kids (N ++ [n]) n.ref=insC cmpN (kids N n.ref) n:=by rw[kids_snoc,if_pos rfl]
       rw[g8,HK.out];exact⟨a0.kept F (λx hx hm=>by
        have e:x=bn:=by simpa using hm
        subst e;exact(E _ hx).1 d.inM.1),λx hx=>⟨(E x hx).1,Nat.lt_of_lt_of_le (E x hx).2 (Nat.le_trans c1.size F.size)⟩⟩
      ·obtain⟨s1,s2⟩:=a2 p hp;rw[kids_snoc,if_neg (λe=>L e.symm)];refine⟨(s1.kept D (λx hx hm=>?_)).kept F (λx hx hm=>?_),λx hx=>⟨(s2 x hx).1,Nat.lt_of_lt_of_le (s2 x hx).2 (Nat.le_trans D.size F.size)⟩⟩
       ·have e:x=bb:=by simpa using hm
        subst e;exact(s2 _ hx).1 d.inM.2.1
       ·have e:x=bn:=by simpa using hm
        subst e;exact(s2 _ hx).1 d.inM.1
     ·obtain⟨h1,h2⟩:=keys_putL hr;rw[kids_snoc,if_neg (λe=>h2 e.symm)];exact a7 r h1
     ·intro a ha b h7 e;rcases mem_append.1 ha with ha1 | ha1 <;> rcases mem_append.1 h7 with b7 | b7
      ·exact d.one a ha1 b b7 e
      ·have e2:b=n:=by simpa using b7
       rw[e2]at e;exact absurd (mem_map.2 ⟨a,ha1,e⟩) J
      ·have e2:a=n:=by simpa using ha1
       rw[e2]at e;exact absurd (mem_map.2 ⟨b,b7,e.symm⟩) J
      ·have e1:a=n:=by simpa using ha1
       have e2:b=n:=by simpa using b7
       rw[e1,e2]
     ·intro x hx;rcases mem_append.1 hx with hx | hx
      ·exact d.ok x hx
      ·have e:x=n:=by simpa using hx
       rw[e];exact hE
    have g9:Keep [bn,bb] w wE:=Keep.trans (Keep.trans ((Keep.of_below (e3.mono (by rw[k3.out];exact lR))).mono (S':=[bn,bb]) sI) (D.mono (S':=[bn,bb]) sI) iL) (F.mono (S':=[bn,bb]) sI) iL;clear b1 b2 b3 L hS e9 c1 s c7 e8 e7 f1 a0 a5 a4 b5 B a2 a7 F D d a6;(go_wp2_with fail);go_end0;exact⟨rfl,d1,g9⟩
  ·have hd:decide (m<sn)=false:=by simpa using U
   have f4:=insC_at (c:=cmpN) K n m (by rw[b8.out];exact c4) c8.out (λj3=>absurd (by rw[<-b8.out];exact j3) U);have i8:=dH f4;clear f4;go_upto_region 3 with fail
   refine lX wr ?_;intro L hS;refine lQ ?_;intro K hK;refine hK _ _ ?_;clear hK K;refine lZ ?_;refine wpLx_nil ?_;intro hS;have R:=c3.drew;have d:=h2.below R;have f:=Y.below R;have I:rowAt wr.drew ga 0 32=some (idC n.id):=b9;have H:rowAt wr.drew (ga+1) 0 34=some (sNodeC (snode n)):=(rowAt_of_block (R.block (ga+1) (rowAt_lt Z)) _ _).trans Z;have e3:Below ga w wr.drew:=i2.trans (R.mono (oH (rowAt_lt O)));have e4:=R.size;clear L hS R c3 U hd g0 c6 d2 b9;obtain⟨V,hV⟩:=eX wr.drew
   rw[hV]at d f I H e3 e4 |-;clear hV;have a3:rowAt V (ga+1) 1 32=some (idC n.ref):=by have:=rowAt_sub H (j:=1) (m:=32) oM;rw[sNodeC_e1]at this;simpa[snode]using this
   have c5:=d.cell1;have g6:m<=sc:=Nat.le_trans c4 f.le;have g5:∀w0:World,(slS 26 (.slice A sn sc) none (some (.int .i64 m)) (some (.int .i64 m))).run prog w0=.ok (.slice A m m) w0:=λw0=>run_slS_max einfoId w0 A sn sc m g6;obtain⟨Ah,ch,h0,f0,h3⟩:=f.hi (P:=prog) einfoId (m:=m) c4;have b0:g∉[bb]:=by simpa using d.neg.2.1
   go_upto_region 5 with fail
   refine kX [bb] V ?_;intro L hS;have b1:=ksub_cell c5 b0;have b2:=ksub_row I (S:=[bb]) sO;have b3:=ksub_row a3 (S:=[bb]) sO;refine lQ ?_;intro K hK;refine step_keep (kp_alloc hS _) (λhS=>?_);refine hK _ _ ?_;clear hK K;refine lQ ?_;intro K hK;refine step_keep (kp_alloc hS _) (λhS=>?_);refine hK _ _ ?_;clear hK K;have b6:Below V.heap.size V ((V.alloc (.cells (idC n.id) 23)).alloc (.cells #[.slice A m m,.slice (some ⟨V.heap.size,0,none⟩) 1 1,.slice Ah (sn-m) ch] 26)).drew:=((bA).alloc sI _).drew;have t1:TagsIn ((V.alloc (.cells (idC n.id) 23)).alloc (.cells #[.slice A m m,.slice (some ⟨V.heap.size,0,none⟩) 1 1,.slice Ah (sn-m) ch] 26)).drew A m ((K.map NodeV.id).take m):=by
    have:=(f.rd.below b6).take_ c4
    rwa [<-map_take]at this
   have t3:TagsIn ((V.alloc (.cells (idC n.id) 23)).alloc (.cells #[.slice A m m,.slice (some ⟨V.heap.size,0,none⟩) 1 1,.slice Ah (sn-m) ch] 26)).drew Ah (sn-m) ((K.map NodeV.id).drop m):=by
    have:=f0 _ (f.rd.below b6)
    rwa [<-map_drop]at this
   have t2:TagsIn ((V.alloc (.cells (idC n.id) 23)).alloc (.cells #[.slice A m m,.slice (some ⟨V.heap.size,0,none⟩) 1 1,.slice Ah (sn-m) ch] 26)).drew (some ⟨V.heap.size,0,none⟩) 1 [n.id]:=⟨rfl,λ_=>⟨V.heap.size,0,rfl,λi hi=>by
    have:i=0:=by simpa using hi
    subst this;simp[go_sem]⟩⟩
   have k0:((V.alloc (.cells (idC n.id) 23)).alloc (.cells #[.slice A m m,.slice (some ⟨V.heap.size,0,none⟩) 1 1,.slice Ah (sn-m) ch] 26)).drew.cell? ⟨V.heap.size+1,0,none⟩=some (.slice A m m):=by simp[go_sem]
   have k1:((V.alloc (.cells (idC n.id) 23)).alloc (.cells #[.slice A m m,.slice (some ⟨V.heap.size,0,none⟩) 1 1,.slice Ah (sn-m) ch] 26)).drew.cell? ⟨V.heap.size+1,1,none⟩=some (.slice (some ⟨V.heap.size,0,none⟩) 1 1):=by simp[go_sem]
   have k2:((V.alloc (.cells (idC n.id) 23)).alloc (.cells #[.slice A m m,.slice (some ⟨V.heap.size,0,none⟩) 1 1,.slice Ah (sn-m) ch] 26)).drew.cell? ⟨V.heap.size+1,2,none⟩=some (.slice Ah (sn-m) ch):=by simp[go_sem]
   have h8:((V.alloc (.cells (idC n.id) 23)).alloc (.cells #[.slice A m m,.slice (some ⟨V.heap.size,0,none⟩) 1 1,.slice Ah (sn-m) ch] 26)).drew.heap.size=V.heap.size+2:=by simp[World.drew]
   have k6:=e3.size;have d0:=rowAt_lt I;obtain⟨X,hX⟩:=eX (((V.alloc (.cells (idC n.id) 23)).alloc (.cells #[.slice A m m,.slice (some ⟨V.heap.size,0,none⟩) 1 1,.slice Ah (sn-m) ch] 26)).drew)
   rw[hX]at b6 t1 t2 t3 k0 k1 k2 h8 hS |-;clear hX;have cc:=concat3 X (V.heap.size+1) 3 A (some ⟨V.heap.size,0,none⟩) Ah m 1 (sn-m) m 1 ch _ _ _ t1 t2 t3 (λe=>oH (f.nil e)) (λe=>by cases e) h3 k0 k1 k2 oM oM;refine lQ ?_;intro K hK;refine cc.mono ?_;rintro e wC ⟨A5,T,rfl,t,d7⟩;replace hS:=kp_below hS d7;refine⟨_,rfl,hS,hK _ _ ?_⟩;clear hK K cc k0 k1 k2 t1 t2 t3;have k9:Keep [bb] V wC:=hS;obtain⟨l3,l1,i6,h6,a2,a7⟩:=d.behind;have f6:=bel2 b6 d7;have f3:=h6.kept (Keep.of_below f6) sI;have i0:((K.map NodeV.id).take m ++ [n.id]++(K.map NodeV.id).drop m)=(insC cmpN K n).map NodeV.id:=by rw[i8.out];simp[map_take,map_drop]
   rw[i0]at t;have a1:=t.slw;have E:∀x∈blk A5,x∉M/\x<wC.heap.size:=λx hx=>by
    obtain⟨h1,h2⟩:=t.at_base hx;exact⟨λhm=>oH (hM x hm),h2⟩
   obtain⟨wD,i4,d9,s,e8,c1⟩:=f3.update (P:=prog) (v:=(⟨A5,m+1+(sn-m),T⟩:Sl)) idKey underlying221 (k:=n.ref) trivial;change (Instr.mapUpdate 221 (.map (some bb)) (.agg (idC n.ref)) (.slice A5 (m+1+(sn-m)) T)).run prog wC=.ok () wD at s;refine lH ?_;intro K hK;refine step_keep (kp_next hS c1 sI) (λhS=>?_);refine hK _ _ ?_;clear hK K;refine wpLx_nil ?_;intro hS;have D:Keep [bb] V wD:=hS;have B:=(D.block g d.ltg b0).trans d.blk;have d3:bn∉[bb]:=by simpa using d.ne.1
   have d5:bg∉[bb]:=by simpa using λe=>d.ne.2.2 e.symm
   obtain⟨l0,i5,e6⟩:=d.nodes;have e7:=e6.kept D d3;have f1:=d.gone.kept D d5;have a0:SlW wD A5 (m+1+(sn-m)) T 32 (((insC cmpN K n).map NodeV.id).map idC):=a1.kept c1 (λx hx hm=>by
    have e:x=bb:=by simpa using hm
    subst e;exact(E _ hx).1 d.inM.2.1)
   have a5:rowAt wD ga 0 32=some (idC n.id):=(D.row d0 sO _ _).trans I;have a4:rowAt wD (ga+1) 0 34=some (sNodeC (snode n)):=(D.row (rowAt_lt H) sO _ _).trans H;have b5:wD.cell? ⟨g,0,none⟩=some (.map (some bn)):=by rw[cell_of_row wD g 0 _ _ _ B];rfl
   have g2:=D.size;clear b1 b2 b3 L hS s f3 e6 a1 d7 b6 f6 g5 h0 f0 a3 c5;go_upto_region 6 with fail
   obtain⟨wE,i3,d8,s,c7,e9⟩:=(e7.kept (Keep.drew wD) sI).update (P:=prog) (v:=snode n) idKey underlying349 (k:=n.id) trivial;change (Instr.mapUpdate 349 (.map (some bn)) (.agg (idC n.id)) (.agg (sNodeC (snode n)))).run prog wD.drew=.ok () wE at s;have a9:g∉[bn]:=by simpa using d.neg.1
   refine kX [bn] wD ?_;intro L hS;have b1:=ksub_cell b5 a9;have b2:=ksub_row a5 (S:=[bn]) sO;have b3:=ksub_row a4 (S:=[bn]) sO;refine lQ ?_;intro K hK;refine step_keep (kp_next hS e9 sI) (λhS=>?_);refine hK _ _ ?_;clear hK K;refine wpLx_nil ?_;intro hS;have F:Keep [bn] wD wE:=hS;have a6:putL (N.map λn=>(n.id,snode n)) n.id (snode n)=(N ++ [n]).map λn=>(n.id,snode n):=by
    unfold putL;rw[if_neg (by rw[map_map];exact J),map_append];rfl
   rw[a6]at c7;have d4:bb∉[bn]:=by simpa using λe=>d.ne.1 e.symm
   have d6:bg∉[bn]:=by simpa using λe=>d.ne.2.1 e.symm
   have d1:SeqAt wE M g bn bb bg (N ++ [n]) G:=by
    refine⟨(F.block g (oH d.ltg) a9).trans B,⟨i3,d8,c7⟩,⟨_,i4,d9,e8.kept F d4,λp hp=>?_,λr hr=>?_⟩,f1.kept F d6,d.inM,d.ne,?_,?_⟩
    ·rcases mem_putL hp with e | ⟨hp,L⟩
     ·subst e;dsimp only;have g8:kids (N ++ [n]) n.ref=insC cmpN (kids N n.ref) n:=by rw[kids_snoc,if_pos rfl]
      rw[g8,HK.out];exact⟨a0.kept F (λx hx hm=>by
       have e:x=bn:=by simpa using hm
       subst e;exact(E _ hx).1 d.inM.1),λx hx=>⟨(E x hx).1,Nat.lt_of_lt_of_le (E x hx).2 (Nat.le_trans c1.size F.size)⟩⟩
     ·obtain⟨s1,s2⟩:=a2 p hp;rw[kids_snoc,if_neg (λe=>L e.symm)];refine⟨(s1.kept D (λx hx hm=>?_)).kept F (λx hx hm=>?_),λx hx=>⟨(s2 x hx).1,Nat.lt_of_lt_of_le (s2 x hx).2 (Nat.le_trans D.size F.size)⟩⟩
      ·have e:x=bb:=by simpa using hm
       subst e;exact(s2 _ hx).1 d.inM.2.1
      ·have e:x=bn:=by simpa using hm
       subst e;exact(s2 _ hx).1 d.inM.1
    ·obtain⟨h1,h2⟩:=keys_putL hr;rw[kids_snoc,if_neg (λe=>h2 e.symm)];exact a7 r h1
    ·intro a ha b h7 e;rcases mem_append.1 ha with ha1 | ha1 <;> rcases mem_append.1 h7 with b7 | b7
     ·exact d.one a ha1 b b7 e
     ·have e2:b=n:=by simpa using b7
      rw[e2]at e;exact absurd (mem_map.2 ⟨a,ha1,e⟩) J
     ·have e2:a=n:=by simpa using ha1
      rw[e2]at e;exact absurd (mem_map.2 ⟨b,b7,e.symm⟩) J
     ·have e1:a=n:=by simpa using ha1
      have e2:b=n:=by simpa using b7
      rw[e1,e2]
    ·intro x hx;rcases mem_append.1 hx with hx | hx
     ·exact d.ok x hx
     ·have e:x=n:=by simpa using hx
      rw[e];exact hE
   have g9:Keep [bn,bb] w wE:=Keep.trans (Keep.trans ((Keep.of_below (e3.mono (by rw[k3.out];exact lR))).mono (S':=[bn,bb]) sI) (D.mono (S':=[bn,bb]) sI) iL) (F.mono (S':=[bn,bb]) sI) iL;clear b1 b2 b3 L hS e9 c1 s c7 e8 e7 f1 a0 a5 a4 b5 B a2 a7 F D d a6;(go_wp2_with fail);go_end0;exact⟨rfl,d1,g9⟩
def addN(N:List NodeV)(n:NodeV):List NodeV:=if nodeE n=0 then(if n.id∈N.map NodeV.id then N else N ++ [n])else N
@[go_sem] theorem zeroNode_run(w:World):(zeroValue 344).run prog w=.ok (.agg (sNodeC sNode0)) w:=kR
theorem sqinsert(n:NodeV)(w:World)(M:List Nat)(g bn bb bg:Nat)(N:List NodeV)(G:List Id32)(h:SeqAt w M g bn bb bg N G)(hM:∀x∈M,x<w.heap.size)(hv:n.val.size<=9223372036854775807)(hl:N.length<=100000) :
  Calls prog 280 #[.pointer (some ⟨g,0,none⟩),.agg (idC n.id),.int .i64 n.h,.agg (idC n.ref),.string n.val] w λe w'=>e=.returned (.int .i64 (nodeE n))/\SeqAt w' M g bn bb bg (addN N n) G/\Keep [bn,bb] w w':=by
 have A:Below w.heap.size w (((w.alloc (.cells (idC n.id) 23)).alloc (.cells (idC n.ref) 23)).alloc (.cells (sNodeC ⟨n.h,n.ref,n.val⟩) 344)):=((bA).alloc sI _).alloc sO _;have h0:=h.below A;have F:rowAt (((w.alloc (.cells (idC n.id) 23)).alloc (.cells (idC n.ref) 23)).alloc (.cells (sNodeC ⟨n.h,n.ref,n.val⟩) 344)) w.heap.size 0 32=some (idC n.id):=by simp[go_sem];intro e;omega
 have D:rowAt (((w.alloc (.cells (idC n.id) 23)).alloc (.cells (idC n.ref) 23)).alloc (.cells (sNodeC ⟨n.h,n.ref,n.val⟩) 344)) (w.heap.size+2) 0 34=some (sNodeC ⟨n.h,n.ref,n.val⟩):=by simp[go_sem]
 have H:((w.alloc (.cells (idC n.id) 23)).alloc (.cells (idC n.ref) 23)).cell? ⟨g,0,none⟩=some (.map (some bn)):=((((Below.refl w.heap.size w).alloc lR (.cells (idC n.id) 23)).alloc sI (.cells (idC n.ref) 23)).cell (p:=⟨g,0,none⟩) h.ltg).trans h.cell0;have a2:sNodeC (snode n)=sNodeC ⟨n.h,n.ref,n.val⟩:=rfl;go_enter func280,ntmps280
 (go_wp2_with fail);refine(sqnone_live _ g bn H).mono ?_;rintro e w1 ⟨rfl,rfl⟩;go_upto_region 4 with fail
 obtain⟨ga,Y⟩:=eX w.heap.size
 have O:=dH Y;rw[Y]at F D A hM |-;obtain⟨W,hW⟩:=eR (((w.alloc (.cells (idC n.id) 23)).alloc (.cells (idC n.ref) 23)).alloc (.cells (sNodeC ⟨n.h,n.ref,n.val⟩) 344))
 rw[<-hW]at h0 F D A |-;clear hW Y H;have cc:=sqcheck n.id n rfl W hv;rw[a2]at cc;obtain⟨E,hE⟩:=eX (nodeE n)
 rw[hE]at cc;have HE:=dH hE;have t:Hid (addN N n=if nodeE n=0 then(if n.id∈N.map NodeV.id then N else N ++ [n])else N):=rfl;clear hE;(go_wp2_with fail);refine cc.mono ?_;rintro e w2 ⟨rfl,I⟩;have L:Below ga w w2:=A.trans (I.mono (by have:=A.size;have:=O.out;omega));have h2:=h0.below I;have d:rowAt w2 ga 0 32=some (idC n.id):=(rowAt_of_block (I.block ga (rowAt_lt F)) _ _).trans F;have f:rowAt w2 (ga+2) 0 34=some (sNodeC ⟨n.h,n.ref,n.val⟩):=(rowAt_of_block (I.block (ga+2) (rowAt_lt D)) _ _).trans D;clear cc I F D h0 A;by_cases V:E=0
 ·subst V;go_upto_region 7 with fail
  have T:=h2.cell0;obtain⟨es,a8,hn⟩:=h2.nodes;by_cases r:n.id∈N.map NodeV.id
  ·obtain⟨y,a3,U⟩:=mem_map.1 r;have hk:∀x:Subtype (Bel w2),(Instr.lookup 349 (.map (some bn)) (.agg (idC n.id)) true).run prog x.1=.ok (.tuple #[.agg (sNodeC ⟨y.h,y.ref,y.val⟩),.bool true]) x.1:=λx=>by
    have:=nlook (hn.kept (Keep.of_below x.2) sI) a3 true;rw[U]at this;exact this
   have Z:=dH r;clear r U hn;have X:(stS 344 ⟨w2.heap.size,0,none⟩ (.agg (sNodeC ⟨y.h,y.ref,y.val⟩))).run prog (w2.alloc (.cells (sNodeC sNode0) 344)).drew=.ok () (w2.alloc (.cells (sNodeC ⟨y.h,y.ref,y.val⟩) 344)).drew:=storeSNode_run w2.drew _ rfl _ sI ⟨y.h,y.ref,y.val⟩ _;have J:Hid (Bel w2 (w2.alloc (.cells (sNodeC ⟨y.h,y.ref,y.val⟩) 344)).drew):=(bA).drew;refine lX w2 ?_;intro R hS;have b1:=sub_cell T;have b2:=sub_row d;refine lQ ?_;intro K hK;refine step_keep (bel_alloc hS _) (λhS=>?_);refine hK _ _ ?_;clear hK K;refine lQ ?_;intro K hK;first | refine step_keep J.out (λhS=>?_) | skip
   refine hK _ _ ?_;clear hK K;refine lZ ?_;refine wpLx_nil ?_;intro hS;have j:Below w2.heap.size w2 (w2.alloc (.cells (sNodeC ⟨y.h,y.ref,y.val⟩) 344)).drew:=hS;have h3:=h2.below j;have s:=L.trans (j.mono (oH (rowAt_lt d)));have m:rowAt (w2.alloc (.cells (sNodeC ⟨y.h,y.ref,y.val⟩) 344)).drew ga 0 32=some (idC n.id):=(rowAt_of_block (j.block ga (rowAt_lt d)) _ _).trans d;have k:rowAt (w2.alloc (.cells (sNodeC ⟨y.h,y.ref,y.val⟩) 344)).drew (ga+2) 0 34=some (sNodeC ⟨n.h,n.ref,n.val⟩):=(rowAt_of_block (j.block (ga+2) (rowAt_lt f)) _ _).trans f;clear b1 b2 R hS j X J hk T d f h2 L;obtain⟨w3,B⟩:=eX ((w2.alloc (.cells (sNodeC ⟨y.h,y.ref,y.val⟩) 344)).drew)
   rw[B]at h3 s m k |-;clear B;(go_wp2_with fail);go_ret;have e1:addN N n=N:=by rw[t.out,if_pos HE.out,if_pos Z.out]
   exact⟨ret_int (by rw[HE.out]),by rw[e1];exact h3,(Keep.of_below (s.mono (by rw[O.out];exact lR))).mono sI⟩
  ·have a0:n.id∉(N.map λn=>(n.id,snode n)).map (·.1):=by rw[map_map];exact r
   have hk:∀x:Subtype (Bel w2),(Instr.lookup 349 (.map (some bn)) (.agg (idC n.id)) true).run prog x.1=.ok (.tuple #[.agg (sNodeC sNode0),.bool false]) x.1:=λx =>
    (hn.kept (Keep.of_below x.2) sI).miss idKey underlying349 (zeroNode_run x.1) trivial a0 true
   have Z:=dH r;clear a0 hn;have X:(stS 344 ⟨w2.heap.size,0,none⟩ (.agg (sNodeC sNode0))).run prog (w2.alloc (.cells (sNodeC sNode0) 344)).drew=.ok () (w2.alloc (.cells (sNodeC sNode0) 344)).drew:=storeSNode_run w2.drew _ rfl _ sI sNode0 _;have J:Hid (Bel w2 (w2.alloc (.cells (sNodeC sNode0) 344)).drew):=(bA).drew;refine lX w2 ?_;intro R hS;have b1:=sub_cell T;have b2:=sub_row d;refine lQ ?_;intro K hK;refine step_keep (bel_alloc hS _) (λhS=>?_);refine hK _ _ ?_;clear hK K;refine lQ ?_;intro K hK;first | refine step_keep J.out (λhS=>?_) | skip
   refine hK _ _ ?_;clear hK K;refine lZ ?_;refine wpLx_nil ?_;intro hS;have j:Below w2.heap.size w2 (w2.alloc (.cells (sNodeC sNode0) 344)).drew:=hS;have h3:=h2.below j;have s:=L.trans (j.mono (oH (rowAt_lt d)));have m:rowAt (w2.alloc (.cells (sNodeC sNode0) 344)).drew ga 0 32=some (idC n.id):=(rowAt_of_block (j.block ga (rowAt_lt d)) _ _).trans d;have k:rowAt (w2.alloc (.cells (sNodeC sNode0) 344)).drew (ga+2) 0 34=some (sNodeC ⟨n.h,n.ref,n.val⟩):=(rowAt_of_block (j.block (ga+2) (rowAt_lt f)) _ _).trans f;clear b1 b2 R hS j X J hk T d f h2 L;obtain⟨w3,B⟩:=eX ((w2.alloc (.cells (sNodeC sNode0) 344)).drew)
   rw[B]at h3 s m k |-;clear B;have a7:=s.size;have a5:∀x∈M,x<w3.heap.size:=λx hx=>(by have:=hM x hx;have:=O.out;omega);have ch:=sqhang n w3 M g bn bb bg N G h3 a5 r HE.out hl;rw[a2]at ch;clear r;(go_wp2_with fail);refine ch.mono ?_;rintro e w4 ⟨rfl,h4,a1⟩;have a4:Keep [bn,bb] w w4:=Keep.trans ((Keep.of_below (s.mono (by rw[O.out];exact lR))).mono (S':=[bn,bb]) sI) a1 iL;clear ch a1 h3 s m k;(go_wp2_with fail);go_ret;have e1:addN N n=N ++ [n]:=by rw[t.out,if_pos HE.out,if_neg Z.out]
   exact⟨ret_int (by rw[HE.out]),by rw[e1];exact h4,a4⟩
 ·have R:(E != 0)=true:=by simpa using V
  have a6:=dH V;clear V;(go_wp2_with fail);go_ret;have e1:addN N n=N:=by rw[t.out,if_neg (by rw[HE.out];exact a6.out)]
  exact⟨ret_int (by rw[HE.out]),by rw[e1];exact h2,(Keep.of_below (L.mono (by rw[O.out];exact lR))).mono sI⟩

theorem vdoes_b2(m:MarkV)(o:OpV)(A:Option Addr)(c:Nat)(w:World)(g gt bl bg:Nat)(t:ByteArray)(b:Nat)(I:List Id32)(L G:List BRow)(h:ViewAt w g t b I (.iface 248 (.pointer (some ⟨gt,0,none⟩))))(hT:BagAt w gt bl bg L G)(hk:o.k=2)(hv:o.val.size<=16) :
  Calls prog 238 #[.pointer (some ⟨g,0,none⟩),.agg (markVC m),.agg (opC o A c)] w λe w'=>e=.returned (.tuple #[])/\BagAt w' gt bl bg (addB L G ⟨m.id,o.val⟩) G/\Keep [bl] w w':=by
 obtain⟨k,n,key,val,ref,refs⟩:=o;dsimp only at *;unfold opC at *;dsimp only at *;have hB:Below w.heap.size w ((w.alloc (.cells (markVC m) 240)).alloc (.cells (opPC ⟨k,n,key,val,ref,.slice A refs.length c⟩) 28)):=(bA).alloc sI _;have hc:=(h.below hB).cell2;have s:=hT.below hB;have f:rowAt ((w.alloc (.cells (markVC m) 240)).alloc (.cells (opPC ⟨k,n,key,val,ref,.slice A refs.length c⟩) 28)) w.heap.size 0 34=some (markVC m):=((Keep.alloc (w.alloc (.cells (markVC m) 240)) _).row sI sI 0 34).trans (by simp[go_sem]);have y:rowAt ((w.alloc (.cells (markVC m) 240)).alloc (.cells (opPC ⟨k,n,key,val,ref,.slice A refs.length c⟩) 28)) w.heap.size 0 32=some (idC m.id):=by have:=rowAt_sub f (j:=0) (m:=32) oM;rwa [markVC_e0]at this
 have B:((k:Int)==2)=true:=by rw[hk];rfl
 clear hk;have ci:=λw' (h':BagAt w' gt bl bg L G)=>badd m.id val w' gt bl bg L G h' oM;clear hT h;have Hv:=dH hv;clear hv;go_enter func238,ntmps238
 (go_wp2_with fail);refine(ci _ s).mono ?_;rintro e w1 ⟨rfl,h1,r⟩;have d:Keep [bl] w w1:=Keep.trans ((Keep.of_below hB).mono (S':=[bl]) sI) r iL;clear hB hc s ci r f y;(go_wp2_with fail);go_end0;exact⟨rfl,h1,d⟩
theorem vdoes_b3(m:MarkV)(o:OpV)(A:Option Addr)(c:Nat)(w:World)(g gt bl bg:Nat)(t:ByteArray)(b:Nat)(I:List Id32)(L G:List BRow)(h:ViewAt w g t b I (.iface 248 (.pointer (some ⟨gt,0,none⟩))))(hT:BagAt w gt bl bg L G)(hk:(o.k==2)=false)(hv:o.val.size<=16)(hA:TagsIn w A o.refs.length o.refs)(hn:o.refs.length<=8) :
  Calls prog 238 #[.pointer (some ⟨g,0,none⟩),.agg (markVC m),.agg (opC o A c)] w λe w'=>e=.returned (.tuple #[])/\BagAt w' gt bl bg (remL L o.val o.refs) (remG G o.val o.refs)/\Keep [bl,bg] w w':=by
 obtain⟨k,n,key,val,ref,refs⟩:=o;dsimp only at *;unfold opC at *;dsimp only at *;have hB:Below w.heap.size w ((w.alloc (.cells (markVC m) 240)).alloc (.cells (opPC ⟨k,n,key,val,ref,.slice A refs.length c⟩) 28)):=(bA).alloc sI _;have hc:=(h.below hB).cell2;have s:=hT.below hB;have f:rowAt ((w.alloc (.cells (markVC m) 240)).alloc (.cells (opPC ⟨k,n,key,val,ref,.slice A refs.length c⟩) 28)) w.heap.size 0 34=some (markVC m):=((Keep.alloc (w.alloc (.cells (markVC m) 240)) _).row sI sI 0 34).trans (by simp[go_sem]);have B:rowAt ((w.alloc (.cells (markVC m) 240)).alloc (.cells (opPC ⟨k,n,key,val,ref,.slice A refs.length c⟩) 28)) w.heap.size 0 32=some (idC m.id):=by have:=rowAt_sub f (j:=0) (m:=32) oM;rwa [markVC_e0]at this
 have y:TagsIn _ A refs.length refs:=SlR.below hA hB;have ci:=λw' (h':BagAt w' gt bl bg L G) (hA':TagsIn w' A refs.length refs)=>brem_ok val A refs.length c refs w' gt bl bg L G h' hA' hv oM;have HA:=dH y;clear hT h hA hn y;have Hv:=dH hv;clear hv;go_enter func238,ntmps238
 (go_wp2_with fail);refine(ci _ s HA.out).mono ?_;rintro e w1 ⟨rfl,h1,r⟩;have d:Keep [bl,bg] w w1:=Keep.trans ((Keep.of_below hB).mono (S':=[bl,bg]) sI) r iL;clear hB hc s ci r f B HA;(go_wp2_with fail);go_end0;exact⟨rfl,h1,d⟩
theorem vdoes_l(m:MarkV)(o:OpV)(A:Option Addr)(c:Nat)(w:World)(g gt bl:Nat)(t:ByteArray)(b:Nat)(I:List Id32)(L:List LRow)(h:ViewAt w g t b I (.iface 251 (.pointer (some ⟨gt,0,none⟩))))(hT:LastAt w gt bl L)(hk:o.key.size<=16)(hv:o.val.size<=16) :
  Calls prog 238 #[.pointer (some ⟨g,0,none⟩),.agg (markVC m),.agg (opC o A c)] w λe w'=>e=.returned (.tuple #[])/\LastAt w' gt bl (setL L o.key ⟨o.val,o.n,m.id⟩)/\Keep [bl] w w':=by
 obtain⟨k,n,key,val,ref,refs⟩:=o;dsimp only at *;unfold opC at *;dsimp only at *;have hB:Below w.heap.size w ((w.alloc (.cells (markVC m) 240)).alloc (.cells (opPC ⟨k,n,key,val,ref,.slice A refs.length c⟩) 28)):=(bA).alloc sI _;have hc:=(h.below hB).cell2;have s:=hT.below hB;have f:rowAt ((w.alloc (.cells (markVC m) 240)).alloc (.cells (opPC ⟨k,n,key,val,ref,.slice A refs.length c⟩) 28)) w.heap.size 0 34=some (markVC m):=((Keep.alloc (w.alloc (.cells (markVC m) 240)) _).row sI sI 0 34).trans (by simp[go_sem]);have y:rowAt ((w.alloc (.cells (markVC m) 240)).alloc (.cells (opPC ⟨k,n,key,val,ref,.slice A refs.length c⟩) 28)) w.heap.size 0 32=some (idC m.id):=by have:=rowAt_sub f (j:=0) (m:=32) oM;rwa [markVC_e0]at this
 have ci:=λw' (h':LastAt w' gt bl L)=>lset key val n m.id w' gt bl L h' oM oM;clear hT h;have Hv:=dH (And.intro hk hv);clear hv hk;go_enter func238,ntmps238
 (go_wp2_with fail);refine(ci _ s).mono ?_;rintro e w1 ⟨rfl,h1,r⟩;have d:Keep [bl] w w1:=Keep.trans ((Keep.of_below hB).mono (S':=[bl]) sI) r iL;clear hB hc s ci r f y;(go_wp2_with fail);go_end0;exact⟨rfl,h1,d⟩
theorem vdoes_m(m:MarkV)(o:OpV)(A:Option Addr)(c:Nat)(w:World)(g gt bl bo:Nat)(t:ByteArray)(b:Nat)(I:List Id32)(X:List MRow)(O:List Id32)(h:ViewAt w g t b I (.iface 254 (.pointer (some ⟨gt,0,none⟩))))(hT:MultiAt w gt bl bo X O)(hk:o.key.size<=16)(hv:o.val.size<=16)(hA:TagsIn w A o.refs.length o.refs)(hn:o.refs.length<=8)(hX:X.length<1000000) :
  Calls prog 238 #[.pointer (some ⟨g,0,none⟩),.agg (markVC m),.agg (opC o A c)] w λe w'=>e=.returned (.tuple #[])/\MultiAt w' gt bl bo (setX X O ⟨m.id,o.key,o.val⟩ o.refs) (putO O o.refs)/\Keep [bl,bo] w w':=by
 obtain⟨k,n,key,val,ref,refs⟩:=o;dsimp only at *;unfold opC at *;dsimp only at *;have hB:Below w.heap.size w ((w.alloc (.cells (markVC m) 240)).alloc (.cells (opPC ⟨k,n,key,val,ref,.slice A refs.length c⟩) 28)):=(bA).alloc sI _;have hc:=(h.below hB).cell2;have s:=hT.below hB;have f:rowAt ((w.alloc (.cells (markVC m) 240)).alloc (.cells (opPC ⟨k,n,key,val,ref,.slice A refs.length c⟩) 28)) w.heap.size 0 34=some (markVC m):=((Keep.alloc (w.alloc (.cells (markVC m) 240)) _).row sI sI 0 34).trans (by simp[go_sem]);have B:rowAt ((w.alloc (.cells (markVC m) 240)).alloc (.cells (opPC ⟨k,n,key,val,ref,.slice A refs.length c⟩) 28)) w.heap.size 0 32=some (idC m.id):=by have:=rowAt_sub f (j:=0) (m:=32) oM;rwa [markVC_e0]at this
 have y:TagsIn _ A refs.length refs:=SlR.below hA hB;have ci:=λw' (h':MultiAt w' gt bl bo X O) (hA':TagsIn w' A refs.length refs)=>mset m.id key val A refs.length c refs w' gt bl bo X O h' hA' hk hv oM hX;have HA:=dH y;clear hT h hA hn y hX;have Hv:=dH (And.intro hk hv);clear hv hk;go_enter func238,ntmps238
 (go_wp2_with fail);refine(ci _ s HA.out).mono ?_;rintro e w1 ⟨rfl,h1,r⟩;have d:Keep [bl,bo] w w1:=Keep.trans ((Keep.of_below hB).mono (S':=[bl,bo]) sI) r iL;clear hB hc s ci r f B HA;(go_wp2_with fail);go_end0;exact⟨rfl,h1,d⟩
theorem vdoes_s6(m:MarkV)(o:OpV)(A:Option Addr)(c:Nat)(w:World)(g gt bn bb bg:Nat)(t:ByteArray)(b:Nat)(I:List Id32)(M:List Nat)(N:List NodeV)(G:List Id32)(h:ViewAt w g t b I (.iface 257 (.pointer (some ⟨gt,0,none⟩))))(hT:SeqAt w M gt bn bb bg N G)(hM:∀x∈M,x<w.heap.size)(hk:o.k=6)(hv:o.val.size<=16)(hN:N.length<=100000) :
  Calls prog 238 #[.pointer (some ⟨g,0,none⟩),.agg (markVC m),.agg (opC o A c)] w λe w'=>e=.returned (.tuple #[])/\SeqAt w' M gt bn bb bg (addN N ⟨m.id,m.h,o.ref,o.val⟩) G/\Keep [bn,bb] w w':=by
 obtain⟨k,n,key,val,ref,refs⟩:=o;dsimp only at *;unfold opC at *;dsimp only at *;have hB:Below w.heap.size w ((w.alloc (.cells (markVC m) 240)).alloc (.cells (opPC ⟨k,n,key,val,ref,.slice A refs.length c⟩) 28)):=(bA).alloc sI _;have hc:=(h.below hB).cell2;have s:=hT.below hB;have d:rowAt ((w.alloc (.cells (markVC m) 240)).alloc (.cells (opPC ⟨k,n,key,val,ref,.slice A refs.length c⟩) 28)) w.heap.size 0 34=some (markVC m):=((Keep.alloc (w.alloc (.cells (markVC m) 240)) _).row sI sI 0 34).trans (by simp[go_sem]);have D:rowAt ((w.alloc (.cells (markVC m) 240)).alloc (.cells (opPC ⟨k,n,key,val,ref,.slice A refs.length c⟩) 28)) w.heap.size 0 32=some (idC m.id):=by have:=rowAt_sub d (j:=0) (m:=32) oM;rwa [markVC_e0]at this
 have E:((k:Int)==6)=true:=by rw[hk];rfl
 clear hk;have y:Hid (∀x∈M,x<_):=dH λx hx=>Nat.lt_of_lt_of_le (hM x hx) hB.size;have B:=rowAt_cell d (j:=33-1) oM;have ci:=λw' (h':SeqAt w' M gt bn bb bg N G) (hM':∀x∈M,x<w'.heap.size)=>sqinsert ⟨m.id,m.h,ref,val⟩ w' M gt bn bb bg N G h' hM' (by simp only;omega) hN;clear hT h hM hN;have Hv:=dH hv;clear hv;go_enter func238,ntmps238
 (go_wp2_with fail);refine(ci _ s y.out).mono ?_;rintro e w1 ⟨rfl,h1,r⟩;have f:Keep [bn,bb] w w1:=Keep.trans ((Keep.of_below hB).mono (S':=[bn,bb]) sI) r iL;clear hB hc s ci r d D B y;(go_wp2_with fail);go_end0;exact⟨rfl,h1,f⟩
theorem vdoes_s7(m:MarkV)(o:OpV)(A:Option Addr)(c:Nat)(w:World)(g gt bn bb bg:Nat)(t:ByteArray)(b:Nat)(I:List Id32)(M:List Nat)(N:List NodeV)(G:List Id32)(h:ViewAt w g t b I (.iface 257 (.pointer (some ⟨gt,0,none⟩))))(hT:SeqAt w M gt bn bb bg N G)(hk:(o.k==6)=false) :
  Calls prog 238 #[.pointer (some ⟨g,0,none⟩),.agg (markVC m),.agg (opC o A c)] w λe w'=>e=.returned (.tuple #[])/\SeqAt w' M gt bn bb bg N (insC cmpId G o.ref)/\Keep [bg] w w':=by
 obtain⟨k,n,key,val,ref,refs⟩:=o;dsimp only at *;unfold opC at *;dsimp only at *;have hB:Below w.heap.size w ((w.alloc (.cells (markVC m) 240)).alloc (.cells (opPC ⟨k,n,key,val,ref,.slice A refs.length c⟩) 28)):=(bA).alloc sI _;have hc:=(h.below hB).cell2;have s:=hT.below hB;have f:rowAt ((w.alloc (.cells (markVC m) 240)).alloc (.cells (opPC ⟨k,n,key,val,ref,.slice A refs.length c⟩) 28)) w.heap.size 0 34=some (markVC m):=((Keep.alloc (w.alloc (.cells (markVC m) 240)) _).row sI sI 0 34).trans (by simp[go_sem]);have y:rowAt ((w.alloc (.cells (markVC m) 240)).alloc (.cells (opPC ⟨k,n,key,val,ref,.slice A refs.length c⟩) 28)) w.heap.size 0 32=some (idC m.id):=by have:=rowAt_sub f (j:=0) (m:=32) oM;rwa [markVC_e0]at this
 have ci:=λw' (h':SeqAt w' M gt bn bb bg N G)=>sqdel ref w' M gt bn bb bg N G h';clear hT h;go_enter func238,ntmps238
 (go_wp2_with fail);refine(ci _ s).mono ?_;rintro e w1 ⟨rfl,h1,r⟩;have d:Keep [bg] w w1:=Keep.trans ((Keep.of_below hB).mono (S':=[bg]) sI) r iL;clear hB hc s ci r f y;(go_wp2_with fail);go_end0;exact⟨rfl,h1,d⟩
structure Pair where
 key:ByteArray
 val:ByteArray
def pair0:Pair:=⟨⟨#[]⟩,⟨#[]⟩⟩
theorem Pair_ext{x y:Pair}(h:x.key=y.key/\x.val=y.val):x=y:=by cases x;cases y;simp_all
instance:DecidableEq Pair:=λx y=>if h:x.key=y.key/\x.val=y.val then isTrue (Pair_ext h)else isFalse (λe=>h (by subst e;simp))

section
open Go.RowKit Go.Sort Go.Shelf
section
variable {α:Type} [Inhabited α] {enc:α->Array Value} {k:Nat}
theorem own_holds{g n cap:Nat}{L:List α}(hk:0<k)(hs:∀x,(enc x).size=k)(h:Own w B E k (some ⟨g,0,none⟩) n cap (L.map enc)) :
  HoldsK (λx=>(enc x).toList) k w g 0 L.toArray:=by
 intro j hj;have f:j<L.length*k:=by simpa using hj
 have hi:j / k<L.length:=Nat.div_lt_of_lt_mul (by rw[Nat.mul_comm];exact f);have hr:j % k<k:=Nat.mod_lt _ hk;have he:j / k*k+j % k=j:=by rw[Nat.mul_comm];exact Nat.div_add_mod j k
 have hl:L.length=n:=by simpa using h.len
 obtain⟨g',o,e,d⟩:=h.slr.at_ (i:=j / k) oM;injection e with e
 injection e with e1 e2
 subst e1;subst e2;rw[getElem_map]at d;have hc:=rowAt_cell d hr;rw[Nat.zero_add,he]at hc;refine⟨?_,?_⟩
 ·rw[Nat.zero_add,hc,get_flatK _ _ _ j (by simpa using f),getElem!_pos L.toArray (j / k) (by simpa using hi)];have m:j % k<(enc L[j / k]).toList.length:=by simpa[hs]using hr
  rw[getElem!_pos _ (j % k) (by simpa using m)];simp[hs,hr]
 ·obtain⟨⟨_,h2⟩,_,_⟩:=h;rcases h2 with⟨h2,_⟩ | ⟨g',c,cur,hv,hb,hg,_⟩
  ·cases h2
  ·injection hv with hA
   injection hA with hA
   injection hA with hA
   subst hA;simp[frozen?,hg]
theorem own_putF{g n n' cap:Nat}{L L':List (Array Value)}(h:Own w B E k (some ⟨g,0,none⟩) n cap L)(f:n'<=n)(m:Nat)(F:Array Value)(hF:F.size=n*k)(hL:F.toList.take (n'*k)=L'.flatMap Array.toList)(hl:L'.length=n')(hs:∀c∈L',c.size=k)(os:Array Obj) :
  Own (grow (putRow id (Sort.ahead w m) g 0 F) os) B E k (some ⟨g,0,none⟩) n' cap L'/\Keep [g] w (grow (putRow id (Sort.ahead w m) g 0 F) os):=by
 obtain⟨⟨_,h2⟩,_,_⟩:=h;rcases h2 with⟨h2,_⟩ | ⟨g',c,cur,hv,hb,hg,hnc,hcm,hcs,htake⟩
 ·cases h2
 injection hv with hA _ hc
 injection hA with hA
 injection hA with hA
 subst hA;subst hc;have s:g<w.heap.size:=(aG hg).1;have d:(grow (putRow id (Sort.ahead w m) g 0 F) os).heap[g]?=some (.cells (putCells id 0 F cur) E (0,0)):=by
  rw[heap_grow_old _ _ (by simpa[putRow,mapBlock,Sort.ahead]using s)];show(w.heap.modify g _)[g]?=_;rw[Array.getElem?_modify,if_pos rfl,hg];rfl
 have t:n*k<=cur.size:=by rw[hcs];exact Nat.mul_le_mul_right k hnc
 have r:n'*k<=n*k:=Nat.mul_le_mul_right k f;refine⟨⟨⟨?_,.inr ⟨g,cap,_,rfl,hb,d,oM,hcm,?_,?_⟩⟩,hl,hs⟩,?_⟩
 ·rw[flat_len _ k hs,hl]
 ·simp[putCells,hcs]
 ·rw[<-hL];apply ext_getElem?;intro j;by_cases hj:j<n'*k
  ·rw[getElem?_take,getElem?_take,if_pos hj,if_pos hj,Array.getElem?_toList,Array.getElem?_toList];unfold putCells;rw[Array.getElem?_mapIdx,Array.getElem?_eq_getElem (oM:j<cur.size),Array.getElem?_eq_getElem (oM:j<F.size)];simp only[Option.map_some,Nat.zero_le,true_and,Nat.zero_add,Nat.sub_zero,hF];rw[if_pos oM,getElem!_pos _ j oM];rfl
  ·rw[getElem?_eq_none sO,getElem?_eq_none sO]
 ·refine⟨rfl,rfl,rfl,?_,λx hx hn=>?_⟩
  ·rw[size_grow];simp[putRow,mapBlock,Sort.ahead]
  ·rw[heap_grow_old _ _ (by simpa[putRow,mapBlock,Sort.ahead]using hx)];show(w.heap.modify g _)[x]?=_;rw[Array.getElem?_modify,if_neg (by simpa[eq_comm]using hn)]
theorem own_sorted{g n cap:Nat}{L:List α}(hk:0<k)(hs:∀x,(enc x).size=k)(h:Own w B E k (some ⟨g,0,none⟩) n cap (L.map enc))(m:Nat)(L':List α)(hl:L'.length=L.length)(os:Array Obj) :
  Own (sortWorldK (λx=>(enc x).toList) k w g 0 m L'.toArray os) B E k (some ⟨g,0,none⟩) n cap (L'.map enc)/\Keep [g] w (sortWorldK (λx=>(enc x).toList) k w g 0 m L'.toArray os):=by
 have hn:L.length=n:=by simpa using h.len
 have d:∀c∈L'.map enc,c.size=k:=λc hc=>(by obtain⟨x,_,rfl⟩:=mem_map.1 hc;exact hs x);have f:(L'.map enc).flatMap Array.toList=(flatK (λx=>(enc x).toList) k L'.toArray).toList:=by
  apply ext_getElem?;intro j;have s:=flat_len (L'.map enc) k d;rw[length_map]at s;by_cases hj:j<L'.length*k
  ·have hi:j / k<L'.length:=Nat.div_lt_of_lt_mul (by rw[Nat.mul_comm];exact hj);have hr:j % k<k:=Nat.mod_lt _ hk;have he:j / k*k+j % k=j:=by rw[Nat.mul_comm];exact Nat.div_add_mod j k
   have e1:=flat_get (L'.map enc) k d (j / k) (j % k) (by simpa using hi) hr;rw[he]at e1;rw[e1];have d:j<(flatK (λx=>(enc x).toList) k L'.toArray).size:=by simpa using hj
   rw[Array.getElem?_toList,Array.getElem?_eq_getElem d,<-getElem!_pos _ j d,get_flatK _ _ _ j (by simpa using hj),getElem!_pos L'.toArray (j / k) (by simpa using hi)];have r:j % k<(enc L'[j / k]).toList.length:=by simpa[hs]using hr
   rw[getElem_map,getElem_toArray,getElem!_pos _ (j % k) r];simp[hs,hr]
  ·rw[getElem?_eq_none oM,getElem?_eq_none (by simpa using hj)]
 have hF:(flatK (λx=>(enc x).toList) k L'.toArray).size=n*k:=by simp[hl,hn]
 exact own_putF h lR m (flatK (λx=>(enc x).toList) k L'.toArray) hF (by rw[f,take_of_length_le (by simpa using Nat.le_of_eq hF)]) (by simp[hl,hn]) d os
end
end
section
open Go.RowKit Go.Sort Go.Shelf
instance:Inhabited BRow:=⟨bRow0⟩
@[go_sem ↓] theorem bsBRow_rw(n:Nat)(parts:Array (Nat×Value)):Instr.buildSlice 310 n parts=bsS 310 n parts:=rfl
end
section
open Go.RowKit Go.Sort Go.Shelf
def strR(s:ByteArray):Array Value:=#[.string s]
def bl(s:ByteArray):List UInt8:=s.data.toList
end
section
open Go.RowKit Go.Sort Go.Shelf Go.Lib
@[go_sem ↓] theorem bsStr_rw(n:Nat)(parts:Array (Nat×Value)):Instr.buildSlice 69 n parts=bsS 69 n parts:=rfl
@[go_sem] theorem bsStr_run(w:World)(x:ByteArray):(bsS 69 1 #[(0,.string x)]).run prog w=.ok (.slice (some ⟨w.heap.size,0,none⟩) 1 1) (w.alloc (.cells (strR x) 9)):=kR
end

end Go.Proofs.YtplpiicfkbpkaaaGreatDoor
