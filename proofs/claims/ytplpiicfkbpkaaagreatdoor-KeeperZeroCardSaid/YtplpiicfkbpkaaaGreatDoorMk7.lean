/- Part 7 of the texts that lead to this claim: the walks of the functions and the plain law, in order. -/
import Derived.Test.YtplpiicfkbpkaaaGreatDoorMk6
import Derived.LoopN
import Derived.LaidEqlPtr
namespace Go.Proofs.YtplpiicfkbpkaaaGreatDoor
open Go.RowKit
open List hiding and get max min or set
open Go.Proofs.Tryz
open World
set_option maxRecDepth 100000
set_option maxHeartbeats 8000000
variable {n x:Nat}{L:List Id32}{D:List HdX}{y:HdV}{S:List Pay}{p:Pay}{c d:Id32}{w:World}{N P:List (Id32×Nat)}
section
structure VOk(D:List HdX)(v:VwX):Prop where
 k0:kindB v.t≠0
 kind:kindB v.t=v.s.kind
 nd:v.I.Nodup
 mem:∀i∈v.I,i∈tpsX D v.t
 len:v.s.len<=100+v.I.length
def FOk(D:List HdX)(S:List Pay)(v:VwX):Prop:=∀x∈D,x.h.tp=v.t->paidX D S x.id≠none->x.id∈v.I
structure StOk(n:Nat)(X:StX):Prop where
 q0:0<=X.q
 q1:X.q<=4096
 nd:(idsX X.D).Nodup
 ris:RisX X.D
 ok:∀x∈X.D,hdE x.h=0/\x.id=hdI x.h
 len:X.D.length<=n
 ns:(X.S.map (·.c)).Nodup
 body:∀p∈X.S,p.c=shaI p.body.data.toList/\1<=p.body.size/\p.body.size<=512
 bytes:(bytesX X.S:Int)<=X.q
 nv:(X.V.map (·.t)).Nodup
 lv:X.V.length<=8
 vw:∀v∈X.V,VOk X.D v
 fold:∀v∈X.V,FOk X.D X.S v
 own:∀i∈X.O,i∈idsX X.D
section
variable {D:List HdX} {S:List Pay} {v:VwX} {i j:Id32}
theorem foldI_t(D:List HdX)(S:List Pay)(v:VwX)(i:Id32):(foldI D S v i).t=v.t:=by
 unfold foldI foldV;(repeat' split) <;> rfl
def fitI(D:List HdX)(S:List Pay)(t:ByteArray)(i:Id32):Prop:=∃h,hdOf D i=some h/\paidX D S i≠none/\t=h.tp
theorem foldI_mem:j∈(foldI D S v i).I↔j∈v.I\/(j=i/\fitI D S v.t i):=by
 unfold foldI fitI;cases h1:hdOf D i with
 | none=>simp
 | some h =>
  cases h2:paidX D S i with
  | none=>simp
  | some b =>
   simp only[];by_cases ht:v.t=h.tp
   ·rw[if_pos ht];unfold foldV;by_cases hi:i∈v.I
    ·rw[if_pos hi];constructor
     ·exact .inl
     ·rintro(h | ⟨rfl,_⟩)
      ·exact h
      ·exact hi
    ·rw[if_neg hi];show j∈i :: v.I↔_;rw[mem_cons];constructor
     ·rintro(e | e)
      ·exact .inr ⟨e,h,rfl,sI,ht⟩
      ·exact .inl e
     ·rintro(e | ⟨e,_⟩)
      ·exact .inr e
      ·exact .inl e
   ·rw[if_neg ht];constructor
    ·exact .inl
    ·rintro(e | ⟨_,h',e,_,e2⟩)
     ·exact e
     ·injection e with e;subst e;exact absurd e2 ht
theorem foldI_ok(h:VOk D v)(i:Id32)(S:List Pay):VOk D (foldI D S v i):=by
 have d:∀j∈(foldI D S v i).I,j∈tpsX D (foldI D S v i).t:=by
  intro j hj;rw[foldI_t];rcases foldI_mem.1 hj with e | ⟨rfl,h',e,_,e2⟩
  ·exact h.mem j e
  ·obtain⟨x,hx,h1,h2⟩:=hdOf_some e;exact tpsX_mem.2 ⟨x,hx,by rw[h2,e2],h1⟩
 refine⟨by rw[foldI_t];exact h.k0,?_,?_,d,?_⟩
 ·rw[foldI_t,h.kind];unfold foldI foldV;(repeat' split) <;> first | rfl | exact(foldS_kind _ _ _).symm
 ·unfold foldI foldV;split
  ·split
   ·split
    ·exact h.nd
    ·rename_i hi;exact nodup_cons.2 ⟨hi,h.nd⟩
   ·exact h.nd
  ·exact h.nd
 ·unfold foldI foldV;split
  ·split
   ·split
    ·exact h.len
    ·rename_i z b _ _ _ _
     have h1:=foldS_len v.t ⟨i,z.ht,b⟩ v.s;have h2:=h.len;show(foldS v.t ⟨i,z.ht,b⟩ v.s).len<=100+(v.I.length+1);omega
   ·exact h.len
  ·exact h.len
variable {L:List Id32}
theorem folds_t(D:List HdX)(S:List Pay):∀(L:List Id32) (v:VwX),(L.foldl (foldI D S) v).t=v.t
 | [],_=>rfl
 | i :: L,v=>by rw[foldl_cons,folds_t D S L,foldI_t]
theorem folds_ok(S:List Pay):∀(L:List Id32) {v:VwX},VOk D v->VOk D (L.foldl (foldI D S) v)
 | [],_,h=>h
 | i :: L,v,h=>folds_ok S L (foldI_ok h i S)
theorem folds_mem:∀ {L:List Id32} {v:VwX},j∈(L.foldl (foldI D S) v).I↔j∈v.I\/(j∈L/\fitI D S v.t j)
 | [],v=>by simp
 | i :: L,v=>by
  rw[foldl_cons,folds_mem,foldI_mem,foldI_t,mem_cons];constructor
  ·rintro((h | ⟨rfl,h⟩) | ⟨h,h2⟩)
   ·exact .inl h
   ·exact .inr ⟨.inl rfl,h⟩
   ·exact .inr ⟨.inr h,h2⟩
  ·rintro(h | ⟨rfl | h,h2⟩)
   ·exact .inl (.inl h)
   ·exact .inl (.inr ⟨rfl,h2⟩)
   ·exact .inr ⟨h,h2⟩
theorem foldsX_ts(X:StX)(L:List Id32):(foldsX X L).V.map (·.t)=X.V.map (·.t):=by
 unfold foldsX;rw[map_map];exact map_congr_left λv _=>folds_t _ _ _ _
theorem VOk.grow{D':List HdX}(h:VOk D v)(hD:∀x∈D,x∈D'):VOk D' v :=
 ⟨h.k0,h.kind,h.nd,λi hi=>by
  obtain⟨x,hx,h1,h2⟩:=tpsX_mem.1 (h.mem i hi);exact tpsX_mem.2 ⟨x,hD x hx,h1,h2⟩,h.len⟩
end
theorem folds_st{X:StX}(q0:0<=X.q)(q1:X.q<=4096)(nd:(idsX X.D).Nodup)(ris:RisX X.D)(ok:∀x∈X.D,hdE x.h=0/\x.id=hdI x.h)(len:X.D.length<=n)(ns:(X.S.map (·.c)).Nodup)
  (body:∀p∈X.S,p.c=shaI p.body.data.toList/\1<=p.body.size/\p.body.size<=512)(bytes:(bytesX X.S:Int)<=X.q)(nv:(X.V.map (·.t)).Nodup)(lv:X.V.length<=8)(vw:∀v∈X.V,VOk X.D v)
  (hf:∀v∈X.V,∀x∈X.D,x.h.tp=v.t->paidX X.D X.S x.id≠none->x.id∈v.I\/x.id∈L)(own:∀i∈X.O,i∈idsX X.D):StOk n (foldsX X L):=by
 refine⟨q0,q1,nd,ris,ok,len,ns,body,bytes,by rw[foldsX_ts];exact nv,by unfold foldsX;simpa using lv,λv hv=>?_,λv hv x hx ht hp=>?_,own⟩
 ·obtain⟨u,hu,rfl⟩:=mem_map.1 hv;exact folds_ok _ _ (vw u hu)
 ·obtain⟨u,hu,rfl⟩:=mem_map.1 hv;rw[folds_t]at ht;refine folds_mem.2 ?_;rcases hf u hu x hx ht hp with h | h
  ·exact .inl h
  ·exact .inr ⟨h,x.h,hdOf_mem nd hx,hp,ht.symm⟩
theorem paidX_pin(D:List HdX)(S:List Pay)(c i:Id32):paidX D (pinX S c) i=paidX D S i:=by
 unfold paidX;cases hdOf D i with
 | none=>rfl
 | some h =>
  have e:=pinX_pay S c h.cm;simp only[];cases h1:payX (pinX S c) h.cm with
  | none =>
   rw[h1]at e;cases h2:payX S h.cm with
   | none=>rfl
   | some p=>rw[h2]at e;cases e
  | some p =>
   rw[h1]at e;cases h2:payX S h.cm with
   | none=>rw[h2]at e;cases e
   | some p' =>
    rw[h2]at e;have e:p.body=p'.body:=by simpa using e
    simp only[e]
theorem addX_mem{h:HdV}{x:HdX}:x∈addX D h↔x∈D\/(verX D h=0/\hdI h∉idsX D/\x=⟨hdI h,h⟩):=by
 unfold addX;split
 ·rename_i hc
  rw[mem_insX];constructor
  ·rintro(e | e)
   ·exact .inr ⟨hc.1,hc.2,e⟩
   ·exact .inl e
  ·rintro(e | ⟨_,_,e⟩)
   ·exact .inr e
   ·exact .inl e
 ·rename_i hc
  exact⟨.inl,λe=>e.elim id λe=>absurd ⟨e.1,e.2.1⟩ hc⟩
theorem verX_ok{h:HdV}(e:verX D h=0):hdE h=0/\(∀p∈h.ps,p∈idsX D)/\topX D h.ps=h.ht:=by
 unfold verX at e;split at e
 ·contradiction
 rename_i h1
 split at e
 ·cases e
 rename_i h2
 split at e
 ·cases e
 rename_i h3
 refine⟨Classical.not_not.1 h1,λp hp=>?_,Classical.not_not.1 h3⟩;have h2:unkX D h.ps = []:=Classical.not_not.1 h2;unfold unkX at h2;rw[filter_eq_nil_iff]at h2;simpa using h2 p hp
section
variable {n:Nat} {X:StX}
theorem StOk.mono(h:StOk n X){m:Nat}(hm:n<=m):StOk m X:=⟨h.q0,h.q1,h.nd,h.ris,h.ok,Nat.le_trans h.len hm,h.ns,h.body,h.bytes,h.nv,h.lv,h.vw,h.fold,h.own⟩
theorem StOk.new(q:Int)(h0:0<=q)(h1:q<=4096):StOk 0 ⟨q,[],[],[],[]⟩ :=
 ⟨h0,h1,nodup_nil,Pairwise.nil,sI,lR,sI,sI,by simpa[bytesX]using h0,sI,sI,sI,sI,sI⟩
theorem addX_ok(h:StOk n X)(hv:verX X.D y=0):(idsX (addX X.D y)).Nodup/\RisX (addX X.D y)/\(∀x∈addX X.D y,hdE x.h=0/\x.id=hdI x.h)/\(addX X.D y).length<=n+1/\(∀i∈idsX X.D,i∈idsX (addX X.D y))/\hdI y∈idsX (addX X.D y):=by
 by_cases hi:hdI y∈idsX X.D
 ·have e:addX X.D y=X.D:=if_neg λh=>h.2 hi;rw[e];exact⟨h.nd,h.ris,h.ok,oH h.len,λ_ h=>h,hi⟩
 ·have e:addX X.D y=insX X.D ⟨hdI y,y⟩:=if_pos ⟨hv,hi⟩;rw[e];refine⟨ids_insX.nodup_iff.2 (nodup_cons.2 ⟨hi,h.nd⟩),insX_ris h.ris hi,λx hx=>?_,?_,λi hm=>ids_insX.mem_iff.2 (mem_cons_of_mem _ hm),ids_insX.mem_iff.2 sI⟩
  ·rcases mem_insX.1 hx with e | hx
   ·subst e;exact⟨(verX_ok hv).1,rfl⟩
   ·exact h.ok x hx
  ·have:=(span_insX X.D ⟨hdI y,y⟩).length_eq;have:=h.len;simp at *;omega
theorem hdOf_add(h:StOk n X)(hv:verX X.D y=0){i:Id32}{z:HdV}(e:hdOf X.D i=some z):hdOf (addX X.D y) i=some z:=by
 obtain⟨x,hx,rfl,rfl⟩:=hdOf_some e;exact hdOf_mem (addX_ok h hv).1 (addX_mem.2 (.inl hx))
theorem paidX_add(h:StOk n X)(hv:verX X.D y=0){x:HdX}(hx:x∈X.D)(S:List Pay):paidX (addX X.D y) S x.id=paidX X.D S x.id:=by
 unfold paidX;rw[hdOf_add h hv (hdOf_mem h.nd hx),hdOf_mem h.nd hx]
theorem headX_ok(h:StOk n X)(y:HdV)(own:Bool):StOk (n+1) (headX X y own):=by
 unfold headX;split
 ·exact h.mono oM
 rename_i hv
 have hv:verX X.D y=0:=Classical.not_not.1 hv;obtain⟨a1,a2,a3,a4,a5,a6⟩:=addX_ok h hv;have hf:∀S,(∀i,paidX X.D S i=paidX X.D X.S i)->∀v∈X.V,∀x∈addX X.D y,x.h.tp=v.t->paidX (addX X.D y) S x.id≠none->x.id∈v.I\/x.id∈[hdI y]:=by
  intro S hS v d x hx ht hp;rcases addX_mem.1 hx with hx | ⟨_,_,e⟩
  ·rw[paidX_add h hv hx,hS]at hp;exact .inl (h.fold v d x hx ht hp)
  ·subst e;exact .inr sI
 have hw:∀v∈X.V,VOk (addX X.D y) v:=λv d=>(h.vw v d).grow λx hx=>addX_mem.2 (.inl hx);split
 ·refine folds_st h.q0 h.q1 a1 a2 a3 a4 (by show((pinX X.S y.cm).map _).Nodup;rw[pinX_cs];exact h.ns) ?_ (by show(bytesX (pinX X.S y.cm):Int)<=_;rw[pinX_bytes];exact h.bytes) h.nv h.lv hw (hf _ λi=>paidX_pin _ _ _ _) ?_
  ·intro p hp;obtain⟨p',f,rfl⟩:=mem_map.1 hp;have:=h.body p' f;split <;> exact this
  ·intro i hi;rcases mem_cons.1 hi with e | hi
   ·rw[e];exact a6
   ·exact a5 i (h.own i hi)
 ·exact folds_st h.q0 h.q1 a1 a2 a3 a4 h.ns h.body h.bytes h.nv h.lv hw (hf _ λi=>rfl) λi hi=>a5 i (h.own i hi)
theorem payX_append(h:d≠p.c):payX (S ++ [p]) d=payX S d:=by
 unfold payX;rw[find?_append];cases find? _ S with
 | some x=>rfl
 | none =>
  rw[Option.none_or,find?_cons,decide_eq_false (λe:p.c=d=>h e.symm)];rfl
theorem putX_ok(h:StOk n X)(b:ByteArray)(he:putE X.S X.q b=0):((putX X.S X.q b).map (·.c)).Nodup/\(∀p∈putX X.S X.q b,p.c=shaI p.body.data.toList/\1<=p.body.size/\p.body.size<=512)/\(bytesX (putX X.S X.q b):Int)<=X.q/\∀d,d≠shaI b.data.toList->payX (putX X.S X.q b) d=payX X.S d:=by
 unfold putX;split
 ·rename_i hc
  have hb:¬bodyE b≠0:=by
   intro hb;unfold putE at he;rw[if_pos hb]at he;exact hb he
  have hq:¬X.q-bytesX X.S<b.size:=by
   intro hq;unfold putE at he;rw[if_neg hb,if_neg hc.2,if_pos hq]at he;cases he
  have g:1<=b.size/\b.size<=512:=by
   unfold bodyE at hb
   (repeat' split at hb) <;> first | (exfalso;exact hb (by decide)) | omega
  refine⟨?_,?_,?_,λd hd=>payX_append hd⟩
  ·rw[map_append];refine nodup_append.2 ⟨h.ns,sI,?_⟩;intro a ha c f e;simp at f;subst f;subst e;exact hc.2 ha
  ·intro p hp;rcases mem_append.1 hp with hp | hp
   ·exact h.body p hp
   ·simp at hp;subst hp;exact⟨rfl,g⟩
  ·rw[bytesX_put];show((bytesX X.S+b.size:Nat):Int)<=X.q;omega
 ·exact⟨h.ns,h.body,h.bytes,λ_ _=>rfl⟩
theorem paySX_ok(h:StOk n X)(b:ByteArray):StOk n (paySX X b):=by
 unfold paySX;split
 ·exact h
 rename_i he
 have he:putE X.S X.q b=0:=Classical.not_not.1 he;obtain⟨a1,a2,a3,a4⟩:=putX_ok h b he;have hf:∀S,(∀i,paidX X.D S i=paidX X.D (putX X.S X.q b) i)->∀v∈X.V,∀x∈X.D,x.h.tp=v.t->paidX X.D S x.id≠none->x.id∈v.I\/x.id∈cmsX X.D (shaI b.data.toList):=by
  intro S hS v hv x hx ht hp;rw[hS]at hp;by_cases hc:x.h.cm=shaI b.data.toList
  ·exact .inr (cmsX_mem.2 ⟨x,hx,hc,rfl⟩)
  ·refine .inl (h.fold v hv x hx ht ?_);unfold paidX at hp |-;rw[hdOf_mem h.nd hx]at hp |-;simp only[a4 _ hc]at hp |-;exact hp
 split
 ·refine folds_st h.q0 h.q1 h.nd h.ris h.ok h.len (by show((pinX _ _).map _).Nodup;rw[pinX_cs];exact a1) ?_ (by show(bytesX (pinX _ _):Int)<=_;rw[pinX_bytes];exact a3) h.nv h.lv h.vw (hf _ λi=>paidX_pin _ _ _ _) h.own;intro p hp;obtain⟨p',d,rfl⟩:=mem_map.1 hp;have:=a2 p' d;split <;> exact this
 ·exact folds_st h.q0 h.q1 h.nd h.ris h.ok h.len a1 a2 a3 h.nv h.lv h.vw (hf _ λi=>rfl) h.own
theorem paidX_drop(hn:(S.map (·.c)).Nodup){i:Id32}(h:paidX D (dropX S c) i≠none):paidX D S i≠none:=by
 unfold paidX at h |-;cases e:hdOf D i with
 | none=>rw[e]at h;exact h
 | some y =>
  rw[e]at h;simp only[]at h |-;cases e2:payX (dropX S c) y.cm with
  | none=>rw[e2]at h;exact absurd rfl h
  | some p =>
   rw[e2]at h;obtain⟨h1,h2⟩:=payX_some e2;have h3:=payX_mem hn (mem_filter.1 h1).1;rw[h2]at h3;rw[h3];exact h
theorem evictX_ok(h:StOk n X)(c:Id32):StOk n (evictX X c):=by
 unfold evictX;split
 ·refine⟨h.q0,h.q1,h.nd,h.ris,h.ok,h.len,h.ns.sublist (Sublist.map _ filter_sublist),λp hp=>h.body p (mem_filter.1 hp).1,?_,h.nv,h.lv,h.vw,λv hv x hx ht hp=>h.fold v hv x hx ht (paidX_drop h.ns hp),h.own⟩;have:=drop_bytes X.S c;have:=h.bytes;show(bytesX (dropX X.S c):Int)<=X.q;omega
 ·exact h
theorem subX_ok(h:StOk n X)(v:VwX)(hv:VOk X.D v)(hm:mayE X v.t=0):StOk n (subX X v):=by
 have h1:v.t∉X.V.map (·.t):=λhc=>(by unfold mayE at hm;rw[if_pos (hasT_iff.2 hc)]at hm;cases hm);have h2:¬8<=X.V.length:=λhc=>(by unfold mayE at hm;rw[if_neg (λh=>h1 (hasT_iff.1 h)),if_pos hc]at hm;cases hm);refine folds_st h.q0 h.q1 h.nd h.ris h.ok h.len h.ns h.body h.bytes ?_ (by show(X.V ++ [v]).length<=8;simp;omega) ?_ ?_ h.own
 ·show((X.V ++ [v]).map _).Nodup;rw[map_append];refine nodup_append.2 ⟨h.nv,sI,?_⟩;intro a ha c d e;simp at d;subst d;subst e;exact h1 ha
 ·intro u hu;rcases mem_append.1 hu with hu | hu
  ·exact h.vw u hu
  ·simp at hu;subst hu;exact hv
 ·intro u hu x hx ht hp;rcases mem_append.1 hu with hu | hu
  ·exact .inl (h.fold u hu x hx ht hp)
  ·simp at hu;subst hu;exact .inr (tpsX_mem.2 ⟨x,hx,ht,rfl⟩)
theorem unsubX_ok(h:StOk n X)(t:ByteArray):StOk n (unsubX X t) :=
 ⟨h.q0,h.q1,h.nd,h.ris,h.ok,h.len,h.ns,h.body,h.bytes,h.nv.sublist (Sublist.map _ filter_sublist),Nat.le_trans (length_filter_le _ _) h.lv,λv hv=>h.vw v (mem_filter.1 hv).1,λv hv=>h.fold v (mem_filter.1 hv).1,h.own⟩
end
theorem VSt.new_kind{k:Int}(hk:1<=k/\k<=5):(VSt.new k).kind=k:=by
 have h5:k=1\/k=2\/k=3\/k=4\/k=5:=oM;rcases h5 with rfl | rfl | rfl | rfl | rfl <;> rfl
theorem VSt.new_len(k:Int):(VSt.new k).len=0:=by unfold VSt.new;(repeat' split) <;> rfl
theorem appS_ok{X Y:StX}{e:EntX}{E:Int}(h:StOk n X)(a:AppS X e E Y)(hb:e.b.size<=3000):StOk (n+1) Y:=by
 have h':=h.mono (oM:n<=n+1);unfold AppS at a;split at a
 ·rw[a.2];exact h'
 rename_i he
 split at a
 ·split at a
  ·rw[a.2];exact h'
  ·rw[a.2];exact headX_ok h _ _
 rename_i hk2
 split at a
 ·rw[a.2];exact paySX_ok h' _
 rename_i hk3
 split at a
 ·rw[a.2];exact evictX_ok h' _
 rename_i hk4
 split at a
 ·rw[a.2];exact unsubX_ok h' _
 split at a
 ·rw[a.2];exact h'
 rename_i hm
 have hm:mayE X e.t=0:=Classical.not_not.1 hm;have hc:kindB e.t≠0:=by
  intro hc;have h9:checkB e.t≠0:=by unfold checkB;rw[if_pos hc];decide
  have:entE e≠0:=by
   unfold entE;split
   ·decide
   ·split
    ·decide
    ·rw[if_pos ⟨oM,h9⟩];decide
  exact absurd (Classical.not_not.1 he) this
 have g:1<=kindB e.t/\kindB e.t<=5:=oH (kindB_range e.t);split at a
 ·rw[a.2];exact(subX_ok h ⟨e.t,[],VSt.new (kindB e.t)⟩ ⟨hc,(VSt.new_kind g).symm,nodup_nil,sI,by rw[VSt.new_len];omega⟩ hm).mono oM
 obtain⟨I,l,er,E0,hr,hE,a⟩:=a;split at a
 ·rw[a.2];exact h'
 rename_i j
 split at a
 ·rw[a.2];exact h'
 rename_i hI
 rw[a.2];have j:E0=0:=Classical.not_not.1 j;subst j;unfold VErrIn at hE;split at hE
 ·rename_i h0;exact absurd hE.symm h0
 rename_i her
 split at hE
 ·cases hE
 rename_i d
 have d:Ris cmpId I:=(risI_ok _).1 (by simpa using d);have f:l.length<=3000:=by
  have h4:=readG_bound idLaw (show(readG idP e.b.data.toList 0).e=0 by rw[hr];exact Classical.not_not.1 her);rw[hr]at h4;have h5:I.length+l.length<=e.b.data.toList.length:=h4;have h6:e.b.data.toList.length=e.b.size:=rfl;omega
 refine(subX_ok h ⟨e.t,I,stL (kindB e.t) l⟩ ⟨hc,(stL_kind _ _ g).symm,d.nodup totId,λi hi=>?_,?_⟩ hm).mono oM
 ·refine Classical.byContradiction λhn=>hI ?_;exact any_eq_true.2 ⟨i,hi,decide_eq_true hn⟩
 ·have:=stL_len g hE f;show(stL (kindB e.t) l).len<=100+I.length;omega
end

def awT:ByteArray:=⟨#[99,97]⟩



section
def Ln(nx pv:Nat->Nat):Nat->List Nat->Nat->Prop
 | x,[],z=>nx x=z/\pv z=x
 | x,y :: l,z=>nx x=y/\pv y=x/\Ln nx pv y l z
def up(f:Nat->Nat)(a b:Nat):Nat->Nat:=λx=>if x=a then b else f x
theorem up_eq(f:Nat->Nat)(a b:Nat):up f a b a=b:=if_pos rfl
theorem up_ne{f:Nat->Nat}{a b:Nat}(h:x≠a):up f a b x=f x:=if_neg h
section
variable {nx pv nx' pv':Nat->Nat}
theorem Ln_split:∀ {A:List Nat} {x c z:Nat} {C:List Nat},Ln nx pv x (A++c :: C) z->Ln nx pv x A c/\Ln nx pv c C z
 | [],_,_,_,_,h=>⟨⟨h.1,h.2.1⟩,h.2.2⟩
 | _ :: _,_,_,_,_,h=>⟨⟨h.1,h.2.1,(Ln_split h.2.2).1⟩,(Ln_split h.2.2).2⟩
theorem Ln_join:∀ {A:List Nat} {x c z:Nat} {C:List Nat},Ln nx pv x A c->Ln nx pv c C z->Ln nx pv x (A++c :: C) z
 | [],_,_,_,_,h,k=>⟨h.1,h.2,k⟩
 | _ :: _,_,_,_,_,h,k=>⟨h.1,h.2.1,Ln_join h.2.2 k⟩
theorem Ln_congr:∀ {l:List Nat} {x z:Nat},Ln nx pv x l z->(∀y∈x :: l,nx' y=nx y)->(∀y∈l ++ [z],pv' y=pv y)->Ln nx' pv' x l z
 | [],x,z,h,hn,hp=>⟨(hn x sI).trans h.1,(hp z sI).trans h.2⟩
 | y :: l,x,z,h,hn,hp=>⟨(hn x sI).trans h.1,(hp y sI).trans h.2.1,Ln_congr h.2.2 (λq hq=>hn q (mem_cons_of_mem _ hq)) (λq hq=>hp q (by simp at hq |-;exact .inr hq))⟩
theorem Ln_turn:∀ {l:List Nat} {x c d:Nat},Ln nx pv x l c->(x :: l).Nodup->d∉l->(∀y∈x :: l,y≠pv c->nx' y=nx y)->nx' (pv c)=d->(∀y∈l,pv' y=pv y)->pv' d=pv c->Ln nx' pv' x l d
 | [],x,c,d,h,_,_,_,h2,_,h4=>⟨by rw[<-h2,h.2],by rw[h4,h.2]⟩
 | y :: l,x,c,d,h,hn,hd,h1,h2,h3,h4=>by
  rw[nodup_cons]at hn;have f:∀ {l:List Nat} {y:Nat},Ln nx pv y l c->pv c∈y :: l:=by
   intro l;induction l with
   | nil=>intro y h;rw[h.2];simp
   | cons a l ih=>intro y h;exact mem_cons_of_mem _ (ih h.2.2)
  have hx:x≠pv c:=λe=>hn.1 (e ▸ f h.2.2);exact⟨(h1 x sI hx).trans h.1,(h3 y sI).trans h.2.1,Ln_turn h.2.2 hn.2 (λhm=>hd (mem_cons_of_mem _ hm)) (λq hq=>h1 q (mem_cons_of_mem _ hq)) h2 (λq hq=>h3 q (mem_cons_of_mem _ hq)) h4⟩
theorem Ln_last:∀ {l:List Nat} {x z:Nat},Ln nx pv x l z->pv z∈x :: l
 | [],_,_,h=>by rw[h.2];simp
 | _ :: _,_,_,h=>mem_cons_of_mem _ (Ln_last h.2.2)
theorem Ln_first:∀ {l:List Nat} {x z:Nat},Ln nx pv x l z->nx x∈l ++ [z]
 | [],_,_,h=>by rw[h.1];simp
 | y :: l,_,_,h=>by rw[h.1];simp
theorem Ln_cut{r c:Nat}{A C:List Nat}(h:Ln nx pv r (A++c :: C) r)(hn:(r :: (A++c :: C)).Nodup):Ln (up nx (pv c) (nx c)) (up pv (nx c) (pv c)) r (A++C) r:=by
 obtain⟨h1,h2⟩:=Ln_split h;have g:(r :: A).Nodup:=hn.sublist (Sublist.cons_cons _ (sublist_append_left _ _));have hA:=Ln_last h1;simp only[nodup_cons,nodup_append,mem_append,mem_cons]at hn;obtain⟨hr,j,⟨hc,hC⟩,f⟩:=hn;cases C with
 | nil =>
  have hd:nx c=r:=h2.1;rw[append_nil,hd];refine Ln_turn h1 g (λhm=>hr (.inl hm)) (λy _ hy=>up_ne hy) (up_eq _ _ _) (λy hy=>up_ne λe=>?_) (up_eq _ _ _);exact hr (.inl (e ▸ hy))
 | cons d C =>
  have hd:nx c=d:=h2.1;rw[hd];refine Ln_join (Ln_turn h1 g (λhm=>f _ hm _ (.inr sI) rfl) (λy _ hy=>up_ne hy) (up_eq _ _ _) (λy hy=>up_ne λe=>?_) (up_eq _ _ _)) (Ln_congr h2.2.2 (λy hy=>up_ne λe=>?_) (λy hy=>up_ne λe=>?_))
  ·subst e;exact f _ hy _ (.inr sI) rfl
  ·subst e;rcases mem_cons.1 hA with e | e
   ·rw[e]at hy;exact hr (.inr (.inr hy))
   ·exact f _ e _ (.inr hy) rfl
  ·subst e;rw[nodup_cons]at hC;rcases mem_append.1 hy with e | e
   ·exact hC.1 e
   ·have e:y=r:=by simpa using e
    exact hr (.inr (.inr (by rw[e];simp)))
theorem Ln_hang{r:Nat}{L:List Nat}(h:Ln nx pv r L r)(hn:(r :: L).Nodup)(hf:n∉r :: L):Ln (up (up nx (pv r) n) n r) (up (up pv n (pv r)) r n) r (L ++ [n]) r:=by
 have hl:=Ln_last h;have f:pv r≠n:=λe=>hf (e ▸ hl);have d:n≠r:=λe=>hf (by simp[e]);have hr:r∉L:=(nodup_cons.1 hn).1;refine Ln_join (Ln_turn h hn (λhm=>hf (mem_cons_of_mem _ hm)) (λy hy h1=>?_) ?_ (λy hy=>?_) ?_) ⟨up_eq _ _ _,up_eq _ _ _⟩
 ·rw[up_ne (λe:y=n=>hf (e ▸ hy)),up_ne h1]
 ·rw[up_ne f,up_eq]
 ·rw[up_ne (λe:y=r=>hr (e ▸ hy)),up_ne (λe:y=n=>hf (e ▸ mem_cons_of_mem _ hy))]
 ·rw[up_ne d,up_eq]
end
end
theorem heap_set_at{g:Nat}{c:Array Value}{T:TypeId}{fr:Nat×Nat}(h:w.heap[g]?=some (.cells c T fr))(j:Nat)(u:Value):(w.setCell ⟨g,j,none⟩ u).heap[g]?=some (.cells (c.setIfInBounds j u) T fr):=by
 obtain⟨d,hg⟩:=aG h;show(w.heap.modify g _)[g]?=_;rw[Array.getElem?_modify];simp[h]
section
structure LLink where
 p:Option Addr
 n:Option Addr
def lLinkC(x:LLink):Array Value:=#[.pointer x.p] ++ #[.pointer x.n]
@[simp] theorem lLinkC_size(x:LLink):(lLinkC x).size=2:=by simp[lLinkC]
theorem lLinkC_one(x:LLink):∀u∈(lLinkC x).toList,u.oneCell'=true:=by
 intro u hu;simp only[lLinkC,Array.toList_append,mem_append]at hu;rcases hu with hu | hu
 ·simp at hu;subst hu;rfl
 ·simp at hu;subst hu;rfl
def lLink0:LLink:=⟨none,none⟩
theorem LLink_ext{x y:LLink}(h:x.p=y.p/\x.n=y.n):x=y:=by cases x;cases y;simp_all
instance:DecidableEq LLink:=λx y=>if h:x.p=y.p/\x.n=y.n then isTrue (LLink_ext h)else isFalse (λe=>h (by subst e;simp))
theorem infoLLink:(prog.info? 270).map (·.size)=some 2:=kR
@[go_sem ↓] theorem zeroLLink_run(w:World):(zeroValue 270).run prog w=.ok (.agg (lLinkC lLink0)) w:=by
 have h:(prog.info? 270).bind (·.zero)=some (.agg (lLinkC lLink0)):=kR;cases hi:prog.info? 270 with
 | none=>rw[hi]at h;cases h
 | some i =>
  rw[hi]at h;have hz:i.zero=some (.agg (lLinkC lLink0)):=h;simp[zeroValue,typeInfo,hi,hz]
@[go_sem ↓] theorem loadLLink_rw(a:Addr):loadVar 270 a=ldS 270 a:=rfl
@[go_sem ↓] theorem storeLLink_rw(a:Addr)(v:Value):storeVar 270 a v=stS 270 a v:=rfl
@[go_sem] theorem loadLLink_run(w:World)(g o:Nat):(ldS 270 ⟨g,o,none⟩).run prog w=match rowAt w g o 2 with | some cs=>.ok (.agg cs) w | none=>(loadVar 270 ⟨g,o,none⟩).run prog w :=
 run_ldS underlying270 rfl infoLLink w g o
theorem fieldsLLink:prog.underlying 270=some (.struct (prog.fieldsOf 270)):=kR
theorem placesLLink(w:World):((prog.fieldsOf 270).mapM fun (f:Field)=>do pure (f.offset,<-sizeOf f.type)).run prog w=.ok #[(0,1),(1,1)] w:=kR
@[go_sem ↓] theorem buildLLink_rw(parts:Array (Nat×Value)):Instr.build 270 parts=bdS 270 parts:=rfl
@[go_sem] theorem buildLLink(a0:Option Addr)(a1:Option Addr)(w:World):(bdS 270 #[(0,.pointer a0),(1,.pointer a1)]).run prog w=.ok (.agg (lLinkC ⟨a0,a1⟩)) w:=by
 refine run_build w fieldsLLink _ (zeroLLink_run w) _ (placesLLink w) [(0,.pointer a0),(1,.pointer a1)] _ ?_;rw[show lLinkC lLink0=(#[]:Array Value) ++ #[.pointer none]++(#[.pointer none])from by first | (simp[lLinkC,lLink0,Array.append_assoc];done) | (apply Array.ext';simp[lLinkC,lLink0])];rw[fill_step (off:=0) (size:=1) rfl sI sI (by simp[Value.cells])];rw[show(#[]:Array Value)++(Value.pointer a0).cells++(#[.pointer none])=(#[.pointer a0]) ++ #[.pointer none]++(#[]:Array Value)from by first | (simp[Value.cells,Array.append_assoc];done) | (apply Array.ext';simp[Value.cells];done) | (apply Array.ext';simp only[Array.toList_append];simp[Value.cells])];rw[fill_step (off:=1) (size:=1) rfl sI sI (by simp[Value.cells])];first | (simp[Instr.fill,lLinkC,Array.append_assoc,Value.cells];done) | (simp only[Instr.fill,lLinkC];congr 1;apply Array.ext';simp[Value.cells];done) | (simp only[Instr.fill,lLinkC];congr 1;done) | (simp only[Instr.fill,lLinkC];done)
structure LNode where
 id:Id32
 lk:LLink
def lNodeC(x:LNode):Array Value:=idC x.id++lLinkC x.lk
@[simp] theorem lNodeC_size(x:LNode):(lNodeC x).size=34:=by simp[lNodeC]
@[go_sem] theorem lNodeC_e0(x:LNode):(lNodeC x).extract 0 32=idC x.id:=by
 have h:lNodeC x=((#[]:Array Value))++idC x.id++(lLinkC x.lk):=by first | (simp[lNodeC,Array.append_assoc];done) | (apply Array.ext';simp[lNodeC];done)
 rw[h];exact arr_mid _ _ _ _ _ sI sI
@[go_sem] theorem lNodeC_e32(x:LNode):(lNodeC x).extract 32 34=lLinkC x.lk:=by
 have h:lNodeC x=(idC x.id)++lLinkC x.lk++((#[]:Array Value)):=by first | (simp[lNodeC,Array.append_assoc];done) | (apply Array.ext';simp[lNodeC];done)
 rw[h];exact arr_mid _ _ _ _ _ sI sI
def lNode0:LNode:=⟨id0,lLink0⟩
theorem LNode_ext{x y:LNode}(h:x.id=y.id/\x.lk=y.lk):x=y:=by cases x;cases y;simp_all
instance:DecidableEq LNode:=λx y=>if h:x.id=y.id/\x.lk=y.lk then isTrue (LNode_ext h)else isFalse (λe=>h (by subst e;simp))
theorem infoLNode:(prog.info? 272).map (·.size)=some 34:=kR
@[go_sem ↓] theorem zeroLNode_run(w:World):(zeroValue 272).run prog w=.ok (.agg (lNodeC lNode0)) w:=by
 have h:(prog.info? 272).bind (·.zero)=some (.agg (lNodeC lNode0)):=kR;cases hi:prog.info? 272 with
 | none=>rw[hi]at h;cases h
 | some i =>
  rw[hi]at h;have hz:i.zero=some (.agg (lNodeC lNode0)):=h;simp[zeroValue,typeInfo,hi,hz]
@[go_sem ↓] theorem loadLNode_rw(a:Addr):loadVar 272 a=ldS 272 a:=rfl
@[go_sem ↓] theorem storeLNode_rw(a:Addr)(v:Value):storeVar 272 a v=stS 272 a v:=rfl
theorem fieldsLNode:prog.underlying 272=some (.struct (prog.fieldsOf 272)):=kR
theorem placesLNode(w:World):((prog.fieldsOf 272).mapM fun (f:Field)=>do pure (f.offset,<-sizeOf f.type)).run prog w=.ok #[(0,32),(32,2)] w:=kR
@[go_sem ↓] theorem buildLNode_rw(parts:Array (Nat×Value)):Instr.build 272 parts=bdS 272 parts:=rfl
@[go_sem] theorem buildLNode_0(a0:Id32)(w:World):(bdS 272 #[(0,.agg (idC a0))]).run prog w=.ok (.agg (lNodeC ⟨a0,lLink0⟩)) w:=by
 refine run_build w fieldsLNode _ (zeroLNode_run w) _ (placesLNode w) [(0,.agg (idC a0))] _ ?_;rw[show lNodeC lNode0=(#[]:Array Value)++idC id0++(lLinkC lLink0)from by first | (simp[lNodeC,lNode0,Array.append_assoc];done) | (apply Array.ext';simp[lNodeC,lNode0])];rw[fill_step (off:=0) (size:=32) rfl sI sI (by simp[Value.cells])];first | (simp[Instr.fill,lNodeC,Array.append_assoc,Value.cells];done) | (simp only[Instr.fill,lNodeC];congr 1;apply Array.ext';simp[Value.cells];done) | (simp only[Instr.fill,lNodeC];congr 1;done) | (simp only[Instr.fill,lNodeC];done)
def at0(x:Nat):Option Addr:=some ⟨x,0,none⟩
structure NodeAt(w:World)(x:Nat)(d:Id32)(p n:Option Addr):Prop where
 heap:w.heap[x]?=some (.cells (lNodeC ⟨d,⟨p,n⟩⟩) 272 (0,0))
theorem lNode_32(d:Id32)(p n:Option Addr):(lNodeC ⟨d,⟨p,n⟩⟩)[32]?=some (.pointer p):=by simp[lNodeC,lLinkC,Array.getElem?_append]
theorem lNode_33(d:Id32)(p n:Option Addr):(lNodeC ⟨d,⟨p,n⟩⟩)[33]?=some (.pointer n):=by simp[lNodeC,lLinkC,Array.getElem?_append]
theorem lNode_set32(d:Id32)(p n q:Option Addr):(lNodeC ⟨d,⟨p,n⟩⟩).setIfInBounds 32 (.pointer q)=lNodeC ⟨d,⟨q,n⟩⟩:=by
 apply Array.ext';simp[lNodeC,lLinkC,set_append]
theorem lNode_set33(d:Id32)(p n q:Option Addr):(lNodeC ⟨d,⟨p,n⟩⟩).setIfInBounds 33 (.pointer q)=lNodeC ⟨d,⟨p,q⟩⟩:=by
 apply Array.ext';simp[lNodeC,lLinkC,set_append]
section
variable {w w':World} {x:Nat} {d:Id32} {p n:Option Addr}
theorem NodeAt.lt(h:NodeAt w x d p n):x<w.heap.size:=(aG h.heap).1
theorem NodeAt.c32(h:NodeAt w x d p n):w.cell? ⟨x,32,none⟩=some (.pointer p):=by rw[cell_of_row w x 32 _ _ _ h.heap];exact lNode_32 d p n
theorem NodeAt.c33(h:NodeAt w x d p n):w.cell? ⟨x,33,none⟩=some (.pointer n):=by rw[cell_of_row w x 33 _ _ _ h.heap];exact lNode_33 d p n
theorem NodeAt.fro(h:NodeAt w x d p n)(j:Nat):w.frozen? ⟨x,j,none⟩=false:=by simp[frozen?,h.heap]
theorem NodeAt.rid(h:NodeAt w x d p n):rowAt w x 0 32=some (idC d):=by unfold rowAt;rw[h.heap];simp[go_sem]
theorem NodeAt.rlk(h:NodeAt w x d p n):rowAt w x 32 2=some (lLinkC ⟨p,n⟩):=by unfold rowAt;rw[h.heap];simp[go_sem]
theorem NodeAt.kept{S:List Nat}(h:NodeAt w x d p n)(k:Keep S w w')(hx:x∉S):NodeAt w' x d p n:=⟨(k.block x h.lt hx).trans h.heap⟩
theorem NodeAt.setp(h:NodeAt w x d p n)(q:Option Addr):NodeAt (w.setCell ⟨x,32,none⟩ (.pointer q)) x d q n:=⟨by rw[heap_set_at h.heap,lNode_set32]⟩
theorem NodeAt.setn(h:NodeAt w x d p n)(q:Option Addr):NodeAt (w.setCell ⟨x,33,none⟩ (.pointer q)) x d p q:=⟨by rw[heap_set_at h.heap,lNode_set33]⟩
theorem NodeAt.setl(h:NodeAt w x d p n)(a b:Option Addr):∃w',(stS 270 ⟨x,32,none⟩ (.agg (lLinkC ⟨a,b⟩))).run prog w=.ok () w'/\NodeAt w' x d a b/\Keep [x] w w':=by
 have f:=run_storeCells_at prog x 32 272 (lLinkC ⟨a,b⟩).toList 0 (lNodeC ⟨d,⟨p,n⟩⟩) w h.heap sI (lLinkC_one _);refine⟨w.setRow x (lNodeC ⟨d,⟨a,b⟩⟩),?_,⟨?_⟩,?_⟩
 ·unfold stS storeVar;have hi:=infoLLink;cases hinfo:prog.info? 270 with
  | none=>rw[hinfo]at hi;cases hi
  | some i =>
   rw[hinfo]at hi;have hk:i.size=2:=by simpa using hi
   have hE:((lNodeC ⟨d,⟨p,n⟩⟩).toList.take (32+0)++(lLinkC ⟨a,b⟩).toList++(lNodeC ⟨d,⟨p,n⟩⟩).toList.drop (32+0+(lLinkC ⟨a,b⟩).toList.length)).toArray=lNodeC ⟨d,⟨a,b⟩⟩:=by
    apply Array.ext';simp[lNodeC,lLinkC]
   rw[hE]at f;simp[Value.cells,sizeOf,typeInfo,hinfo,hk];exact f
 ·exact setRow_heap w x _ _ _ _ h.heap
 ·exact⟨rfl,rfl,rfl,by simp[setRow],λy _ hy=>setRow_other w x y _ (by simpa using hy)⟩
end
def RingAt(w:World)(nx pv:Nat->Nat)(P:List (Id32×Nat)):Prop:=∀q∈P,NodeAt w q.2 q.1 (at0 (pv q.2)) (at0 (nx q.2))
section
variable {w w':World} {nx pv:Nat->Nat} {P:List (Id32×Nat)} {d:Id32} {x:Nat}
theorem RingAt.kept{S:List Nat}(h:RingAt w nx pv P)(k:Keep S w w')(hn:∀q∈P,q.2∉S):RingAt w' nx pv P:=λq hq=>(h q hq).kept k (hn q hq)
theorem snd_inj{P:List (Id32×Nat)}(hn:(P.map (·.2)).Nodup){a b:Id32×Nat}(ha:a∈P)(hb:b∈P)(e:a.2=b.2):a=b:=by
 induction P with
 | nil=>cases ha
 | cons c P ih =>
  rw[map_cons,nodup_cons]at hn;rcases mem_cons.1 ha with h1 | h1 <;> rcases mem_cons.1 hb with h2 | h2
  ·rw[h1,h2]
  ·subst h1;exact absurd (e ▸ mem_map_of_mem (f:=(·.2)) h2) hn.1
  ·subst h2;exact absurd (e ▸ mem_map_of_mem (f:=(·.2)) h1) hn.1
  ·exact ih hn.2 h1 h2
theorem RingAt.setn(h:RingAt w nx pv P)(hn:(P.map (·.2)).Nodup)(hx:(d,x)∈P)(m:Nat):RingAt (w.setCell ⟨x,33,none⟩ (.pointer (some ⟨m,0,none⟩))) (up nx x m) pv P:=by
 intro q hq;by_cases e:q.2=x
 ·have:=snd_inj hn hq hx e;subst this;rw[up_eq];exact(h _ hq).setn _
 ·rw[up_ne e];exact(h q hq).kept (Keep.setCell w ⟨x,33,none⟩ _) (by simpa using e)
theorem RingAt.setp(h:RingAt w nx pv P)(hn:(P.map (·.2)).Nodup)(hx:(d,x)∈P)(m:Nat):RingAt (w.setCell ⟨x,32,none⟩ (.pointer (some ⟨m,0,none⟩))) nx (up pv x m) P:=by
 intro q hq;by_cases e:q.2=x
 ·have:=snd_inj hn hq hx e;subst this;rw[up_eq];exact(h _ hq).setp _
 ·rw[up_ne e];exact(h q hq).kept (Keep.setCell w ⟨x,32,none⟩ _) (by simpa using e)
end
abbrev ptrVal(x:Nat):Value:=.pointer (some ⟨x,0,none⟩)
def LruAt(w:World)(g:Nat)(F:List Nat)(L:List Id32):Prop :=
 ∃(r b:Nat) (N:List (Id32×Nat)) (nx pv:Nat->Nat),N.map (·.1)=L/\F=g :: b :: r :: N.map (·.2) /\
  w.heap[g]?=some (.cells #[.pointer (some ⟨r,0,none⟩),.map (some b)] 275 (0,0)) /\
  (∃M es clk,MapAt w b idV ptrVal okId M es clk/\M.Perm N) /\
  Ln nx pv r (N.map (·.2)) r/\RingAt w nx pv ((id0,r) :: N)/\(r :: N.map (·.2)).Nodup/\L.Nodup
theorem LruAt.kept{w w':World}{S:List Nat}{g:Nat}{F:List Nat}{L:List Id32}(h:LruAt w g F L)(k:Keep S w w')(hF:∀x∈F,x∉S):LruAt w' g F L:=by
 obtain⟨r,b,N,nx,pv,h1,h2,h3,⟨M,es,d,hm,hp⟩,h5,h6,h7,h8⟩:=h;subst h2;refine⟨r,b,N,nx,pv,h1,rfl,(k.block g (aG h3).1 (hF g sI)).trans h3,⟨M,es,d,hm.kept k (hF b sI),hp⟩,h5,h6.kept k λq hq=>hF _ ?_,h7,h8⟩;rcases mem_cons.1 hq with e | e
 ·subst e;simp
 ·exact mem_cons_of_mem _ (mem_cons_of_mem _ (mem_cons_of_mem _ (mem_map_of_mem e)))
theorem LruAt.lt{w:World}{g:Nat}{F:List Nat}{L:List Id32}(h:LruAt w g F L):∀x∈F,x<w.heap.size:=by
 obtain⟨r,b,N,nx,pv,h1,h2,h3,⟨M,es,d,hm,hp⟩,h5,h6,h7,h8⟩:=h;subst h2;intro x hx;rcases mem_cons.1 hx with e | hx
 ·rw[e];exact(aG h3).1
 rcases mem_cons.1 hx with e | hx
 ·rw[e];exact hm.lt
 rcases mem_cons.1 hx with e | hx
 ·rw[e];exact(h6 (id0,r) sI).lt
 ·obtain⟨q,hq,rfl⟩:=mem_map.1 hx;exact(h6 q (mem_cons_of_mem _ hq)).lt
end
@[go_sem] theorem buildLLink_none(w:World):(bdS 270 #[]).run prog w=.ok (.agg (lLinkC ⟨none,none⟩)) w:=by
 refine run_build w fieldsLLink _ (zeroLLink_run w) _ (placesLLink w) [] _ ?_;simp[Instr.fill,lLink0]
theorem lru_cut(w:World)(nx pv:Nat->Nat)(A C:List (Id32×Nat))(d dp dn:Id32)(x p n:Nat)(hr:RingAt w nx pv (A++(d,x) :: C))(s:((A++(d,x) :: C).map (·.2)).Nodup)(T:pv x=p)(V:nx x=n)(hp:(dp,p)∈A++C)(hn:(dn,n)∈A++C) :
  Calls prog 239 #[.pointer (some ⟨x,0,none⟩)] w λe w'=>e=.returned (.tuple #[])/\RingAt w' (up nx p n) (up pv n p) (A++C)/\NodeAt w' x d none none/\Keep [x,p,n] w w':=by
 have hx:=hr (d,x) sI;have k:∀q∈A++C,q∈A++(d,x) :: C:=λq hq=>by
  rcases mem_append.1 hq with h | h
  ·exact mem_append_left _ h
  ·exact mem_append_right _ (mem_cons_of_mem _ h)
 have r:((A++C).map (·.2)).Nodup:=s.sublist (Sublist.map _ (Sublist.append_left (sublist_cons_self _ _) _));have j:∀q∈A++C,q.2≠x:=λq hq e=>by
  rw[map_append,map_cons,nodup_append,nodup_cons]at s;rcases mem_append.1 hq with h | h
  ·exact s.2.2 q.2 (mem_map_of_mem h) x sI e
  ·exact s.2.1.1 (e ▸ mem_map_of_mem (f:=(·.2)) h)
 have R:x≠p:=λe=>j _ hp e.symm;have m:x≠n:=λe=>j _ hn e.symm;have g:RingAt w nx pv (A++C):=λq hq=>hr q (k q hq);simp only[T,V]at hx;have c32:=hx.c32;have c33:=hx.c33;unfold at0 at c32 c33;have y:x∉[p,n]:=by simp;exact⟨R,m⟩
 have M:∀q∈A++C,q.2∉[x]:=λq hq=>(by simpa using j q hq);have Hx:=dH hx;have a1:=dH g;have t:=dH r;have Hp:=dH hp;have Hn:=dH hn;clear hx hr s g r T V hp hn k j R m;go_enter func239,ntmps239
 go_upto_region 0 with fail
 have H:=a1.out (dp,p) Hp.out;have a6:=H.c33;have a4:=H.fro 33;have B:=Keep.setCell w ⟨p,33,none⟩ (.pointer (some ⟨n,0,none⟩));have G:=a1.out.setn t.out Hp.out n;obtain⟨W1,U⟩:=eX (w.setCell ⟨p,33,none⟩ (.pointer (some ⟨n,0,none⟩)))
 rw[U]at B G;have a2:=dH G;have a0:Kp [p,n] w W1.drew:=Keep.trans (B.mono sI) (Keep.drew W1) sI;clear H G;refine kX [p,n] w ?_;intro j hS;have b1:=ksub_cell c32 y;have b2:=ksub_cell c33 y;refine lQ ?_;intro K hK;refine hK _ _ ?_;clear hK K hS U a6 a4 c32 c33;have hS:=a0;have I:=a2.out (dn,n) Hn.out;have a7:=I.c32;have a5:=I.fro 32;have L:=Keep.setCell W1 ⟨n,32,none⟩ (.pointer (some ⟨p,0,none⟩));have g:=a2.out.setp t.out Hn.out p;obtain⟨W2,Z⟩:=eX (W1.setCell ⟨n,32,none⟩ (.pointer (some ⟨p,0,none⟩)))
 rw[Z]at L g;have D:Kp [p,n] w W2.drew:=Keep.trans (Keep.trans (B.mono sI) (L.mono sI) iL) (Keep.drew W2) sI;refine lQ ?_;intro K hK;refine hK _ _ ?_;clear hK K hS Z a7 a5;have hS:=D;refine wpLx_nil ?_;intro hS;have E:NodeAt W2.drew x d (at0 p) (at0 n):=Hx.out.kept D y;have F:RingAt W2.drew (up nx p n) (up pv n p) (A++C):=g.kept (Keep.drew W2) sI;have a8:=dH (show ∀q∈A++C,q.2∉[x]from M);have a3:=dH D;clear D hS b1 b2 j I B L g y a0 M;obtain⟨W3,Y⟩:=eX W2.drew
 rw[Y]at E F a3 |-;obtain⟨w4,a9,N,J⟩:=E.setl none none;have X:Keep [x,p,n] w w4:=Keep.trans (a3.out.mono (S':=[x,p,n]) sI) J sI;have O:=F.kept J a8.out;have HF:=dH (And.intro O (And.intro N X));clear O N X J F E Y;(go_wp2_with fail);refine bodyPost_end (results_none rfl _ _ _) rfl ?_;exact⟨rfl,HF.out⟩
theorem lru_hang(w:World)(g r b:Nat)(nx pv:Nat->Nat)(P:List (Id32×Nat))(d dp dr:Id32)(x p:Nat)(a c:Option Addr)(hg:w.heap[g]?=some (.cells #[.pointer (some ⟨r,0,none⟩),.map (some b)] 275 (0,0)))
  (hr:RingAt w nx pv P)(a2:(P.map (·.2)).Nodup)(k:(dr,r)∈P)(a0:pv r=p)(hp:(dp,p)∈P)(hx:NodeAt w x d a c)(j:∀q∈P,q.2≠x)(M:∀q∈P,q.2≠g)(D:g≠x) :
  Calls prog 240 #[.pointer (some ⟨g,0,none⟩),.pointer (some ⟨x,0,none⟩)] w λe w'=>e=.returned (.tuple #[])/\RingAt w' (up (up nx p x) x r) (up (up pv x p) r x) (P ++ [(d,x)])/\Keep [x,p,r] w w':=by
 have f:=hr (dr,r) k;have cg:w.cell? ⟨g,0,none⟩=some (.pointer (some ⟨r,0,none⟩)):=by rw[cell_of_row w g 0 _ _ _ hg];rfl
 have cr:=f.c32;simp only[a0]at cr;unfold at0 at cr;have G:r≠x:=j _ k;have U:p≠x:=j _ hp;have T:r≠g:=M _ k;have a1:p≠g:=M _ hp;obtain⟨w1,b7,R,a4⟩:=(hx.kept (Keep.drew w) (S:=[]) sI).setl (some ⟨p,0,none⟩) (some ⟨r,0,none⟩);have m:Keep [x] w w1:=Keep.trans ((Keep.drew w).mono sI) a4 sI;have Y:=hr.kept m (λq hq=>by simpa using j q hq);have b0:w1.cell? ⟨g,0,none⟩=some (.pointer (some ⟨r,0,none⟩)):=(m.cell (p:=⟨g,0,none⟩) (aG hg).1 (by simpa using D)).trans cg;have a9:Kp [x] w w1:=m;have X:r∉[x]:=by simpa using G
 have a5:g∉[x]:=by simpa using D
 have b5:=dH Y;have b3:=dH R;have c4:=dH m;have b6:=dH a2;have b4:=dH k;have Hp:=dH hp;have c2:=dH j;have N:=dH (show r≠x/\p≠x/\r≠g/\p≠g/\g≠x from⟨G,U,T,a1,D⟩);have c5:=dH b0;clear f hr a2 k a0 hp hx j M D G U T a1 Y R m hg b0;go_enter func240,ntmps240
 go_upto_region 0 with fail
 refine kX [x] w ?_;intro J hS;have b1:=ksub_cell cg a5;have b2:=ksub_cell cr X;refine lQ ?_;intro K hK;refine hK _ _ ?_;clear hK K hS;have hS:=a9;refine wpLx_nil ?_;intro hS;have c32:=b3.out.c32;have cg:=c5.out;have I:=b5.out (dp,p) Hp.out;have c0:w1.cell? ⟨p,33,none⟩=some (.pointer (at0 (nx p))):=I.c33;have b8:=I.fro 33;have B:=Keep.setCell w1 ⟨p,33,none⟩ (.pointer (some ⟨x,0,none⟩));have A:=b5.out.setn b6.out Hp.out x;obtain⟨W2,a7⟩:=eX (w1.setCell ⟨p,33,none⟩ (.pointer (some ⟨x,0,none⟩)))
 rw[a7]at B A;have a8:Kp [p,r] w1 W2.drew:=Keep.trans (B.mono sI) (Keep.drew W2) sI;have f:=A (dr,r) b4.out;have c1:=f.c32;have b9:=f.fro 32;have L:=Keep.setCell W2 ⟨r,32,none⟩ (.pointer (some ⟨x,0,none⟩));have H:=A.setp b6.out b4.out x;obtain⟨W3,a6⟩:=eX (W2.setCell ⟨r,32,none⟩ (.pointer (some ⟨x,0,none⟩)))
 rw[a6]at L H;have E:Kp [p,r] w1 W3.drew:=Keep.trans (Keep.trans (B.mono (S':=[p,r]) sI) (L.mono (S':=[p,r]) sI) iL) (Keep.drew W3) sI;have F:x∉[p,r]:=oS N.out;have s:g∉[p,r]:=oS N.out;have c3:=dH H;clear J b1 b2 hS a9 b7 a4 I f A H B L X a5 cr;(go_wp2_with fail);refine kX [p,r] w1 ?_;intro J hS;have b1:=ksub_cell c32 F;have b2:=ksub_cell cg s;refine lQ ?_;intro K hK;refine hK _ _ ?_;clear hK K hS a7 c0 b8 c32 cg;have hS:=a8;refine lQ ?_;intro K hK;refine hK _ _ ?_;clear hK K hS a6 c1 b9;have hS:=E;refine wpLx_nil ?_;intro hS;have a3:Keep [x,p,r] w W3.drew:=Keep.trans (c4.out.mono (S':=[x,p,r]) sI) (E.mono (S':=[x,p,r]) sI) (λy hy=>.inl hy);have O:NodeAt W3.drew x d (at0 p) (at0 r):=b3.out.kept E F;have V:RingAt W3.drew (up nx p x) (up pv r x) P:=c3.out.kept (Keep.drew W3) sI;have t:RingAt W3.drew (up (up nx p x) x r) (up (up pv x p) r x) (P ++ [(d,x)]):=by
  intro q hq;rcases mem_append.1 hq with hq | hq
  ·have Z:=c2.out q hq;have:=V q hq;rw[up_ne Z];by_cases e:q.2=r
   ·rw[e]at this |-;rw[up_eq]at this |-;exact this
   ·rw[up_ne e]at this |-;rw[up_ne Z];exact this
  ·have e:q=(d,x):=by simpa using hq
   subst e;show NodeAt _ x d (at0 (up (up pv x p) r x x)) (at0 (up (up nx p x) x r x));rw[up_eq,up_ne (λe=>N.out.1 e.symm),up_eq];exact O
 have HF:=dH (And.intro t a3);clear t a3 O V a8 E hS J b1 b2 F s;(go_wp2_with fail);refine bodyPost_end (results_none rfl _ _ _) rfl ?_;exact⟨rfl,HF.out⟩
section
theorem lru_none(w:World)(g r:Nat)(h:w.cell? ⟨g,0,none⟩=some (.pointer (some ⟨r,0,none⟩))):Calls prog 219 #[.pointer (some ⟨g,0,none⟩)] w λe w'=>e=.returned (.bool false)/\w=w':=by
 go_enter func219,ntmps219
 (go_wp2_with fail);go_ret;exact⟨rfl,rfl⟩
theorem zeroNodeP(w:World):(zeroValue 268).run prog w=.ok (.pointer none) w:=kR
section
variable {w:World} {b:Nat} {M:List (Id32×Nat)} {es:Array MapEntry} {clk:Nat} {d:Id32} {x:Nat}
theorem lhit(h:MapAt w b idV ptrVal okId M es clk)(hx:(d,x)∈M):(Instr.lookup 273 (.map (some b)) (.agg (idC d)) true).run prog w=.ok (.tuple #[.pointer (some ⟨x,0,none⟩),.bool true]) w:=MapAt.hit h idKey underlying273 (k:=d) (v:=x) trivial hx true
theorem lmiss(h:MapAt w b idV ptrVal okId M es clk)(hx:d∉M.map (·.1)):(Instr.lookup 273 (.map (some b)) (.agg (idC d)) true).run prog w=.ok (.tuple #[.pointer none,.bool false]) w:=MapAt.miss h idKey underlying273 (zeroNodeP w) (k:=d) trivial hx true
end
def offL(L:List Id32)(d:Id32):List Id32:=L.filter λx=>decide (x≠d)
theorem offL_no(h:d∉L):offL L d=L:=filter_eq_self.2 λx hx=>decide_eq_true λe=>h (e ▸ hx)
theorem offL_mid{A C:List Id32}(h:(A++d :: C).Nodup):offL (A++d :: C) d=A++C:=by
 rw[nodup_append,nodup_cons]at h;unfold offL;rw[filter_append,filter_cons,if_neg sI];have h1:=offL_no (L:=A) (d:=d) λhm=>h.2.2 d hm d sI rfl;have h2:=offL_no (L:=C) (d:=d) h.2.1.1;unfold offL at h1 h2;rw[h1,h2]
theorem lru_split(h:d∈N.map (·.1)):∃A x C,N=A++(d,x) :: C:=by
 obtain⟨q,hq,rfl⟩:=mem_map.1 h;obtain⟨A,C,e⟩:=append_of_mem hq;exact⟨A,q.2,C,e⟩
theorem snd_mem(h:x∈P.map (·.2)):∃d,(d,x)∈P:=by
 obtain⟨q,hq,rfl⟩:=mem_map.1 h;exact⟨q.1,hq⟩
theorem ring_near{nx pv:Nat->Nat}{r:Nat}{A C:List (Id32×Nat)}(hl:Ln nx pv r ((A++(d,x) :: C).map (·.2)) r) :
  (∃dp,(dp,pv x)∈((id0,r) :: A)++C)/\∃dn,(dn,nx x)∈((id0,r) :: A)++C:=by
 rw[map_append,map_cons]at hl;obtain⟨h1,h2⟩:=Ln_split hl;have k1:=Ln_last h1;have k2:=Ln_first h2;refine⟨snd_mem ?_,snd_mem ?_⟩
 ·rw[map_append,map_cons];exact mem_append_left _ k1
 ·rw[map_append,map_cons];rcases mem_append.1 k2 with h | h
  ·exact mem_append_right _ h
  ·have e:nx x=r:=by simpa using h
   rw[e];simp
end
theorem eqLink_00(w:World):(Op.equalIn 10000 270 (.agg (lLinkC ⟨none,none⟩)) (.agg (lLinkC ⟨none,none⟩))).run prog w=.ok true w:=kR
theorem eqLink_1(a b:Addr)(w:World):(Op.equalIn 10000 270 (.agg (lLinkC ⟨some a,some b⟩)) (.agg (lLinkC ⟨none,none⟩))).run prog w=.ok false w:=kR
attribute [go_sem ↓] eqLink_00 eqLink_1
theorem buildLNode_none(w:World):(bdS 272 #[]).run prog w=.ok (.agg (lNodeC ⟨id0,⟨none,none⟩⟩)) w:=by
 refine run_build w fieldsLNode _ (zeroLNode_run w) _ (placesLNode w) [] _ ?_;simp[Instr.fill,lNode0,lLink0]
attribute [go_sem] buildLNode_none
theorem lru_new(w:World):Calls prog 223 #[] w λe w'=>∃g F,e=.returned (.pointer (some ⟨g,0,none⟩))/\LruAt w' g F []/\(∀x∈F,w.heap.size<=x)/\Below w.heap.size w w':=by
 have y:=@run_makeMap prog;have k:NodeAt (w.alloc (.cells (lNodeC ⟨id0,⟨none,none⟩⟩) 272)) w.heap.size id0 none none:=⟨heap_alloc_new w _⟩
 obtain⟨w1,s,f,m⟩:=k.setl (some ⟨w.heap.size,0,none⟩) (some ⟨w.heap.size,0,none⟩);have d:Below w.heap.size w w1:=((Below.refl w.heap.size w).alloc lR _).trans (m.below sI sI);have j:=f.lt;have t:=MapAt.new (kv:=idV) (vv:=ptrVal) (ok:=okId) w1 w1.heap.size rfl;obtain⟨r,hr⟩:=eX w.heap.size
 have Hr:=dH hr;rw[hr]at f j s;clear k;go_enter func223,ntmps223
 go_upto_region 2 with fail
 clear hr m;(go_wp2_with fail);go_ret;have hg:=heap_alloc_new (w1.alloc (.map #[] 0)) (.cells #[.pointer (some ⟨r,0,none⟩),.map (some w1.heap.size)] 275 (0,0));have hk:=Keep.trans (Keep.alloc w1 (.map #[] 0)) (Keep.alloc (w1.alloc (.map #[] 0)) (.cells #[.pointer (some ⟨r,0,none⟩),.map (some w1.heap.size)] 275 (0,0))) sI;refine⟨_,_,rfl,⟨r,w1.heap.size,[],λ_=>r,λ_=>r,rfl,rfl,(by have h9:=hg;rwa [(sI:(w1.alloc (.map #[] 0)).heap.size=w1.heap.size+1)]at h9),⟨_,_,_,t.kept (Keep.alloc _ _) sI,Perm.refl _⟩,⟨rfl,rfl⟩,?_,sI,sI⟩,?_,?_⟩
 ·intro q hq;have e:q=(id0,r):=by simpa using hq
  subst e;exact f.kept hk sI
 ·have:=Hr.out;have:=d.size;intro x hx;simp at hx;rcases hx with h | h | h <;> omega
 ·exact(d.alloc d.size _).alloc (oS d.size) _
theorem lru_use(w:World)(g:Nat)(F:List Nat)(L:List Id32)(d:Id32)(h:LruAt w g F L) :
  Calls prog 198 #[.pointer (some ⟨g,0,none⟩),.agg (idC d)] w λe w'=>e=.returned (.int .i64 0)/\(∃F',LruAt w' g F' (offL L d ++ [d])/\∀x∈F',x∈F\/w.heap.size<=x)/\Keep F w w':=by
 have b6:=h.lt;obtain⟨r,b,N,nx,pv,h1,h2,h3,⟨M,es,f8,hm,hp⟩,h5,h6,h7,h8⟩:=h;have H2:=dH h2;rw[h2]at b6;clear h2;have V:Keep [] w (w.alloc (.cells (idC d) 23)):=Keep.alloc _ _;obtain⟨W,hW⟩:=eR (w.alloc (.cells (idC d) 23))
 have H:rowAt W w.heap.size 0 32=some (idC d):=by rw[hW];simp[go_sem]
 have hB:Below w.heap.size w W:=by rw[hW];exact bA
 have I:g<w.heap.size:=b6 g sI;rw[<-hW]at V;have c0:=(V.block g I sI).trans h3;have e6:W.cell? ⟨g,0,none⟩=some (.pointer (some ⟨r,0,none⟩)):=by rw[cell_of_row W g 0 _ _ _ c0];rfl
 have d5:W.cell? ⟨g,1,none⟩=some (.map (some b)):=by rw[cell_of_row W g 1 _ _ _ c0];rfl
 have b5:=hm.kept V sI;have c1:=lru_none W g r e6;have d1:g≠b:=λe=>(by rw[e,hm.heap]at h3;cases h3);have j:∀q∈(id0,r) :: N,q.2≠g/\q.2≠b:=by
  refine λq hq=>⟨λe=>?_,λe=>?_⟩
  ·have E:=(h6 _ hq).heap;rw[e,h3]at E;injection E with E
   injection E with E _ _
   have f6:=congrArg Array.size E;simp at f6
  ·have E:=(h6 _ hq).heap;rw[e,hm.heap]at E;cases E
 by_cases hd:d∈L
 ·rw[<-h1]at hd;obtain⟨A,x,C,rfl⟩:=lru_split hd;have a2:(d,x)∈M:=hp.mem_iff.2 sI;have hk:∀v:Subtype (Bel W),(Instr.lookup 273 (.map (some b)) (.agg (idC d)) true).run prog v.1=.ok (.tuple #[.pointer (some ⟨x,0,none⟩),.bool true]) v.1:=λv=>lhit (b5.kept (Keep.of_below v.2) sI) a2;obtain⟨⟨dp,b3⟩,⟨dn,O⟩⟩:=ring_near h5;have a3:Keep [] w W.drew:=Keep.trans V (Keep.drew W) sI;have d4:RingAt W.drew nx pv (((id0,r) :: A)++(d,x) :: C):=h6.kept a3 sI;have f1:rowAt W.drew x 32 2=some (lLinkC ⟨some ⟨pv x,0,none⟩,some ⟨nx x,0,none⟩⟩):=(d4 (d,x) sI).rlk;have c2:=lru_cut W.drew nx pv ((id0,r) :: A) C d dp dn x (pv x) (nx x) d4 h7 rfl rfl b3 O;have e2:=offL_mid (A:=A.map (·.1)) (C:=C.map (·.1)) (d:=d) (by rw[<-map_cons (f:=(·.1)) (a:=(d,x)),<-map_append,h1];exact h8);have hL:offL L d=(A++C).map (·.1):=by rw[<-h1,map_append,map_cons,e2,map_append]
  have a8:=Ln_cut (r:=r) (c:=x) (A:=A.map (·.2)) (C:=C.map (·.2)) (nx:=nx) (pv:=pv) (by rw[map_append,map_cons]at h5;exact h5) (by rw[map_append,map_cons]at h7;exact h7);have m:∀q∈((id0,r) :: A)++C,q∈(id0,r) :: (A++(d,x) :: C):=λq hq=>by
   simp only[mem_cons,mem_append,cons_append]at hq |-;rcases hq with h | h | h
   ·exact .inl h
   ·exact .inr (.inl h)
   ·exact .inr (.inr (.inr h))
  obtain⟨d7,a6⟩:=eX (up nx (pv x) (nx x))
  obtain⟨R,a4⟩:=eX (up pv (nx x) (pv x))
  rw[a6,a4]at a8 c2;rw[<-map_append]at a8;have b8:(r :: (A++C).map (·.2)).Nodup:=by
   rw[map_append,map_cons]at h7;rw[map_append];exact h7.sublist (Sublist.cons_cons _ (Sublist.append_left (sublist_cons_self _ _) _))
  have G:x∉r :: (A++C).map (·.2):=by
   have b9:=h7;rw[map_append,map_cons,nodup_cons,nodup_append,nodup_cons]at b9;rw[map_append,mem_cons,mem_append];rintro(e | e | e)
   ·exact b9.1 (by rw[<-e];simp)
   ·exact b9.2.2.2 x e x sI rfl
   ·exact b9.2.2.1.1 e
  obtain⟨dq,D⟩:∃dq,(dq,R r)∈(id0,r) :: (A++C):=snd_mem (by rw[map_cons];exact Ln_last a8);have a9:=Ln_hang a8 b8 G;have J:∀w1,Keep [x,pv x,nx x] W.drew w1->RingAt w1 d7 R (((id0,r) :: A)++C)->NodeAt w1 x d none none->Calls prog 240 #[.pointer (some ⟨g,0,none⟩),.pointer (some ⟨x,0,none⟩)] w1 λe w'=>e=.returned (.tuple #[])/\(∃F',LruAt w' g F' (offL L d ++ [d])/\∀x∈F',x∈F\/w.heap.size<=x)/\Keep F w w':=by
   intro w1 f2 f0 e7;have e3:g∉[x,pv x,nx x]:=by
    simp only[mem_cons,not_mem_nil,or_false,not_or];exact⟨λe=>(j (d,x) sI).1 e.symm,λe=>(j _ (m _ b3)).1 e.symm,λe=>(j _ (m _ O)).1 e.symm⟩
   have f3:b∉[x,pv x,nx x]:=by
    simp only[mem_cons,not_mem_nil,or_false,not_or];exact⟨λe=>(j (d,x) sI).2 e.symm,λe=>(j _ (m _ b3)).2 e.symm,λe=>(j _ (m _ O)).2 e.symm⟩
   have s:Keep [x,pv x,nx x] w w1:=Keep.trans (a3.mono sI) f2 (λy hy=>.inl hy);refine(lru_hang w1 g r b d7 R ((id0,r) :: (A++C)) d dq id0 x (R r) none none ((s.block g I e3).trans h3) f0 b8 sI rfl D e7 ?_ ?_ ?_).mono ?_
   ·intro q hq e;exact G (by rw[<-e,<-map_cons (f:=(·.2)) (a:=(id0,r))];exact mem_map_of_mem hq)
   ·intro q hq;exact(j q (m q hq)).1
   ·exact λe=>(j (d,x) sI).1 e.symm
   ·rintro e w2 ⟨rfl,c7,B⟩;have d3:∀y∈[x,R r,r],∃dy,(dy,y)∈(id0,r) :: (A++(d,x) :: C):=by
     intro y hy;simp only[mem_cons,not_mem_nil,or_false]at hy;rcases hy with rfl | rfl | rfl
     ·exact⟨d,sI⟩
     ·exact⟨dq,m _ D⟩
     ·exact⟨id0,sI⟩
    have U:g∉[x,R r,r]:=λhg=>(by obtain⟨dy,hy⟩:=d3 g hg;exact(j _ hy).1 rfl);have a1:b∉[x,R r,r]:=λhb=>(by obtain⟨dy,hy⟩:=d3 b hb;exact(j _ hy).2 rfl);have Z:∀y,(∃dy,(dy,y)∈(id0,r) :: (A++(d,x) :: C))->y∈F:=by
     rintro y ⟨dy,hy⟩;rw[H2.out];exact mem_cons_of_mem _ (mem_cons_of_mem _ (by rw[<-map_cons (f:=(·.2)) (a:=(id0,r))];exact mem_map_of_mem (f:=(·.2)) hy))
    refine⟨rfl,⟨g :: b :: r :: (A++C ++ [(d,x)]).map (·.2),⟨r,b,A++C ++ [(d,x)],_,_,?_,rfl,(B.block g (Nat.lt_of_lt_of_le I s.size) U).trans ((s.block g I e3).trans h3),⟨M,es,f8,(hm.kept s f3).kept B a1,hp.trans ?_⟩,?_,c7,?_,?_⟩,?_⟩,?_⟩
    ·rw[hL,map_append];rfl
    ·rw[append_assoc];exact Perm.append_left _ (perm_append_singleton (d,x) C).symm
    ·rw[map_append];exact a9
    ·rw[map_append,<-cons_append];exact nodup_append.2 ⟨b8,sI,λy hy z hz e=>by
      have ez:z=x:=by simpa using hz
      rw[e,ez]at hy;exact G hy⟩
    ·exact nodup_append.2 ⟨h8.filter _,sI,λy hy z hz e=>by
      have ez:z=d:=by simpa using hz
      rw[e,ez]at hy;have:=(mem_filter.1 hy).2;simp at this⟩
    ·intro y hy;left
     rcases mem_cons.1 hy with e | hy
     ·rw[e,H2.out];simp
     rcases mem_cons.1 hy with e | hy
     ·rw[e,H2.out];simp
     refine Z y ?_;rw[<-map_cons (f:=(·.2)) (a:=(id0,r))]at hy;obtain⟨q,hq,rfl⟩:=mem_map.1 hy;refine⟨q.1,?_⟩;rw[<-cons_append]at hq;rcases mem_append.1 hq with h | h
     ·exact m q h
     ·have e:q=(d,x):=by simpa using h
      rw[e];simp
    ·refine Keep.trans (s.mono λy hy=>.inl (Z y ?_)) (B.mono λy hy=>.inl (Z y (d3 y hy))) (λy hy=>.inl hy);simp only[mem_cons,not_mem_nil,or_false]at hy;rcases hy with rfl | rfl | rfl
     ·exact⟨d,sI⟩
     ·exact⟨dp,m _ b3⟩
     ·exact⟨dn,m _ O⟩
  have b4:=dH J;clear J a9 D G b8 a6 a4 m a8 hL e2 d4 b3 O a2 hd h1 hp h5 h6 h7 h8 b6 j d1 b5 c0 V h3 hm a3 hB;go_enter func198,ntmps198
  (go_wp2_with fail);rw[<-hW];obtain⟨ga,a0⟩:=eX w.heap.size
  have d6:=dH a0;rw[a0]at H |-;clear hW;refine c1.mono ?_;rintro e w' ⟨rfl,rfl⟩;clear c1;go_upto_region 3 with fail
  refine lX W ?_;intro a7 hS;have b1:=sub_cell d5;have b2:=sub_row H;refine lZ ?_;refine wpLx_nil ?_;intro hS;clear a7 hS b1 b2 hk a0;(go_wp2_with fail);refine c2.mono ?_;rintro e w1 ⟨rfl,e1,d9,a3⟩;have c3:=b4.out w1 a3 e1 d9;clear c2 e1 d9 a3;(go_wp2_with fail);refine c3.mono ?_;rintro e w2 ⟨rfl,hF,B⟩;have HF:=dH (And.intro hF B);clear c3 hF B;(go_wp2_with fail);go_ret;rw[d6.out.symm];exact⟨rfl,HF.out⟩
 ·have O:d∉N.map (·.1):=by rw[h1];exact hd
  have a2:d∉M.map (·.1):=λhx=>O ((hp.map _).mem_iff.1 hx);have hk:∀v:Subtype (Bel W),(Instr.lookup 273 (.map (some b)) (.agg (idC d)) true).run prog v.1=.ok (.tuple #[.pointer none,.bool false]) v.1:=λv=>lmiss (b5.kept (Keep.of_below v.2) sI) a2;obtain⟨x,hx⟩:=eX W.heap.size
  obtain⟨W1,b7⟩:=eR ((W.alloc (.cells (lNodeC ⟨d,lLink0⟩) 272)).drew)
  have e8:w.heap.size<x:=by
   have h9:w.heap.size<W.heap.size:=rowAt_lt H;rw[<-hx];exact h9
  have X:Keep [] W W1:=by rw[b7];exact Keep.trans (Keep.alloc _ _) (Keep.drew _) sI
  have s:Keep [] w W1:=Keep.trans V X sI;have d8:NodeAt W1 x d none none:=⟨by rw[b7,<-hx];exact heap_alloc_new _ _⟩
  have e4:=(s.block g I sI).trans h3;have e5:W1.cell? ⟨g,1,none⟩=some (.map (some b)):=by rw[cell_of_row W1 g 1 _ _ _ e4];rfl
  have T:rowAt W1 w.heap.size 0 32=some (idC d):=(X.row (rowAt_lt H) sI _ _).trans H;obtain⟨w3,g2,f7,c6,c8,c9⟩:=((hm.kept s sI).kept (Keep.drew W1) (S:=[]) sI).update idKey underlying273 (k:=d) (v:=x) trivial;have a5:putL M d x=M ++ [(d,x)]:=by unfold putL;rw[if_neg a2]
  rw[a5]at c8;have f4:b<w.heap.size:=hm.lt;have d2:g∉[b]:=by simpa using d1
  have b0:w.heap.size∉[b]:=sO;have e9:x∉[b]:=sO;have Y:Keep [b] W1 w3:=Keep.trans ((Keep.drew W1).mono sI) c9 (λy hy=>.inl hy);have c5:=d8.kept Y e9;have f1:rowAt w3 x 32 2=some (lLinkC ⟨none,none⟩):=c5.rlk;have t:Keep [b] w w3:=Keep.trans (s.mono sI) Y (λy hy=>.inl hy);have e0:RingAt w3 nx pv ((id0,r) :: N):=h6.kept t (λq hq=>by simpa using(j q hq).2);obtain⟨dq,D⟩:∃dq,(dq,pv r)∈(id0,r) :: N:=snd_mem (by rw[map_cons];exact Ln_last h5);have c4:∀q∈(id0,r) :: N,q.2≠x:=λq hq e=>(oH ((h6 q hq).lt));have G:x∉r :: N.map (·.2):=by
   rw[<-map_cons (f:=(·.2)) (a:=(id0,r))];intro hh;obtain⟨q,hq,e⟩:=mem_map.1 hh;exact c4 q hq e
  have a9:=Ln_hang h5 h7 G;have d0:g≠x:=oM;have c3:Calls prog 240 #[.pointer (some ⟨g,0,none⟩),.pointer (some ⟨x,0,none⟩)] w3 λe w'=>e=.returned (.tuple #[])/\(∃F',LruAt w' g F' (offL L d ++ [d])/\∀x∈F',x∈F\/w.heap.size<=x)/\Keep F w w':=by
   refine(lru_hang w3 g r b nx pv ((id0,r) :: N) d dq id0 x (pv r) none none ((t.block g I d2).trans h3) e0 h7 sI rfl D c5 c4 (λq hq=>(j q hq).1) d0).mono ?_;rintro e w2 ⟨rfl,c7,B⟩;have Z:∀y,(∃dy,(dy,y)∈(id0,r) :: N)->y∈F:=by
    rintro y ⟨dy,hy⟩;rw[H2.out];exact mem_cons_of_mem _ (mem_cons_of_mem _ (by rw[<-map_cons (f:=(·.2)) (a:=(id0,r))];exact mem_map_of_mem (f:=(·.2)) hy))
   have U:g∉[x,pv r,r]:=by
    simp only[mem_cons,not_mem_nil,or_false,not_or];exact⟨d0,λe=>(j _ D).1 e.symm,λe=>(j (id0,r) sI).1 e.symm⟩
   have a1:b∉[x,pv r,r]:=by
    simp only[mem_cons,not_mem_nil,or_false,not_or];exact⟨oM,λe=>(j _ D).2 e.symm,λe=>(j (id0,r) sI).2 e.symm⟩
   refine⟨rfl,⟨g :: b :: r :: (N ++ [(d,x)]).map (·.2),⟨r,b,N ++ [(d,x)],_,_,?_,rfl,(B.block g (Nat.lt_of_lt_of_le I t.size) U).trans ((t.block g I d2).trans h3),⟨_,_,_,c8.kept B a1,Perm.append_right _ hp⟩,?_,c7,?_,?_⟩,?_⟩,?_⟩
   ·rw[offL_no hd,map_append,h1];rfl
   ·rw[map_append];exact a9
   ·rw[map_append,<-cons_append];exact nodup_append.2 ⟨h7,sI,λy hy z hz e=>by
     have ez:z=x:=by simpa using hz
     rw[e,ez]at hy;exact G hy⟩
   ·exact nodup_append.2 ⟨h8.filter _,sI,λy hy z hz e=>by
     have ez:z=d:=by simpa using hz
     rw[e,ez]at hy;have:=(mem_filter.1 hy).2;simp at this⟩
   ·intro y hy;rcases mem_cons.1 hy with e | hy
    ·left;rw[e,H2.out];simp
    rcases mem_cons.1 hy with e | hy
    ·left;rw[e,H2.out];simp
    rw[<-map_cons (f:=(·.2)) (a:=(id0,r))]at hy;obtain⟨q,hq,rfl⟩:=mem_map.1 hy;rw[<-cons_append]at hq;rcases mem_append.1 hq with h | h
    ·exact .inl (Z q.2 ⟨q.1,h⟩)
    ·have e:q=(d,x):=by simpa using h
     right;rw[e];show w.heap.size<=x;omega
   ·have f5:b∈F:=by rw[H2.out];simp
    refine Keep.trans (t.mono λy hy=>.inl (by have e:y=b:=by simpa using hy
                                              rw[e];exact f5)) (B.mono (S':=x :: F) λy hy=>.inl ?_) (λy hy=>?_)
    ·simp only[mem_cons,not_mem_nil,or_false]at hy;rcases hy with rfl | rfl | rfl
     ·simp
     ·exact mem_cons_of_mem _ (Z _ ⟨dq,D⟩)
     ·exact mem_cons_of_mem _ (Z _ ⟨id0,sI⟩)
    ·rcases mem_cons.1 hy with e | hy
     ·right;omega
     ·exact .inl hy
  have f9:=dH c3;have g0:=dH b7;clear c3 a9 G c4 D e0 t Y c5 a5 c8 e4 d8 s X e8 a2 O hd h1 hp h5 h6 h7 h8 b6 j d1 b5 c0 V h3 hm hB f4 d0;go_enter func198,ntmps198
  (go_wp2_with fail);rw[<-hW];obtain⟨ga,a0⟩:=eX w.heap.size
  have d6:=dH a0;rw[a0]at H T b0 |-;clear hW a0;refine c1.mono ?_;rintro e w' ⟨rfl,rfl⟩;clear c1;go_upto_region 3 with fail
  refine lX W ?_;intro a7 hS;have b1:=sub_cell d5;have b2:=sub_row H;refine lZ ?_;refine wpLx_nil ?_;intro hS;clear a7 hS b1 b2 hk e6 d5;have g1:W.drew.heap.size=x:=hx;go_upto_region 6 with fail
  rw[<-g0.out];clear b7 H;refine kX [b] W1 ?_;intro a7 hS;have b1:=ksub_cell e5 d2;have b2:=ksub_row T b0;refine lQ ?_;intro K hK;refine step_keep (kp_next hS c9 sI) (λhS=>?_);refine hK _ _ ?_;clear hK K;refine wpLx_nil ?_;intro hS;clear b1 b2 a7 hS c9 c6 e5 T;have c3:=f9.out;(go_wp2_with fail);refine c3.mono ?_;rintro e w2 ⟨rfl,hF,B⟩;have HF:=dH (And.intro hF B);clear c3 hF B;(go_wp2_with fail);go_ret;rw[d6.out.symm];exact⟨rfl,HF.out⟩
theorem eqN_same(x:Nat)(w:World):(binOp .eql 268 (.pointer (some ⟨x,0,none⟩)) (.pointer (some ⟨x,0,none⟩))).run prog w=.ok (.bool true) w:=by
 obtain⟨j,hj,_⟩:=Option.map_eq_some_iff.1 infoLNode;exact run_eql_ptr_same w _ underlying268 hj
theorem eqN_other{y:Nat}{d':Id32}{p n p' n':Option Addr}(hx:NodeAt w x d p n)(hy:NodeAt w y d' p' n')(h:x≠y):(binOp .eql 268 (.pointer (some ⟨x,0,none⟩)) (.pointer (some ⟨y,0,none⟩))).run prog w=.ok (.bool false) w:=by
 obtain⟨j,hj,hs⟩:=Option.map_eq_some_iff.1 infoLNode;exact run_eql_ptr_other w underlying268 hj oM (λe=>h (by injection e)) hx.heap hy.heap
theorem neq_of_eql{a b:Option Addr}{c:Bool}{t:TypeId}(h:(binOp .eql t (.pointer a) (.pointer b)).run prog w=.ok (.bool c) w):(binOp .neq t (.pointer a) (.pointer b)).run prog w=.ok (.bool !c) w:=by
 have e1:binOp .eql t (.pointer a) (.pointer b)=(do let r <-Op.equal t (.pointer a) (.pointer b);pure (.bool r)):=by cases a <;> cases b <;> rfl
 have e2:binOp .neq t (.pointer a) (.pointer b)=(do let r <-Op.equal t (.pointer a) (.pointer b);pure (.bool !r)):=by cases a <;> cases b <;> rfl
 rw[e1,Sem.run_bind]at h;rw[e2,Sem.run_bind];cases e:(Op.equal t (.pointer a) (.pointer b)).run prog w with
 | ok v w' =>
  rw[e]at h;simp[Result.andThen]at h |-;exact h
 | _=>rw[e]at h;simp[Result.andThen]at h
def slN:Value->Nat
 | .slice _ n _=>n
 | _=>0
theorem lru_all(w:World)(g:Nat)(F:List Nat)(L:List Id32)(h:LruAt w g F L)(hn:L.length<=1000000) :
  Calls prog 144 #[.pointer (some ⟨g,0,none⟩)] w λe w'=>∃A cap,e=.returned (.slice A L.length cap)/\Own w' w.heap.size 23 32 A L.length cap (L.map idC)/\Below w.heap.size w w':=by
 obtain⟨r,b,N,nx,pv,h1,h2,h3,V,h5,h6,h7,h8⟩:=h;subst h1;have Y:g<w.heap.size:=(aG h3).1;have M:w.cell? ⟨g,0,none⟩=some (.pointer (some ⟨r,0,none⟩)):=by rw[cell_of_row w g 0 _ _ _ h3];rfl
 have c33:w.cell? ⟨r,33,none⟩=some (.pointer (some ⟨nx r,0,none⟩)):=(h6 (id0,r) sI).c33;have c1:=lru_none w g r M;have a2:N.length<=1000000:=by simpa using hn
 have H6:=dH h6;have H7:=dH h7;have H5:=dH h5;clear h2 V h8 h5 h6 h7 h3 hn;go_enter func144,ntmps144
 (go_wp2_with fail);refine c1.mono ?_;rintro e w' ⟨rfl,rfl⟩;clear c1;(go_wp2_with fail);clear c33;go_loopw [3,4] (λout nv wr=>∃(A C:List (Id32×Nat)) (y:Nat) (X:Option Addr) (cap:Nat),N=A++C/\Ln nx pv y (C.map (·.2)) r/\nv=.pointer (some ⟨nx y,0,none⟩)/\out=.slice X A.length cap/\Own wr w.heap.size 23 32 X A.length cap (A.map λq=>idC q.1)/\Below w.heap.size w wr) (λout _ _=>N.length-slN out)
 case atStart=>exact⟨[],N,r,none,0,rfl,H5.out,rfl,rfl,Own.nil _ _ _ _,Below.refl _ _⟩
 case round =>
  obtain⟨A,C,y,X,cap,hN,hl,rfl,rfl,f,hb⟩:=hrel;have a4:wr.cell? ⟨g,0,none⟩=some (.pointer (some ⟨r,0,none⟩)):=(hb.cell (p:=⟨g,0,none⟩) Y).trans M;have D:A.length+C.length=N.length:=by rw[hN,length_append]
  cases C with
  | nil =>
   have e:nx y=r:=hl.1;rw[e];have eN:N=A:=by rw[hN,append_nil]
   rw[<-eN]at f |-;have hq:=neq_of_eql (eqN_same r wr);clear eN hl e hN D;(go_wp2_with fail);go_ret;exact⟨X,cap,sI,by simpa[Function.comp_def]using f,hb⟩
  | cons q C' =>
   obtain⟨d,x⟩:=q;obtain⟨e,_,G⟩:=hl;have e:nx y=x:=e;rw[e];have hq:(d,x)∈(id0,r) :: N:=by rw[hN];simp
   have s:=(H6.out (d,x) hq).kept (Keep.of_below hb) sI;have T:rowAt wr x 0 32=some (idC d):=s.rid;have c33:wr.cell? ⟨x,33,none⟩=some (.pointer (some ⟨nx x,0,none⟩)):=s.c33;have R:x≠r:=by
    have h7:=H7.out;rw[hN,map_append,map_cons,nodup_cons]at h7;exact λe=>h7.1 (by rw[<-e];simp)
   have J:N=(A ++ [(d,x)])++C':=by rw[hN];simp
   have O:=dH J;have U:=dH G;have a0:x<wr.heap.size:=s.lt;have a3:A.length+1<=N.length:=by simp at D;omega
   have a1:=neq_of_eql (eqN_other s ((H6.out (id0,r) sI).kept (Keep.of_below hb) sI) R);clear s hq hN J G e D;have H:Below wr.heap.size wr (wr.alloc (.cells (idC d) 23)):=bA;have m:=f.below H;have t:=hb.size;have j:rowAt (wr.alloc (.cells (idC d) 23)) wr.heap.size 0 32=some (idC d):=by simp[go_sem]
   go_wp2_with (at_builtin;refine L_append einfoId rfl m rfl j (idC_one _) oM oM sO ?_;intro A' cap' w2 k Z E;have I:Below w.heap.size w w2:=hb.trans ((H.mono t).trans (Z.below (B:=w.heap.size) sO λy hy=>(f.at_base hy).1));have a5:w2.cell? ⟨x,33,none⟩=some (.pointer (some ⟨nx x,0,none⟩)):=((H6.out (d,x) (by rw[O.out];simp)).kept (Keep.of_below I) sI).c33)
   (go_wp2_with fail);go_roundw
   case rel=>exact⟨A ++ [(d,x)],C',x,A',cap',O.out,U.out,rfl,sI,by simpa using k,I⟩
   case measure=>simp[slN];omega
section
structure HeldO where
 b:ByteArray
 p:Bool
def heldOC(x:HeldO):Array Value:=#[.string x.b] ++ #[.bool x.p]
def heldO0:HeldO:=⟨⟨#[]⟩,false⟩
theorem HeldO_ext{x y:HeldO}(h:x.b=y.b/\x.p=y.p):x=y:=by cases x;cases y;simp_all
instance:DecidableEq HeldO:=λx y=>if h:x.b=y.b/\x.p=y.p then isTrue (HeldO_ext h)else isFalse (λe=>h (by subst e;simp))
@[go_sem ↓] theorem zeroHeldO_run(w:World):(zeroValue 201).run prog w=.ok (.agg (heldOC heldO0)) w:=by
 have h:(prog.info? 201).bind (·.zero)=some (.agg (heldOC heldO0)):=kR;cases hi:prog.info? 201 with
 | none=>rw[hi]at h;cases h
 | some i =>
  rw[hi]at h;have hz:i.zero=some (.agg (heldOC heldO0)):=h;simp[zeroValue,typeInfo,hi,hz]
@[go_sem ↓] theorem loadHeldO_rw(a:Addr):loadVar 201 a=ldS 201 a:=rfl
@[go_sem ↓] theorem storeHeldO_rw(a:Addr)(v:Value):storeVar 201 a v=stS 201 a v:=rfl
theorem fieldsHeldO:prog.underlying 201=some (.struct (prog.fieldsOf 201)):=kR
theorem placesHeldO(w:World):((prog.fieldsOf 201).mapM fun (f:Field)=>do pure (f.offset,<-sizeOf f.type)).run prog w=.ok #[(0,1),(1,1)] w:=kR
@[go_sem ↓] theorem buildHeldO_rw(parts:Array (Nat×Value)):Instr.build 201 parts=bdS 201 parts:=rfl
@[go_sem] theorem buildHeldO_0(a0:ByteArray)(w:World):(bdS 201 #[(0,.string a0)]).run prog w=.ok (.agg (heldOC ⟨a0,false⟩)) w:=by
 refine run_build w fieldsHeldO _ (zeroHeldO_run w) _ (placesHeldO w) [(0,.string a0)] _ ?_;rw[show heldOC heldO0=(#[]:Array Value) ++ #[.string ⟨#[]⟩]++(#[.bool false])from by first | (simp[heldOC,heldO0,Array.append_assoc];done) | (apply Array.ext';simp[heldOC,heldO0])];rw[fill_step (off:=0) (size:=1) rfl sI sI (by simp[Value.cells])];first | (simp[Instr.fill,heldOC,Array.append_assoc,Value.cells];done) | (simp only[Instr.fill,heldOC];congr 1;apply Array.ext';simp[Value.cells];done) | (simp only[Instr.fill,heldOC];congr 1;done) | (simp only[Instr.fill,heldOC];done)
structure HeldAt(w:World)(x:Nat)(p:Pay):Prop where
 heap:w.heap[x]?=some (.cells #[.string p.body,.bool p.pin] 201 (0,0))
abbrev stoC(l:Nat)(q by_ pn:Int)(b:Nat):Array Value:=#[.pointer (some ⟨l,0,none⟩),.int .i64 q,.int .i64 by_,.int .i64 pn,.map (some b)]
def StoAt(w:World)(g:Nat)(F:List Nat)(q:Int)(S:List Pay):Prop :=
 ∃(l b:Nat) (Fl:List Nat) (N:List (Pay×Nat)),N.map (·.1)=S/\F=g :: b :: (Fl++N.map (·.2)) /\
  w.heap[g]?=some (.cells (stoC l q (bytesX S) (pinnedX S) b) 187 (0,0))/\LruAt w l Fl (S.map (·.c)) /\
  (∃M es clk,MapAt w b idV ptrVal okId M es clk/\M.Perm (N.map λp=>(p.1.c,p.2)))/\(∀p∈N,HeldAt w p.2 p.1) /\
  (∀x∈Fl,x≠g/\x≠b/\x∉N.map (·.2))/\(N.map (·.2)).Nodup
section
variable {w w':World} {g:Nat} {F:List Nat} {q:Int} {S:List Pay}
theorem HeldAt.lt(h:HeldAt w x p):x<w.heap.size:=(aG h.heap).1
theorem HeldAt.kept{T:List Nat}(h:HeldAt w x p)(k:Keep T w w')(hx:x∉T):HeldAt w' x p:=⟨(k.block x h.lt hx).trans h.heap⟩
theorem StoAt.kept{T:List Nat}(h:StoAt w g F q S)(k:Keep T w w')(hF:∀x∈F,x∉T):StoAt w' g F q S:=by
 obtain⟨l,b,Fl,N,h1,h2,h3,h4,⟨M,es,d,hm,hp⟩,h6,h7,h8⟩:=h;subst h2;exact⟨l,b,Fl,N,h1,rfl,(k.block g (aG h3).1 (hF g sI)).trans h3,h4.kept k λx hx=>hF x (by simp[hx]),⟨M,es,d,hm.kept k (hF b sI),hp⟩,
  λp hp=>(h6 p hp).kept k (hF _ (by simp;exact .inr (.inr (.inr ⟨_,hp⟩)))),h7,h8⟩
theorem StoAt.lt(h:StoAt w g F q S):∀x∈F,x<w.heap.size:=by
 obtain⟨l,b,Fl,N,h1,h2,h3,h4,⟨M,es,d,hm,hp⟩,h6,h7,h8⟩:=h;subst h2;intro x hx;rcases mem_cons.1 hx with e | hx
 ·rw[e];exact(aG h3).1
 rcases mem_cons.1 hx with e | hx
 ·rw[e];exact hm.lt
 rcases mem_append.1 hx with hx | hx
 ·exact h4.lt x hx
 ·obtain⟨p,hp,rfl⟩:=mem_map.1 hx;exact(h6 p hp).lt
end
theorem sto_none(w:World)(g b:Nat)(h:w.cell? ⟨g,4,none⟩=some (.map (some b))):Calls prog 143 #[.pointer (some ⟨g,0,none⟩)] w λe w'=>e=.returned (.bool false)/\w=w':=by
 have hn:=λr=>run_eql_map_nil (P:=prog) w 185 23 199 r underlying185;go_enter func143,ntmps143
 (go_wp2_with fail);go_ret;exact⟨rfl,rfl⟩
theorem zeroHeldP(w:World):(zeroValue 199).run prog w=.ok (.pointer none) w:=kR
section
variable {w:World} {b:Nat} {M:List (Id32×Nat)} {es:Array MapEntry} {clk:Nat} {d:Id32} {x:Nat}
theorem shit(h:MapAt w b idV ptrVal okId M es clk)(hx:(d,x)∈M):(Instr.lookup 185 (.map (some b)) (.agg (idC d)) true).run prog w=.ok (.tuple #[.pointer (some ⟨x,0,none⟩),.bool true]) w:=MapAt.hit h idKey underlying185 (k:=d) (v:=x) trivial hx true
theorem smiss(h:MapAt w b idV ptrVal okId M es clk)(hx:d∉M.map (·.1)):(Instr.lookup 185 (.map (some b)) (.agg (idC d)) true).run prog w=.ok (.tuple #[.pointer none,.bool false]) w:=MapAt.miss h idKey underlying185 (zeroHeldP w) (k:=d) trivial hx true
end
theorem sto_find(w:World)(g b:Nat)(M:List (Id32×Nat))(es:Array MapEntry)(t:Nat)(d:Id32)(h:w.cell? ⟨g,4,none⟩=some (.map (some b)))(hm:MapAt w b idV ptrVal okId M es t)(o:Option Addr)(bb:Bool)
  (hx:(bb=true/\∃x,o=some ⟨x,0,none⟩/\(d,x)∈M)\/(bb=false/\o=none/\d∉M.map (·.1))) :
  Calls prog 194 #[.pointer (some ⟨g,0,none⟩),.agg (idC d)] w λe w'=>e=.returned (.tuple #[.pointer o,.int .i64 (if bb then 0 else 7)])/\Below w.heap.size w w':=by
 have r:Keep [] w (w.alloc (.cells (idC d) 23)):=Keep.alloc _ _;obtain⟨W,hW⟩:=eR (w.alloc (.cells (idC d) 23))
 have k:rowAt W w.heap.size 0 32=some (idC d):=by rw[hW];simp[go_sem]
 have hB:Below w.heap.size w W:=by rw[hW];exact bA
 have cg:W.cell? ⟨g,4,none⟩=some (.map (some b)):=(hB.cell (p:=⟨g,4,none⟩) (block_lt_of_cell? w _ h)).trans h;have f:=hm.kept (Keep.of_below hB) sI;have c1:=sto_none W g b cg;have hk:∀v:Subtype (Bel W),(Instr.lookup 185 (.map (some b)) (.agg (idC d)) true).run prog v.1=.ok (.tuple #[.pointer o,.bool bb]) v.1:=by
  intro v;rcases hx with⟨rfl,x,rfl,hx⟩ | ⟨rfl,rfl,hx⟩
  ·exact shit (f.kept (Keep.of_below v.2) sI) hx
  ·exact smiss (f.kept (Keep.of_below v.2) sI) hx
 have HX:=dH hx;clear hx hm f h r;go_enter func194,ntmps194
 (go_wp2_with fail);rw[<-hW];obtain⟨ga,j⟩:=eX w.heap.size
 have y:=dH j;rw[j]at k |-;clear hW j;refine c1.mono ?_;rintro e w' ⟨rfl,rfl⟩;clear c1;go_upto_region 3 with fail
 refine lX W ?_;intro m hS;have b1:=sub_cell cg;have b2:=sub_row k;refine lZ ?_;refine wpLx_nil ?_;intro hS;have s:=bel2 hB hS;clear m hS b1 b2 hk;rcases HX.out with⟨rfl,x,rfl,_⟩ | ⟨rfl,rfl,_⟩
 all_goals
  clear HX;(go_wp2_with fail);go_ret2;exact⟨rfl,s⟩
theorem sto_parts{g:Nat}{F:List Nat}{q:Int}(h:StoAt w g F q S)(c:Id32) :
  (∀p,payX S c=some p->∃x,HeldAt w x p/\x∈F/\Calls prog 194 #[.pointer (some ⟨g,0,none⟩),.agg (idC c)] w λe w'=>e=.returned (.tuple #[.pointer (some ⟨x,0,none⟩),.int .i64 0])/\Below w.heap.size w w') /\
  (payX S c=none->Calls prog 194 #[.pointer (some ⟨g,0,none⟩),.agg (idC c)] w λe w'=>e=.returned (.tuple #[.pointer none,.int .i64 7])/\Below w.heap.size w w'):=by
 obtain⟨l,b,Fl,N,h1,h2,h3,h4,⟨M,es,j,hm,hp⟩,h6,h7,h8⟩:=h;have c4:w.cell? ⟨g,4,none⟩=some (.map (some b)):=by rw[cell_of_row w g 4 _ _ _ h3];rfl
 refine⟨λp k=>?_,λhn=>?_⟩
 ·obtain⟨d,m⟩:=payX_some k;rw[<-h1]at d;obtain⟨⟨p',x⟩,hq,e⟩:=mem_map.1 d;have e:p'=p:=e;subst e;refine⟨x,h6 _ hq,by rw[h2];exact mem_cons_of_mem _ (mem_cons_of_mem _ (mem_append_right _ (mem_map_of_mem (f:=(·.2)) hq))),?_⟩;refine sto_find w g b M es j c c4 hm _ true (.inl ⟨rfl,x,rfl,hp.mem_iff.2 (mem_map.2 ⟨_,hq,by rw[<-m]⟩)⟩)
 ·rw[payX_none,<-h1,map_map]at hn;refine sto_find w g b M es j c c4 hm _ false (.inr ⟨rfl,rfl,λhx=>hn ?_⟩);have:=(hp.map (·.1)).mem_iff.1 hx;rw[map_map]at this;exact this
theorem sto_get(w:World)(g:Nat)(F:List Nat)(q:Int)(S:List Pay)(c:Id32)(h:StoAt w g F q S) :
  Calls prog 163 #[.pointer (some ⟨g,0,none⟩),.agg (idC c)] w λe w'=>e=.returned (.tuple #[.string (match payX S c with | some p=>p.body | none=>⟨#[]⟩),.int .i64 (match payX S c with | some _=>0 | none=>7)])/\Below w.heap.size w w':=by
 have hB:Below w.heap.size w (w.alloc (.cells (idC c) 23)):=bA;have h1:=h.kept (Keep.of_below hB) sI;have hr:rowAt (w.alloc (.cells (idC c) 23)) w.heap.size 0 32=some (idC c):=by simp[go_sem]
 obtain⟨k1,k2⟩:=sto_parts h1 c;clear h h1;cases hp:payX S c with
 | none =>
  have c1:=k2 hp;clear k1 k2;go_enter func163,ntmps163
  (go_wp2_with fail);refine c1.mono ?_;rintro e w' ⟨rfl,d⟩;have hb:=bel2 hB d;clear c1 d hr;(go_wp2_with fail);go_ret2;exact⟨rfl,hb⟩
 | some p =>
  obtain⟨x,hx,_,c1⟩:=k1 p hp;clear k1 k2;go_enter func163,ntmps163
  (go_wp2_with fail);refine c1.mono ?_;rintro e w' ⟨rfl,d⟩;have hb:=bel2 hB d;have f:w'.cell? ⟨x,0,none⟩=some (.string p.body):=by rw[cell_of_row w' x 0 _ _ _ (hx.kept (Keep.of_below d) sI).heap];rfl
  clear c1 d hr hx;(go_wp2_with fail);go_ret2;exact⟨rfl,hb⟩
theorem sto_has(w:World)(g:Nat)(F:List Nat)(q:Int)(S:List Pay)(c:Id32)(h:StoAt w g F q S) :
  Calls prog 127 #[.pointer (some ⟨g,0,none⟩),.agg (idC c)] w λe w'=>e=.returned (.bool (payX S c).isSome)/\Below w.heap.size w w':=by
 have hB:Below w.heap.size w (w.alloc (.cells (idC c) 23)):=bA;have h1:=h.kept (Keep.of_below hB) sI;have hr:rowAt (w.alloc (.cells (idC c) 23)) w.heap.size 0 32=some (idC c):=by simp[go_sem]
 obtain⟨k1,k2⟩:=sto_parts h1 c;clear h h1;cases hp:payX S c with
 | none =>
  have c1:=k2 hp;clear k1 k2;go_enter func127,ntmps127
  (go_wp2_with fail);refine c1.mono ?_;rintro e w' ⟨rfl,d⟩;have hb:=bel2 hB d;clear c1 d hr;(go_wp2_with fail);go_ret;exact⟨rfl,hb⟩
 | some p =>
  obtain⟨x,hx,_,c1⟩:=k1 p hp;clear k1 k2 hx;go_enter func127,ntmps127
  (go_wp2_with fail);refine c1.mono ?_;rintro e w' ⟨rfl,d⟩;have hb:=bel2 hB d;clear c1 d hr;(go_wp2_with fail);go_ret;exact⟨rfl,hb⟩
theorem sto_all(w:World)(g:Nat)(F:List Nat)(q:Int)(S:List Pay)(h:StoAt w g F q S)(hn:S.length<=1000000) :
  Calls prog 82 #[.pointer (some ⟨g,0,none⟩)] w λe w'=>∃A cap,e=.returned (.slice A S.length cap)/\Own w' w.heap.size 23 32 A S.length cap ((S.map (·.c)).map idC)/\Below w.heap.size w w':=by
 obtain⟨l,b,Fl,N,h1,h2,h3,h4,_⟩:=h;have c4:w.cell? ⟨g,4,none⟩=some (.map (some b)):=by rw[cell_of_row w g 4 _ _ _ h3];rfl
 have c0:w.cell? ⟨g,0,none⟩=some (.pointer (some ⟨l,0,none⟩)):=by rw[cell_of_row w g 0 _ _ _ h3];rfl
 have c2:=lru_all w l Fl _ h4 (by simpa using hn);rw[length_map]at c2;clear h3 h4 h2 h1;go_enter func82,ntmps82
 (go_wp2_with fail);refine(sto_none w g b c4).mono ?_;rintro e w' ⟨rfl,rfl⟩;(go_wp2_with fail);refine c2.mono ?_;rintro e w1 ⟨A,cap,rfl,d,hb⟩;clear c2;(go_wp2_with fail);go_ret;exact⟨A,cap,rfl,by simpa using d,hb⟩
end
theorem nd_inj{α β:Type}{f:α->β}:∀ {L:List α} {a b:α},(L.map f).Nodup->a∈L->b∈L->f a=f b->a=b
 | [],_,_,_,ha,_,_=>by cases ha
 | z :: L,a,b,hn,ha,hb,e=>by
  rw[map_cons,nodup_cons]at hn;rcases mem_cons.1 ha with h1 | h1 <;> rcases mem_cons.1 hb with h2 | h2
  ·rw[h1,h2]
  ·subst h1;exact absurd (by rw[e];exact mem_map_of_mem h2) hn.1
  ·subst h2;exact absurd (by rw[<-e];exact mem_map_of_mem h1) hn.1
  ·exact nd_inj hn.2 h1 h2 e
theorem pinX_no(h:c∉S.map (·.c)):pinX S c=S:=by
 unfold pinX;have:∀p∈S,(if p.c=c then { p with pin:=true } else p)=id p:=λp hp=>if_neg λe:p.c=c=>h (by rw[<-e];exact mem_map_of_mem (f:=(·.c)) hp);rw[map_congr_left this,map_id]
theorem pinX_old(hn:(S.map (·.c)).Nodup)(hp:payX S c=some p)(h:p.pin=true):pinX S c=S:=by
 obtain⟨hm,hc⟩:=payX_some hp;unfold pinX;have:∀y∈S,(if y.c=c then { y with pin:=true } else y)=id y:=λy hy=>by
  split
  ·rename_i e
   have h2:=payX_mem hn hy;rw[e,hp]at h2;injection h2 with h2
   subst h2;cases p
   simp at h;subst h;rfl
  ·rfl
 rw[map_congr_left this,map_id]
theorem pinned_pin(hn:(S.map (·.c)).Nodup)(hp:payX S c=some p)(h:p.pin=false):pinnedX (pinX S c)=pinnedX S+p.body.size:=by
 obtain⟨hm,hc⟩:=payX_some hp;induction S with
 | nil=>cases hm
 | cons y S ih =>
  rw[map_cons,nodup_cons]at hn;by_cases e:y.c=c
  ·have hy:y=p:=by
    have:payX (y :: S) c=some y:=by unfold payX;rw[find?_cons,decide_eq_true e]
    rw[hp]at this;injection this with this;exact this.symm
   subst hy;have h2:=pinX_no (S:=S) (c:=c) (by rw[<-e];exact hn.1);have h3:pinX (y :: S) c = { y with pin:=true } :: S:=by
    show(if y.c=c then { y with pin:=true } else y) :: pinX S c=_;rw[if_pos e,h2]
   rw[h3];unfold pinnedX;rw[filter_cons,filter_cons,if_pos rfl,if_neg (by simp[h])];simp only[map_cons,sum_cons];omega
  ·have d:payX S c=some p:=by
    unfold payX at hp |-;rw[find?_cons,decide_eq_false e]at hp;exact hp
   have:=ih hn.2 d (payX_some d).1;have h3:pinX (y :: S) c=y :: pinX S c:=by
    show(if y.c=c then { y with pin:=true } else y) :: pinX S c=_;rw[if_neg e]
   rw[h3];unfold pinnedX at this |-;rw[filter_cons,filter_cons];split
   ·simp only[map_cons,sum_cons];omega
   ·exact this
theorem sto_pin(w:World)(g:Nat)(F:List Nat)(q:Int)(S:List Pay)(c:Id32)(h:StoAt w g F q S)(c6:bytesX S<=1000000) :
  Calls prog 122 #[.pointer (some ⟨g,0,none⟩),.agg (idC c)] w λe w'=>(∃E:Int,e=.returned (.int .i64 E))/\StoAt w' g F q (pinX S c)/\Keep F w w':=by
 have hB:Below w.heap.size w (w.alloc (.cells (idC c) 23)):=bA;have h1:=h.kept (Keep.of_below hB) sI;have hr:rowAt (w.alloc (.cells (idC c) 23)) w.heap.size 0 32=some (idC c):=by simp[go_sem]
 obtain⟨k1,k2⟩:=sto_parts h1 c;have V:(S.map (·.c)).Nodup:=by
  obtain⟨l,b,Fl,N,e1,e2,e3,e4,_⟩:=h;obtain⟨_,_,_,_,_,_,_,_,_,_,_,_,c0⟩:=e4;exact c0
 cases hp:payX S c with
 | none =>
  have c1:=k2 hp;have k:pinX S c=S:=pinX_no (payX_none.1 hp);rw[k];have H:=dH h;clear k1 k2 h h1;go_enter func122,ntmps122
  (go_wp2_with fail);refine c1.mono ?_;rintro e w' ⟨rfl,d⟩;have hb:=bel2 hB d;have HF:=dH (And.intro (H.out.kept (Keep.of_below hb) sI) ((Keep.of_below hb).mono (S':=F) sI));clear c1 d hr hb;(go_wp2_with fail);go_ret;exact⟨⟨_,rfl⟩,HF.out⟩
 | some p =>
  have b8:pinnedX S<=1000000:=Nat.le_trans (pinned_le S) c6;obtain⟨l,b,Fl,N,e1,e2,e3,e4,⟨M,es,Y,hm,s⟩,e6,e7,e8⟩:=h;obtain⟨a7,T⟩:=payX_some hp;obtain⟨x,j⟩:∃x,(p,x)∈N:=by
   rw[<-e1]at a7;obtain⟨q',b7,e⟩:=mem_map.1 a7;exact⟨q'.2,by rw[<-e];exact b7⟩
  have m:=e6 _ j;have hx:=m.kept (Keep.of_below hB) sI;have c4:(w.alloc (.cells (idC c) 23)).cell? ⟨g,4,none⟩=some (.map (some b)):=by
   rw[cell_of_row _ g 4 _ _ _ ((hB.block g (aG e3).1).trans e3)];rfl
  have c1:=sto_find _ g b M es Y c c4 (hm.kept (Keep.of_below hB) sI) (some ⟨x,0,none⟩) true (.inl ⟨rfl,x,rfl,s.mem_iff.2 (mem_map.2 ⟨_,j,by rw[<-T]⟩)⟩);have b6:x∈F:=by rw[e2];exact mem_cons_of_mem _ (mem_cons_of_mem _ (mem_append_right _ (mem_map_of_mem (f:=(·.2)) j)))
  have a5:x≠g:=by
   rintro rfl;have h9:=m.heap;rw[e3]at h9;injection h9 with h9;injection h9 with h9 _ _
   have:=congrArg Array.size h9;simp at this
  clear c4 m;cases hpp:p.pin with
  | true =>
   have k:pinX S c=S:=pinX_old V hp hpp;rw[k];have H:=dH (show StoAt w g F q S from⟨l,b,Fl,N,e1,e2,e3,e4,⟨M,es,Y,hm,s⟩,e6,e7,e8⟩);clear k1 k2 e1 e2 e3 e4 hm s e6 e7 e8 h1;go_enter func122,ntmps122
   (go_wp2_with fail);refine c1.mono ?_;rintro e w' ⟨rfl,d⟩;have hb:=bel2 hB d;have O:w'.cell? ⟨x,1,none⟩=some (.bool p.pin):=by rw[cell_of_row w' x 1 _ _ _ (hx.kept (Keep.of_below d) sI).heap];rfl
   rw[hpp]at O;have HF:=dH (And.intro (H.out.kept (Keep.of_below hb) sI) ((Keep.of_below hb).mono (S':=F) sI));clear c1 d hr hb hx;(go_wp2_with fail);go_ret;exact⟨⟨_,rfl⟩,HF.out⟩
  | false =>
   have R:=pinned_pin V hp hpp;have U:p.body.size<=1000000:=by
    have:=pinned_le (pinX S c);rw[pinX_bytes]at this;omega
   have c2:g<w.heap.size:=(aG e3).1;have H:=dH (show StoAt w g F q S from⟨l,b,Fl,N,e1,e2,e3,e4,⟨M,es,Y,hm,s⟩,e6,e7,e8⟩);have E3:=dH e3;clear k1 k2 e3;go_enter func122,ntmps122
   (go_wp2_with fail);refine c1.mono ?_;rintro e w' ⟨rfl,d⟩;have hb:=bel2 hB d;have L:=(hx.kept (Keep.of_below d) sI).heap;have O:w'.cell? ⟨x,1,none⟩=some (.bool p.pin):=by rw[cell_of_row w' x 1 _ _ _ L];rfl
   have c5:w'.frozen? ⟨x,1,none⟩=false:=by simp[frozen?,L]
   rw[hpp]at O;have a1:=(hb.block g c2).trans E3.out;clear c1 d hr hx;have A:(w'.setCell ⟨x,1,none⟩ (.bool true)).heap[g]?=some (.cells (stoC l q (bytesX S) (pinnedX S) b) 187 (0,0)):=((Keep.setCell w' ⟨x,1,none⟩ (.bool true)).block g (aG a1).1 (by simp;exact λe=>a5 e.symm)).trans a1;have B:(w'.setCell ⟨x,1,none⟩ (.bool true)).heap[x]?=some (.cells #[.string p.body,.bool true] 201 (0,0)):=by rw[heap_set_at L];rfl
   have a0:=Keep.setCell w' ⟨x,1,none⟩ (.bool true);go_upto_region 6 with fail
   obtain⟨W2,b5⟩:=eX (w'.setCell ⟨x,1,none⟩ (.bool true))
   rw[b5]at A B a0 |-;have a3:W2.cell? ⟨g,3,none⟩=some (.int .i64 (pinnedX S)):=by rw[cell_of_row W2 g 3 _ _ _ A];rfl
   have m:W2.cell? ⟨x,0,none⟩=some (.string p.body):=by rw[cell_of_row W2 x 0 _ _ _ B];rfl
   have c3:W2.frozen? ⟨g,3,none⟩=false:=by simp[frozen?,A]
   obtain⟨P0,a4⟩:=eX (pinnedX S)
   obtain⟨Z,hZ⟩:=eX p.body.size
   rw[a4]at R b8 a3 A;rw[hZ]at R U;have c8:IntKind.i64.wrap ((P0:Int)+(Z:Int))=((P0+Z:Nat):Int):=by rw[IntWalk.i64_in _ oM];push_cast;rfl
   have HZ:=dH hZ;have c9:=dH a4;have c7:=dH R;clear b5 O c5 L a1 R a4;refine kF [] W2 ?_;intro b9 hS;have b1:=ksub_cell a3 (S:=[]) sI;have b2:=ksub_cell m (S:=[]) sI;refine lZ ?_;refine wpLx_end ?_ ?_;(focus(simp only[chainOp];done));intro K hK;go_simp;refine hK _ _ ?_;clear hK K;have J:((P0:Int)+(Z:Int))=((pinnedX (pinX S c):Nat):Int):=by rw[c7.out];push_cast;rfl
   have a2:=heap_set_at A 3 (.int .i64 ((P0:Int)+(Z:Int)));have X:=Keep.setCell W2 ⟨g,3,none⟩ (.int .i64 ((P0:Int)+(Z:Int)));obtain⟨W3,b4⟩:=eX (W2.setCell ⟨g,3,none⟩ (.int .i64 ((P0:Int)+(Z:Int))))
   rw[b4]at a2 X |-;clear b4;have a9:Keep [x,g] w' W3.drew:=Keep.trans (Keep.trans (a0.mono (S':=[x,g]) sI) (X.mono (S':=[x,g]) sI) (λy hy=>.inl hy)) (Keep.drew W3) sI;have G:Keep [x,g] w W3.drew:=Keep.trans ((Keep.of_below hb).mono sI) a9 (λy hy=>.inl hy);have a6:W3.drew.heap[x]?=some (.cells #[.string p.body,.bool true] 201 (0,0)):=((X.block x (aG B).1 (by simp;exact a5))).trans B;have I:StoAt W3.drew g F q (pinX S c):=by
    refine⟨l,b,Fl,N.map λr=>(if r.1.c=c then { r.1 with pin:=true } else r.1,r.2),?_,?_,?_,?_,⟨M,es,Y,(hm.kept G ?_),?_⟩,?_,?_,?_⟩
    ·rw[<-e1,map_map];unfold pinX;rw[map_map];rfl
    ·rw[e2,map_map];rfl
    ·have h9:W3.drew.heap[g]?=_:=a2;rw[h9,pinX_bytes,<-J];rfl
    ·rw[pinX_cs];refine e4.kept G λy hy t=>?_;rcases mem_cons.1 t with e | t
     ·exact(e7 y hy).2.2 (by rw[e];exact mem_map_of_mem (f:=(·.2)) j)
     ·exact(e7 y hy).1 (by simpa using t)
    ·intro b3;simp only[mem_cons,not_mem_nil,or_false]at b3;rcases b3 with e | e
     ·have h9:=(e6 _ j).heap;have h9:w.heap[x]?=_:=h9;rw[<-e,hm.heap]at h9;cases h9
     ·have h9:=E3.out;rw[<-e,hm.heap]at h9;cases h9
    ·rw[map_map];refine s.trans (Perm.of_eq (map_congr_left λr _=>?_));show(r.1.c,r.2)=((if _ then _ else _:Pay).c,r.2)
     split <;> rfl
    ·intro r hr;obtain⟨r',D,rfl⟩:=mem_map.1 hr;by_cases e:r'.1.c=c
     ·have e5:r'=(p,x):=by
       have h9:=payX_mem V (by rw[<-e1];exact mem_map_of_mem (f:=(·.1)) D:r'.1∈S);rw[e,hp]at h9;injection h9 with h9
       exact nd_inj (f:=λr:Pay×Nat=>r.1.c) (by have h9:=V;rw[<-e1,map_map]at h9;exact h9) D j (by rw[e,T])
      subst e5;show HeldAt W3.drew x (if p.c=c then _ else _);rw[if_pos T];exact⟨a6⟩
     ·show HeldAt W3.drew r'.2 (if r'.1.c=c then _ else _);rw[if_neg e];refine(e6 r' D).kept G λt=>?_;simp only[mem_cons,not_mem_nil,or_false]at t;rcases t with h | h
      ·have e5:r'=(p,x):=by
        exact nd_inj e8 D j h
       rw[e5]at e;exact e T
      ·have h9:=(e6 r' D).heap;rw[h,E3.out]at h9;injection h9 with h9;injection h9 with h9 _ _
       have:=congrArg Array.size h9;simp at this
    ·intro y hy;rw[map_map];exact e7 y hy
    ·rw[map_map];exact e8
   have b0:g∈F:=by rw[e2];simp
   have a8:Keep F w W3.drew:=G.mono λy hy=>by
    simp only[mem_cons,not_mem_nil,or_false]at hy;rcases hy with h | h
    ·rw[h];exact .inl b6
    ·rw[h];exact .inl b0
   have HF:=dH (And.intro I a8);clear I a8 G a9 a6 b0 a2 X a0 b1 b2 b9 hS B A a3 m c3 e4 e6 e7 e8 e1 e2 hm s;(go_wp2_with fail);go_ret;exact⟨⟨_,rfl⟩,HF.out⟩

def zU(n:Nat):List UInt32:=replicate n 0
theorem zU_length(n:Nat):(zU n).length=n:=length_replicate
def wC(x:UInt32):Value:=.int .u32 (nU x)
def wsC(L:List UInt32):Array Value:=(L.map wC).toArray
@[simp] theorem wsC_size(L:List UInt32):(wsC L).size=L.length:=by simp[wsC]
theorem wsC_one(L:List UInt32):∀u∈(wsC L).toList,u.oneCell'=true:=by
 intro u hu;simp[wsC]at hu;obtain⟨c,_,rfl⟩:=hu;rfl
theorem wsC_get(L:List UInt32){i:Nat}(h:i<L.length):(wsC L)[i]?=some (.int .u32 (nU (L.getD i 0))):=by
 simp[wsC,wC,getD,h]
theorem wsC_set(L:List UInt32)(i:Nat)(x:UInt32):(wsC L).setIfInBounds i (.int .u32 (nU x))=wsC (L.set i x):=by
 apply Array.ext';rw[Array.toList_setIfInBounds];show(L.map wC).set i (wC x)=(L.set i x).map wC;rw[map_set]
theorem infoW64:(prog.info? 277).map (·.size)=some 64:=kR
@[go_sem ↓] theorem zeroW64_run(w:World):(zeroValue 277).run prog w=.ok (.agg (wsC (zU 64))) w:=by
 have h:(prog.info? 277).bind (·.zero)=some (.agg (wsC (zU 64))):=kR;cases hi:prog.info? 277 with
 | none=>rw[hi]at h;cases h
 | some i =>
  rw[hi]at h;have hz:i.zero=some (.agg (wsC (zU 64))):=h;simp[zeroValue,typeInfo,hi,hz]
@[go_sem ↓] theorem loadW64_rw(a:Addr):loadVar 277 a=ldS 277 a:=rfl
@[go_sem ↓] theorem storeW64_rw(a:Addr)(v:Value):storeVar 277 a v=stS 277 a v:=rfl
@[go_sem] theorem loadW64_run(w:World)(g o:Nat):(ldS 277 ⟨g,o,none⟩).run prog w=match rowAt w g o 64 with | some cs=>.ok (.agg cs) w | none=>(loadVar 277 ⟨g,o,none⟩).run prog w :=
 run_ldS underlying277 rfl infoW64 w g o
@[go_sem] theorem storeW64_run(w:World)(g:Nat)(hg:g=w.heap.size)(z:Array Value)(hz:z.size=64)(L:List UInt32)(hL:L.length=64)(e:TypeId):(stS 277 ⟨g,0,none⟩ (.agg (wsC L))).run prog (w.alloc (.cells z e))=.ok () (w.alloc (.cells (wsC L) e)) :=
 hg ▸ run_stS_new infoW64 w z (wsC L) hz ((wsC_size L).trans hL) (wsC_one L)
theorem infoSt8:(prog.info? 190).map (·.size)=some 8:=kR
@[go_sem ↓] theorem zeroSt8_run(w:World):(zeroValue 190).run prog w=.ok (.agg (wsC (zU 8))) w:=by
 have h:(prog.info? 190).bind (·.zero)=some (.agg (wsC (zU 8))):=kR;cases hi:prog.info? 190 with
 | none=>rw[hi]at h;cases h
 | some i =>
  rw[hi]at h;have hz:i.zero=some (.agg (wsC (zU 8))):=h;simp[zeroValue,typeInfo,hi,hz]
@[go_sem ↓] theorem loadSt8_rw(a:Addr):loadVar 190 a=ldS 190 a:=rfl
@[go_sem ↓] theorem storeSt8_rw(a:Addr)(v:Value):storeVar 190 a v=stS 190 a v:=rfl
@[go_sem] theorem loadSt8_run(w:World)(g o:Nat):(ldS 190 ⟨g,o,none⟩).run prog w=match rowAt w g o 8 with | some cs=>.ok (.agg cs) w | none=>(loadVar 190 ⟨g,o,none⟩).run prog w :=
 run_ldS underlying190 rfl infoSt8 w g o
@[go_sem] theorem storeSt8_run(w:World)(g:Nat)(hg:g=w.heap.size)(z:Array Value)(hz:z.size=8)(L:List UInt32)(hL:L.length=8)(e:TypeId):(stS 190 ⟨g,0,none⟩ (.agg (wsC L))).run prog (w.alloc (.cells z e))=.ok () (w.alloc (.cells (wsC L) e)) :=
 hg ▸ run_stS_new infoSt8 w z (wsC L) hz ((wsC_size L).trans hL) (wsC_one L)
end Go.Proofs.YtplpiicfkbpkaaaGreatDoor
