/- Part 17 of the texts that lead to this claim: the walks of the functions and the plain law, in order. -/
import Derived.Test.YtddopbhcpblpjaaGreatDoorMj16
import Derived.Test.YtddopbhcpblpjaaGreatDoorRows
import Derived.LaidLaws
import Derived.LaidHandle
import Derived.Stop.Joined
import Derived.SevenTiedAt
namespace Go.Proofs.YtddopbhcpblpjaaGreatDoor
open Go.RowKit
open List hiding and get max min or set
open Go.Proofs.Tryz
open World
set_option maxRecDepth 100000
set_option maxHeartbeats 8000000
variable {P:Program}{E:Int}{Y:StX}{W w:World}{H:Type}{args:Array Value}
theorem isFn_has:zt 26:=λargs w=>by kernel_rfl
theorem qp(X:StX)(v:VwX):((j8 X.D v.t).filter λi=>!decide (i∈v.I))=tB X v:=by
 unfold tB;exact filter_congr λx _=>by rw[decide_not]
theorem st_missing(w:World)(g gd gs bo bv:Nat)(Fd Fs F M:List Nat)(N:List (VwX×VwP))(X:StX)(h:kY w g gd gs bo bv Fd Fs F M N X)(hn:X.D.length<=1000000)(p:VwX×VwP)(hp:p∈N)(k:(X.V.map (·.t)).Nodup) :
  Calls prog 4 #[.pointer (some ⟨g,0,none⟩),.string p.1.t] w λe w'=>∃A c,e=.returned (.tuple #[.slice A (tB X p.1).length c,.int .i64 0])/\Own w' w.heap.size 23 32 A (tB X p.1).length c ((tB X p.1).map idC)/\Below w.heap.size w w':=by
 have f:=(h.st.vw p hp)
 have ht:fD p.1.t:=f.t;have c0:w.cell? ⟨g,0,none⟩=some (.pointer (some ⟨gd,0,none⟩)):=by rw[cell_of_row w g 0 _ _ _ h.st.heap];rfl
 have c3:w.cell? ⟨g,3,none⟩=some (.map (some bv)):=by rw[cell_of_row w g 3 _ _ _ h.st.heap];rfl
 have cN:=B8 w g gd c0;have Y:(Instr.lookup 30 (.map (some bv)) (.string p.1.t) true).run prog w=.ok (.tuple #[.pointer (some ⟨p.2.g,0,none⟩),.bool true]) w:=by
  rcases h.st.look ht with⟨q,hq,e,hl⟩ | ⟨hno,_⟩
  ·have G:(N.map λq=>q.1.t).Nodup:=by rw[<-h.st.vx,map_map]at k;exact k
   rw[<-nX G hq hp e];have:=(hl w [] (z8.refl _ _) sI).1;rw[nX G hq hp e]at this |-;exact this
  ·exact absurd (mem_map.2 ⟨p.1,by rw[<-h.st.vx];exact mem_map_of_mem hp,rfl⟩) hno
 have cT:=aE w gd Fd X.D h.st.dag p.1.t ht hn;have hm:=qp X p.1;have d:=YR (D:=X.D) p.1.t;obtain⟨⟨t,I,s⟩,⟨vg,vb,O,v⟩⟩:=p;obtain⟨Z,hZ⟩:=eX (tB X ⟨t,I,s⟩)
 have hm:((j8 X.D t).filter λi=>!decide (i∈I))=tB X ⟨t,I,s⟩:=hm;rw[hZ]at hm |-;obtain⟨T0,L⟩:=eX (j8 X.D t)
 have d:(j8 X.D t).length<=X.D.length:=d;have cT:Calls prog 25 #[.pointer (some ⟨gd,0,none⟩),.string t] w λe w'=>∃s:Sl,e=.returned (slV s)/\s.n=(j8 X.D t).length/\Own w' w.heap.size 23 32 s.A s.n s.c ((j8 X.D t).map idC)/\Below w.heap.size w w':=cT;have f:yR w vg t vb I v:=f.view;rw[L]at cT hm d;have Hv:=dH f;have Hm:=dH hm;have T:T0.length<=1000000:=oM;clear f hm hZ L h hp k d;go_enter func4,ntmps4
 (go_wp2_with fail);refine cN.mono ?_;rintro e w1 ⟨rfl,rfl⟩;clear cN;(go_wp2_with fail);refine cT.mono ?_;rintro e w2 ⟨⟨A,n,c⟩,rfl,H,ho,hb⟩;have R:n<=1000000:=by have h2:n=T0.length:=H;omega
 clear H cT;have r:=Hv.out.below hb;have hA:∀y∈blk A,w.heap.size<=y:=λy hy=>(ho.at_base hy).1;have j:=Hv.out.lt;have m:=Hv.out.ids.lt;have cD:=QO 26 #[.pointer (some ⟨vg,0,none⟩)] #[] isFn_has (λx=>decide (x∈I)) w2 A (λx w' hk=>vhas x w' vg t vb I v (r.kept hk (λhy=>oH (hA _ hy)) (λhy=>oH (hA _ hy)))) w.heap.size n c T0 ho R;rw[Hm.out]at cD;have HA:=dH hA;have Hb:=dH hb;clear r hA j m ho hb;unfold slV;(go_wp2_with fail);refine cD.mono ?_;rintro e w3 ⟨rfl,E,J⟩;have HF:=dH (And.intro E (Hb.out.trans (J.below (B:=w.heap.size) Hb.out.size HA.out)));clear cD E J;(go_wp2_with fail);go_ret2;exact⟨A,c,rfl,HF.out.1,HF.out.2⟩
theorem nQ{fn:Func}{p q r:Tmp}{ty:TypeId}(h:fn.results = #[.cell p ty,.tmp q,.tmp r])(tmps:Array Value)(w:World)(g:Nat)(t:TypeId)(cs:Array Value)(fr:Nat×Nat)(d:TypeDesc)
  (hp:tmps.getD p undef=.pointer (some ⟨g,0,none⟩))(hg:w.heap[g]?=some (.cells cs t fr))
  (hu:P.underlying ty=some d)(hd:(match d with | .struct _ | .array _ _=>true | _=>false)=true)(hi:(P.info? ty).map (·.size)=some cs.size) :
  (results fn tmps).run P w=.ok (.tuple #[.agg cs,tmps.getD q undef,tmps.getD r undef]) w:=by
 have f:tmps[p]?.getD undef=.pointer (some ⟨g,0,none⟩):=by simpa using hp
 simp[results,h,f,asAddr,run_loadVar_row w g t ty cs fr d hg hu hd hi]
structure QA where
 k:Int
 n:Int
 ps:List jO
 l:List zA
 e:Int
def BJ(X:StX)(v:VwX):QA:=if tB X v = []then⟨v.s.kind,v.s.num,v.s.pairs,[],0⟩ else⟨0,0,[],tB X v,16⟩
def J2(q:QA)(w:World)(e:Ending)(w':World):Prop :=
 ∃A c B d,e=.returned (.tuple #[.agg (zI ⟨q.k,q.n,.slice A q.ps.length c⟩),.slice B q.l.length d,.int .i64 q.e])/\Own w' w.heap.size 179 2 A q.ps.length c (q.ps.map yB)/\Own w' w.heap.size 23 32 B q.l.length d (q.l.map idC)/\Below w.heap.size w w'
theorem st_query(w:World)(g gd gs bo bv:Nat)(Fd Fs F M:List Nat)(N:List (VwX×VwP))(n:Nat)(X:StX)(h:kY w g gd gs bo bv Fd Fs F M N X)(hX:kJ n X)(hn:n<=800)(p:VwX×VwP)(hp:p∈N) :
  Calls prog 5 #[.pointer (some ⟨g,0,none⟩),.string p.1.t] w λe w'=>J2 (BJ X p.1) w e w':=by
 have hB:Below w.heap.size w (w.alloc (.cells (zI x8) 39)):=bA;have hr:=heap_alloc_new w (.cells (zI x8) 39);obtain⟨W,hW⟩:=eR (w.alloc (.cells (zI x8) 39))
 obtain⟨ga,T⟩:=eX w.heap.size
 rw[<-hW]at hB hr;rw[T]at hr;have m:=h.kept hB;have cM:=st_missing W g gd gs bo bv Fd Fs F M N X m (Nat.le_trans hX.len oM) p hp hX.nv;have H:p.1∈X.V:=by rw[<-h.st.vx];exact mem_map_of_mem hp
 obtain⟨a2,a8⟩:=hX.view H;have E:=(h.st.vw p hp).t;have R:∀w2,Below W.heap.size W w2->(Instr.lookup 30 (.map (some bv)) (.string p.1.t) false).run prog w2=.ok (.pointer (some ⟨p.2.g,0,none⟩)) w2:=by
  rcases m.st.look E with⟨q,hq,e,hl⟩ | ⟨hno,_⟩
  ·have a7:(N.map λq=>q.1.t).Nodup:=by have h1:=hX.nv;rw[<-h.st.vx,map_map]at h1;exact h1
   intro w2 hb;have:=(hl w2 [] (z8.of_below hb) sI).2;rw[nX a7 hq hp e]at this;exact this
  ·exact absurd (mem_map.2 ⟨p.1,H,rfl⟩) hno
 have cV:=fun (V:World) (hV:Below W.heap.size W V)=>vvalue V p.2.g p.1.t p.2.b p.1.I p.2.v p.2.O M p.1.s ((m.st.vw p hp).view.below hV) ((m.st.vw p hp).st.below hV) (by have:p.1.t.size<=maxLen:=E;unfold maxLen at this;omega) a2 oM;have c3:W.cell? ⟨g,3,none⟩=some (.map (some bv)):=by rw[cell_of_row W g 3 _ _ _ m.st.heap];rfl
 obtain⟨⟨t,I,s⟩,⟨vg,vb,O,v⟩⟩:=p;obtain⟨Z,hZ⟩:=eX (tB X ⟨t,I,s⟩)
 have hq:BJ X ⟨t,I,s⟩=if Z = []then⟨s.kind,s.num,s.pairs,[],0⟩ else⟨0,0,[],Z,16⟩:=by unfold BJ;rw[hZ]
 have Hq:=dH hq;rw[hZ]at cM;have HW:=dH hW;have a0:=dH T;have HB:=dH hB;have Hr:=dH hr;clear hZ hq hW T hB m h hX hp H a2 a8 E hr;show Calls prog 5 #[.pointer (some ⟨g,0,none⟩),.string t] w λe w'=>J2 (BJ X ⟨t,I,s⟩) w e w';rw[Hq.out];go_enter func5,ntmps5
 (go_wp2_with fail);rw[<-HW.out,a0.out];refine cM.mono ?_;rintro e w1 ⟨A,c,rfl,ho,D⟩;have f:=(D.block ga (aG Hr.out).1).trans Hr.out;have a3:=(D.cell (p:=⟨g,3,none⟩) (block_lt_of_cell? W _ c3)).trans c3;have r:=dH D;have Ho:=dH ho;have a5:=dH HB.out.size;clear cM D ho c3;cases Z with
 | nil =>
  have a4:=cV w1 r.out;have L:=R w1 r.out;clear cV R;(go_wp2_with fail);refine a4.mono ?_;rintro e w2 ⟨B,d,rfl,J,Y⟩;have G:=(Y.block ga (aG f).1).trans f;have a6:=zX (P:=prog) qL w2 ga (zI x8) (zI ⟨s.kind,s.num,.slice B s.pairs.length d⟩) _ G sI sI (k8 _ rfl);have k:=dH (setRow_heap w2 ga _ (zI ⟨s.kind,s.num,.slice B s.pairs.length d⟩) _ _ G);have hk:=lP w2 ga (zI ⟨s.kind,s.num,.slice B s.pairs.length d⟩);have j:=yM (yM HB.out r.out) Y;have a1:=dH (j.trans (hk.below j.size (oS a0.out)));have U:=dH ((J.kept hk (λy hy=>by have h1:=(J.at_base hy).1;have h2:=(aG f).1;simp;omega)).mono (B':=w.heap.size) (Nat.le_trans a5.out r.out.size));clear hk j J Y G f a4 L a3;(go_wp2_with fail);refine bodyPost_ret (nQ results5 _ _ ga 39 (zI ⟨s.kind,s.num,.slice B s.pairs.length d⟩) (0,0) _ rfl k.out underlying39 rfl (by rw[jX];exact qL)) rfl ?_;exact⟨B,d,none,0,rfl,U.out,Own.nil _ _ _ _,a1.out⟩
 | cons z Z =>
  have a6:=zX (P:=prog) qL w1 ga (zI x8) (zI x8) _ f sI sI (k8 _ rfl);have k:=dH (setRow_heap w1 ga _ (zI x8) _ _ f);have hk:=lP w1 ga (zI x8);have j:=yM HB.out r.out;have a1:=dH (j.trans (hk.below j.size (oS a0.out)));have U:=dH ((Ho.out.kept hk (λy hy=>by have h1:=(Ho.out.at_base hy).1;have h2:=(aG Hr.out).1;simp;omega)).mono (B':=w.heap.size) a5.out);clear hk j f cV R a3;(go_wp2_with fail);refine bodyPost_ret (nQ results5 _ _ ga 39 (zI x8) (0,0) _ rfl k.out underlying39 rfl (by rw[jX];exact qL)) rfl ?_;exact⟨none,0,A,c,rfl,Own.nil _ _ _ _,U.out,a1.out⟩
theorem beN_len(M n:Nat):(beL M n).length=M:=by
 have:(⟨(beL M n).toArray⟩:ByteArray).size=M:=lY M n;exact this
theorem hof_put{h:HdV}(he:hdE h=0):nE (hdB h)=0/\BT (hdB h)=h:=by
 have ok:=a9 he;have f:h.tp.size<=12:=ZF (hdE_tp he);obtain⟨ps,ht,tp,au,sq,sz,cm⟩:=h;have k:ps.length<=4:=ok.ps;have b1:=ok.ht;have b2:=ok.au;have b3:=ok.sq;have b4:=ok.sz;dsimp only at b1 b2 b3 b4 f;have h1:((ht.toNat:Nat):Int)=ht:=Int.toNat_of_nonneg oM;have h2:((au.toNat:Nat):Int)=au:=Int.toNat_of_nonneg oM;have h3:((sq.toNat:Nat):Int)=sq:=Int.toNat_of_nonneg oM;have h4:((sz.toNat:Nat):Int)=sz:=Int.toNat_of_nonneg oM;have e:hdB ⟨ps,ht,tp,au,sq,sz,cm⟩=beL 1 ps.length++(ps.flatMap (·.l)++(beL 4 ht.toNat++(beL 1 tp.size++(tp.data.toList++(beL 1 au.toNat++(beL 4 sq.toNat++(beL 2 sz.toNat++(cm.l ++ [])))))))):=by
  unfold hdB;simp
 have hV:rF (hdB ⟨ps,ht,tp,au,sq,sz,cm⟩)=(⟨ps,ht,tp,au,sq,sz,cm⟩,[],0):=by
  rw[e];unfold rF hofP;obtain⟨n1,n2,n3⟩:=mD (M:=1) (n:=ps.length) oM (ps.flatMap (·.l)++(beL 4 ht.toNat++(beL 1 tp.size++(tp.data.toList++(beL 1 au.toNat++(beL 4 sq.toNat++(beL 2 sz.toNat++(cm.l ++ []))))))));rw[n1,n2,n3,show(λx:zA=>x.l)=idP.put from rfl,VS nC ps [] _ (λ_ _=>trivial)];unfold hofT;obtain⟨a1,a2,a3⟩:=mD (M:=4) (n:=ht.toNat) oM (beL 1 tp.size++(tp.data.toList++(beL 1 au.toNat++(beL 4 sq.toNat++(beL 2 sz.toNat++(cm.l ++ []))))));obtain⟨t1,t2,t3⟩:=KX (s:=tp) oM (beL 1 au.toNat++(beL 4 sq.toNat++(beL 2 sz.toNat++(cm.l ++ []))));obtain⟨u1,u2,u3⟩:=mD (M:=1) (n:=au.toNat) oM (beL 4 sq.toNat++(beL 2 sz.toNat++(cm.l ++ [])));obtain⟨s1,s2,s3⟩:=mD (M:=4) (n:=sq.toNat) oM (beL 2 sz.toNat++(cm.l ++ []));obtain⟨z1,z2,z3⟩:=mD (M:=2) (n:=sz.toNat) oM (cm.l ++ []);obtain⟨c1,c2,c3⟩:=eW (d:=cm) [];simp only[a1,a2,a3,t1,t2,t3,u1,u2,u3,s1,s2,s3,z1,z2,z3,c1,c2,c3,h1,h2,h3,h4,nil_append]
 have j:(hdB ⟨ps,ht,tp,au,sq,sz,cm⟩).length<=256:=by
  have hf:∀L:List zA,(L.flatMap (·.l)).length=32*L.length:=λL=>by
   induction L with
   | nil=>rfl
   | cons x L ih=>rw[flatMap_cons,length_append,ih,x.h,length_cons];omega
  have g:tp.data.toList.length=tp.size:=rfl;rw[e];simp only[length_append,beN_len,hf,g,cm.h,length_nil];omega
 refine⟨?_,by unfold BT;rw[hV]⟩;unfold nE;rw[if_neg oM,hV];show(if jE [] 0≠0 then jE [] 0 else hdE ⟨ps,ht,tp,au,sq,sz,cm⟩)=0;rw[if_neg (by decide)];exact he
theorem kd:yF awT=1:=by decide +kernel
theorem awH_ok(c:zA):hdE (awH c)=0:=by
 unfold hdE awH;have h1:j5 awT=0:=by decide +kernel
 simp only[h1];rfl
def awX0:StX:=⟨100,[],[],[],[]⟩
def awI(c:zA):zA:=hdI (awH c)
def awX1(c:zA):StX:=⟨100,[⟨awI c,awH c⟩],[],[],[]⟩
def aO(c:zA):StX:=⟨100,[⟨awI c,awH c⟩],[],[],[⟨awT,[],.t 0⟩]⟩
def awX3(s:ByteArray):StX:=⟨100,[⟨awI (qI s.data.toList),awH (qI s.data.toList)⟩],[],[⟨qI s.data.toList,s,false⟩],[⟨awT,[awI (qI s.data.toList)],.t 2⟩]⟩
theorem aw_ver(c:zA):fZ [] (awH c)=0:=by
 unfold fZ;rw[if_neg (by rw[awH_ok];decide)];rfl
theorem aw_head(c:zA):Y1 awX0 (hdB (awH c))=0/\eY awX0 (hdB (awH c)) false=awX1 c:=by
 obtain⟨h1,h2⟩:=hof_put (awH_ok c);unfold Y1 eY;rw[if_neg (by rw[h1];decide),if_neg (by rw[h1];decide),h2];refine⟨aw_ver c,?_⟩;unfold ZI;rw[if_neg (by rw[show awX0.D = []from rfl,aw_ver];decide),if_neg (by decide)];have:vZ awX0.D (awH c) = [⟨awI c,awH c⟩]:=if_pos ⟨aw_ver c,by simp[qR,awX0]⟩;rw[this];rfl
theorem zn(c:zA):kV [⟨awI c,awH c⟩] (awI c)=some (awH c):=by unfold kV;simp
theorem aw_tps(c:zA):j8 [⟨awI c,awH c⟩] awT = [awI c]:=by
 unfold j8;rw[filter_cons,if_pos (decide_eq_true (show(awH c).tp=awT from rfl))];rfl
theorem aw_cms(c:zA):vA [⟨awI c,awH c⟩] c = [awI c]:=by
 unfold vA;rw[filter_cons,if_pos (decide_eq_true (show(awH c).cm=c from rfl))];rfl
theorem aw_ent2(b:ByteArray)(h1:b.size≠0)(h2:b.size<=256):bS ⟨2,⟨#[]⟩,b,id0⟩=0:=by
 unfold bS;rw[if_neg (by dsimp only;omega),if_neg (by dsimp only;simp;decide),if_neg (by dsimp only;omega),if_neg (by dsimp only;omega),if_neg (by dsimp only;omega)]
theorem aw_ent5:bS ⟨5,awT,⟨#[]⟩,id0⟩=0:=by decide +kernel
theorem aw_ent3(b:ByteArray)(h:b.size=5):bS ⟨3,⟨#[]⟩,b,id0⟩=0:=by
 unfold bS;rw[if_neg (by dsimp only;omega),if_neg (by dsimp only;simp;decide),if_neg (by dsimp only;omega),if_neg (by dsimp only;omega),if_neg (by dsimp only;omega)]
theorem aw_app1{b:ByteArray}{c:zA}(hb:b.data.toList=hdB (awH c))(h1:b.size≠0)(h2:b.size<=256)(a:gG awX0 ⟨2,⟨#[]⟩,b,id0⟩ E Y):E=0/\Y=awX1 c:=by
 obtain⟨q1,q2⟩:=aw_head c;obtain⟨h3,h4⟩:=hof_put (awH_ok c);unfold gG at a;rw[if_neg (by rw[aw_ent2 b h1 h2];decide),if_pos (by dsimp only;omega)]at a;dsimp only at a;rw[hb,if_neg (by rw[h3];decide)]at a;unfold Y1 at q1;unfold eY at q2;rw[if_neg (by rw[h3];decide)]at q1 q2;exact⟨a.1.trans q1,a.2.trans q2⟩
theorem aw_app2{c:zA}(a:gG (awX1 c) ⟨5,awT,⟨#[]⟩,id0⟩ E Y):E=0/\Y=aO c:=by
 unfold gG at a;rw[if_neg (by rw[aw_ent5];decide),if_neg (by dsimp only;omega),if_neg (by dsimp only;omega),if_neg (by dsimp only;omega),if_neg (by dsimp only;omega),if_neg (by rw[show lL (awX1 c) awT=0 from rfl];decide),if_pos rfl]at a;refine⟨a.1,a.2.trans ?_⟩;dsimp only;rw[kd];unfold subX qA awX1 aO;dsimp only;rw[aw_tps];have hp:qE [⟨awI c,awH c⟩] [] (awI c)=none:=by unfold qE;rw[zn];rfl
 have:[awI c].foldl (jG [⟨awI c,awH c⟩] []) ⟨awT,[],VSt.new 1⟩=⟨awT,[],.t 0⟩:=by
  show jG [⟨awI c,awH c⟩] [] ⟨awT,[],VSt.new 1⟩ (awI c)=_;rw[QL hp];rfl
 rw[nil_append,map_cons,this];rfl
theorem aw_app3{s:ByteArray}(hs:s.data.toList=JO 2)(a:gG (aO (qI s.data.toList)) ⟨3,⟨#[]⟩,s,id0⟩ E Y):E=0/\Y=awX3 s:=by
 have h5:s.size=5:=by
  have:s.data.toList.length=5:=by rw[hs];rfl
  exact this
 obtain⟨c,hc⟩:=eX (qI s.data.toList)
 have d:sD [] 100 s=0:=by
  unfold sD rZ;rw[h5];rw[if_neg (by decide),if_neg sI];rfl
 have hX:lG [] 100 s = [⟨c,s,false⟩]:=by unfold lG;rw[d,if_pos ⟨rfl,sI⟩,hc];rfl
 unfold gG at a;rw[if_neg (by rw[aw_ent3 s h5];decide),if_neg (by dsimp only;omega),if_pos rfl]at a;refine⟨a.1.trans (by rw[hc];exact d),a.2.trans ?_⟩;unfold awX3;dsimp only;rw[hc];unfold n8;rw[hc,show(aO c).S = []from rfl,show(aO c).q=100 from rfl,if_neg (by rw[d];decide),if_neg (by
  unfold rT;rw[show(aO c).D = [⟨awI c,awH c⟩]from rfl,show(aO c).O = []from rfl,aw_cms]
  simp),hX]
 unfold qA aO;dsimp only;rw[aw_cms];have hp:qE [⟨awI c,awH c⟩] [⟨c,s,false⟩] (awI c)=some s:=by
  unfold qE;rw[zn];dsimp only;rw[show jH [⟨c,s,false⟩] (awH c).cm=some ⟨c,s,false⟩ by unfold jH awH;simp];exact if_pos (by show(s.size:Int)=5;omega)
 have hf:aC awT ⟨awI c,1,s⟩:=by
  unfold aC;dsimp only;rw[hs];exact⟨inc2_e,by rw[inc2_k,kd];rfl⟩
 have hd:doS ⟨awI c,1,s⟩ (opO (JO 2)) (.t 0)=.t 2:=by
  show VSt.t (wrap64 (0+(opO (JO 2)).n))=.t 2;rw[inc2_n];exact congrArg VSt.t (by decide +kernel)
 have:[awI c].foldl (jG [⟨awI c,awH c⟩] [⟨c,s,false⟩]) ⟨awT,[],.t 0⟩=⟨awT,[awI c],.t 2⟩:=by
  show jG [⟨awI c,awH c⟩] [⟨c,s,false⟩] ⟨awT,[],.t 0⟩ (awI c)=_;rw[jq (zn c) hp rfl];unfold wR;rw[if_neg sI];have h1:lT awT ⟨awI c,1,s⟩ (.t 0)=.t 2:=by
   unfold lT;rw[if_pos hf];show doS ⟨awI c,1,s⟩ (opO s.data.toList) (.t 0)=.t 2;rw[hs];exact hd
  show(⟨awT,[awI c],lT awT ⟨awI c,1,s⟩ (.t 0)⟩:VwX)=_;rw[h1]
 rw[map_cons,this];rfl
theorem three_rows(w:World)(a b c:Obj):((w.alloc a).alloc b).heap.size=w.heap.size+2/\(((w.alloc a).alloc b).alloc c).heap[w.heap.size]?=some a/\(((w.alloc a).alloc b).alloc c).heap[w.heap.size+1]?=some b/\(((w.alloc a).alloc b).alloc c).heap[w.heap.size+1+1]?=some c/\Below w.heap.size w (((w.alloc a).alloc b).alloc c):=by
 have h1:(w.alloc a).heap.size=w.heap.size+1:=sI;have h2:((w.alloc a).alloc b).heap.size=w.heap.size+2:=sI;refine⟨h2,?_,?_,?_,((bA).alloc oM _).alloc oM _⟩
 ·rw[Below.heap_alloc _ _ _ oM,Below.heap_alloc _ _ _ oM];exact heap_alloc_new w a
 ·rw[Below.heap_alloc _ _ _ oM,<-h1];exact heap_alloc_new _ b
 ·rw[(oM:w.heap.size+1+1=((w.alloc a).alloc b).heap.size)];exact heap_alloc_new _ c
theorem rpayload(w:World) :
  Calls prog 57 #[.agg (hdC ⟨.slice none 0 0,1,awT,0,1,0,id0⟩),.agg (zP ⟨1,2,⟨#[]⟩,⟨#[]⟩,id0,.slice none 0 0⟩)] w λe w'=>e=.returned (.agg (hdR ⟨awH (qI (JO 2)),none,0⟩))/\Below w.heap.size w w':=by
 obtain⟨z2,x0,x1,x2,hB⟩:=three_rows w (.cells (hdC ⟨.slice none 0 0,1,awT,0,1,0,id0⟩) 44) (.cells (zP ⟨1,2,⟨#[]⟩,⟨#[]⟩,id0,.slice none 0 0⟩) 84) (.cells (hdC hd0) 44);obtain⟨W,hW⟩:=eR (((w.alloc (.cells (hdC ⟨.slice none 0 0,1,awT,0,1,0,id0⟩) 44)).alloc (.cells (zP ⟨1,2,⟨#[]⟩,⟨#[]⟩,id0,.slice none 0 0⟩) 84)).alloc (.cells (hdC hd0) 44))
 rw[<-hW]at x0 x1 x2 hB;obtain⟨ga,I⟩:=eX w.heap.size
 rw[I]at x0 x1 x2;have a4:z9 W (ga+1) 0 37=some (zP ⟨1,2,⟨#[]⟩,⟨#[]⟩,id0,.slice none 0 0⟩):=by unfold z9;rw[x1];simp
 have HW:=dH hW;have F:=dH I;have HB:=dH hB;have X0:=dH x0;have X2:=dH x2;have cP:=VB 2 W rfl;clear hW I hB x0 x1 x2 z2;go_enter func57,ntmps57
 go_upto_region 1 with fail
 rw[<-HW.out,F.out];(go_wp2_with fail);refine cP.mono ?_;rintro e w1 ⟨s,rfl,hs,A⟩;have Hs:=dH hs;have a1:s.size=5:=by
  have:s.data.toList.length=5:=by rw[hs];rfl
  exact this
 have a2:(s.size:Int)=5:=oM;have y0:=(A.block ga (aG X0.out).1).trans X0.out;have y2:=(A.block (ga+1+1) (aG X2.out).1).trans X2.out;have Y:z9 w1 ga 0 38=some (hdC ⟨.slice none 0 0,1,awT,0,1,0,id0⟩):=by unfold z9;rw[y0];simp[go_sem]
 have X:=yM HB.out A;have k:=wW w1 w1.heap.size rfl (hdC hd0) sI ⟨.slice none 0 0,1,awT,0,1,0,id0⟩ rfl 44;have M:Below w1.heap.size w1 (w1.alloc (.cells (hdC ⟨.slice none 0 0,1,awT,0,1,0,id0⟩) 44)):=bA;have g:=heap_alloc_new w1 (.cells (hdC ⟨.slice none 0 0,1,awT,0,1,0,id0⟩) 44);have t:=(M.block (ga+1+1) (aG y2).1).trans y2;have E:=yM X M;have H:ga+1+1<w1.heap.size:=(aG y2).1;clear hs A y0 y2 X M cP;go_upto_region 3 with fail
 obtain⟨V,hV⟩:=eR (w1.alloc (.cells (hdC ⟨.slice none 0 0,1,awT,0,1,0,id0⟩) 44))
 obtain⟨gx,T⟩:=eX w1.heap.size
 rw[<-hV]at g t E |-;rw[T]at g H |-;clear hV T k Y;have x0:V.cell? ⟨gx,5,none⟩=some (.int .i64 0):=by rw[cell_of_row V gx _ _ _ _ g];simp[go_sem]
 have f0:V.frozen? ⟨gx,5,none⟩=false:=by simp[frozen?,g]
 have j:=zE g 5 (.int .i64 5);rw[hd_set5]at j;have f:=z8.setCell V ⟨gx,5,none⟩ (.int .i64 5);have r:=(f.block (ga+1+1) (aG t).1 sO).trans t;have O:Below w.heap.size w (V.setCell ⟨gx,5,none⟩ (.int .i64 5)):=E.trans (f.below (B:=w.heap.size) E.size (oS F.out));clear g t E f;go_upto_region 4 with fail
 obtain⟨Z,hZ⟩:=eR (V.setCell ⟨gx,5,none⟩ (.int .i64 5))
 rw[<-hZ]at j r O |-;have cS:=rsum Z s oM;rw[Hs.out]at cS;clear hZ x0 f0;(go_wp2_with fail);refine cS.mono ?_;rintro e w4 ⟨rfl,y⟩;obtain⟨d,hd⟩:=eX (qI (JO 2))
 rw[hd];have Hd:=dH hd;have L:=(y.block gx (aG j).1).trans j;have G:=(y.block (ga+1+1) (aG r).1).trans r;have N:=yM O y;have k:=ym d L;have J:=setRow_heap w4 gx _ (hdC ⟨.slice none 0 0,1,awT,0,1,5,d⟩) _ _ L;have f:=lP w4 gx (hdC ⟨.slice none 0 0,1,awT,0,1,5,d⟩);have m:=(f.block (ga+1+1) (aG G).1 sO).trans G;have D:Below w.heap.size w (w4.setRow gx (hdC ⟨.slice none 0 0,1,awT,0,1,5,d⟩)):=N.trans (f.below (B:=w.heap.size) N.size (oS F.out));clear hd cS j r O y L G N f;go_upto_region 5 with fail
 obtain⟨U,hU⟩:=eR (w4.setRow gx (hdC ⟨.slice none 0 0,1,awT,0,1,5,d⟩))
 rw[<-hU]at J m D |-;clear hU k;have a3:z9 U gx 0 38=some (hdC ⟨.slice none 0 0,1,awT,0,1,5,d⟩):=by unfold z9;rw[J];simp[go_sem]
 have k:=zX (P:=prog) v4 U (ga+1+1) (hdC hd0) (hdC ⟨.slice none 0 0,1,awT,0,1,5,d⟩) _ m sI sI (bY _ rfl);have R:=dH (setRow_heap U (ga+1+1) _ (hdC ⟨.slice none 0 0,1,awT,0,1,5,d⟩) _ _ m);have hk:=lP U (ga+1+1) (hdC ⟨.slice none 0 0,1,awT,0,1,5,d⟩);have a0:=dH (D.trans (hk.below D.size (oS F.out)));clear hk m D J;(go_wp2_with fail);refine bodyPost_ret (results_cell_row results57 _ _ (ga+1+1) 44 (hdC ⟨.slice none 0 0,1,awT,0,1,5,d⟩) (0,0) _ rfl R.out underlying44 rfl (by rw[vH];exact v4)) rfl ?_;exact⟨by rw[Hd.out];rfl,a0.out⟩
theorem xl(w:World)(d:zA):Calls prog 116 #[.agg (hdC ⟨.slice none 0 0,1,awT,0,1,5,d⟩)] w λe w'=>e=.returned (.int .i64 0)/\Below w.heap.size w w':=by
 have hB:Below w.heap.size w (w.alloc (.cells (hdC ⟨.slice none 0 0,1,awT,0,1,5,d⟩) 44)):=bA;have hr:z9 (w.alloc (.cells (hdC ⟨.slice none 0 0,1,awT,0,1,5,d⟩) 44)) w.heap.size 0 38=some (hdC ⟨.slice none 0 0,1,awT,0,1,5,d⟩):=by simp[go_sem]
 have x0:=zB hr (j:=0) oM;have x1:=zB hr (j:=1) oM;have x2:=zB hr (j:=2) oM;have x3:=zB hr (j:=3) oM;have x4:=zB hr (j:=4) oM;have x5:=zB hr (j:=5) oM;have x6:=yD hr (j:=6) (m:=32) oM;simp only[wQ,mJ,mI,pC,pB,pA,QH,Nat.zero_add]at x0 x1 x2 x3 x4 x5 x6;have s:=λw=>rkind_any awT w (by decide);have D:(yF awT==0)=false:=by decide
 obtain⟨W,hW⟩:=eR (w.alloc (.cells (hdC ⟨.slice none 0 0,1,awT,0,1,5,d⟩) 44))
 rw[<-hW]at hB x0 x1 x2 x3 x4 x5 x6;have t:=xk W;have HW:=dH hW;obtain⟨g,hg⟩:=eX w.heap.size
 have Hg:=dH hg;have y:g<W.heap.size:=by rw[hW,<-hg];simp
 clear hW hr;go_enter func116,ntmps116
 go_upto_region 1 with fail
 rw[<-HW.out];rw[hg]at hB x0 x1 x2 x3 x4 x5 x6;clear hg;(go_wp2_with fail);refine t.mono ?_;rintro e w2 ⟨rfl,k⟩;have B:Below g w w2:=hB.trans (k.mono oM);have tr:=λj (v:Value) (hx:W.cell? ⟨g,j,none⟩=some v)=>(k.cell (p:=⟨g,j,none⟩) y).trans hx;have x0:=tr _ _ x0;have x1:=tr _ _ x1;have x2:=tr _ _ x2;have x3:=tr _ _ x3;have x4:=tr _ _ x4;have x5:=tr _ _ x5;have f:g<w2.heap.size:=oH k.size;clear tr t;(go_wp2_with fail);refine(s _).mono ?_;rintro e w3 ⟨rfl,r⟩;have A:Below g w w3:=B.trans (r.mono oM);have tr:=λj (v:Value) (hx:w2.cell? ⟨g,j,none⟩=some v)=>(r.cell (p:=⟨g,j,none⟩) f).trans hx;have x3:=tr _ _ x3;have x4:=tr _ _ x4;have x5:=tr _ _ x5;clear tr s;(go_wp2_with fail);go_ret;exact⟨rfl,by rw[Hg.out];exact A⟩
theorem rh_put_aw(w:World)(d:zA):Calls prog 56 #[.agg (hdC ⟨.slice none 0 0,1,awT,0,1,5,d⟩)] w λe w'=>∃s:ByteArray,e=.returned (.tuple #[.string s,.int .i64 0])/\(s.data.toList=hdB (awH d)/\s.size<=300)/\Below w.heap.size w w':=by
 have hB:Below w.heap.size w (w.alloc (.cells (hdC ⟨.slice none 0 0,1,awT,0,1,5,d⟩) 44)):=bA;have hr:z9 (w.alloc (.cells (hdC ⟨.slice none 0 0,1,awT,0,1,5,d⟩) 44)) w.heap.size 0 38=some (hdC ⟨.slice none 0 0,1,awT,0,1,5,d⟩):=by simp[go_sem]
 have cc:=xl (w.alloc (.cells (hdC ⟨.slice none 0 0,1,awT,0,1,5,d⟩) 44)) d;obtain⟨W,hW⟩:=eR (w.alloc (.cells (hdC ⟨.slice none 0 0,1,awT,0,1,5,d⟩) 44))
 rw[<-hW]at hB hr cc;have HW:=dH hW;obtain⟨g,hg⟩:=eX w.heap.size
 have Hg:=dH hg;have N:g<W.heap.size:=by rw[hW,<-hg];simp
 rw[hg]at hB hr;clear hW;go_enter func56,ntmps56
 go_upto_region 1 with fail
 rw[<-HW.out];clear hg;(go_wp2_with fail);refine cc.mono ?_;rintro e w2 ⟨rfl,J⟩;have L:Below g w w2:=hB.trans (J.mono oM);clear cc;have f:=(zG (J.block g N) 0 38).trans hr;have x0:=zB f (j:=0) oM;have x1:=zB f (j:=1) oM;have x2:=zB f (j:=2) oM;have x3:=zB f (j:=3) oM;have x4:=zB f (j:=4) oM;have x5:=zB f (j:=5) oM;have x6:=yD f (j:=6) (m:=32) oM;simp only[wQ,mJ,mI,pC,pB,pA,Nat.zero_add]at x0 x1 x2 x3 x4 x5 x6;rw[QH]at x6;have ci:=λw1=>rids_any [] w1 none 0 0 SlR.nil_ sI;have n1:=λw=>hnum 1 4 w oM oM;have n2:=λw=>hnum awT.size 1 w oM (by decide);have n3:=λw=>hnum 0 1 w oM oM;have n4:=λw=>hnum 1 4 w oM oM;have n5:=λw=>hnum 5 2 w oM oM;have nr:=λw=>hraw d w;have k:Hid (awT.size=2):=dH rfl;obtain⟨t1,E⟩:∃t:ByteArray,(⟨(beL 4 1).toArray⟩:ByteArray)=t:=⟨_,rfl⟩
 obtain⟨t2,D⟩:∃t:ByteArray,(⟨(beL 1 awT.size).toArray⟩:ByteArray)=t:=⟨_,rfl⟩
 obtain⟨t3,B⟩:∃t:ByteArray,(⟨(beL 1 0).toArray⟩:ByteArray)=t:=⟨_,rfl⟩
 obtain⟨t4,A⟩:∃t:ByteArray,(⟨(beL 4 1).toArray⟩:ByteArray)=t:=⟨_,rfl⟩
 obtain⟨t5,y⟩:∃t:ByteArray,(⟨(beL 2 5).toArray⟩:ByteArray)=t:=⟨_,rfl⟩
 obtain⟨t6,r⟩:∃t:ByteArray,(⟨d.l.toArray⟩:ByteArray)=t:=⟨_,rfl⟩
 have z1:t1.size=4:=by rw[<-E];exact lY _ _
 have z2:t2.size=1:=by rw[<-D];exact lY _ _
 have z3:t3.size=1:=by rw[<-B];exact lY _ _
 have z4:t4.size=4:=by rw[<-A];exact lY _ _
 have z5:t5.size=2:=by rw[<-y];exact lY _ _
 have z6:t6.size=32:=by rw[<-r];show d.l.toArray.size=32;simp[d.h]
 simp only[E]at n1;simp only[D]at n2;simp only[B]at n3;simp only[A]at n4;simp only[y]at n5;simp only[r]at nr;have H:hdB (awH d)=beL 1 0++([]:List zA).flatMap (·.l)++t1.data.toList++t2.data.toList++awT.data.toList++t3.data.toList++t4.data.toList++t5.data.toList++t6.data.toList:=by
  rw[<-E,<-D,<-B,<-A,<-y,<-r];rfl
 have R:=dH H;have T:=dH ci;have Z1:=dH z1;have Z2:=dH z2;have Z3:=dH z3;have Z4:=dH z4;have Z5:=dH z5;have Z6:=dH z6;clear H ci E D B A y r f z1 z2 z3 z4 z5 z6;go_upto_region 4 with fail
 refine lX w2 ?_;intro M hS;have c0:=zJ x0;have c1:=zJ x1;have c2:=zJ x2;have c3:=zJ x3;have c4:=zJ x4;have c5:=zJ x5;have c6:=zV x6;refine lQ ?_;intro K hK;refine(T.out _).mono ?_;rintro e w' ⟨s0,rfl,G,X,hb⟩;replace hS:=xZ hS hb;refine⟨_,rfl,hS,hK _ _ ?_⟩;clear hK K hb;have l1:¬9223372036854775807<s0.size+t1.size:=oH Z1.out;have l2:¬9223372036854775807<s0.size+t1.size+t2.size:=by have:=Z1.out;have:=Z2.out;omega
 have l3:¬9223372036854775807<s0.size+t1.size+t2.size+awT.size:=by have:=k.out;have:=Z1.out;have:=Z2.out;omega
 have l4:¬9223372036854775807<s0.size+t1.size+t2.size+awT.size+t3.size:=by have:=k.out;have:=Z1.out;have:=Z2.out;have:=Z3.out;omega
 have l5:¬9223372036854775807<s0.size+t1.size+t2.size+awT.size+t3.size+t4.size:=by have:=k.out;have:=Z1.out;have:=Z2.out;have:=Z3.out;have:=Z4.out;omega
 have l6:¬9223372036854775807<s0.size+t1.size+t2.size+awT.size+t3.size+t4.size+t5.size:=by have:=k.out;have:=Z1.out;have:=Z2.out;have:=Z3.out;have:=Z4.out;have:=Z5.out;omega
 have l7:¬9223372036854775807<s0.size+t1.size+t2.size+awT.size+t3.size+t4.size+t5.size+t6.size:=by have:=k.out;have:=Z1.out;have:=Z2.out;have:=Z3.out;have:=Z4.out;have:=Z5.out;have:=Z6.out;omega
 have O:=dH G;clear G;refine lQ ?_;intro K hK;refine(n1 _).mono ?_;rintro e w' ⟨rfl,hb⟩;replace hS:=xZ hS hb;refine⟨_,rfl,hS,hK _ _ ?_⟩;clear hK K hb;refine lQ ?_;intro K hK;refine(n2 _).mono ?_;rintro e w' ⟨rfl,hb⟩;replace hS:=xZ hS hb;refine⟨_,rfl,hS,hK _ _ ?_⟩;clear hK K hb;refine lQ ?_;intro K hK;refine(n3 _).mono ?_;rintro e w' ⟨rfl,hb⟩;replace hS:=xZ hS hb;refine⟨_,rfl,hS,hK _ _ ?_⟩;clear hK K hb;refine lQ ?_;intro K hK;refine(n4 _).mono ?_;rintro e w' ⟨rfl,hb⟩;replace hS:=xZ hS hb;refine⟨_,rfl,hS,hK _ _ ?_⟩;clear hK K hb;refine lQ ?_;intro K hK;refine(n5 _).mono ?_;rintro e w' ⟨rfl,hb⟩;replace hS:=xZ hS hb;refine⟨_,rfl,hS,hK _ _ ?_⟩;clear hK K hb;refine lQ ?_;intro K hK;refine(nr _).mono ?_;rintro e w' ⟨rfl,hb⟩;replace hS:=xZ hS hb;refine⟨_,rfl,hS,hK _ _ ?_⟩;clear hK K hb;refine lZ ?_;refine zC ?_;intro hS;have I:=L.trans (hS.mono (by have:=L.size;have:=Hg.out;omega));have V:=dH I;clear I hS M c0 c1 c2 c3 c4 c5 c6 l1 l2 l3 l4 l5 l6 l7;(go_wp2_with fail);go_ret2;refine⟨_,rfl,?_,by rw[Hg.out];exact V.out⟩;have F:(s0++t1++t2++awT++t3++t4++t5++t6).data.toList=hdB (awH d)/\(s0++t1++t2++awT++t3++t4++t5++t6).size<=300:=by
  constructor
  ·rw[R.out];simp only[ByteArray.data_append,Array.toList_append,O.out]
  ·simp only[ByteArray.size_append];have:=k.out;have:=Z1.out;have:=Z2.out;have:=Z3.out;have:=Z4.out;have:=Z5.out;have:=Z6.out;omega
 exact F
theorem buildAwH(w:World):(bdS 44 #[(1,.int .i64 1),(2,.string awT),(4,.int .i64 1)]).run prog w=.ok (.agg (hdC ⟨.slice none 0 0,1,awT,0,1,0,id0⟩)) w:=kR
theorem buildE2(b:ByteArray)(w:World):(bdS 25 #[(0,.int .i64 2),(2,.string b)]).run prog w=.ok (.agg (vW ⟨2,⟨#[]⟩,b,id0⟩)) w:=kR
theorem buildE5(w:World):(bdS 25 #[(0,.int .i64 5),(1,.string awT)]).run prog w=.ok (.agg (vW ⟨5,awT,⟨#[]⟩,id0⟩)) w:=kR
theorem buildE3(b:ByteArray)(w:World):(bdS 25 #[(0,.int .i64 3),(2,.string b)]).run prog w=.ok (.agg (vW ⟨3,⟨#[]⟩,b,id0⟩)) w:=kR
theorem j9.base{w':World}{g:Nat}{F M F' M':List Nat}(h:j9 w g F M Y w' F' M'){B:Nat}(hB:B<=w.heap.size)(hF:∀x∈F,B<=x):Below B w w'/\∀x∈F',B<=x :=
 ⟨h.kp.below hB hF,λx hx=>(h.ff x hx).elim (hF x) (λe=>Nat.le_trans hB e)⟩
theorem V4(w:World)(g:Nat)(F M:List Nat)(n:Nat)(X:StX)(h:xG w g F M X)(hX:kJ n X)(hn:n<=800)(v:VwX)(hv:v∈X.V) :
  Calls prog 5 #[.pointer (some ⟨g,0,none⟩),.string v.t] w λe w'=>J2 (BJ X v) w e w':=by
 obtain⟨gd,gs,bo,bv,Fd,Fs,N,h⟩:=h.sp;rw[<-h.st.vx]at hv;obtain⟨p,hp,rfl⟩:=mem_map.1 hv;exact st_query w g gd gs bo bv Fd Fs F M N n X h hX hn p hp
theorem aw_q2(c:zA):BJ (aO c) ⟨awT,[],.t 0⟩=⟨0,0,[],[awI c],16⟩:=by
 have:tB (aO c) ⟨awT,[],.t 0⟩ = [awI c]:=by
  unfold tB;show((j8 [⟨awI c,awH c⟩] awT).filter λi=>decide (i∉([]:List zA)))=_;rw[aw_tps];rfl
 unfold BJ;rw[this,if_neg sI]
theorem aw_q3(s:ByteArray):BJ (awX3 s) ⟨awT,[awI (qI s.data.toList)],.t 2⟩=⟨1,2,[],[],0⟩:=by
 have:tB (awX3 s) ⟨awT,[awI (qI s.data.toList)],.t 2⟩ = []:=by
  unfold tB;show((j8 [⟨awI (qI s.data.toList),awH (qI s.data.toList)⟩] awT).filter λi=>decide (i∉[awI (qI s.data.toList)]))=_;rw[aw_tps];simp
 unfold BJ;rw[this,if_pos rfl];rfl
theorem awH_len(d:zA):(hdB (awH d)).length=47:=by
 show(beL 1 0++([]:List zA).flatMap (·.l)++beL 4 1++beL 1 2++awT.data.toList++beL 1 0++beL 4 1++beL 2 5++d.l).length=47;simp only[length_append,beN_len,flatMap_nil,length_nil,d.h];rfl
theorem st_new_ok(w:World)(q:Int)(hq:0<=q/\q<=4096)(hv:dA w) :
  Calls prog 58 #[.int .i64 q] w λe w'=>∃g F,e=.returned (.tuple #[.pointer (some ⟨g,0,none⟩),.int .i64 0])/\xG w' g F F ⟨q,[],[],[],[]⟩/\(∀x∈F,w.heap.size<=x)/\Below w.heap.size w w':=by
 refine(st_new w q hv).mono ?_;rintro e w' ⟨h1,h2⟩;rw[if_pos hq]at h1;obtain⟨g,F,h3,h4,h5⟩:=h1;exact⟨g,F,h3,h4,h5,h2⟩
theorem awake28(w:World)(hv:dA w):Calls prog 22 #[] w λe w'=>e=.returned (.bool true)/\Below w.heap.size w w':=by
 have q2:=buildAwH;have q3:=buildE2;have q4:=buildE5;have q5:=buildE3;have d0:(⟨#[99,97]⟩:ByteArray)=awT:=rfl;have cP:=VB 2 w rfl;have Hv:=dH hv;clear hv;go_enter func22,ntmps22
 (go_wp2_with fail);refine cP.mono ?_;rintro e w1 ⟨s,rfl,hs,a5⟩;have Hs:=dH hs;have c5:=dH a5;have cY:=rpayload w1;clear cP hs a5;(go_wp2_with fail);refine cY.mono ?_;rintro e w2 ⟨rfl,r⟩;have c4:=dH (yM c5.out r);obtain⟨d,hd⟩:=eX (qI (JO 2))
 rw[hd];have Hd:=dH hd;have cU:=rh_put_aw w2 d;clear cY r hd;(go_wp2_with fail);refine cU.mono ?_;rintro e w3 ⟨b,rfl,r,a4⟩;have c0:=dH r;have R:=dH (yM c4.out a4);have cN:=st_new_ok w3 100 (by decide) (Hv.out.below R.out);have G:b.size<=256/\b.size≠0:=by
  have h1:b.data.toList.length=b.size:=rfl;rw[r.1,awH_len]at h1;omega
 have k:=dH G;clear cU a4 r G;(go_wp2_with fail);refine cN.mono ?_;rintro e w4 ⟨g,F,rfl,m,hF,a3⟩;have I:=dH (yM R.out a3);have O:=dH m;have HF:=dH (show ∀x∈F,w.heap.size<=x from λx hx=>Nat.le_trans R.out.size (hF x hx));have cA:=YZ w4 g F F 0 awX0 m (Hv.out.below I.out) (kK.new 100 (by decide) (by decide)) oM ⟨2,⟨#[]⟩,b,id0⟩ (by show b.size<=3000;have:=k.out;omega) zL;clear cN m hF a3;(go_wp2_with fail);refine cA.mono ?_;rintro e w5 ⟨E,Y,F5,M5,rfl,ha,A⟩;obtain⟨rfl,rfl⟩:=aw_app1 c0.out.1 k.out.2 k.out.1 ha;obtain⟨a2,a8⟩:=A.base I.out.size HF.out;have f:=zo (kK.new 100 (by decide) (by decide)) ha (by show b.size<=3000;have:=k.out;omega);have b3:=dH (I.out.trans a2);have b1:=dH (A.vars O.out (Hv.out.below I.out));have b0:=YZ w5 g F5 M5 1 (awX1 d) A.st b1.out f oM ⟨5,awT,⟨#[]⟩,id0⟩ (by decide) (by decide);have N:=dH A.st;have c8:=dH a8;have b8:=dH f;clear cA ha A a2 a8 f;(go_wp2_with fail);refine b0.mono ?_;rintro e w6 ⟨E,Y,F6,M6,rfl,ha,y⟩;obtain⟨rfl,rfl⟩:=aw_app2 ha;obtain⟨a1,a7⟩:=y.base b3.out.size c8.out;have f:=zo b8.out ha (by decide);have c3:=dH (b3.out.trans a1);have b6:=dH (y.vars N.out b1.out);have cQ:=V4 w6 g F6 M6 2 (aO d) y.st f.pre oM ⟨awT,[],.t 0⟩ (mem_singleton.2 rfl);rw[aw_q2]at cQ;have cQ:Calls prog 5 #[.pointer (some ⟨g,0,none⟩),.string awT] w6 λe w'=>J2 ⟨0,0,[],[awI d],16⟩ w6 e w':=cQ;have M:=dH y.st;have c6:=dH a7;have H:=dH f;clear b0 ha y a1 a7 f;(go_wp2_with fail);refine cQ.mono ?_;rintro e w7 ⟨A7,c7,B7,d7,rfl,_,_,a0⟩;have T:=tM w7 w7.heap.size rfl (zI x8) sI ⟨0,0,.slice A7 ([]:List jO).length c7⟩ rfl 39;have D:Below w7.heap.size w7 (w7.alloc (.cells (zI ⟨0,0,.slice A7 ([]:List jO).length c7⟩) 39)):=bA;have j:=yM a0 D;have b2:=dH (yM c3.out j);have V:s.size=5:=by
  have:s.data.toList.length=5:=by rw[Hs.out];rfl
  exact this
 have b7:=dH V;have X:qI s.data.toList=d:=by rw[Hs.out];exact Hd.out
 have L:=dH (M.out.below j);have b5:=dH (b6.out.below j);have a9:=YZ (w7.alloc (.cells (zI ⟨0,0,.slice A7 ([]:List jO).length c7⟩) 39)) g F6 M6 2 (aO d) L.out b5.out H.out oM ⟨3,⟨#[]⟩,s,id0⟩ (by show s.size<=3000;omega) zL;have b9:=dH X;clear cQ a0 D j V X;(go_wp2_with fail);refine a9.mono ?_;rintro e w8 ⟨E,Y,F8,M8,rfl,ha,J⟩;have a6:gG (aO (qI s.data.toList)) ⟨3,⟨#[]⟩,s,id0⟩ E Y:=by rw[b9.out];exact ha
 obtain⟨rfl,rfl⟩:=aw_app3 Hs.out a6;obtain⟨U,b4⟩:=J.base b2.out.size c6.out;have f:=zo H.out ha (by show s.size<=3000;have:=b7.out;omega);have c2:=dH (b2.out.trans U);have cQ:=V4 w8 g F8 M8 3 (awX3 s) J.st f.pre oM ⟨awT,[awI (qI s.data.toList)],.t 2⟩ (mem_singleton.2 rfl);rw[aw_q3]at cQ;have cQ:Calls prog 5 #[.pointer (some ⟨g,0,none⟩),.string awT] w8 λe w'=>J2 ⟨1,2,[],[],0⟩ w8 e w':=cQ;clear a9 ha a6 J U b4 f T;(go_wp2_with fail);refine cQ.mono ?_;rintro e w9 ⟨A9,c9,B9,d9,rfl,_,_,Z⟩;have T:=tM w9 w9.heap.size rfl (zI x8) sI ⟨1,2,.slice A9 ([]:List jO).length c9⟩ rfl 39;have B:Below w9.heap.size w9 (w9.alloc (.cells (zI ⟨1,2,.slice A9 ([]:List jO).length c9⟩) 39)):=bA;have c1:=dH (yM c2.out (yM Z B));clear cQ Z B;(go_wp2_with fail);go_ret;exact⟨rfl,c1.out⟩
abbrev entR(x:aR):Array Value:=vW ⟨x.k,x.t,x.b,x.c⟩
section
open Go.ChangeShapes Go.WideShapes Go.RowKit
theorem mF{n:String}{d:DataW Unit}{r:List (String×DataW Unit)}(h:laidMet P ((n,d) :: r) w):laidMet P r w:=by
 obtain⟨ps,⟨g,t,cs,f,p,q,_,_,_,_,hr,rfl⟩,hn,hc⟩:=h;exact⟨q,hr,(nodup_append.1 hn).2.1,λb off hm=>hc b off (mem_append_right _ hm)⟩
def p4:List (String×DataW Unit):=[("petrel/sha.first",Rows.laid_petrel_sha_first),("petrel/sha.k",Rows.laid_petrel_sha_k),("petrel/op.parts",Rows.laid_petrel_op_parts)]
theorem laid_first:(Rows.laid_petrel_sha_first:DataW Unit)=Lib.tabData .u32 (hU.map nU):=kR
theorem laid_k:(Rows.laid_petrel_sha_k:DataW Unit)=Lib.tabData .u32 (kU.map nU):=kR
theorem nU_getD(L:List UInt32)(k:Nat)(hk:k<L.length):(L.map nU).getD k 0=nU (L.getD k 0):=by
 simp[getD,hk]
theorem ZZ(h:laidMetH prog p4 W):xV W:=by
 have h':laidMet prog p4 W:=h;unfold p4 at h';have h2:=mF h';rw[laid_first]at h';rw[laid_k]at h2;have hT:=Lib.tabIs_of_head (P:=prog) (g:=0) (t:=251) (e:=250) (n:=8) kR kR underlying251 underlying250 kR kR h';have d:=Lib.tabIs_of_head (P:=prog) (g:=2) (t:=322) (e:=250) (n:=64) kR kR underlying322 underlying250 kR kR h2;refine⟨λk hk=>?_,λk hk=>?_⟩
 ·rw[hT.cell (g:=0) kR k (by rw[length_map];exact hk),nU_getD _ _ (by exact hk)]
 ·rw[d.cell (g:=2) kR k (by rw[length_map];exact hk),nU_getD _ _ (by exact hk)]
def Q5(P:Program)(os:Os):World :=
 (((holding P os ⟨#[],#[],[]⟩).setRow 0 ((hU.map λu=>Value.int .u32 (nU u)).toArray)).setRow 2 ((kU.map λu=>Value.int .u32 (nU u)).toArray)).setRow 1 #[.int .i64 0,.int .i64 1,.int .i64 4,.int .i64 20,.int .i64 7,.int .i64 22,.int .i64 12,.int .i64 8]
theorem Q4(os:Os)(args:Array Value):laidMetH prog p4 ((Q5 prog os).forCall (λ_ _=>0) ⟨#[],args,[]⟩).memory:=by
 show laidMet prog p4 _;exact laidMet_of_run' 8 kR kR
theorem KY{enc:TypeId×Value->H}{g:Nat->Bool}{gs:List (DataW H)}{q:List MemPlace}(hV:DataW.TrodVars enc P w g [] gs q):gs = []/\q = []:=by
 cases gs with
 | nil=>exact⟨rfl,hV⟩
 | cons g r=>exact absurd hV (by intro h;cases h)
end
section
open Go.ChangeShapes Go.WideShapes Go.ChangeAt Go.RowKit Go.WideMaps Go.WideElems
theorem maxLen_leE:maxLen<=9223372036854775807:=by decide
theorem opensEnt:KQ prog w 25 entR (λx=>x.b.size<=9223372036854775807/\x.t.size<=9223372036854775807):=by
 intro H enc base j k m cs x h;obtain⟨xs,n,rfl,_,g,d,f⟩:=DataW.trod_struct underlying25 h;have hc:prog.cellsOf 25=35:=kR;rw[hc]at g;obtain⟨a0,h0,_⟩:=t8 d f (opens_int underlying3) 0 0 1 _ rfl rfl rfl kR;obtain⟨a1,h1,k1⟩:=t8 d f (eJ underlying9) 1 1 1 _ rfl rfl rfl kR;obtain⟨a2,h2,k2⟩:=t8 d f (eJ underlying9) 2 2 1 _ rfl rfl rfl kR;obtain⟨a3,h3,_⟩:=t8 d f opensId 3 3 32 _ rfl rfl rfl kR;have r:=maxLen_leE;refine⟨⟨a0,a1,a2,a3⟩,?_,(by simp only;omega),(by simp only;omega)⟩;have e0:cs.drop 0=(cs.drop 0).take 1++cs.drop 1:=cR;have e1:cs.drop 1=(cs.drop 1).take 1++cs.drop 2:=cR;have e2:cs.drop 2=(cs.drop 2).take 1++cs.drop 3:=cR;have e3:cs.drop 3=(cs.drop 3).take 32++cs.drop 35:=cR;have en:cs.drop 35 = []:=drop_eq_nil_of_le oM;refine e0.trans ?_;rw[h0,e1,h1,e2,h2,e3,h3,en];simp[vW]
theorem XJ(h:laidMetH prog p4 W):qD W:=by
 have h0:laidMet prog p4 W:=h;unfold p4 at h0;have h':laidMet prog [("petrel/op.parts",Lib.tabData .i64 [0,1,4,20,7,22,12,8])] W:=mF (mF h0);have hT:=Lib.tabIs_of_head (P:=prog) (g:=1) (t:=364) (e:=3) (n:=8) kR kR underlying364 underlying3 kR kR h';intro k hk;have hc:=hT.cell (g:=1) kR k (by simpa using hk);rw[hc];have h8:k=0\/k=1\/k=2\/k=3\/k=4\/k=5\/k=6\/k=7:=oM;rcases h8 with rfl | rfl | rfl | rfl | rfl | rfl | rfl | rfl <;> rfl
theorem JB{enc:TypeId×Value->H}{base:Nat}{d:Nat->Bool}{f:Bool}{t0 t1 t2:TypeId}{ds:List (DataW H)}{ps:List MemPlace}(h:DataW.TrodAll enc P w base d f [t0,t1,t2] args.toList ds ps) :
  ∃(v0 v1 v2:Value) (d0 d1 d2:DataW H) (p0 p1 p2:List MemPlace),args = #[v0,v1,v2]/\ds = [d0,d1,d2]/\ps=p0++(p1++p2)/\DataW.Trod enc P w base d f t0 v0 d0 p0/\DataW.Trod enc P w base d f t1 v1 d1 p1/\DataW.Trod enc P w base d f t2 v2 d2 p2:=by
 obtain⟨v0,m,d0,t,p0,q0,g,rfl,rfl,h0,r0⟩:=Go.ChangeShapes.trodAll_cons h;obtain⟨v1,k,d1,s,p1,q1,rfl,rfl,rfl,h1,r1⟩:=Go.ChangeShapes.trodAll_cons r0;obtain⟨v2,j,d2,r,p2,q2,rfl,rfl,rfl,h2,r2⟩:=Go.ChangeShapes.trodAll_cons r1;obtain⟨rfl,rfl,rfl⟩:=Go.ChangeShapes.trodAll_nil r2;exact⟨v0,v1,v2,d0,d1,d2,p0,p1,p2,by cases args;simp_all,rfl,sI,h0,h1,h2⟩
end
def ZAt(w:World)(g:Nat):Prop:=w.cell? ⟨g,0,none⟩=some (.pointer none)
theorem ZAt.bel{w':World}{g:Nat}(h:ZAt w g)(hb:Below w.heap.size w w'):ZAt w' g:=(hb.cell (p:=⟨g,0,none⟩) (block_lt_of_cell? w _ h)).trans h
def jK(w:World)(p:Option Addr):Prop:=p=none\/∃g,p=some ⟨g,0,none⟩/\ZAt w g
theorem jK.bel{w w':World}{p:Option Addr}(h:jK w p)(hb:Below w.heap.size w w'):jK w' p:=h.imp id fun ⟨g,e,hz⟩=>⟨g,e,hz.bel hb⟩
theorem qT(w:World)(p:Option Addr)(h:jK w p):Calls prog 23 #[.pointer p] w λe w'=>e=.returned (.bool true)/\w=w':=by
 rcases h with rfl | ⟨g,rfl,hz⟩
 ·go_enter func23,ntmps23
  (go_wp2_with fail);go_ret;exact⟨rfl,rfl⟩
 ·have h:w.cell? ⟨g,0,none⟩=some (.pointer none):=hz;clear hz;go_enter func23,ntmps23
  (go_wp2_with fail);go_ret;exact⟨rfl,rfl⟩
theorem aW(w:World)(p:Option Addr)(h:jK w p)(t:ByteArray):Calls prog 4 #[.pointer p,.string t] w λe w'=>e=.returned (.tuple #[.slice none 0 0,.int .i64 8])/\Below w.heap.size w w':=by
 go_enter func4,ntmps4
 (go_wp2_with fail);refine(qT _ p h).mono ?_;rintro e w1 ⟨rfl,rfl⟩;(go_wp2_with fail);go_ret2;exact⟨rfl,Below.refl _ _⟩
theorem stz_room(w:World)(p:Option Addr)(h:jK w p)(n:Int):Calls prog 6 #[.pointer p,.int .i64 n] w λe w'=>e=.returned (.tuple #[.slice none 0 0,.int .i64 8])/\Below w.heap.size w w':=by
 go_enter func6,ntmps6
 (go_wp2_with fail);refine(qT _ p h).mono ?_;rintro e w1 ⟨rfl,rfl⟩;(go_wp2_with fail);go_ret2;exact⟨rfl,Below.refl _ _⟩
theorem aV(w:World)(p:Option Addr)(h:jK w p)(i:zA):Calls prog 8 #[.pointer p,.agg (idC i)] w λe w'=>e=.returned (.tuple #[.string ⟨#[]⟩,.int .i64 8])/\Below w.heap.size w w':=by
 have hB:Below w.heap.size w (w.alloc (.cells (idC i) 23)):=bA;go_enter func8,ntmps8
 (go_wp2_with fail);refine(qT _ p (h.bel hB)).mono ?_;rintro e w1 ⟨rfl,rfl⟩;(go_wp2_with fail);go_ret2;exact⟨rfl,hB⟩
theorem stz_snap(w:World)(p:Option Addr)(h:jK w p):Calls prog 9 #[.pointer p] w λe w'=>e=.returned (.tuple #[.slice none 0 0,.int .i64 8])/\Below w.heap.size w w':=by
 go_enter func9,ntmps9
 (go_wp2_with fail);refine(qT _ p h).mono ?_;rintro e w1 ⟨rfl,rfl⟩;(go_wp2_with fail);go_ret2;exact⟨rfl,Below.refl _ _⟩
theorem V3(w:World)(p:Option Addr)(h:jK w p)(x:aR):Calls prog 10 #[.pointer p,.agg (entR x)] w λe w'=>e=.returned (.int .i64 8)/\Below w.heap.size w w':=by
 have hB:Below w.heap.size w (w.alloc (.cells (entR x) 25)):=bA;go_enter func10,ntmps10
 (go_wp2_with fail);refine(qT _ p (h.bel hB)).mono ?_;rintro e w1 ⟨rfl,rfl⟩;(go_wp2_with fail);go_ret;exact⟨rfl,hB⟩
theorem stz_ids(w:World)(p:Option Addr)(h:jK w p):Calls prog 12 #[.pointer p] w λe w'=>e=.returned (.slice none 0 0)/\Below w.heap.size w w':=by
 go_enter func12,ntmps12
 (go_wp2_with fail);refine(qT _ p h).mono ?_;rintro e w1 ⟨rfl,rfl⟩;(go_wp2_with fail);go_ret;exact⟨rfl,Below.refl _ _⟩
theorem stz_heads(w:World)(p:Option Addr)(h:jK w p):Calls prog 13 #[.pointer p] w λe w'=>e=.returned (.slice none 0 0)/\Below w.heap.size w w':=by
 go_enter func13,ntmps13
 (go_wp2_with fail);refine(qT _ p h).mono ?_;rintro e w1 ⟨rfl,rfl⟩;(go_wp2_with fail);go_ret;exact⟨rfl,Below.refl _ _⟩
theorem stz_held(w:World)(p:Option Addr)(h:jK w p):Calls prog 14 #[.pointer p] w λe w'=>e=.returned (.slice none 0 0)/\Below w.heap.size w w':=by
 go_enter func14,ntmps14
 (go_wp2_with fail);refine(qT _ p h).mono ?_;rintro e w1 ⟨rfl,rfl⟩;(go_wp2_with fail);go_ret;exact⟨rfl,Below.refl _ _⟩
theorem stz_subs(w:World)(p:Option Addr)(h:jK w p):Calls prog 15 #[.pointer p] w λe w'=>e=.returned (.slice none 0 0)/\Below w.heap.size w w':=by
 go_enter func15,ntmps15
 (go_wp2_with fail);refine(qT _ p h).mono ?_;rintro e w1 ⟨rfl,rfl⟩;(go_wp2_with fail);go_ret;exact⟨rfl,Below.refl _ _⟩
theorem stz_folded(w:World)(p:Option Addr)(h:jK w p)(t:ByteArray):Calls prog 17 #[.pointer p,.string t] w λe w'=>e=.returned (.slice none 0 0)/\Below w.heap.size w w':=by
 go_enter func17,ntmps17
 (go_wp2_with fail);refine(qT _ p h).mono ?_;rintro e w1 ⟨rfl,rfl⟩;(go_wp2_with fail);go_ret;exact⟨rfl,Below.refl _ _⟩
theorem stz_needs(w:World)(p:Option Addr)(h:jK w p)(i:zA)(n:Int):Calls prog 18 #[.pointer p,.agg (idC i),.int .i64 n] w λe w'=>e=.returned (.slice none 0 0)/\Below w.heap.size w w':=by
 have hB:Below w.heap.size w (((w.alloc (.cells #[.pointer p] 26)).alloc (.cells (idC i) 23)).alloc (.cells #[.int .i64 n] 3)):=((bA).alloc sI _).alloc sO _;go_enter func18,ntmps18
 (go_wp2_with fail);refine(qT _ p (h.bel hB)).mono ?_;rintro e w1 ⟨rfl,rfl⟩;(go_wp2_with fail);go_ret;exact⟨rfl,hB⟩
theorem yj(w:World)(p:Option Addr)(h:jK w p)(x:Array Value):Calls prog 19 #[.pointer p,.agg x] w λe w'=>e=.returned (.slice none 0 0)/\Below w.heap.size w w':=by
 have hB:Below w.heap.size w (w.alloc (.cells x 44)):=bA;go_enter func19,ntmps19
 (go_wp2_with fail);refine(qT _ p (h.bel hB)).mono ?_;rintro e w1 ⟨rfl,rfl⟩;(go_wp2_with fail);go_ret;exact⟨rfl,hB⟩
theorem V1(w:World)(p:Option Addr)(h:jK w p):Calls prog 20 #[.pointer p] w λe w'=>e=.returned (.int .i64 0)/\Below w.heap.size w w':=by
 go_enter func20,ntmps20
 (go_wp2_with fail);refine(qT _ p h).mono ?_;rintro e w1 ⟨rfl,rfl⟩;(go_wp2_with fail);go_ret;exact⟨rfl,Below.refl _ _⟩
theorem YW(w:World)(p:Option Addr)(h:jK w p):Calls prog 21 #[.pointer p] w λe w'=>e=.returned (.int .i64 0)/\Below w.heap.size w w':=by
 go_enter func21,ntmps21
 (go_wp2_with fail);refine(qT _ p h).mono ?_;rintro e w1 ⟨rfl,rfl⟩;(go_wp2_with fail);go_ret;exact⟨rfl,Below.refl _ _⟩
theorem stz_use(w:World)(p:Option Addr)(h:jK w p)(i:zA):Calls prog 11 #[.pointer p,.agg (idC i)] w λe w'=>e=.returned (.int .i64 8)/\Below w.heap.size w w':=by
 have hB:Below w.heap.size w (w.alloc (.cells (idC i) 23)):=bA;go_enter func11,ntmps11
 (go_wp2_with fail);refine(aV _ p (h.bel hB) i).mono ?_;rintro e w1 ⟨rfl,hb⟩;(go_wp2_with fail);go_ret;exact⟨rfl,yM hB hb⟩
theorem stz_query(w:World)(p:Option Addr)(h:jK w p)(t:ByteArray):Calls prog 5 #[.pointer p,.string t] w λe w'=>e=.returned (.tuple #[.agg (zI x8),.slice none 0 0,.int .i64 8])/\Below w.heap.size w w':=by
 have hB:Below w.heap.size w (w.alloc (.cells (zI x8) 39)):=bA;have hg:(w.alloc (.cells (zI x8) 39)).heap[w.heap.size]?=some (.cells (zI x8) 39 (0,0)):=heap_alloc_new w _;have cM:=aW _ p (h.bel hB) t;go_enter func5,ntmps5
 (go_wp2_with fail);obtain⟨ga,f⟩:=eX w.heap.size
 have k:=dH f;rw[f]at hg |-;obtain⟨W,hW⟩:=eR (w.alloc (.cells (zI x8) 39))
 rw[<-hW]at hg hB cM |-;clear hW f;refine cM.mono ?_;rintro e w1 ⟨rfl,hb⟩;have d:=(hb.block ga (aG hg).1).trans hg;have r:=zX (P:=prog) qL w1 ga (zI x8) (zI x8) _ d sI sI (k8 _ rfl);have j:=dH (setRow_heap w1 ga _ (zI x8) _ _ d);have hk:=lP w1 ga (zI x8);have g:=hB.trans (hb.mono hB.size);have m:=dH (g.trans (hk.below (B:=w.heap.size) g.size (by simp[<-k.out])));clear hk g d hb hB hg cM;(go_wp2_with fail);refine bodyPost_ret (nQ results5 _ _ ga 39 (zI x8) (0,0) _ rfl j.out underlying39 rfl (by rw[jX];exact qL)) rfl ?_;exact⟨rfl,m.out⟩
theorem stz_header(w:World)(p:Option Addr)(h:jK w p)(i:zA):Calls prog 7 #[.pointer p,.agg (idC i)] w λe w'=>e=.returned (.tuple #[.agg (hdC hd0),.int .i64 8])/\Below w.heap.size w w':=by
 have hB:Below w.heap.size w ((w.alloc (.cells (idC i) 23)).alloc (.cells (hdC hd0) 44)):=(bA).alloc sI _;have hg:((w.alloc (.cells (idC i) 23)).alloc (.cells (hdC hd0) 44)).heap[w.heap.size+1]?=some (.cells (hdC hd0) 44 (0,0)):=by have h2:=heap_alloc_new (w.alloc (.cells (idC i) 23)) (.cells (hdC hd0) 44);simpa using h2
 have cN:=qT _ p (h.bel hB);go_enter func7,ntmps7
 (go_wp2_with fail);obtain⟨ga,d⟩:=eX w.heap.size
 have g:=dH d;rw[d]at hg |-;obtain⟨W,hW⟩:=eR ((w.alloc (.cells (idC i) 23)).alloc (.cells (hdC hd0) 44))
 rw[<-hW]at hg hB cN |-;clear hW d;refine cN.mono ?_;rintro e w1 ⟨rfl,rfl⟩;have k:=zX (P:=prog) v4 W (ga+1) (hdC hd0) (hdC hd0) _ hg sI sI (bY _ mN);have f:=dH (setRow_heap W (ga+1) _ (hdC hd0) _ _ hg);have hk:=lP W (ga+1) (hdC hd0);have j:=dH (hB.trans (hk.below (B:=w.heap.size) hB.size (by simp[<-g.out])));clear hk hg hB cN;(go_wp2_with fail);refine bodyPost_ret (yU results7 _ _ (ga+1) 44 (hdC hd0) (0,0) _ rfl f.out underlying44 rfl (by rw[vH];exact v4)) rfl ?_;exact⟨rfl,j.out⟩
theorem zVal(w:World):∃w',(stS 39 ⟨w.heap.size,0,none⟩ (.agg (zI x8))).run prog (w.alloc (.cells (zI x8) 39))=.ok () w'/\Below w.heap.size w w' :=
 ⟨_,zX (P:=prog) qL (w.alloc (.cells (zI x8) 39)) w.heap.size (zI x8) (zI x8) _ (heap_alloc_new w _) sI sI (k8 _ rfl),
  have hb:Below w.heap.size w (w.alloc (.cells (zI x8) 39)):=bA
  hb.trans ((lP _ w.heap.size (zI x8)).below (B:=w.heap.size) hb.size sI)⟩
theorem zHd(w:World):∃w',(stS 44 ⟨w.heap.size,0,none⟩ (.agg (hdC hd0))).run prog (w.alloc (.cells (hdC hd0) 44))=.ok () w'/\Below w.heap.size w w' :=
 ⟨_,zX (P:=prog) v4 (w.alloc (.cells (hdC hd0) 44)) w.heap.size (hdC hd0) (hdC hd0) _ (heap_alloc_new w _) sI sI (bY _ mN),
  have hb:Below w.heap.size w (w.alloc (.cells (hdC hd0) 44)):=bA
  hb.trans ((lP _ w.heap.size (hdC hd0)).below (B:=w.heap.size) hb.size sI)⟩
structure ZS(w W:World)(a:Nat)(x:aR)(i:zA):Prop where
 e:z9 W a 0 35=some (entR x)
 i:z9 W (a+1) 0 32=some (idC i)
 z:ZAt W (a+2)
 b:Below w.heap.size w W
theorem ZS.bel{w W W':World}{a:Nat}{x:aR}{i:zA}(h:ZS w W a x i)(hb:Below W.heap.size W W'):ZS w W' a x i :=
 ⟨((z8.of_below hb).row (zD h.e) sI _ _).trans h.e,((z8.of_below hb).row (zD h.i) sI _ _).trans h.i,h.z.bel hb,yM h.b hb⟩
theorem ZS.nob{a:Nat}{x:aR}{i:zA}(h:ZS w W a x i):jK W (some ⟨a+2,0,none⟩):=.inr ⟨_,rfl,h.z⟩
theorem buildHZ(w:World):(bdS 44 #[]).run prog w=.ok (.agg (hdC hd0)) w:=kR
theorem index_zero(v:Value)(A:Option Addr)(cap:Nat)(w:World):Calls prog 59 #[.slice A 0 cap,v] w λe w'=>e=.returned (.int .i64 (-1))/\w=w':=by
 go_enter func59,ntmps59
 (go_wp2_with fail);go_loopw [8] (λiv wr=>iv=.int .i64 0/\wr=w) (λ_ _=>0)
 case atStart=>exact⟨rfl,rfl⟩
 case round =>
  obtain⟨rfl,rfl⟩:=hrel;(go_wp2_with fail);go_ret;exact⟨rfl,rfl⟩
theorem vd(v:Value)(A:Option Addr)(cap:Nat)(w:World):Calls prog 24 #[.slice A 0 cap,v] w λe w'=>e=.returned (.slice A 0 cap)/\w=w':=by
 go_enter func24,ntmps24
 (go_wp2_with fail);refine(index_zero _ _ _ _).mono ?_;rintro e w1 ⟨rfl,rfl⟩;(go_wp2_with fail);go_ret;exact⟨rfl,rfl⟩
theorem stz_own(w:World)(p:Option Addr)(h:jK w p):Calls prog 16 #[.pointer p] w λe w'=>e=.returned (.slice none 0 0)/\Below w.heap.size w w':=by
 have hB:Below w.heap.size w (w.alloc (.cells #[.pointer p] 26)):=bA;go_enter func16,ntmps16
 (go_wp2_with fail);refine(stz_ids _ p (h.bel hB)).mono ?_;rintro e w1 ⟨rfl,d⟩;(go_wp2_with fail);refine(vd _ _ _ _).mono ?_;rintro e w2 ⟨rfl,rfl⟩;(go_wp2_with fail);go_ret;exact⟨rfl,yM hB d⟩
theorem JE(x:aR)(i:zA)(t:ByteArray)(w:World)(hv:dA w):Calls prog 3 #[.agg (entR x),.agg (idC i),.string t] w λe w'=>e=.returned (.bool true)/\Below w.heap.size w w':=by
 obtain⟨W,hW⟩:=eR (((w.alloc (.cells (entR x) 25)).alloc (.cells (idC i) 23)).alloc (.cells #[.pointer none,.pointer none,.map none,.map none] 32))
 obtain⟨ga,j⟩:=eX w.heap.size
 have hS:ZS w W ga x i:=by
  subst hW j;exact⟨by simp[go_sem];omega,by simp[go_sem],by unfold ZAt;simp[go_sem],((bA).alloc sI _).alloc sO _⟩
 have cM:=aW W none (.inl rfl) t;have Hv:=dH hv;have HW:=dH hW;have B:=dH j;clear hv hW j;go_enter func3,ntmps3
 (go_wp2_with fail);rw[<-HW.out,B.out];refine cM.mono ?_;rintro e w1 ⟨rfl,d⟩;replace hS:=hS.bel d;clear cM d;(go_wp2_with fail);refine(stz_query _ _ hS.nob t).mono ?_;rintro e w1 ⟨rfl,d⟩;replace hS:=hS.bel d;clear d;obtain⟨w2,g,r⟩:=zVal w1;replace hS:=hS.bel r;clear r;(go_wp2_with fail);refine(stz_room _ none (.inl rfl) 1).mono ?_;rintro e w1 ⟨rfl,d⟩;replace hS:=hS.bel d;clear d;have f:=hS.i;clear g;(go_wp2_with fail);refine(stz_header _ _ hS.nob i).mono ?_;rintro e w1 ⟨rfl,d⟩;replace hS:=hS.bel d;clear d;obtain⟨w3,g,m⟩:=zHd w1;replace hS:=hS.bel m;replace f:=hS.i;clear m;(go_wp2_with fail);refine(aV _ none (.inl rfl) i).mono ?_;rintro e w1 ⟨rfl,d⟩;replace hS:=hS.bel d;clear d;clear g;(go_wp2_with fail);refine(stz_snap _ _ hS.nob).mono ?_;rintro e w1 ⟨rfl,d⟩;replace hS:=hS.bel d;clear d;have k:=hS.e;(go_wp2_with fail);refine(V3 _ none (.inl rfl) x).mono ?_;rintro e w1 ⟨rfl,d⟩;replace hS:=hS.bel d;clear d;replace k:=hS.e;(go_wp2_with fail);refine(V3 _ _ hS.nob x).mono ?_;rintro e w1 ⟨rfl,d⟩;replace hS:=hS.bel d;clear d;replace f:=hS.i;(go_wp2_with fail);refine(stz_use _ none (.inl rfl) i).mono ?_;rintro e w1 ⟨rfl,d⟩;replace hS:=hS.bel d;clear d;replace f:=hS.i;(go_wp2_with fail);refine(stz_use _ _ hS.nob i).mono ?_;rintro e w1 ⟨rfl,d⟩;replace hS:=hS.bel d;clear d;replace f:=hS.i;clear k;go_upto_region 11 with fail
 have hZ:=hS;have q0:=buildHZ;clear hS f;refine lX w1 ?_;intro y hS;refine lZ ?_;refine lC (stz_ids _ none (.inl rfl)) ?_;clear hS;intro w' hS;refine lZ ?_;refine lC (stz_heads _ _ (hZ.nob.bel hS)) ?_;clear hS;intro w' hS;refine lZ ?_;refine lC (stz_held _ none (.inl rfl)) ?_;clear hS;intro w' hS;refine lZ ?_;refine lC (stz_subs _ _ (hZ.nob.bel hS)) ?_;clear hS;intro w' hS;refine lZ ?_;refine lC (stz_own _ none (.inl rfl)) ?_;clear hS;intro w' hS;refine lZ ?_;refine lC (stz_own _ _ (hZ.nob.bel hS)) ?_;clear hS;intro w' hS;refine lZ ?_;refine lC (stz_folded _ _ (hZ.nob.bel hS) t) ?_;clear hS;intro w' hS;have f:=zV hZ.i;refine lZ ?_;refine lC (stz_needs _ none (.inl rfl) i 1) ?_;clear hS;intro w' hS;clear f;refine lZ ?_;refine lC (yj _ _ (hZ.nob.bel hS) (hdC hd0)) ?_;clear hS;intro w' hS;refine lZ ?_;refine zC ?_;intro hS;replace hS:=hZ.bel hS;have s:IntKind.i64.wrap 0=0:=by decide
 clear hZ q0 y;simp only[s];(go_wp2_with fail);refine(V1 _ none (.inl rfl)).mono ?_;rintro e w1 ⟨rfl,d⟩;replace hS:=hS.bel d;clear d;(go_wp2_with fail);refine(V1 _ _ hS.nob).mono ?_;rintro e w1 ⟨rfl,d⟩;replace hS:=hS.bel d;clear d;(go_wp2_with fail);refine(YW _ none (.inl rfl)).mono ?_;rintro e w1 ⟨rfl,d⟩;replace hS:=hS.bel d;clear d;(go_wp2_with fail);refine(YW _ _ hS.nob).mono ?_;rintro e w1 ⟨rfl,d⟩;replace hS:=hS.bel d;clear d;have cA:=awake28 w1 (Hv.out.below hS.b);(go_wp2_with fail);refine cA.mono ?_;rintro e w4 ⟨rfl,A⟩;replace hS:=hS.bel A;(go_wp2_with fail);go_ret;exact⟨rfl,hS.b⟩
end Go.Proofs.YtddopbhcpblpjaaGreatDoor
