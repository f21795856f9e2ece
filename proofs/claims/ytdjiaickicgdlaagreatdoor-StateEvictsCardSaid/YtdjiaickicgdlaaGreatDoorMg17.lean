/- Part 17 of the texts that lead to this claim: the walks of the functions and the plain law, in order. -/
import Derived.Test.YtdjiaickicgdlaaGreatDoorMg16
import Derived.Test.YtdjiaickicgdlaaGreatDoorRows
import Derived.LaidLaws
import Derived.LaidHandle
import Derived.Stop.Joined
import Derived.SevenTiedAt
namespace Go.Proofs.YtdjiaickicgdlaaGreatDoor
open Go.RowKit
open List hiding and get max min or set
open Go.Proofs.Tryz
open World
set_option maxRecDepth 100000
set_option maxHeartbeats 8000000
variable {P:Program}{c:zB}{E:Int}{X Y:StX}{W w:World}{B:List ByteArray}{A:Option Addr}{n:Nat}{R:List rO}{H:Type}{args:Array Value}{es:Array MapEntry}{t:ByteArray}
theorem isFn_has:yy 46:=λargs w=>by kernel_rfl
theorem jx(X:StX)(v:VwX):((jC X.D v.t).filter λi=>!decide (i∈v.I))=dD X v:=by
 unfold dD;exact filter_congr λx _=>by rw[decide_not]
theorem st_missing(w:World)(g gd gs bo bv:Nat)(Fd Fs F M:List Nat)(N:List (VwX×VwP))(X:StX)(h:bD w g gd gs bo bv Fd Fs F M N X)(hn:X.D.length<=1000000)(p:VwX×VwP)(hp:p∈N)(k:(X.V.map (·.t)).Nodup) :
  Calls prog 16 #[.pointer (some ⟨g,0,none⟩),.string p.1.t] w λe w'=>∃A c,e=.returned (.tuple #[.slice A (dD X p.1).length c,.int .i64 0])/\Own w' w.heap.size 31 32 A (dD X p.1).length c ((dD X p.1).map idC)/\Below w.heap.size w w':=by
 have f:=(h.st.vw p hp)
 have ht:bU p.1.t:=f.t;have c0:w.cell? ⟨g,0,none⟩=some (.pointer (some ⟨gd,0,none⟩)):=by rw[cell_of_row w g 0 _ _ _ h.st.heap];rfl
 have c3:w.cell? ⟨g,3,none⟩=some (.map (some bv)):=by rw[cell_of_row w g 3 _ _ _ h.st.heap];rfl
 have cN:=eV w g gd c0;have Y:(Instr.lookup 67 (.map (some bv)) (.string p.1.t) true).run prog w=.ok (.tuple #[.pointer (some ⟨p.2.g,0,none⟩),.bool true]) w:=by
  rcases h.st.look ht with⟨q,hq,e,hl⟩ | ⟨hno,_⟩
  ·have G:(N.map λq=>q.1.t).Nodup:=by rw[<-h.st.vx,map_map]at k;exact k
   rw[<-pE G hq hp e];have:=(hl w [] (z9.refl _ _) sI).1;rw[pE G hq hp e]at this |-;exact this
  ·exact absurd (mem_map.2 ⟨p.1,by rw[<-h.st.vx];exact mem_map_of_mem hp,rfl⟩) hno
 have cT:=ZD w gd Fd X.D h.st.dag p.1.t ht hn;have hm:=jx X p.1;have d:=eO (D:=X.D) p.1.t;obtain⟨⟨t,I,s⟩,⟨vg,vb,O,v⟩⟩:=p;obtain⟨Z,hZ⟩:=eX (dD X ⟨t,I,s⟩)
 have hm:((jC X.D t).filter λi=>!decide (i∈I))=dD X ⟨t,I,s⟩:=hm;rw[hZ]at hm |-;obtain⟨T0,L⟩:=eX (jC X.D t)
 have d:(jC X.D t).length<=X.D.length:=d;have cT:Calls prog 45 #[.pointer (some ⟨gd,0,none⟩),.string t] w λe w'=>∃s:Sl,e=.returned (slV s)/\s.n=(jC X.D t).length/\Own w' w.heap.size 31 32 s.A s.n s.c ((jC X.D t).map idC)/\Below w.heap.size w w':=cT;have f:yU w vg t vb I v:=f.view;rw[L]at cT hm d;have Hv:=dH f;have Hm:=dH hm;have T:T0.length<=1000000:=oM;clear f hm hZ L h hp k d;go_enter func16,ntmps16
 (go_wp2_with fail);refine cN.mono ?_;rintro e w1 ⟨rfl,rfl⟩;clear cN;(go_wp2_with fail);refine cT.mono ?_;rintro e w2 ⟨⟨A,n,c⟩,rfl,H,ho,hb⟩;have R:n<=1000000:=by have h2:n=T0.length:=H;omega
 clear H cT;have r:=Hv.out.below hb;have hA:∀y∈blk A,w.heap.size<=y:=λy hy=>(ho.at_base hy).1;have j:=Hv.out.lt;have m:=Hv.out.ids.lt;have cD:=JC 46 #[.pointer (some ⟨vg,0,none⟩)] #[] isFn_has (λx=>decide (x∈I)) w2 A (λx w' hk=>vhas x w' vg t vb I v (r.kept hk (λhy=>oH (hA _ hy)) (λhy=>oH (hA _ hy)))) w.heap.size n c T0 ho R;rw[Hm.out]at cD;have HA:=dH hA;have Hb:=dH hb;clear r hA j m ho hb;unfold slV;(go_wp2_with fail);refine cD.mono ?_;rintro e w3 ⟨rfl,E,J⟩;have HF:=dH (And.intro E (Hb.out.trans (J.below (B:=w.heap.size) Hb.out.size HA.out)));clear cD E J;(go_wp2_with fail);go_ret2;exact⟨A,c,rfl,HF.out.1,HF.out.2⟩
theorem ZY{fn:Func}{p q r:Tmp}{ty:TypeId}(h:fn.results = #[.cell p ty,.tmp q,.tmp r])(tmps:Array Value)(w:World)(g:Nat)(t:TypeId)(cs:Array Value)(fr:Nat×Nat)(d:TypeDesc)
  (hp:tmps.getD p undef=.pointer (some ⟨g,0,none⟩))(hg:w.heap[g]?=some (.cells cs t fr))
  (hu:P.underlying ty=some d)(hd:(match d with | .struct _ | .array _ _=>true | _=>false)=true)(hi:(P.info? ty).map (·.size)=some cs.size) :
  (results fn tmps).run P w=.ok (.tuple #[.agg cs,tmps.getD q undef,tmps.getD r undef]) w:=by
 have f:tmps[p]?.getD undef=.pointer (some ⟨g,0,none⟩):=by simpa using hp
 simp[results,h,f,asAddr,run_loadVar_row w g t ty cs fr d hg hu hd hi]
structure QA where
 k:Int
 n:Int
 ps:List jI
 l:List zB
 e:Int
def sP(X:StX)(v:VwX):QA:=if dD X v = []then⟨v.s.kind,v.s.num,v.s.pairs,[],0⟩ else⟨0,0,[],dD X v,16⟩
def ZO(q:QA)(w:World)(e:Ending)(w':World):Prop :=
 ∃A c B d,e=.returned (.tuple #[.agg (zJ ⟨q.k,q.n,.slice A q.ps.length c⟩),.slice B q.l.length d,.int .i64 q.e])/\Own w' w.heap.size 147 2 A q.ps.length c (q.ps.map yD)/\Own w' w.heap.size 31 32 B q.l.length d (q.l.map idC)/\Below w.heap.size w w'
theorem st_query(w:World)(g gd gs bo bv:Nat)(Fd Fs F M:List Nat)(N:List (VwX×VwP))(n:Nat)(X:StX)(h:bD w g gd gs bo bv Fd Fs F M N X)(hX:vV n X)(hn:n<=800)(p:VwX×VwP)(hp:p∈N) :
  Calls prog 12 #[.pointer (some ⟨g,0,none⟩),.string p.1.t] w λe w'=>ZO (sP X p.1) w e w':=by
 have hB:Below w.heap.size w (w.alloc (.cells (zJ xX) 42)):=bA;have hr:=heap_alloc_new w (.cells (zJ xX) 42);obtain⟨W,hW⟩:=eR (w.alloc (.cells (zJ xX) 42))
 obtain⟨ga,T⟩:=eX w.heap.size
 rw[<-hW]at hB hr;rw[T]at hr;have m:=h.kept hB;have cM:=st_missing W g gd gs bo bv Fd Fs F M N X m (Nat.le_trans hX.len oM) p hp hX.nv;have H:p.1∈X.V:=by rw[<-h.st.vx];exact mem_map_of_mem hp
 obtain⟨a2,a8⟩:=hX.view H;have E:=(h.st.vw p hp).t;have R:∀w2,Below W.heap.size W w2->(Instr.lookup 67 (.map (some bv)) (.string p.1.t) false).run prog w2=.ok (.pointer (some ⟨p.2.g,0,none⟩)) w2:=by
  rcases m.st.look E with⟨q,hq,e,hl⟩ | ⟨hno,_⟩
  ·have a7:(N.map λq=>q.1.t).Nodup:=by have h1:=hX.nv;rw[<-h.st.vx,map_map]at h1;exact h1
   intro w2 hb;have:=(hl w2 [] (z9.of_below hb) sI).2;rw[pE a7 hq hp e]at this;exact this
  ·exact absurd (mem_map.2 ⟨p.1,H,rfl⟩) hno
 have cV:=fun (V:World) (hV:Below W.heap.size W V)=>vvalue V p.2.g p.1.t p.2.b p.1.I p.2.v p.2.O M p.1.s ((m.st.vw p hp).view.below hV) ((m.st.vw p hp).st.below hV) (by have:p.1.t.size<=maxLen:=E;unfold maxLen at this;omega) a2 oM;have c3:W.cell? ⟨g,3,none⟩=some (.map (some bv)):=by rw[cell_of_row W g 3 _ _ _ m.st.heap];rfl
 obtain⟨⟨t,I,s⟩,⟨vg,vb,O,v⟩⟩:=p;obtain⟨Z,hZ⟩:=eX (dD X ⟨t,I,s⟩)
 have hq:sP X ⟨t,I,s⟩=if Z = []then⟨s.kind,s.num,s.pairs,[],0⟩ else⟨0,0,[],Z,16⟩:=by unfold sP;rw[hZ]
 have Hq:=dH hq;rw[hZ]at cM;have HW:=dH hW;have a0:=dH T;have HB:=dH hB;have Hr:=dH hr;clear hZ hq hW T hB m h hX hp H a2 a8 E hr;show Calls prog 12 #[.pointer (some ⟨g,0,none⟩),.string t] w λe w'=>ZO (sP X ⟨t,I,s⟩) w e w';rw[Hq.out];go_enter func12,ntmps12
 (go_wp2_with fail);rw[<-HW.out,a0.out];refine cM.mono ?_;rintro e w1 ⟨A,c,rfl,ho,D⟩;have f:=(D.block ga (aG Hr.out).1).trans Hr.out;have a3:=(D.cell (p:=⟨g,3,none⟩) (block_lt_of_cell? W _ c3)).trans c3;have r:=dH D;have Ho:=dH ho;have a5:=dH HB.out.size;clear cM D ho c3;cases Z with
 | nil =>
  have a4:=cV w1 r.out;have L:=R w1 r.out;clear cV R;(go_wp2_with fail);refine a4.mono ?_;rintro e w2 ⟨B,d,rfl,J,Y⟩;have G:=(Y.block ga (aG f).1).trans f;have a6:=y9 (P:=prog) jH w2 ga (zJ xX) (zJ ⟨s.kind,s.num,.slice B s.pairs.length d⟩) _ G sI sI (kT _ rfl);have k:=dH (setRow_heap w2 ga _ (zJ ⟨s.kind,s.num,.slice B s.pairs.length d⟩) _ _ G);have hk:=rM w2 ga (zJ ⟨s.kind,s.num,.slice B s.pairs.length d⟩);have j:=yK (yK HB.out r.out) Y;have a1:=dH (j.trans (hk.below j.size (oS a0.out)));have U:=dH ((J.kept hk (λy hy=>by have h1:=(J.at_base hy).1;have h2:=(aG f).1;simp;omega)).mono (B':=w.heap.size) (Nat.le_trans a5.out r.out.size));clear hk j J Y G f a4 L a3;(go_wp2_with fail);refine bodyPost_ret (ZY results12 _ _ ga 42 (zJ ⟨s.kind,s.num,.slice B s.pairs.length d⟩) (0,0) _ rfl k.out underlying42 rfl (by rw[jP];exact jH)) rfl ?_;exact⟨B,d,none,0,rfl,U.out,Own.nil _ _ _ _,a1.out⟩
 | cons z Z =>
  have a6:=y9 (P:=prog) jH w1 ga (zJ xX) (zJ xX) _ f sI sI (kT _ rfl);have k:=dH (setRow_heap w1 ga _ (zJ xX) _ _ f);have hk:=rM w1 ga (zJ xX);have j:=yK HB.out r.out;have a1:=dH (j.trans (hk.below j.size (oS a0.out)));have U:=dH ((Ho.out.kept hk (λy hy=>by have h1:=(Ho.out.at_base hy).1;have h2:=(aG Hr.out).1;simp;omega)).mono (B':=w.heap.size) a5.out);clear hk j f cV R a3;(go_wp2_with fail);refine bodyPost_ret (ZY results12 _ _ ga 42 (zJ xX) (0,0) _ rfl k.out underlying42 rfl (by rw[jP];exact jH)) rfl ?_;exact⟨none,0,A,c,rfl,Own.nil _ _ _ _,U.out,a1.out⟩
theorem beN_len(M n:Nat):(beL M n).length=M:=by
 have:(⟨(beL M n).toArray⟩:ByteArray).size=M:=tA M n;exact this
theorem hof_put{h:HdV}(he:hdE h=0):nO (hdB h)=0/\yc (hdB h)=h:=by
 have ok:=aY he;have f:h.tp.size<=12:=Y6 (hdE_tp he);obtain⟨ps,ht,tp,au,sq,sz,cm⟩:=h;have k:ps.length<=4:=ok.ps;have b1:=ok.ht;have b2:=ok.au;have b3:=ok.sq;have b4:=ok.sz;dsimp only at b1 b2 b3 b4 f;have h1:((ht.toNat:Nat):Int)=ht:=Int.toNat_of_nonneg oM;have h2:((au.toNat:Nat):Int)=au:=Int.toNat_of_nonneg oM;have h3:((sq.toNat:Nat):Int)=sq:=Int.toNat_of_nonneg oM;have h4:((sz.toNat:Nat):Int)=sz:=Int.toNat_of_nonneg oM;have e:hdB ⟨ps,ht,tp,au,sq,sz,cm⟩=beL 1 ps.length++(ps.flatMap (·.l)++(beL 4 ht.toNat++(beL 1 tp.size++(tp.data.toList++(beL 1 au.toNat++(beL 4 sq.toNat++(beL 2 sz.toNat++(cm.l ++ [])))))))):=by
  unfold hdB;simp
 have hV:rN (hdB ⟨ps,ht,tp,au,sq,sz,cm⟩)=(⟨ps,ht,tp,au,sq,sz,cm⟩,[],0):=by
  rw[e];unfold rN hofP;obtain⟨n1,n2,n3⟩:=mQ (M:=1) (n:=ps.length) oM (ps.flatMap (·.l)++(beL 4 ht.toNat++(beL 1 tp.size++(tp.data.toList++(beL 1 au.toNat++(beL 4 sq.toNat++(beL 2 sz.toNat++(cm.l ++ []))))))));rw[n1,n2,n3,show(λx:zB=>x.l)=idP.put from rfl,KJ nM ps [] _ (λ_ _=>trivial)];unfold hofT;obtain⟨a1,a2,a3⟩:=mQ (M:=4) (n:=ht.toNat) oM (beL 1 tp.size++(tp.data.toList++(beL 1 au.toNat++(beL 4 sq.toNat++(beL 2 sz.toNat++(cm.l ++ []))))));obtain⟨t1,t2,t3⟩:=BV (s:=tp) oM (beL 1 au.toNat++(beL 4 sq.toNat++(beL 2 sz.toNat++(cm.l ++ []))));obtain⟨u1,u2,u3⟩:=mQ (M:=1) (n:=au.toNat) oM (beL 4 sq.toNat++(beL 2 sz.toNat++(cm.l ++ [])));obtain⟨s1,s2,s3⟩:=mQ (M:=4) (n:=sq.toNat) oM (beL 2 sz.toNat++(cm.l ++ []));obtain⟨z1,z2,z3⟩:=mQ (M:=2) (n:=sz.toNat) oM (cm.l ++ []);obtain⟨c1,c2,c3⟩:=iP (d:=cm) [];simp only[a1,a2,a3,t1,t2,t3,u1,u2,u3,s1,s2,s3,z1,z2,z3,c1,c2,c3,h1,h2,h3,h4,nil_append]
 have j:(hdB ⟨ps,ht,tp,au,sq,sz,cm⟩).length<=256:=by
  have hf:∀L:List zB,(L.flatMap (·.l)).length=32*L.length:=λL=>by
   induction L with
   | nil=>rfl
   | cons x L ih=>rw[flatMap_cons,length_append,ih,x.h,length_cons];omega
  have g:tp.data.toList.length=tp.size:=rfl;rw[e];simp only[length_append,beN_len,hf,g,cm.h,length_nil];omega
 refine⟨?_,by unfold yc;rw[hV]⟩;unfold nO;rw[if_neg oM,hV];show(if jL [] 0≠0 then jL [] 0 else hdE ⟨ps,ht,tp,au,sq,sz,cm⟩)=0;rw[if_neg (by decide)];exact he
theorem awT_kind:yH awT=1:=by decide +kernel
theorem awH_ok(c:zB):hdE (awH c)=0:=by
 unfold hdE awH;have h1:j8 awT=0:=by decide +kernel
 simp only[h1];rfl
def awX0:StX:=⟨100,[],[],[],[]⟩
def awI(c:zB):zB:=hdI (awH c)
def awX1(c:zB):StX:=⟨100,[⟨awI c,awH c⟩],[],[],[]⟩
def ZM(c:zB):StX:=⟨100,[⟨awI c,awH c⟩],[],[],[⟨awT,[],.t 0⟩]⟩
def awX3(s:ByteArray):StX:=⟨100,[⟨awI (qM s.data.toList),awH (qM s.data.toList)⟩],[],[⟨qM s.data.toList,s,false⟩],[⟨awT,[awI (qM s.data.toList)],.t 2⟩]⟩
theorem aw_ver(c:zB):gD [] (awH c)=0:=by
 unfold gD;rw[if_neg (by rw[awH_ok];decide)];rfl
theorem aw_head(c:zB):YP awX0 (hdB (awH c))=0/\iQ awX0 (hdB (awH c)) false=awX1 c:=by
 obtain⟨h1,h2⟩:=hof_put (awH_ok c);unfold YP iQ;rw[if_neg (by rw[h1];decide),if_neg (by rw[h1];decide),h2];refine⟨aw_ver c,?_⟩;unfold Y9;rw[if_neg (by rw[show awX0.D = []from rfl,aw_ver];decide),if_neg (by decide)];have:kA awX0.D (awH c) = [⟨awI c,awH c⟩]:=if_pos ⟨aw_ver c,by simp[qT,awX0]⟩;rw[this];rfl
theorem yt(c:zB):kZ [⟨awI c,awH c⟩] (awI c)=some (awH c):=by unfold kZ;simp
theorem aw_tps(c:zB):jC [⟨awI c,awH c⟩] awT = [awI c]:=by
 unfold jC;rw[filter_cons,if_pos (decide_eq_true (show(awH c).tp=awT from rfl))];rfl
theorem aw_cms(c:zB):vD [⟨awI c,awH c⟩] c = [awI c]:=by
 unfold vD;rw[filter_cons,if_pos (decide_eq_true (show(awH c).cm=c from rfl))];rfl
theorem aw_ent2(b:ByteArray)(h1:b.size≠0)(h2:b.size<=256):b9 ⟨2,⟨#[]⟩,b,id0⟩=0:=by
 unfold b9;rw[if_neg (by dsimp only;omega),if_neg (by dsimp only;simp;decide),if_neg (by dsimp only;omega),if_neg (by dsimp only;omega),if_neg (by dsimp only;omega)]
theorem aw_ent5:b9 ⟨5,awT,⟨#[]⟩,id0⟩=0:=by decide +kernel
theorem aw_ent3(b:ByteArray)(h:b.size=5):b9 ⟨3,⟨#[]⟩,b,id0⟩=0:=by
 unfold b9;rw[if_neg (by dsimp only;omega),if_neg (by dsimp only;simp;decide),if_neg (by dsimp only;omega),if_neg (by dsimp only;omega),if_neg (by dsimp only;omega)]
theorem aw_app1{b:ByteArray}(hb:b.data.toList=hdB (awH c))(h1:b.size≠0)(h2:b.size<=256)(a:fW awX0 ⟨2,⟨#[]⟩,b,id0⟩ E Y):E=0/\Y=awX1 c:=by
 obtain⟨q1,q2⟩:=aw_head c;obtain⟨h3,h4⟩:=hof_put (awH_ok c);unfold fW at a;rw[if_neg (by rw[aw_ent2 b h1 h2];decide),if_pos (by dsimp only;omega)]at a;dsimp only at a;rw[hb,if_neg (by rw[h3];decide)]at a;unfold YP at q1;unfold iQ at q2;rw[if_neg (by rw[h3];decide)]at q1 q2;exact⟨a.1.trans q1,a.2.trans q2⟩
theorem aw_app2(a:fW (awX1 c) ⟨5,awT,⟨#[]⟩,id0⟩ E Y):E=0/\Y=ZM c:=by
 unfold fW at a;rw[if_neg (by rw[aw_ent5];decide),if_neg (by dsimp only;omega),if_neg (by dsimp only;omega),if_neg (by dsimp only;omega),if_neg (by dsimp only;omega),if_neg (by rw[show m5 (awX1 c) awT=0 from rfl];decide),if_pos rfl]at a;refine⟨a.1,a.2.trans ?_⟩;dsimp only;rw[awT_kind];unfold subX qF awX1 ZM;dsimp only;rw[aw_tps];have hp:qI [⟨awI c,awH c⟩] [] (awI c)=none:=by unfold qI;rw[yt];rfl
 have:[awI c].foldl (jM [⟨awI c,awH c⟩] []) ⟨awT,[],VSt.new 1⟩=⟨awT,[],.t 0⟩:=by
  show jM [⟨awI c,awH c⟩] [] ⟨awT,[],VSt.new 1⟩ (awI c)=_;rw[J8 hp];rfl
 rw[nil_append,map_cons,this];rfl
theorem aw_app3{s:ByteArray}(hs:s.data.toList=VC 2)(a:fW (ZM (qM s.data.toList)) ⟨3,⟨#[]⟩,s,id0⟩ E Y):E=0/\Y=awX3 s:=by
 have h5:s.size=5:=by
  have:s.data.toList.length=5:=by rw[hs];rfl
  exact this
 obtain⟨c,hc⟩:=eX (qM s.data.toList)
 have d:sQ [] 100 s=0:=by
  unfold sQ sB;rw[h5];rw[if_neg (by decide),if_neg sI];rfl
 have hX:lV [] 100 s = [⟨c,s,false⟩]:=by unfold lV;rw[d,if_pos ⟨rfl,sI⟩,hc];rfl
 unfold fW at a;rw[if_neg (by rw[aw_ent3 s h5];decide),if_neg (by dsimp only;omega),if_pos rfl]at a;refine⟨a.1.trans (by rw[hc];exact d),a.2.trans ?_⟩;unfold awX3;dsimp only;rw[hc];unfold nH;rw[hc,show(ZM c).S = []from rfl,show(ZM c).q=100 from rfl,if_neg (by rw[d];decide),if_neg (by
  unfold nJ;rw[show(ZM c).D = [⟨awI c,awH c⟩]from rfl,show(ZM c).O = []from rfl,aw_cms]
  simp),hX]
 unfold qF ZM;dsimp only;rw[aw_cms];have hp:qI [⟨awI c,awH c⟩] [⟨c,s,false⟩] (awI c)=some s:=by
  unfold qI;rw[yt];dsimp only;rw[show jN [⟨c,s,false⟩] (awH c).cm=some ⟨c,s,false⟩ by unfold jN awH;simp];exact if_pos (by show(s.size:Int)=5;omega)
 have hf:Z7 awT ⟨awI c,1,s⟩:=by
  unfold Z7;dsimp only;rw[hs];exact⟨inc2_e,by rw[inc2_k,awT_kind];rfl⟩
 have hd:doS ⟨awI c,1,s⟩ (opO (VC 2)) (.t 0)=.t 2:=by
  show VSt.t (wrap64 (0+(opO (VC 2)).n))=.t 2;rw[inc2_n];exact congrArg VSt.t (by decide +kernel)
 have:[awI c].foldl (jM [⟨awI c,awH c⟩] [⟨c,s,false⟩]) ⟨awT,[],.t 0⟩=⟨awT,[awI c],.t 2⟩:=by
  show jM [⟨awI c,awH c⟩] [⟨c,s,false⟩] ⟨awT,[],.t 0⟩ (awI c)=_;rw[kg (yt c) hp rfl];unfold t9;rw[if_neg sI];have h1:mA awT ⟨awI c,1,s⟩ (.t 0)=.t 2:=by
   unfold mA;rw[if_pos hf];show doS ⟨awI c,1,s⟩ (opO s.data.toList) (.t 0)=.t 2;rw[hs];exact hd
  show(⟨awT,[awI c],mA awT ⟨awI c,1,s⟩ (.t 0)⟩:VwX)=_;rw[h1]
 rw[map_cons,this];rfl
theorem three_rows(w:World)(a b c:Obj):((w.alloc a).alloc b).heap.size=w.heap.size+2/\(((w.alloc a).alloc b).alloc c).heap[w.heap.size]?=some a/\(((w.alloc a).alloc b).alloc c).heap[w.heap.size+1]?=some b/\(((w.alloc a).alloc b).alloc c).heap[w.heap.size+1+1]?=some c/\Below w.heap.size w (((w.alloc a).alloc b).alloc c):=by
 have h1:(w.alloc a).heap.size=w.heap.size+1:=sI;have h2:((w.alloc a).alloc b).heap.size=w.heap.size+2:=sI;refine⟨h2,?_,?_,?_,((bA).alloc oM _).alloc oM _⟩
 ·rw[Below.heap_alloc _ _ _ oM,Below.heap_alloc _ _ _ oM];exact heap_alloc_new w a
 ·rw[Below.heap_alloc _ _ _ oM,<-h1];exact heap_alloc_new _ b
 ·rw[(oM:w.heap.size+1+1=((w.alloc a).alloc b).heap.size)];exact heap_alloc_new _ c
theorem rpayload(w:World) :
  Calls prog 28 #[.agg (hdC ⟨.slice none 0 0,1,awT,0,1,0,id0⟩),.agg (zQ ⟨1,2,⟨#[]⟩,⟨#[]⟩,id0,.slice none 0 0⟩)] w λe w'=>e=.returned (.agg (hdR ⟨awH (qM (VC 2)),none,0⟩))/\Below w.heap.size w w':=by
 obtain⟨z2,x0,x1,x2,hB⟩:=three_rows w (.cells (hdC ⟨.slice none 0 0,1,awT,0,1,0,id0⟩) 52) (.cells (zQ ⟨1,2,⟨#[]⟩,⟨#[]⟩,id0,.slice none 0 0⟩) 73) (.cells (hdC hd0) 52);obtain⟨W,hW⟩:=eR (((w.alloc (.cells (hdC ⟨.slice none 0 0,1,awT,0,1,0,id0⟩) 52)).alloc (.cells (zQ ⟨1,2,⟨#[]⟩,⟨#[]⟩,id0,.slice none 0 0⟩) 73)).alloc (.cells (hdC hd0) 52))
 rw[<-hW]at x0 x1 x2 hB;obtain⟨ga,I⟩:=eX w.heap.size
 rw[I]at x0 x1 x2;have a4:zA W (ga+1) 0 37=some (zQ ⟨1,2,⟨#[]⟩,⟨#[]⟩,id0,.slice none 0 0⟩):=by unfold zA;rw[x1];simp
 have HW:=dH hW;have F:=dH I;have HB:=dH hB;have X0:=dH x0;have X2:=dH x2;have cP:=VY 2 W rfl;clear hW I hB x0 x1 x2 z2;go_enter func28,ntmps28
 go_upto_region 1 with fail
 rw[<-HW.out,F.out];(go_wp2_with fail);refine cP.mono ?_;rintro e w1 ⟨s,rfl,hs,A⟩;have Hs:=dH hs;have a1:s.size=5:=by
  have:s.data.toList.length=5:=by rw[hs];rfl
  exact this
 have a2:(s.size:Int)=5:=oM;have y0:=(A.block ga (aG X0.out).1).trans X0.out;have y2:=(A.block (ga+1+1) (aG X2.out).1).trans X2.out;have Y:zA w1 ga 0 38=some (hdC ⟨.slice none 0 0,1,awT,0,1,0,id0⟩):=by unfold zA;rw[y0];simp[go_sem]
 have X:=yK HB.out A;have k:=tF w1 w1.heap.size rfl (hdC hd0) sI ⟨.slice none 0 0,1,awT,0,1,0,id0⟩ rfl 52;have M:Below w1.heap.size w1 (w1.alloc (.cells (hdC ⟨.slice none 0 0,1,awT,0,1,0,id0⟩) 52)):=bA;have g:=heap_alloc_new w1 (.cells (hdC ⟨.slice none 0 0,1,awT,0,1,0,id0⟩) 52);have t:=(M.block (ga+1+1) (aG y2).1).trans y2;have E:=yK X M;have H:ga+1+1<w1.heap.size:=(aG y2).1;clear hs A y0 y2 X M cP;go_upto_region 3 with fail
 obtain⟨V,hV⟩:=eR (w1.alloc (.cells (hdC ⟨.slice none 0 0,1,awT,0,1,0,id0⟩) 52))
 obtain⟨gx,T⟩:=eX w1.heap.size
 rw[<-hV]at g t E |-;rw[T]at g H |-;clear hV T k Y;have x0:V.cell? ⟨gx,5,none⟩=some (.int .i64 0):=by rw[cell_of_row V gx _ _ _ _ g];simp[go_sem]
 have f0:V.frozen? ⟨gx,5,none⟩=false:=by simp[frozen?,g]
 have j:=zF g 5 (.int .i64 5);rw[hd_set5]at j;have f:=z9.setCell V ⟨gx,5,none⟩ (.int .i64 5);have r:=(f.block (ga+1+1) (aG t).1 sO).trans t;have O:Below w.heap.size w (V.setCell ⟨gx,5,none⟩ (.int .i64 5)):=E.trans (f.below (B:=w.heap.size) E.size (oS F.out));clear g t E f;go_upto_region 4 with fail
 obtain⟨Z,hZ⟩:=eR (V.setCell ⟨gx,5,none⟩ (.int .i64 5))
 rw[<-hZ]at j r O |-;have cS:=rsum Z s oM;rw[Hs.out]at cS;clear hZ x0 f0;(go_wp2_with fail);refine cS.mono ?_;rintro e w4 ⟨rfl,y⟩;obtain⟨d,hd⟩:=eX (qM (VC 2))
 rw[hd];have Hd:=dH hd;have L:=(y.block gx (aG j).1).trans j;have G:=(y.block (ga+1+1) (aG r).1).trans r;have N:=yK O y;have k:=qa d L;have J:=setRow_heap w4 gx _ (hdC ⟨.slice none 0 0,1,awT,0,1,5,d⟩) _ _ L;have f:=rM w4 gx (hdC ⟨.slice none 0 0,1,awT,0,1,5,d⟩);have m:=(f.block (ga+1+1) (aG G).1 sO).trans G;have D:Below w.heap.size w (w4.setRow gx (hdC ⟨.slice none 0 0,1,awT,0,1,5,d⟩)):=N.trans (f.below (B:=w.heap.size) N.size (oS F.out));clear hd cS j r O y L G N f;go_upto_region 5 with fail
 obtain⟨U,hU⟩:=eR (w4.setRow gx (hdC ⟨.slice none 0 0,1,awT,0,1,5,d⟩))
 rw[<-hU]at J m D |-;clear hU k;have a3:zA U gx 0 38=some (hdC ⟨.slice none 0 0,1,awT,0,1,5,d⟩):=by unfold zA;rw[J];simp[go_sem]
 have k:=y9 (P:=prog) kJ U (ga+1+1) (hdC hd0) (hdC ⟨.slice none 0 0,1,awT,0,1,5,d⟩) _ m sI sI (gX _ rfl);have R:=dH (setRow_heap U (ga+1+1) _ (hdC ⟨.slice none 0 0,1,awT,0,1,5,d⟩) _ _ m);have hk:=rM U (ga+1+1) (hdC ⟨.slice none 0 0,1,awT,0,1,5,d⟩);have a0:=dH (D.trans (hk.below D.size (oS F.out)));clear hk m D J;(go_wp2_with fail);refine bodyPost_ret (results_cell_row results28 _ _ (ga+1+1) 52 (hdC ⟨.slice none 0 0,1,awT,0,1,5,d⟩) (0,0) _ rfl R.out underlying52 rfl (by rw[k7];exact kJ)) rfl ?_;exact⟨by rw[Hd.out];rfl,a0.out⟩
theorem qw(w:World)(d:zB):Calls prog 60 #[.agg (hdC ⟨.slice none 0 0,1,awT,0,1,5,d⟩)] w λe w'=>e=.returned (.int .i64 0)/\Below w.heap.size w w':=by
 have hB:Below w.heap.size w (w.alloc (.cells (hdC ⟨.slice none 0 0,1,awT,0,1,5,d⟩) 52)):=bA;have hr:zA (w.alloc (.cells (hdC ⟨.slice none 0 0,1,awT,0,1,5,d⟩) 52)) w.heap.size 0 38=some (hdC ⟨.slice none 0 0,1,awT,0,1,5,d⟩):=by simp[go_sem]
 have x0:=zC hr (j:=0) oM;have x1:=zC hr (j:=1) oM;have x2:=zC hr (j:=2) oM;have x3:=zC hr (j:=3) oM;have x4:=zC hr (j:=4) oM;have x5:=zC hr (j:=5) oM;have x6:=yF hr (j:=6) (m:=32) oM;simp only[t8,mV,mU,pM,pL,pK,J4,Nat.zero_add]at x0 x1 x2 x3 x4 x5 x6;have s:=λw=>rkind_any awT w (by decide);have D:(yH awT==0)=false:=by decide
 obtain⟨W,hW⟩:=eR (w.alloc (.cells (hdC ⟨.slice none 0 0,1,awT,0,1,5,d⟩) 52))
 rw[<-hW]at hB x0 x1 x2 x3 x4 x5 x6;have t:=qv W;have HW:=dH hW;obtain⟨g,hg⟩:=eX w.heap.size
 have Hg:=dH hg;have y:g<W.heap.size:=by rw[hW,<-hg];simp
 clear hW hr;go_enter func60,ntmps60
 go_upto_region 1 with fail
 rw[<-HW.out];rw[hg]at hB x0 x1 x2 x3 x4 x5 x6;clear hg;(go_wp2_with fail);refine t.mono ?_;rintro e w2 ⟨rfl,k⟩;have B:Below g w w2:=hB.trans (k.mono oM);have tr:=λj (v:Value) (hx:W.cell? ⟨g,j,none⟩=some v)=>(k.cell (p:=⟨g,j,none⟩) y).trans hx;have x0:=tr _ _ x0;have x1:=tr _ _ x1;have x2:=tr _ _ x2;have x3:=tr _ _ x3;have x4:=tr _ _ x4;have x5:=tr _ _ x5;have f:g<w2.heap.size:=oH k.size;clear tr t;(go_wp2_with fail);refine(s _).mono ?_;rintro e w3 ⟨rfl,r⟩;have A:Below g w w3:=B.trans (r.mono oM);have tr:=λj (v:Value) (hx:w2.cell? ⟨g,j,none⟩=some v)=>(r.cell (p:=⟨g,j,none⟩) f).trans hx;have x3:=tr _ _ x3;have x4:=tr _ _ x4;have x5:=tr _ _ x5;clear tr s;(go_wp2_with fail);go_ret;exact⟨rfl,by rw[Hg.out];exact A⟩
theorem rh_put_aw(w:World)(d:zB):Calls prog 27 #[.agg (hdC ⟨.slice none 0 0,1,awT,0,1,5,d⟩)] w λe w'=>∃s:ByteArray,e=.returned (.tuple #[.string s,.int .i64 0])/\(s.data.toList=hdB (awH d)/\s.size<=300)/\Below w.heap.size w w':=by
 have hB:Below w.heap.size w (w.alloc (.cells (hdC ⟨.slice none 0 0,1,awT,0,1,5,d⟩) 52)):=bA;have hr:zA (w.alloc (.cells (hdC ⟨.slice none 0 0,1,awT,0,1,5,d⟩) 52)) w.heap.size 0 38=some (hdC ⟨.slice none 0 0,1,awT,0,1,5,d⟩):=by simp[go_sem]
 have cc:=qw (w.alloc (.cells (hdC ⟨.slice none 0 0,1,awT,0,1,5,d⟩) 52)) d;obtain⟨W,hW⟩:=eR (w.alloc (.cells (hdC ⟨.slice none 0 0,1,awT,0,1,5,d⟩) 52))
 rw[<-hW]at hB hr cc;have HW:=dH hW;obtain⟨g,hg⟩:=eX w.heap.size
 have Hg:=dH hg;have N:g<W.heap.size:=by rw[hW,<-hg];simp
 rw[hg]at hB hr;clear hW;go_enter func27,ntmps27
 go_upto_region 1 with fail
 rw[<-HW.out];clear hg;(go_wp2_with fail);refine cc.mono ?_;rintro e w2 ⟨rfl,J⟩;have L:Below g w w2:=hB.trans (J.mono oM);clear cc;have f:=(zH (J.block g N) 0 38).trans hr;have x0:=zC f (j:=0) oM;have x1:=zC f (j:=1) oM;have x2:=zC f (j:=2) oM;have x3:=zC f (j:=3) oM;have x4:=zC f (j:=4) oM;have x5:=zC f (j:=5) oM;have x6:=yF f (j:=6) (m:=32) oM;simp only[t8,mV,mU,pM,pL,pK,Nat.zero_add]at x0 x1 x2 x3 x4 x5 x6;rw[J4]at x6;have ci:=λw1=>rids_any [] w1 none 0 0 SlR.nil_ sI;have n1:=λw=>hnum 1 4 w oM oM;have n2:=λw=>hnum awT.size 1 w oM (by decide);have n3:=λw=>hnum 0 1 w oM oM;have n4:=λw=>hnum 1 4 w oM oM;have n5:=λw=>hnum 5 2 w oM oM;have nr:=λw=>hraw d w;have k:Hid (awT.size=2):=dH rfl;obtain⟨t1,E⟩:∃t:ByteArray,(⟨(beL 4 1).toArray⟩:ByteArray)=t:=⟨_,rfl⟩
 obtain⟨t2,D⟩:∃t:ByteArray,(⟨(beL 1 awT.size).toArray⟩:ByteArray)=t:=⟨_,rfl⟩
 obtain⟨t3,B⟩:∃t:ByteArray,(⟨(beL 1 0).toArray⟩:ByteArray)=t:=⟨_,rfl⟩
 obtain⟨t4,A⟩:∃t:ByteArray,(⟨(beL 4 1).toArray⟩:ByteArray)=t:=⟨_,rfl⟩
 obtain⟨t5,y⟩:∃t:ByteArray,(⟨(beL 2 5).toArray⟩:ByteArray)=t:=⟨_,rfl⟩
 obtain⟨t6,r⟩:∃t:ByteArray,(⟨d.l.toArray⟩:ByteArray)=t:=⟨_,rfl⟩
 have z1:t1.size=4:=by rw[<-E];exact tA _ _
 have z2:t2.size=1:=by rw[<-D];exact tA _ _
 have z3:t3.size=1:=by rw[<-B];exact tA _ _
 have z4:t4.size=4:=by rw[<-A];exact tA _ _
 have z5:t5.size=2:=by rw[<-y];exact tA _ _
 have z6:t6.size=32:=by rw[<-r];show d.l.toArray.size=32;simp[d.h]
 simp only[E]at n1;simp only[D]at n2;simp only[B]at n3;simp only[A]at n4;simp only[y]at n5;simp only[r]at nr;have H:hdB (awH d)=beL 1 0++([]:List zB).flatMap (·.l)++t1.data.toList++t2.data.toList++awT.data.toList++t3.data.toList++t4.data.toList++t5.data.toList++t6.data.toList:=by
  rw[<-E,<-D,<-B,<-A,<-y,<-r];rfl
 have R:=dH H;have T:=dH ci;have Z1:=dH z1;have Z2:=dH z2;have Z3:=dH z3;have Z4:=dH z4;have Z5:=dH z5;have Z6:=dH z6;clear H ci E D B A y r f z1 z2 z3 z4 z5 z6;go_upto_region 4 with fail
 refine lX w2 ?_;intro M hS;have c0:=zK x0;have c1:=zK x1;have c2:=zK x2;have c3:=zK x3;have c4:=zK x4;have c5:=zK x5;have c6:=zS x6;refine lQ ?_;intro K hK;refine(T.out _).mono ?_;rintro e w' ⟨s0,rfl,G,X,hb⟩;replace hS:=xL hS hb;refine⟨_,rfl,hS,hK _ _ ?_⟩;clear hK K hb;have l1:¬9223372036854775807<s0.size+t1.size:=oH Z1.out;have l2:¬9223372036854775807<s0.size+t1.size+t2.size:=by have:=Z1.out;have:=Z2.out;omega
 have l3:¬9223372036854775807<s0.size+t1.size+t2.size+awT.size:=by have:=k.out;have:=Z1.out;have:=Z2.out;omega
 have l4:¬9223372036854775807<s0.size+t1.size+t2.size+awT.size+t3.size:=by have:=k.out;have:=Z1.out;have:=Z2.out;have:=Z3.out;omega
 have l5:¬9223372036854775807<s0.size+t1.size+t2.size+awT.size+t3.size+t4.size:=by have:=k.out;have:=Z1.out;have:=Z2.out;have:=Z3.out;have:=Z4.out;omega
 have l6:¬9223372036854775807<s0.size+t1.size+t2.size+awT.size+t3.size+t4.size+t5.size:=by have:=k.out;have:=Z1.out;have:=Z2.out;have:=Z3.out;have:=Z4.out;have:=Z5.out;omega
 have l7:¬9223372036854775807<s0.size+t1.size+t2.size+awT.size+t3.size+t4.size+t5.size+t6.size:=by have:=k.out;have:=Z1.out;have:=Z2.out;have:=Z3.out;have:=Z4.out;have:=Z5.out;have:=Z6.out;omega
 have O:=dH G;clear G;refine lQ ?_;intro K hK;refine(n1 _).mono ?_;rintro e w' ⟨rfl,hb⟩;replace hS:=xL hS hb;refine⟨_,rfl,hS,hK _ _ ?_⟩;clear hK K hb;refine lQ ?_;intro K hK;refine(n2 _).mono ?_;rintro e w' ⟨rfl,hb⟩;replace hS:=xL hS hb;refine⟨_,rfl,hS,hK _ _ ?_⟩;clear hK K hb;refine lQ ?_;intro K hK;refine(n3 _).mono ?_;rintro e w' ⟨rfl,hb⟩;replace hS:=xL hS hb;refine⟨_,rfl,hS,hK _ _ ?_⟩;clear hK K hb;refine lQ ?_;intro K hK;refine(n4 _).mono ?_;rintro e w' ⟨rfl,hb⟩;replace hS:=xL hS hb;refine⟨_,rfl,hS,hK _ _ ?_⟩;clear hK K hb;refine lQ ?_;intro K hK;refine(n5 _).mono ?_;rintro e w' ⟨rfl,hb⟩;replace hS:=xL hS hb;refine⟨_,rfl,hS,hK _ _ ?_⟩;clear hK K hb;refine lQ ?_;intro K hK;refine(nr _).mono ?_;rintro e w' ⟨rfl,hb⟩;replace hS:=xL hS hb;refine⟨_,rfl,hS,hK _ _ ?_⟩;clear hK K hb;refine lZ ?_;refine zD ?_;intro hS;have I:=L.trans (hS.mono (by have:=L.size;have:=Hg.out;omega));have V:=dH I;clear I hS M c0 c1 c2 c3 c4 c5 c6 l1 l2 l3 l4 l5 l6 l7;(go_wp2_with fail);go_ret2;refine⟨_,rfl,?_,by rw[Hg.out];exact V.out⟩;have F:(s0++t1++t2++awT++t3++t4++t5++t6).data.toList=hdB (awH d)/\(s0++t1++t2++awT++t3++t4++t5++t6).size<=300:=by
  constructor
  ·rw[R.out];simp only[ByteArray.data_append,Array.toList_append,O.out]
  ·simp only[ByteArray.size_append];have:=k.out;have:=Z1.out;have:=Z2.out;have:=Z3.out;have:=Z4.out;have:=Z5.out;have:=Z6.out;omega
 exact F
theorem buildAwH(w:World):(bdS 52 #[(1,.int .i64 1),(2,.string awT),(4,.int .i64 1)]).run prog w=.ok (.agg (hdC ⟨.slice none 0 0,1,awT,0,1,0,id0⟩)) w:=kR
theorem buildE2(b:ByteArray)(w:World):(bdS 33 #[(0,.int .i64 2),(2,.string b)]).run prog w=.ok (.agg (jD ⟨2,⟨#[]⟩,b,id0⟩)) w:=kR
theorem buildE5(w:World):(bdS 33 #[(0,.int .i64 5),(1,.string awT)]).run prog w=.ok (.agg (jD ⟨5,awT,⟨#[]⟩,id0⟩)) w:=kR
theorem buildE3(b:ByteArray)(w:World):(bdS 33 #[(0,.int .i64 3),(2,.string b)]).run prog w=.ok (.agg (jD ⟨3,⟨#[]⟩,b,id0⟩)) w:=kR
theorem jE.base{w':World}{g:Nat}{F M F' M':List Nat}(h:jE w g F M Y w' F' M'){B:Nat}(hB:B<=w.heap.size)(hF:∀x∈F,B<=x):Below B w w'/\∀x∈F',B<=x :=
 ⟨h.kp.below hB hF,λx hx=>(h.ff x hx).elim (hF x) (λe=>Nat.le_trans hB e)⟩
theorem aI(w:World)(g:Nat)(F M:List Nat)(n:Nat)(X:StX)(h:yX w g F M X)(hX:vV n X)(hn:n<=800)(v:VwX)(hv:v∈X.V) :
  Calls prog 12 #[.pointer (some ⟨g,0,none⟩),.string v.t] w λe w'=>ZO (sP X v) w e w':=by
 obtain⟨gd,gs,bo,bv,Fd,Fs,N,h⟩:=h.sp;rw[<-h.st.vx]at hv;obtain⟨p,hp,rfl⟩:=mem_map.1 hv;exact st_query w g gd gs bo bv Fd Fs F M N n X h hX hn p hp
theorem aw_q2(c:zB):sP (ZM c) ⟨awT,[],.t 0⟩=⟨0,0,[],[awI c],16⟩:=by
 have:dD (ZM c) ⟨awT,[],.t 0⟩ = [awI c]:=by
  unfold dD;show((jC [⟨awI c,awH c⟩] awT).filter λi=>decide (i∉([]:List zB)))=_;rw[aw_tps];rfl
 unfold sP;rw[this,if_neg sI]
theorem aw_q3(s:ByteArray):sP (awX3 s) ⟨awT,[awI (qM s.data.toList)],.t 2⟩=⟨1,2,[],[],0⟩:=by
 have:dD (awX3 s) ⟨awT,[awI (qM s.data.toList)],.t 2⟩ = []:=by
  unfold dD;show((jC [⟨awI (qM s.data.toList),awH (qM s.data.toList)⟩] awT).filter λi=>decide (i∉[awI (qM s.data.toList)]))=_;rw[aw_tps];simp
 unfold sP;rw[this,if_pos rfl];rfl
theorem awH_len(d:zB):(hdB (awH d)).length=47:=by
 show(beL 1 0++([]:List zB).flatMap (·.l)++beL 4 1++beL 1 2++awT.data.toList++beL 1 0++beL 4 1++beL 2 5++d.l).length=47;simp only[length_append,beN_len,flatMap_nil,length_nil,d.h];rfl
theorem VQ(w:World)(q:Int)(hq:0<=q/\q<=4096)(hv:gP w) :
  Calls prog 6 #[.int .i64 q] w λe w'=>∃g F,e=.returned (.tuple #[.pointer (some ⟨g,0,none⟩),.int .i64 0])/\yX w' g F F ⟨q,[],[],[],[]⟩/\(∀x∈F,w.heap.size<=x)/\Below w.heap.size w w':=by
 refine(st_new w q hv).mono ?_;rintro e w' ⟨h1,h2⟩;rw[if_pos hq]at h1;obtain⟨g,F,h3,h4,h5⟩:=h1;exact⟨g,F,h3,h4,h5,h2⟩
theorem XA(w:World)(hv:gP w):Calls prog 8 #[] w λe w'=>e=.returned (.bool true)/\Below w.heap.size w w':=by
 have q2:=buildAwH;have q3:=buildE2;have q4:=buildE5;have q5:=buildE3;have d0:(⟨#[99,97]⟩:ByteArray)=awT:=rfl;have cP:=VY 2 w rfl;have Hv:=dH hv;clear hv;go_enter func8,ntmps8
 (go_wp2_with fail);refine cP.mono ?_;rintro e w1 ⟨s,rfl,hs,a5⟩;have Hs:=dH hs;have c5:=dH a5;have cY:=rpayload w1;clear cP hs a5;(go_wp2_with fail);refine cY.mono ?_;rintro e w2 ⟨rfl,r⟩;have c4:=dH (yK c5.out r);obtain⟨d,hd⟩:=eX (qM (VC 2))
 rw[hd];have Hd:=dH hd;have cU:=rh_put_aw w2 d;clear cY r hd;(go_wp2_with fail);refine cU.mono ?_;rintro e w3 ⟨b,rfl,r,a4⟩;have c0:=dH r;have R:=dH (yK c4.out a4);have cN:=VQ w3 100 (by decide) (Hv.out.below R.out);have G:b.size<=256/\b.size≠0:=by
  have h1:b.data.toList.length=b.size:=rfl;rw[r.1,awH_len]at h1;omega
 have k:=dH G;clear cU a4 r G;(go_wp2_with fail);refine cN.mono ?_;rintro e w4 ⟨g,F,rfl,m,hF,a3⟩;have I:=dH (yK R.out a3);have O:=dH m;have HF:=dH (show ∀x∈F,w.heap.size<=x from λx hx=>Nat.le_trans R.out.size (hF x hx));have cA:=nY w4 g F F 0 awX0 m (Hv.out.below I.out) (vP.new 100 (by decide) (by decide)) oM ⟨2,⟨#[]⟩,b,id0⟩ (by show b.size<=3000;have:=k.out;omega) zL;clear cN m hF a3;(go_wp2_with fail);refine cA.mono ?_;rintro e w5 ⟨E,Y,F5,M5,rfl,ha,A⟩;obtain⟨rfl,rfl⟩:=aw_app1 c0.out.1 k.out.2 k.out.1 ha;obtain⟨a2,a8⟩:=A.base I.out.size HF.out;have f:=aB (vP.new 100 (by decide) (by decide)) ha (by show b.size<=3000;have:=k.out;omega);have b3:=dH (I.out.trans a2);have b1:=dH (A.vars O.out (Hv.out.below I.out));have b0:=nY w5 g F5 M5 1 (awX1 d) A.st b1.out f oM ⟨5,awT,⟨#[]⟩,id0⟩ (by decide) (by decide);have N:=dH A.st;have c8:=dH a8;have b8:=dH f;clear cA ha A a2 a8 f;(go_wp2_with fail);refine b0.mono ?_;rintro e w6 ⟨E,Y,F6,M6,rfl,ha,y⟩;obtain⟨rfl,rfl⟩:=aw_app2 ha;obtain⟨a1,a7⟩:=y.base b3.out.size c8.out;have f:=aB b8.out ha (by decide);have c3:=dH (b3.out.trans a1);have b6:=dH (y.vars N.out b1.out);have cQ:=aI w6 g F6 M6 2 (ZM d) y.st f.pre oM ⟨awT,[],.t 0⟩ (mem_singleton.2 rfl);rw[aw_q2]at cQ;have cQ:Calls prog 12 #[.pointer (some ⟨g,0,none⟩),.string awT] w6 λe w'=>ZO ⟨0,0,[],[awI d],16⟩ w6 e w':=cQ;have M:=dH y.st;have c6:=dH a7;have H:=dH f;clear b0 ha y a1 a7 f;(go_wp2_with fail);refine cQ.mono ?_;rintro e w7 ⟨A7,c7,B7,d7,rfl,_,_,a0⟩;have T:=bM w7 w7.heap.size rfl (zJ xX) sI ⟨0,0,.slice A7 ([]:List jI).length c7⟩ rfl 42;have D:Below w7.heap.size w7 (w7.alloc (.cells (zJ ⟨0,0,.slice A7 ([]:List jI).length c7⟩) 42)):=bA;have j:=yK a0 D;have b2:=dH (yK c3.out j);have V:s.size=5:=by
  have:s.data.toList.length=5:=by rw[Hs.out];rfl
  exact this
 have b7:=dH V;have X:qM s.data.toList=d:=by rw[Hs.out];exact Hd.out
 have L:=dH (M.out.below j);have b5:=dH (b6.out.below j);have a9:=nY (w7.alloc (.cells (zJ ⟨0,0,.slice A7 ([]:List jI).length c7⟩) 42)) g F6 M6 2 (ZM d) L.out b5.out H.out oM ⟨3,⟨#[]⟩,s,id0⟩ (by show s.size<=3000;omega) zL;have b9:=dH X;clear cQ a0 D j V X;(go_wp2_with fail);refine a9.mono ?_;rintro e w8 ⟨E,Y,F8,M8,rfl,ha,J⟩;have a6:fW (ZM (qM s.data.toList)) ⟨3,⟨#[]⟩,s,id0⟩ E Y:=by rw[b9.out];exact ha
 obtain⟨rfl,rfl⟩:=aw_app3 Hs.out a6;obtain⟨U,b4⟩:=J.base b2.out.size c6.out;have f:=aB H.out ha (by show s.size<=3000;have:=b7.out;omega);have c2:=dH (b2.out.trans U);have cQ:=aI w8 g F8 M8 3 (awX3 s) J.st f.pre oM ⟨awT,[awI (qM s.data.toList)],.t 2⟩ (mem_singleton.2 rfl);rw[aw_q3]at cQ;have cQ:Calls prog 12 #[.pointer (some ⟨g,0,none⟩),.string awT] w8 λe w'=>ZO ⟨1,2,[],[],0⟩ w8 e w':=cQ;clear a9 ha a6 J U b4 f T;(go_wp2_with fail);refine cQ.mono ?_;rintro e w9 ⟨A9,c9,B9,d9,rfl,_,_,Z⟩;have T:=bM w9 w9.heap.size rfl (zJ xX) sI ⟨1,2,.slice A9 ([]:List jI).length c9⟩ rfl 42;have B:Below w9.heap.size w9 (w9.alloc (.cells (zJ ⟨1,2,.slice A9 ([]:List jI).length c9⟩) 42)):=bA;have c1:=dH (yK c2.out (yK Z B));clear cQ Z B;(go_wp2_with fail);go_ret;exact⟨rfl,c1.out⟩
abbrev entR(x:rO):Array Value:=jD ⟨x.k,x.t,x.b,x.c⟩
abbrev eJ(w:World)(A:Option Addr)(n:Nat)(R:List rO):Prop:=SlR w A n 35 (R.map entR)
theorem eJ.len(h:eJ w A n R):R.length=n:=by simpa using h.1
theorem eJ.get(h:eJ w A n R){i:Nat}(hi:i<n)(hR:i<R.length) :
  ∃g o,A=some ⟨g,o,none⟩/\zA w g (o+i*35) 35=some (entR R[i])/\w.cell? ⟨g,o+i*35+1,none⟩=some (.string (R[i]).t)/\w.cell? ⟨g,o+i*35+2,none⟩=some (.string (R[i]).b):=by
 obtain⟨g,o,e,hr⟩:=SlR.at_ h hi;rw[getElem_map]at hr;refine⟨g,o,e,hr,?_,?_⟩
 ·have:=zC hr (j:=1) oM;rw[this];simp[jD]
 ·have:=zC hr (j:=2) oM;rw[this];simp[jD]
structure EntsOk(w:World)(A:Option Addr)(n:Nat)(R:List rO):Prop where
 rows:eJ w A n R
 big:n<=9223372036854775807
 each:∀a∈R,a.b.size<=9223372036854775807/\a.t.size<=9223372036854775807
def FewEnts(R:List rO):Prop:=R.length<=40/\∀a∈R,a.b.size<=3000/\a.t.size<=100
def MuchRes(R:List rO)(w:World)(e:Ending)(w':World):Prop:=∃b,e=.returned (.bool b)/\(b=false->FewEnts R)/\Below w.heap.size w w'
theorem much28(w:World)(A:Option Addr)(n cap:Nat)(R:List rO)(h:EntsOk w A n R) :
  Calls prog 7 #[.slice A n cap] w λe w'=>MuchRes R w e w':=by
 have r:=h.rows.len;have hn:=h.big;have d:=h.rows;have hs:=h.each;have H:=dH r;go_enter func7,ntmps7
 (go_wp2_with fail);go_loopw [3] (λi wr=>∃k:Nat,k<=n/\k<=40/\i=.int .i64 k/\Hid (∀j (hj:j<R.length),j<k->(R[j]).b.size<=3000/\(R[j]).t.size<=100)/\Below w.heap.size w wr) (λi _=>n-(intOf i).toNat)
 case atStart=>exact⟨0,zL,oM,rfl,(show ∀j (hj:j<R.length),j<0->_ from λj _ h=>absurd h oM),Below.refl _ _⟩
 case round =>
  obtain⟨k,hk,G,rfl,hd,hb⟩:=hrel;by_cases m:k<n/\k<40
  ·obtain⟨m,B⟩:=m;obtain⟨g,o,rfl,_,F,E⟩:=eJ.get (SlR.below d hb) m oM;have y:=hs R[k] (getElem_mem oM);obtain⟨x,hx⟩:=eX (R[k]'oM)
   have Hx:=dH hx;rw[hx]at F E y;clear hx;obtain⟨L,J⟩:=y;by_cases h1:3000<x.b.size
   ·(go_wp2_with fail);go_ret;exact⟨true,rfl,nofun,hb⟩
   by_cases h2:100<x.t.size
   ·(go_wp2_with fail);go_ret;exact⟨true,rfl,nofun,hb⟩
   ·have D:∀j (hj:j<R.length),j<k+1->(R[j]).b.size<=3000/\(R[j]).t.size<=100:=λj hj M=>by
     rcases Nat.lt_or_ge j k with h3 | h3
     ·exact hd.out j hj h3
     ·obtain rfl:j=k:=oM;have:=Hx.out;rw[this];omega
    have I:=dH D;clear D hd;(go_wp2_with fail);go_roundw
    case rel=>exact⟨k+1,oM,oM,by go_num,I,hb⟩
    case measure=>exact sZ
  ·have s:n<=k\/40<=k:=oM;by_cases hm:40<n
   ·(go_wp2_with fail);go_ret;exact⟨true,yB (decide_eq_true oM),nofun,hb⟩
   ·have f:FewEnts R:=⟨oM,λa ha=>by
     obtain⟨j,hj,rfl⟩:=getElem_of_mem ha;exact hd.out j hj oM⟩
    have Hf:=dH f;clear f hd;(go_wp2_with fail);go_ret;exact⟨false,yB (decide_eq_false oM),λ_=>Hf.out,hb⟩
section
open Go.ChangeShapes Go.WideShapes Go.RowKit
theorem mS{n:String}{d:DataW Unit}{r:List (String×DataW Unit)}(h:laidMet P ((n,d) :: r) w):laidMet P r w:=by
 obtain⟨ps,⟨g,t,cs,f,p,q,_,_,_,_,hr,rfl⟩,hn,hc⟩:=h;exact⟨q,hr,(nodup_append.1 hn).2.1,λb off hm=>hc b off (mem_append_right _ hm)⟩
def pH:List (String×DataW Unit):=[("petrel/sha.first",Rows.laid_petrel_sha_first),("petrel/sha.k",Rows.laid_petrel_sha_k),("petrel/op.parts",Rows.laid_petrel_op_parts)]
theorem laid_first:(Rows.laid_petrel_sha_first:DataW Unit)=Lib.tabData .u32 (hU.map nU):=kR
theorem laid_k:(Rows.laid_petrel_sha_k:DataW Unit)=Lib.tabData .u32 (kU.map nU):=kR
theorem nU_getD(L:List UInt32)(k:Nat)(hk:k<L.length):(L.map nU).getD k 0=nU (L.getD k 0):=by
 simp[getD,hk]
theorem YN(h:laidMetH prog pH W):xY W:=by
 have h':laidMet prog pH W:=h;unfold pH at h';have h2:=mS h';rw[laid_first]at h';rw[laid_k]at h2;have hT:=Lib.tabIs_of_head (P:=prog) (g:=0) (t:=171) (e:=170) (n:=8) kR kR underlying171 underlying170 kR kR h';have d:=Lib.tabIs_of_head (P:=prog) (g:=2) (t:=244) (e:=170) (n:=64) kR kR underlying244 underlying170 kR kR h2;refine⟨λk hk=>?_,λk hk=>?_⟩
 ·rw[hT.cell (g:=0) kR k (by rw[length_map];exact hk),nU_getD _ _ (by exact hk)]
 ·rw[d.cell (g:=2) kR k (by rw[length_map];exact hk),nU_getD _ _ (by exact hk)]
def QT(P:Program)(os:Os):World :=
 (((holding P os ⟨#[],#[],[]⟩).setRow 0 ((hU.map λu=>Value.int .u32 (nU u)).toArray)).setRow 2 ((kU.map λu=>Value.int .u32 (nU u)).toArray)).setRow 1 #[.int .i64 0,.int .i64 1,.int .i64 4,.int .i64 20,.int .i64 7,.int .i64 22,.int .i64 12,.int .i64 8]
theorem QS(os:Os)(args:Array Value):laidMetH prog pH ((QT prog os).forCall (λ_ _=>0) ⟨#[],args,[]⟩).memory:=by
 show laidMet prog pH _;exact laidMet_of_run' 8 kR kR
theorem BW{enc:TypeId×Value->H}{g:Nat->Bool}{gs:List (DataW H)}{q:List MemPlace}(hV:DataW.TrodVars enc P w g [] gs q):gs = []/\q = []:=by
 cases gs with
 | nil=>exact⟨rfl,hV⟩
 | cons g r=>exact absurd hV (by intro h;cases h)
end
section
open Go.ChangeShapes Go.WideShapes Go.ChangeAt Go.RowKit Go.WideMaps Go.WideElems
theorem QK:maxLen<=9223372036854775807:=by decide
theorem opensEnt:BP prog w 33 entR (λx=>x.b.size<=9223372036854775807/\x.t.size<=9223372036854775807):=by
 intro H enc base j k m cs x h;obtain⟨xs,n,rfl,_,g,d,f⟩:=DataW.trod_struct underlying33 h;have hc:prog.cellsOf 33=35:=kR;rw[hc]at g;obtain⟨a0,h0,_⟩:=tK d f (opens_int underlying3) 0 0 1 _ rfl rfl rfl kR;obtain⟨a1,h1,k1⟩:=tK d f (iA underlying9) 1 1 1 _ rfl rfl rfl kR;obtain⟨a2,h2,k2⟩:=tK d f (iA underlying9) 2 2 1 _ rfl rfl rfl kR;obtain⟨a3,h3,_⟩:=tK d f opensId 3 3 32 _ rfl rfl rfl kR;have r:=QK;refine⟨⟨a0,a1,a2,a3⟩,?_,(by simp only;omega),(by simp only;omega)⟩;have e0:cs.drop 0=(cs.drop 0).take 1++cs.drop 1:=eP;have e1:cs.drop 1=(cs.drop 1).take 1++cs.drop 2:=eP;have e2:cs.drop 2=(cs.drop 2).take 1++cs.drop 3:=eP;have e3:cs.drop 3=(cs.drop 3).take 32++cs.drop 35:=eP;have en:cs.drop 35 = []:=drop_eq_nil_of_le oM;refine e0.trans ?_;rw[h0,e1,h1,e2,h2,e3,h3,en];simp[jD]
theorem Q5(h:laidMetH prog pH W):qH W:=by
 have h0:laidMet prog pH W:=h;unfold pH at h0;have h':laidMet prog [("petrel/op.parts",Lib.tabData .i64 [0,1,4,20,7,22,12,8])] W:=mS (mS h0);have hT:=Lib.tabIs_of_head (P:=prog) (g:=1) (t:=356) (e:=3) (n:=8) kR kR underlying356 underlying3 kR kR h';intro k hk;have hc:=hT.cell (g:=1) kR k (by simpa using hk);rw[hc];have h8:k=0\/k=1\/k=2\/k=3\/k=4\/k=5\/k=6\/k=7:=oM;rcases h8 with rfl | rfl | rfl | rfl | rfl | rfl | rfl | rfl <;> rfl
theorem JZ{enc:TypeId×Value->H}{base:Nat}{d:Nat->Bool}{f:Bool}{t0 t1 t2:TypeId}{ds:List (DataW H)}{ps:List MemPlace}(h:DataW.TrodAll enc P w base d f [t0,t1,t2] args.toList ds ps) :
  ∃(v0 v1 v2:Value) (d0 d1 d2:DataW H) (p0 p1 p2:List MemPlace),args = #[v0,v1,v2]/\ds = [d0,d1,d2]/\ps=p0++(p1++p2)/\DataW.Trod enc P w base d f t0 v0 d0 p0/\DataW.Trod enc P w base d f t1 v1 d1 p1/\DataW.Trod enc P w base d f t2 v2 d2 p2:=by
 obtain⟨v0,m,d0,t,p0,q0,g,rfl,rfl,h0,r0⟩:=Go.ChangeShapes.trodAll_cons h;obtain⟨v1,k,d1,s,p1,q1,rfl,rfl,rfl,h1,r1⟩:=Go.ChangeShapes.trodAll_cons r0;obtain⟨v2,j,d2,r,p2,q2,rfl,rfl,rfl,h2,r2⟩:=Go.ChangeShapes.trodAll_cons r1;obtain⟨rfl,rfl,rfl⟩:=Go.ChangeShapes.trodAll_nil r2;exact⟨v0,v1,v2,d0,d1,d2,p0,p1,p2,by cases args;simp_all,rfl,sI,h0,h1,h2⟩
end
section
open Go.RowKit Go.Sort Go.Maps
theorem yL.owns{ν:Type}{b:Nat}{vv:ν->Value}{M:List (ByteArray×ν)}{s:Nat}(hm:yL w b Value.string vv bU M es s)(hn:M.length<=1000000) :
  ∃D0:DataW Unit,w.ownsMap prog 9 tD b M.length D0/\Maps.size D0<=1000000/\(strKeys D0).Perm (M.map λp=>p.1.data.toList):=by
 have t:es.size=M.length:=hm.length;have f:∀e∈es.toList,∃k:ByteArray,e.key=.string k/\k.size<=maxLen:=by
  intro e he;obtain⟨j,hj,rfl⟩:=mem_iff_getElem.1 he;obtain⟨p,hp,hk,_⟩:=hm.at_key (getElem?_eq_getElem hj);exact⟨p.1,hk,hm.okk p (mem_of_getElem? hp)⟩
 have g:∀e∈es.toList,∀k:ByteArray,e.key=.string k->k.size<=maxLen->WideElems.rd prog 9 tD e=some (.string k.data.toList,.nil):=by
  intro e _ k hk d;simp[WideElems.rd,hk,keyOf,mapKey,underlying9,d,tD]
 refine⟨_,⟨es,s,hm.heap,⟨?_,?_,?_⟩,oM,rfl⟩,?_,?_⟩
 ·simp only[maxLen];omega
 ·rw[MapKept.stamped_iff];refine⟨hm.clock,hm.born,?_⟩;have r:(es.toList.map (·.key)).Pairwise (·≠·):=by
   rw[hm.keys];have h2:=hm.nodup;rw[Nodup,pairwise_map]at h2;rw[pairwise_map];exact h2.imp λh e=>h (by injection e)
  rw[pairwise_map]at r;exact r
 ·intro e he;obtain⟨k,hk,d⟩:=f e he;exact⟨_,g e he k hk d⟩
 ·show(foldr DataW.insert [] _).length<=_;rw[(WideShapes.sorted_perm _).length_eq]
  simp;omega
 ·have h1:(strKeys (DataW.map (foldr DataW.insert [] (es.toList.map (WideElems.rg prog 9 tD))))).Perm ((es.toList.map (WideElems.rg prog 9 tD)).map λp=>strOf p.1) :=
   (WideShapes.sorted_perm _).map _
  refine h1.trans ?_;have h2:((es.toList.map (WideElems.rg prog 9 tD)).map λp=>strOf p.1)=M.map λp=>p.1.data.toList:=by
   rw[map_map];apply ext_getElem?;intro n;rw[getElem?_map,getElem?_map];cases he:es.toList[n]? with
   | none =>
    have:M[n]?=none:=by
     rw[List.getElem?_eq_none_iff]at he |-;have:=hm.length;simp at he;omega
    rw[this];rfl
   | some e =>
    obtain⟨p,m,hk,_⟩:=hm.at_key he;rw[m];have hr:=g e (mem_of_getElem? he) p.1 hk (hm.okk p (mem_of_getElem? m));simp[WideElems.rg_of hr,strOf]
  rw[h2]
abbrev stR(s:ByteArray):Array Value:=#[.string s]
abbrev TsIn(w:World)(A:Option Addr)(n:Nat)(B:List ByteArray):Prop:=SlR w A n 1 (B.map stR)
theorem TsIn.get(h:TsIn w A n B){i:Nat}(hi:i<n)(hB:i<B.length):∃g o,A=some ⟨g,o,none⟩/\w.cell? ⟨g,o+i,none⟩=some (.string B[i]):=by
 obtain⟨g,o,e,hr⟩:=h.at_ hi;rw[getElem_map]at hr;have:=zC hr (j:=0) oM;exact⟨g,o,e,by simpa using this⟩
def eQ(X:StX):List ByteArray:=(((X.V.map (·.t)).map λt=>t.data.toList).mergeSort λx y=>decide (x<=y)).map mkB
theorem aD(X:StX):(eQ X).Perm (X.V.map (·.t)):=by
 unfold eQ;refine((mergeSort_perm _ _).map mkB).trans ?_;rw[map_map];refine Perm.of_eq ?_;conv=>rhs;rw[<-map_id (X.V.map (·.t))]
 exact map_congr_left λt _=>rfl
theorem J9(L:List ByteArray):(L.map stR).flatMap Array.toList=L.map Value.string:=by
 induction L with
 | nil=>rfl
 | cons x L ih=>rw[map_cons,flatMap_cons,ih];rfl
theorem st_subs(w:World)(g:Nat)(F M:List Nat)(X:StX)(h:yX w g F M X)(hn:X.V.length<=1000000) :
  Calls prog 11 #[.pointer (some ⟨g,0,none⟩)] w λe w'=>∃A c,e=.returned (.slice A (eQ X).length c)/\Own w' w.heap.size 9 1 A (eQ X).length c ((eQ X).map stR)/\Below w.heap.size w w':=by
 obtain⟨gd,gs,bo,bv,Fd,Fs,N,h⟩:=h.sp;have c0:w.cell? ⟨g,0,none⟩=some (.pointer (some ⟨gd,0,none⟩)):=by rw[cell_of_row w g 0 _ _ _ h.st.heap];rfl
 have c3:w.cell? ⟨g,3,none⟩=some (.map (some bv)):=by rw[cell_of_row w g 3 _ _ _ h.st.heap];rfl
 have cN:=eV w g gd c0;obtain⟨R,es,H,hm,hp⟩:=h.st.vs;have m:=K9 hp h.st.vx;have G:R.length=X.V.length:=by have:=m.length_eq;simpa using this
 obtain⟨D0,j,D,d⟩:=yL.owns hm oM;have c1:=callsIn_wide.1 (maps_Keys_41 (some bv) w);have c2:=callsIn_wide.1 (slices_Sorted_keys_40_41 bv R.length D0 tD w j (by simp only[maxLen];omega) oM);have k:(strKeys D0).Perm ((X.V.map (·.t)).map λt=>t.data.toList):=by
  refine d.trans ?_;have:=m.map (λt:ByteArray=>t.data.toList);rw[map_map]at this;exact this
 have r:=dH k;clear h hm hp m G j D d k;go_enter func11,ntmps11
 (go_wp2_with fail);refine cN.mono ?_;rintro e w1 ⟨rfl,rfl⟩;clear cN;(go_wp2_with fail);refine c1.mono ?_;rintro e w' ⟨rfl,rfl⟩;(go_wp2_with fail);refine c2.mono ?_;rintro e w' ⟨v,ss,rfl,hS,f,E,hb⟩;(go_wp2_with fail);go_ret;have B:=hS.trans r.out;have e1:(ss.mergeSort λx y=>decide (x<=y))=(((X.V.map (·.t)).map λt=>t.data.toList).mergeSort λx y=>decide (x<=y)):=mergeSort_of_perm B;have e2:(ss.mergeSort λx y=>decide (x<=y)).map encStr=(eQ X).map Value.string:=by
  rw[e1];unfold eQ;generalize (((X.V.map (·.t)).map λt=>t.data.toList).mergeSort λx y=>decide (x<=y))=S;rw[map_map];rfl
 have e3:ss.length=(eQ X).length:=by rw[(aD X).length_eq,B.length_eq,length_map,length_map]
 rw[e2,e3]at f;have s:Below w.heap.size w (w.alloc (.cells #[.map (some bv)] 67)):=bA;obtain⟨r1,r2⟩:=f;rw[<-J9]at r2;rcases r2 with⟨rfl,h0⟩ | ⟨q,cap,cur,rfl,hq,rest⟩
 ·refine⟨none,0,by rw[h0];rfl,⟨⟨?_,.inl ⟨by rw[h0],h0⟩⟩,length_map _,λc hc=>?_⟩,yK s hb⟩
  ·rw[J9];exact r1
  ·obtain⟨x,_,rfl⟩:=mem_map.1 hc;rfl
 ·refine⟨some ⟨q,0,none⟩,cap,rfl,⟨⟨?_,.inr ⟨q,cap,cur,rfl,by simp at hq;omega,rest⟩⟩,length_map _,λc hc=>?_⟩,yK s hb⟩
  ·rw[J9];exact r1
  ·obtain⟨x,_,rfl⟩:=mem_map.1 hc;rfl
end
def lU(X:StX)(t:ByteArray):QA:=match vwOf X t with | some v=>sP X v | none=>⟨0,0,[],[],15⟩
theorem ja(h:t∈X.V.map (·.t)):∃v∈X.V,v.t=t/\lU X t=sP X v:=by
 cases e:vwOf X t with
 | none =>
  unfold vwOf at e;rw[find?_eq_none]at e;obtain⟨v,hv,ht⟩:=mem_map.1 h;exact absurd (decide_eq_true ht) (e v hv)
 | some v =>
  unfold vwOf at e;exact⟨v,mem_of_find?_eq_some e,by simpa using find?_some e,by unfold lU vwOf;rw[e]⟩
theorem ks(X:StX)(c:zB):(qU X c).V=X.V/\(qU X c).D=X.D:=by unfold qU;split <;> exact⟨rfl,rfl⟩
theorem qryT_evict(X:StX)(c:zB)(t:ByteArray):lU (qU X c) t=lU X t:=by
 obtain⟨h1,h2⟩:=ks X c;unfold lU vwOf;rw[h1];cases X.V.find? λv=>decide (v.t=t)with
 | none=>rfl
 | some v=>show sP (qU X c) v=sP X v;unfold sP dD;rw[h2]
theorem appS_evict(a:fW X ⟨4,⟨#[]⟩,⟨#[]⟩,c⟩ E Y):E=gK X c/\Y=qU X c:=by
 have he:b9 ⟨4,⟨#[]⟩,⟨#[]⟩,c⟩=0:=by
  unfold b9;rw[if_neg (by dsimp only;omega),if_neg (by dsimp only;simp;decide),if_neg (by dsimp only;omega),if_neg (by dsimp only;omega),if_neg (by dsimp only;omega)]
 unfold fW at a;rw[if_neg (by rw[he];decide),if_neg (by dsimp only;omega),if_neg (by dsimp only;omega),if_pos rfl]at a;exact a
theorem evict_held(h:c∈X.S.map (·.c)):(gK X c=1/\c∈(qU X c).S.map (·.c))\/(gK X c=0/\c∉(qU X c).S.map (·.c)):=by
 have e:gK X c=if nJ X c then 1 else 0:=if_pos h;cases hm:nJ X c with
 | true =>
  rw[hm]at e;refine .inl ⟨e,?_⟩;rw[show qU X c=X from if_neg (by rw[e];decide)];exact h
 | false =>
  rw[hm]at e;refine .inr ⟨e,?_⟩;rw[show qU X c=⟨X.q,X.D,X.O,vU X.S c,X.V⟩ from if_pos e];show c∉(vU X.S c).map (·.c);intro hc;obtain⟨p,hp,rfl⟩:=mem_map.1 hc;unfold vU at hp;exact(of_decide_eq_true (mem_filter.1 hp).2) rfl
theorem VP(w:World)(g:Nat)(F M:List Nat)(n:Nat)(X:StX)(h:yX w g F M X)(hX:vV n X)(hn:n<=800)(t:ByteArray)(ht:t∈X.V.map (·.t)) :
  Calls prog 12 #[.pointer (some ⟨g,0,none⟩),.string t] w λe w'=>ZO (lU X t) w e w':=by
 obtain⟨v,hv,rfl,e⟩:=ja ht;rw[e];exact aI w g F M n X h hX hn v hv
theorem K7{g:Nat}{F M:List Nat}(h:yX w g F M X)(hX:vV n X)(hn:n<=800)(ht:t∈X.V.map (·.t)):(lU X t).ps.length<=1000/\(lU X t).l.length<=1000:=by
 obtain⟨v,hv,rfl,e⟩:=ja ht;rw[e];obtain⟨hk,hl⟩:=hX.view hv;obtain⟨gd,gs,bo,bv,Fd,Fs,N,h⟩:=h.sp;rw[<-h.st.vx]at hv;obtain⟨p,hp,rfl⟩:=mem_map.1 hv;have h1:=pairs_lenQ p.1.s (h.st.vw p hp).st;have h2:(dD X p.1).length<=X.D.length:=Nat.le_trans (length_filter_le _ _) (eO _);have h3:=hX.len;unfold sP;split
 ·exact⟨by show p.1.s.pairs.length<=1000;omega,sI⟩
 ·exact⟨sI,by show(dD X p.1).length<=1000;omega⟩
structure QRow where
 A:Option Addr
 c:Nat
 B:Option Addr
 d:Nat
abbrev qRowV(q:QA)(z:QRow):Array Value:=zJ ⟨q.k,q.n,.slice z.A q.ps.length z.c⟩
abbrev qRowL(q:QA)(z:QRow):Array Value:=#[.slice z.B q.l.length z.d]
structure QIn(w:World)(S:List Nat)(q:QA)(z:QRow):Prop where
 p:fV w z.A q.ps.length q.ps
 l:zX w z.B q.l.length q.l
 out:∀y∈blk z.A++blk z.B,y∉S/\y<w.heap.size
theorem QIn.kept{w w':World}{S S' T:List Nat}{q:QA}{z:QRow}(h:QIn w S q z)(k:z9 T w w')(hT:∀y∈T,y∈S\/w.heap.size<=y)(hS:∀y∈S',y∈S\/w.heap.size<=y):QIn w' S' q z:=by
 have hn:∀y∈blk z.A++blk z.B,y∉T:=λy hy d=>by
  obtain⟨h1,h2⟩:=h.out y hy;rcases hT y d with e | e
  ·exact h1 e
  ·omega
 refine⟨SlR.kept h.p k λy hy=>hn y (mem_append_left _ hy),SlR.kept h.l k λy hy=>hn y (mem_append_right _ hy),λy hy=>⟨λf=>?_,Nat.lt_of_lt_of_le (h.out y hy).2 k.size⟩⟩;obtain⟨h1,h2⟩:=h.out y hy;rcases hS y f with e | e
 ·exact h1 e
 ·omega
theorem BH:yR prog 38 42 3 40 :=
 .of (z:=.agg (zJ xX)) underlying38 kR kR kR (jP _) oM
theorem einfoLists:yR prog 39 34 1 24 :=
 .of (z:=.slice none 0 0) underlying39 kR kR kR rfl oM
@[go_sem ↓] theorem bsVals_rw(n:Nat)(parts:Array (Nat×Value)):Instr.buildSlice 38 n parts=bsS 38 n parts:=rfl
@[go_sem] theorem bsVals_run(w:World)(x:ZN):(bsS 38 1 #[(0,.agg (zJ x))]).run prog w=.ok (.slice (some ⟨w.heap.size,0,none⟩) 1 1) (w.alloc (.cells (zJ x) 42)) :=
 fK BH oM w (zJ x) (jP x)
theorem buildE4(c:zB)(w:World):(bdS 33 #[(0,.int .i64 4),(3,.agg (idC c))]).run prog w=.ok (.agg (jD ⟨4,⟨#[]⟩,⟨#[]⟩,c⟩)) w:=by
 have h:=yp 4 c w;exact h
theorem sto_len:∀ {S:List Pay},(∀p∈S,1<=p.body.size)->S.length<=xK S
 | [],_=>lR
 | p :: S,h=>by
  have h1:=sto_len λx hx=>h x (mem_cons_of_mem p hx);have h2:=h p sI;have h3:xK (p :: S)=p.body.size+xK S:=by simp[xK]
  rw[length_cons,h3];omega
theorem vP.lenS(h:vP n X):X.S.length<=1000000:=Nat.le_trans (sto_len λp hp=>(h.body p hp).2.1) h.small
theorem YL(q:Int)(a:Nat)(ha:a<=255)(w:World)(A:Option Addr)(n cap:Nat)(R:List rO)(h:EntsOk w A n R)(hv:gP w) :
  Calls prog 3 #[.int .i64 q,.slice A n cap,.int .u8 a] w λe w'=>e=.returned (.bool true)/\Below w.heap.size w w':=by
 by_cases hq:0<=q/\q<=4096
 rotate_left
 ·have cN:Calls prog 6 #[.int .i64 q] w λe w'=>e=.returned (.tuple #[.pointer none,.int .i64 1])/\Below w.heap.size w w':=(st_new w q hv).mono λe w' ⟨h1,h2⟩=>(by rw[if_neg hq]at h1;exact⟨h1,h2⟩);have Hv:=dH hv;clear hq hv h;go_enter func3,ntmps3
  (go_wp2_with fail);refine cN.mono ?_;rintro e w1 ⟨rfl,f7⟩;have j7:=dH f7;clear cN f7;have cW:=XA w1 (Hv.out.below j7.out);(go_wp2_with fail);refine cW.mono ?_;rintro e wz ⟨rfl,D⟩;have HZ:=dH (Below.trans (j7.out) (D.mono (Below.size (j7.out))));clear cW D;(go_wp2_with fail);go_ret;exact⟨rfl,HZ.out⟩
 have cN:=VQ w q hq hv;have Hv:=dH hv;have H:=dH h;have Hq:=dH hq;clear hq hv h;go_enter func3,ntmps3
 (go_wp2_with fail);refine cN.mono ?_;rintro e w1 ⟨g,F0,rfl,g4,p6,f7⟩;have cM:=much28 w1 A n cap R ⟨SlR.below H.out.rows f7,H.out.big,H.out.each⟩;have j3:=dH g4;have q8:=dH p6;have j7:=dH f7;clear cN g4 p6 f7;(go_wp2_with fail);refine cM.mono ?_;rintro e w2 ⟨z,rfl,hz,m8⟩;have j6:=dH (yK j7.out m8);have j1:=dH (j3.out.below m8);clear cM m8;cases z with
 | true =>
  clear hz;have cW:=XA w2 (Hv.out.below j6.out);(go_wp2_with fail);refine cW.mono ?_;rintro e wz ⟨rfl,D⟩;have HZ:=dH (Below.trans (j6.out) (D.mono (Below.size (j6.out))));clear cW D;(go_wp2_with fail);go_ret;exact⟨rfl,HZ.out⟩
 | false =>
  have j4:=dH (hz rfl);clear hz;have n2:R.length=n:=H.out.rows.len;have r4:n<=40:=by rw[<-n2];exact j4.out.1
  have o3:=dH n2;clear n2;go_upto_region 5 with fail
  go_loopw [9] (λiv wr=>∃(k:Nat) (X:StX) (F M:List Nat),k<=n/\iv=.int .i64 k/\Hid (yX wr g F M X)/\Hid (vP k X)/\Hid (∀x∈F,w.heap.size<=x)/\Hid (gP wr)/\Hid (Below w.heap.size w wr)) (λiv _=>n-(intOf iv).toNat)
  case atStart=>exact⟨0,_,F0,F0,zL,rfl,j1,dH (vP.new q Hq.out.1 Hq.out.2),q8,dH (Hv.out.below j6.out),j6⟩
  case round =>
   obtain⟨k,X,F,M,hk,rfl,b0,b7,hF,j8,hb⟩:=hrel;by_cases Z:k<n
   ·obtain⟨q1,o,rfl,b6,_,_⟩:=eJ.get (SlR.below H.out.rows hb.out) Z (by rw[o3.out];exact Z);have b9:=j4.out.2 (R[k]'(by rw[o3.out];exact Z)) (getElem_mem _);obtain⟨x,hx⟩:=eX (R[k]'(by rw[o3.out];exact Z))
    rw[hx]at b6 b9;have cA:=nY wr g F M k X b0.out j8.out b7.out oM x b9.1 oM;have n9:=dH b9;clear hx b9;obtain⟨xk,xt,xb,xc⟩:=x;(go_wp2_with fail);refine cA.mono ?_;rintro e w5 ⟨E,Y,F5,M5,rfl,f8,k4⟩;obtain⟨d4,p5⟩:=k4.base hb.out.size hF.out;have s9:=dH (aB b7.out f8 n9.out.1);have J:=dH k4.st;have t3:=dH p5;have n6:=dH (k4.vars b0.out j8.out);have l0:=dH (hb.out.trans d4);clear cA f8 k4 d4 p5;(go_wp2_with fail);go_roundw
    case rel=>exact⟨k+1,Y,F5,M5,oM,by go_num,J,s9,t3,n6,l0⟩
    case measure=>exact sZ
   ·have r6:k<=40:=oM;have cH:=st_held wr g F M X b0.out b7.out.lenS;clear j3 j1 q8;(go_wp2_with fail);refine cH.mono ?_;rintro e w3 ⟨A3,c3,rfl,i0,k8⟩;have l1:=dH (yK hb.out k8);have f3:=dH (b0.out.below k8);have n7:=dH (j8.out.below k8);clear cH k8 b0 j8;by_cases h0:X.S.length=0
    ·have e0:((X.S.length:Int)==0)=true:=by simp[h0]
     clear h0;have cW:=XA w3 (n7.out);(go_wp2_with fail);refine cW.mono ?_;rintro e wz ⟨rfl,D⟩;have HZ:=dH (Below.trans (l1.out) (D.mono (Below.size (l1.out))));clear cW D;(go_wp2_with fail);go_ret;exact⟨rfl,HZ.out⟩
    ·have e0:((X.S.length:Int)==0)=false:=by rw[beq_eq_false_iff_ne];omega
     obtain⟨s,o9,hs⟩:∃s:Nat,(a:Int) % (X.S.length:Int)=(s:Int)/\s<X.S.length:=⟨a % X.S.length,sI,Nat.mod_lt _ oM⟩
     rcases i0.addr with rfl | ⟨q1,rfl⟩
     ·have:=(i0.cap_le.2 rfl).1;omega
     have o8:=i0.cap_le.1;obtain⟨t6,o,eq,b6⟩:=zX.get i0.slr (i:=s) hs (by simpa using hs);injection eq with eq;injection eq with s4 s3
     subst s4;subst s3;obtain⟨C,hC⟩:=eX ((X.S.map (·.c))[s]'(by simpa using hs))
     have p8:C∈X.S.map (·.c):=by rw[<-hC];exact getElem_mem _
     rw[Nat.zero_add,hC]at b6;have t4:=dH p8;obtain⟨SL,k9⟩:=eX X.S.length
     rw[k9]at e0 o9 hs o8 h0;rw[k9];have t2:=dH k9;clear hC p8 i0 k9;go_upto_region 11 with fail
     have T:Below w3.heap.size w3 (w3.alloc (.cells (idC C) 31)):=bA;have g6:zA (w3.alloc (.cells (idC C) 31)) w3.heap.size 0 32=some (idC C):=by simp[go_sem]
     have m7:=yK l1.out T;have a9:=f3.out.below T;have l5:=n7.out.below T;go_upto_region 12 with fail
     obtain⟨W4,p0⟩:=eR (w3.alloc (.cells (idC C) 31))
     obtain⟨gc,o7⟩:=eX w3.heap.size
     rw[<-p0]at g6 m7 a9 l5 |-;rw[o7]at g6 |-;have cS:=st_subs W4 g F M X a9 (Nat.le_trans b7.out.lv oM);have f2:=dH a9;have p9:=dH l5;have q5:=dH m7;have o0:=dH (show gc∉F from λhx=>oH (f3.out.lt gc hx));clear p0 o7 T a9 l5 m7 b6 e0 o9 hs o8 h0 t2 Z hk;(go_wp2_with fail);refine cS.mono ?_;rintro e w5 ⟨A5,c5,rfl,k0,d4⟩;obtain⟨L,hL⟩:=eX (eQ X)
     have p3:∀t∈L,t∈X.V.map (·.t):=λt ht=>(aD X).mem_iff.1 (by rw[hL];exact ht);have s1:L.length<=8:=by rw[<-hL,(aD X).length_eq,length_map];exact b7.out.lv
     rw[hL]at k0 |-;have g3:TsIn w5 A5 L.length L:=k0.slr;have o4:=dH (show ∀y∈blk A5,y∉F from λy hy g0=>by have h1:=(k0.at_base hy).1;have h2:=f2.out.lt y g0;omega);have d9:=((z9.of_below d4).row (zE g6) sI _ _).trans g6;have J:=dH (f2.out.below d4);have n6:=dH (p9.out.below d4);have l0:=dH (yK q5.out d4);have q6:=dH p3;clear cS d4 g6 k0 hL p3 f3 n7 l1 f2 p9 q5;go_upto_region 16 with fail
     go_loopw [13,14,15] (λvv lv iv wr=>∃(k:Nat) (A:Option Addr) (cA:Nat) (B:Option Addr) (cB:Nat) (RV RL:List (Array Value)),k<=L.length/\iv=.int .i64 k/\vv=.slice A k cA/\lv=.slice B k cB/\Own wr w5.heap.size 42 3 A k cA RV/\Own wr w5.heap.size 34 1 B k cB RL/\Hid (∀j,j<k->∃z,RV[j]?=some (qRowV (lU X (L.getD j ⟨#[]⟩)) z)/\RL[j]?=some (qRowL (lU X (L.getD j ⟨#[]⟩)) z)/\QIn wr (F++(blk A++blk B)) (lU X (L.getD j ⟨#[]⟩)) z)/\Hid (∀y∈blk A,y∉blk B)/\Hid (Below w5.heap.size w5 wr)) (λ_ _ iv _=>L.length-(intOf iv).toNat)
     case atStart=>exact⟨0,none,0,none,0,[],[],zL,rfl,rfl,rfl,Own.nil _ _ _ _,Own.nil _ _ _ _,(show ∀j,j<0->_ from λj hj=>absurd hj oM),dH (by simp[blk]),dH (Below.refl _ _)⟩
     case round =>
      obtain⟨k2,A,cA,B,cB,RV,RL,t9,rfl,rfl,rfl,d2,d1,N,k1,a6⟩:=hrel;by_cases Z:k2<L.length
      ·obtain⟨q2,o2,rfl,ht⟩:=TsIn.get (SlR.below g3 a6.out) Z Z;have d6:=q6.out _ (getElem_mem Z);have e6:L.getD k2 ⟨#[]⟩=L[k2]'Z:=by rw[getD_eq_getElem?_getD,getElem?_eq_getElem Z];rfl
       obtain⟨t,g1⟩:=eX (L[k2]'Z)
       rw[g1]at ht d6 e6;have cQ:=VP _ g F M k X (J.out.below a6.out) b7.out.pre oM t d6;obtain⟨b5,b4⟩:=K7 J.out b7.out.pre oM d6;obtain⟨Q,hQ⟩:=eX (lU X t)
       rw[hQ]at cQ b5 b4;have HQ:=dH (show lU X (L.getD k2 ⟨#[]⟩)=Q by rw[e6];exact hQ);clear g1 e6 hQ;obtain⟨qk,qn,d,ql,qe⟩:=Q;(go_wp2_with fail);refine cQ.mono ?_;rintro e w7 ⟨PA,pc,PB,pd,rfl,g9,h4,i5⟩;have b0:=bM w7 w7.heap.size rfl (zJ xX) sI ⟨qk,qn,.slice PA d.length pc⟩ rfl 42;have T:Below w7.heap.size w7 (w7.alloc (.cells (zJ ⟨qk,qn,.slice PA d.length pc⟩) 42)):=bA;have d7:zA (w7.alloc (.cells (zJ ⟨qk,qn,.slice PA d.length pc⟩) 42)) w7.heap.size 0 3=some (zJ ⟨qk,qn,.slice PA d.length pc⟩):=by simp[go_sem]
       have f:=g9.below T;have m:=h4.below T;have G:=yK i5 T;clear cQ;go_upto_region 19 with fail
       obtain⟨W8,i6⟩:=eR (w7.alloc (.cells (zJ ⟨qk,qn,.slice PA d.length pc⟩) 42))
       obtain⟨g7,k6⟩:=eX w7.heap.size
       rw[<-i6]at d7 f m G |-;rw[k6]at d7 |-;clear i6 b0 T g9 h4 i5;have i4:Below W8.heap.size W8 (W8.alloc (.cells (zJ ⟨qk,qn,.slice PA d.length pc⟩) 42)):=bA;have h8:=d2.below (yK G i4);have c4:zA (W8.alloc (.cells (zJ ⟨qk,qn,.slice PA d.length pc⟩) 42)) W8.heap.size 0 3=some (zJ ⟨qk,qn,.slice PA d.length pc⟩):=by simp[go_sem]
       have q9:=a6.out.size;have r1:=G.size;go_upto_region 20 with(at_builtin;refine xN BH rfl h8 rfl c4 (kT _ rfl) oM oM sO ?_;intro A2 s7 w9 e2 e5 a1)
       have a5:Below wr.heap.size wr (W8.alloc (.cells (zJ ⟨qk,qn,.slice PA d.length pc⟩) 42)):=yK G i4;have h6:=(d1.below a5).kept e5 (λx hx a8=>k1.out x a8 hx);have c1:∀y∈blk A,y<wr.heap.size:=λy hy=>(d2.at_base hy).2;have a7:∀y∈blk B,y<wr.heap.size:=λy hy=>(d1.at_base hy).2;have r7:=a5.size;have e3:∀y∈blk A2,y∉blk B:=λy hy f6=>by
        rcases a1 y hy with e | e
        ·exact k1.out y e f6
        ·have:=a7 y f6;omega
       have g8:=(f.below i4).kept e5 (λx hx a8=>by have h1:=(f.at_base hx).1;have h2:=c1 x a8;omega);have h3:=(m.below i4).kept e5 (λx hx a8=>by have h1:=(m.at_base hx).1;have h2:=c1 x a8;omega);have r0:=e5.size;have c0:Below w5.heap.size w5 w9:=(a6.out.trans (a5.mono a6.out.size)).trans (e5.below (B:=w5.heap.size) oM (λx hx=>(d2.at_base hx).1));have e7:Below w9.heap.size w9 (w9.alloc (.cells #[.slice PB ql.length pd] 34)):=bA;have d0:=h6.below e7;have a4:zA (w9.alloc (.cells #[.slice PB ql.length pd] 34)) w9.heap.size 0 1=some #[.slice PB ql.length pd]:=by simp[go_sem]
       have m1:∀u∈(#[Value.slice PB ql.length pd]:Array Value).toList,u.oneCell'=true:=by simp[Value.oneCell']
       go_wp2_with (at_builtin;refine xN einfoLists rfl d0 rfl a4 m1 oM oM sO ?_;intro B2 s6 f9 m3 e4 a0)
       have e9:=λy=>λhy=>f.at_base (x:=y) hy;have e8:=λy=>λhy=>m.at_base (x:=y) hy;have l9:W8.heap.size+1=(W8.alloc (.cells (zJ ⟨qk,qn,.slice PA d.length pc⟩) 42)).heap.size:=sI;have l8:w9.heap.size+1=(w9.alloc (.cells #[.slice PB ql.length pd] 34)).heap.size:=sI;have d5:=λy=>λhy=>(e2.at_base (x:=y) hy).2;have m5:=(e2.below e7).kept e4 (λy hy f6=>e3 y hy f6);have K:z9 (blk A++blk B) wr f9:=z9.trans (z9.trans (z9.trans ((z9.of_below a5).mono (S':=blk A++blk B) sI) (e5.mono (S':=blk A++blk B) (λy hy=>.inl (mem_append_left _ hy))) (λy hy=>.inl hy)) ((z9.of_below e7).mono (S':=blk A++blk B) sI) (λy hy=>.inl hy)) (e4.mono (S':=blk A++blk B) (λy hy=>.inl (mem_append_right _ hy))) (λy hy=>.inl hy);have n1:∀y∈blk A2++blk B2,y∈blk A++blk B\/W8.heap.size<=y:=λy hy=>by
        rcases mem_append.1 hy with hy | hy
        ·rcases a1 y hy with e | e
         ·exact .inl (mem_append_left _ e)
         ·exact .inr oM
        ·rcases a0 y hy with e | e
         ·exact .inl (mem_append_right _ e)
         ·exact .inr oM
       have i1:∀y∈blk A2,y∉blk B2:=λy hy f6=>by
        rcases a0 y f6 with e | e
        ·exact e3 y hy e
        ·have:=d5 y hy;omega
       have c7:=(g8.below e7).kept e4 (λx hx a8=>by have h1:=(e9 x hx).1;have h2:=a7 x a8;omega);have c9:=(h3.below e7).kept e4 (λx hx a8=>by have h1:=(e8 x hx).1;have h2:=a7 x a8;omega);have o6:=e4.size;have hq:QIn f9 (F++(blk A2++blk B2)) ⟨qk,qn,d,ql,qe⟩ ⟨PA,pc,PB,pd⟩:=by
        refine⟨c7.slr,c9.slr,λy hy=>?_⟩;have t7:wr.heap.size<=y/\y<W8.heap.size:=by
         rcases mem_append.1 hy with hy | hy
         ·exact e9 y hy
         ·exact e8 y hy
        refine⟨λl3=>?_,oM⟩;rcases mem_append.1 l3 with g0 | l3
        ·have:=J.out.lt y g0;omega
        rcases n1 y l3 with e | e
        ·rcases mem_append.1 e with e | e
         ·have:=c1 y e;omega
         ·have:=a7 y e;omega
        ·omega
       have i7:=d2.len;have i9:=d1.len;have a3:∀j,j<k2+1->∃z,(RV ++ [zJ ⟨qk,qn,.slice PA d.length pc⟩])[j]?=some (qRowV (lU X (L.getD j ⟨#[]⟩)) z)/\(RL ++ [#[.slice PB ql.length pd]])[j]?=some (qRowL (lU X (L.getD j ⟨#[]⟩)) z)/\QIn f9 (F++(blk A2++blk B2)) (lU X (L.getD j ⟨#[]⟩)) z:=λj hj=>by
        rcases Nat.lt_or_ge j k2 with h | h
        ·obtain⟨z,z1,z2,z3⟩:=N.out j h;refine⟨z,by rw[getElem?_append_left oM];exact z1,by rw[getElem?_append_left oM];exact z2,z3.kept K (λy hy=>.inl (mem_append_right _ hy)) (λy hy=>(mem_append.1 hy).elim (λhy=>.inl (mem_append_left _ hy)) (λhy=>(n1 y hy).imp (λe=>mem_append_right _ e) (λe=>oM)))⟩
        ·obtain rfl:j=k2:=oM;refine⟨⟨PA,pc,PB,pd⟩,?_,?_,?_⟩
         ·rw[HQ.out,getElem?_append_right oM,i7,Nat.sub_self];rfl
         ·rw[HQ.out,getElem?_append_right oM,i9,Nat.sub_self];rfl
         ·rw[HQ.out];exact hq
       have d3:Below w5.heap.size w5 f9:=(c0.trans (e7.mono c0.size)).trans (e4.below (B:=w5.heap.size) (oH c0.size) (λx hx=>(d1.at_base hx).1));have f5:=dH a3;have n8:=dH i1;have j5:=dH d3;clear a3 i1 d3 hq n1 K c7 c9 e9 e8 g8 h3 f m a1 a0 e5 e4 d2 d1 h8 h6 e2 d0 c4 a4 G i4 a5 e7 c0 c1 a7 e3 l9 l8 d5 N i7 i9;(go_wp2_with fail);go_roundw
       case rel=>exact⟨k2+1,A2,s7,B2,s6,_,_,oM,by go_num,rfl,rfl,m5,m3,f5,n8,j5⟩
       case measure=>exact sZ
      ·have r5:k2=L.length:=oM;subst r5;have d8:=((z9.of_below a6.out).row (zE d9) sI _ _).trans d9;have o1:=dH (l0.out.trans (a6.out.mono l0.out.size));have f1:=dH (J.out.below a6.out);have n5:=dH (n6.out.below a6.out);have r2:=buildE4 C;have cA:=nY wr g F M k X f1.out n5.out b7.out oM ⟨4,⟨#[]⟩,⟨#[]⟩,C⟩ (by show(0:Nat)<=3000;omega) (by show(0:Nat)<=1000000;omega);have p4:∀y∈blk A++blk B,y∉F:=λy hy g0=>by
        have h1:=J.out.lt y g0;rcases mem_append.1 hy with hy | hy
        ·have:=(d2.at_base hy).1;omega
        ·have:=(d1.at_base hy).1;omega
       have q7:=dH p4;clear p4;(go_wp2_with fail);refine cA.mono ?_;rintro e w7 ⟨E,Y,F7,M7,rfl,f8,b8⟩;obtain⟨rfl,rfl⟩:=appS_evict f8;have h5:=aB b7.out f8 (by show(0:Nat)<=3000;omega);obtain⟨i5,s2⟩:=b8.base o1.out.size hF.out;have m4:=d2.kept b8.kp (λy hy=>q7.out y (mem_append_left _ hy));have m2:=d1.kept b8.kp (λy hy=>q7.out y (mem_append_right _ hy));have a2:∀j,j<L.length->∃z,RV[j]?=some (qRowV (lU X (L.getD j ⟨#[]⟩)) z)/\RL[j]?=some (qRowL (lU X (L.getD j ⟨#[]⟩)) z)/\QIn w7 (F++(blk A++blk B)) (lU X (L.getD j ⟨#[]⟩)) z:=λj hj=>by
        obtain⟨z,z1,z2,z3⟩:=N.out j hj;exact⟨z,z1,z2,z3.kept b8.kp (λy hy=>.inl (mem_append_left _ hy)) (λy hy=>.inl hy)⟩
       have i2:=o0.out;have g5:=(b8.kp.row (zE d8) i2 _ _).trans d8;have g2:TsIn wr A5 L.length L:=SlR.below g3 a6.out;have l6:TsIn w7 A5 L.length L:=SlR.kept g2 b8.kp o4.out;have f0:=dH b8.st;have c2:=dH h5;have q4:=dH (o1.out.trans (i5.mono (by exact lR)));have s8:=dH (b8.vars f1.out n5.out);have m6:=evict_held t4.out;obtain⟨E,hE⟩:=eX (gK X C)
       rw[hE]at m6 |-;have q0:=dH m6;have f4:=dH a2;clear hE m6 a2 b8 h5 i5 s2 f8 cA N i2 g2 d8 d2 d1 a6 d9;go_upto_region 22 with fail
       have cH:=fun (V:World) (hV:Below w7.heap.size w7 V)=>st_held V g F7 M7 (qU X C) (f0.out.below hV) c2.out.lenS;have p1:(qU X C).S.length<=1000000:=c2.out.lenS;have cK:=fun (V:World) (A:Option Addr) (c:Nat) (hT:zX V A (qU X C).S.length ((qU X C).S.map (·.c)))=>rhas6 V A (qU X C).S.length c ((qU X C).S.map (·.c)) C hT oM;obtain⟨hz,k5⟩:=eX (decide (C∈(qU X C).S.map (·.c)))
       rw[k5]at cK;have p7:(E=1/\hz=true)\/(E=0/\hz=false):=by
        rcases q0.out with⟨h1,h2⟩ | ⟨h1,h2⟩
        ·exact .inl ⟨h1,by rw[<-k5];exact decide_eq_true h2⟩
        ·exact .inr ⟨h1,by rw[<-k5];exact decide_eq_false h2⟩
       obtain⟨SN,p2⟩:=eX ((qU X C).S.length)
       rw[p2]at cH cK p1;clear k5 p2 q0
       go_cut [106] (λv wx=>v=.bool false/\Below w7.heap.size w7 wx)
       case first =>
        rcases p7 with⟨rfl,rfl⟩ | ⟨rfl,rfl⟩
        all_goals
         refine j2 (.loose 0 (.loose 1 (.loose 2 (.loose 3 (.loose 4 (.loose 5 (.loose 6 (.loose 7 (.loose 8 (.loose 9 (.loose 11 (.one 10 (.one 12 (.loose 13 (.loose 14 .done))))))))))))))) (Bel w7) false kR kR kR kR (xR w7) ?_;have k1:=dJ w7;have hS:=xR w7;have b1:=zS g5;refine tZ ?_;refine tH ?_;intro K hK;refine(cH _ hS).mono ?_;rintro e w8 ⟨A8,c8,rfl,r3,G⟩;have H8:=dH (xL hS G);have s5:=cK w8 A8 c8 r3.slr;refine⟨_,rfl,H8.out,hK _ _ ?_⟩;clear hK K hS;have hS:=H8.out;refine tH ?_;intro K hK;refine s5.mono ?_;rintro e w9 ⟨rfl,k7⟩;have H9:=dH (xL H8.out k7);refine⟨_,rfl,H9.out,hK _ _ ?_⟩;clear hK K hS;have hS:=H9.out;refine tZ ?_;refine vH ?_;intro hS;go_wp2_with fail
         go_meet
         exact⟨rfl,H9.out⟩
       case rest =>
       obtain⟨rfl,D⟩:=hcut;obtain⟨V,rfl⟩:=eR wc
       have t0:=dH D;clear D cH cK p7 p1 g5 r2 n5 f1 o1;have s0:=s1;go_upto_region 25 with fail
       go_loopw [20] (λiv wr=>∃k:Nat,k<=L.length/\iv=.int .i64 k/\Hid (Below w7.heap.size w7 wr)) (λiv _=>L.length-(intOf iv).toNat)
       case atStart=>exact⟨0,zL,rfl,t0⟩
       case round =>
        obtain⟨k3,t8,rfl,G⟩:=hrel;by_cases r:k3<L.length
        ·obtain⟨q2,o2,rfl,ht⟩:=TsIn.get (SlR.below l6 G.out) r r;have d6:=q6.out _ (getElem_mem r);have e6:L.getD k3 ⟨#[]⟩=L[k3]'r:=by rw[getD_eq_getElem?_getD,getElem?_eq_getElem r];rfl
         obtain⟨t,g1⟩:=eX (L[k3]'r)
         rw[g1]at ht d6 e6;have l7:t∈(qU X C).V.map (·.t):=by rw[(ks X C).1];exact d6
         have cQ:=VP _ g F7 M7 (k+1) (qU X C) (f0.out.below G.out) c2.out.pre oM t l7;obtain⟨b5,b4⟩:=K7 f0.out c2.out.pre oM l7;obtain⟨z,z1,z2,z3⟩:=f4.out k3 r;rw[e6]at z1 z2 z3;rw[qryT_evict]at cQ b5 b4;obtain⟨Q,hQ⟩:=eX (lU X t)
         rw[hQ]at cQ b5 b4 z1 z2 z3;clear g1 e6 hQ d6 l7;obtain⟨qk,qn,d,ql,qe⟩:=Q;obtain⟨ZA,zc,ZB,zd⟩:=z;have h9:=m4.below G.out;have h7:=m2.below G.out;have z8:=z3.kept (S':=F++(blk A++blk B)) (z9.of_below G.out) sI (λy hy=>.inl hy);obtain⟨r8,i8⟩:=List.getElem?_eq_some_iff.1 z1;obtain⟨r9,j0⟩:=List.getElem?_eq_some_iff.1 z2;obtain⟨qA,oA,rfl,j9⟩:=SlR.at_ h9.slr (i:=k3) r;obtain⟨qB,oB,rfl,m0⟩:=SlR.at_ h7.slr (i:=k3) r;rw[i8]at j9;rw[j0]at m0;have e1:=zC m0 (j:=0) oM;have Z8:=dH z8;clear z1 z2 z3 z8 r8 i8 r9 j0 m0;(go_wp2_with fail);refine cQ.mono ?_;rintro e w9 ⟨PA,pc,PB,pd,rfl,g9,h4,k7⟩;have b0:=bM w9 w9.heap.size rfl (zJ xX) sI ⟨qk,qn,.slice PA d.length pc⟩ rfl 42;have T:Below w9.heap.size w9 (w9.alloc (.cells (zJ ⟨qk,qn,.slice PA d.length pc⟩) 42)):=bA;have d7:zA (w9.alloc (.cells (zJ ⟨qk,qn,.slice PA d.length pc⟩) 42)) w9.heap.size 0 3=some (zJ ⟨qk,qn,.slice PA d.length pc⟩):=by simp[go_sem]
         have f:=g9.below T;have m:=h4.below T;have I:=yK k7 T;clear cQ;go_upto_region 28 with fail
         obtain⟨W8,i6⟩:=eR (w9.alloc (.cells (zJ ⟨qk,qn,.slice PA d.length pc⟩) 42))
         obtain⟨g7,k6⟩:=eX w9.heap.size
         rw[<-i6]at d7 f m I |-;rw[k6]at d7 |-;clear i6 b0 T g9 h4 k7 k6;have c6:=((z9.of_below I).row (zE j9) sI _ _).trans j9;have O:=(I.cell (p:=⟨qB,oB+k3*1+0,none⟩) (block_lt_of_cell? _ _ e1)).trans e1;have O:W8.cell? ⟨qB,oB+k3,none⟩=some (.slice ZB ql.length zd):=by simpa using O
         have n4:=fun (V:World) (hV:Below W8.heap.size W8 V)=>rsame26 V qk qn qk qn PA ZA d.length d.length pc zc d d (SlR.below f.slr hV) (SlR.below (SlR.below Z8.out.p I) hV) oM oM;have n3:=fun (V:World) (hV:Below W8.heap.size W8 V)=>VV V PB ZB ql.length ql.length pd zd ql ql (SlR.below m.slr hV) (SlR.below (SlR.below Z8.out.l I) hV) oM oM;rw[show decide (qk=qk/\qn=qn/\d=d)=true from decide_eq_true ⟨rfl,rfl,rfl⟩]at n4;rw[show decide (ql=ql)=true from decide_eq_true rfl]at n3;have q3:=dH (G.out.trans (I.mono G.out.size));clear f m I j9 e1 h9 h7
         go_cut [138] (λv wx=>v=.bool false/\Below W8.heap.size W8 wx)
         case first =>
          refine j2 (.loose 0 (.loose 1 (.loose 2 (.loose 3 (.loose 4 (.one 5 (.loose 6 (.loose 7 (.loose 8 (.loose 9 (.loose 10 (.loose 11 (.loose 12 (.one 13 (.loose 14 (.loose 15 .done)))))))))))))))) (Bel W8) false kR kR kR kR (xR W8) ?_;have k1:=dJ W8;have hS:=xR W8;have b1:=zS d7;have b2:=zS c6;have b3:=zK O;refine tZ ?_;refine tH ?_;intro K hK;refine(n4 _ hS).mono ?_;rintro e f9 ⟨rfl,n0⟩;have l2:=dH (xL hS n0);refine⟨_,rfl,l2.out,hK _ _ ?_⟩;clear hK K hS;have hS:=l2.out;refine tZ ?_;refine tH ?_;intro K hK;refine(n3 _ l2.out).mono ?_;rintro e t5 ⟨rfl,m9⟩;have o5:=dH (xL l2.out m9);refine⟨_,rfl,o5.out,hK _ _ ?_⟩;clear hK K hS;have hS:=o5.out;refine tZ ?_;refine vH ?_;intro hS;go_wp2_with fail
          go_meet
          exact⟨rfl,o5.out⟩
         case rest =>
         obtain⟨rfl,D⟩:=hcut;obtain⟨U,rfl⟩:=eR wc
         have t1:=dH (q3.out.trans (D.mono q3.out.size));clear D n4 n3 d7 c6 O;(go_wp2_with fail);go_roundw
         case rel=>exact⟨k3+1,oM,by go_num,t1⟩
         case measure=>exact sZ
        ·have l4:=dH (s8.out.below G.out);have i3:=dH (q4.out.trans (G.out.mono q4.out.size));have cW:=XA wr (l4.out);(go_wp2_with fail);refine cW.mono ?_;rintro e wz ⟨rfl,D⟩;have HZ:=dH (Below.trans (i3.out) (D.mono (Below.size (i3.out))));clear cW D;(go_wp2_with fail);go_ret;exact⟨rfl,HZ.out⟩
end Go.Proofs.YtdjiaickicgdlaaGreatDoor
