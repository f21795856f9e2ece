/- Part 9 of the texts that lead to this claim: the walks of the functions and the plain law, in order. -/
import Derived.Test.YtgedpfebepdcmaaGreatDoorMb8
namespace Go.Proofs.YtgedpfebepdcmaaGreatDoor
open Go.RowKit
set_option maxRecDepth 100000
set_option maxHeartbeats 8000000
section
open Go.RowKit Stb
theorem stF_len (k:Int) (F:List zG):(stF k F).len<=F.length:=by
  have:∀(F:List zG) (s:VSt),(F.foldl (fun s m=>doS m (oOf m) s) s).len<=s.len+F.length:=by
    intro F;induction F with
    | nil=>intro s;exact Nat.le_refl _
    | cons m F ih=>intro s;rw[List.foldl_cons];refine Nat.le_trans (ih _) ?_;have:=BL m (oOf m) s;rw[List.length_cons];omega
  have h0:(VSt.new k).len=0:=by unfold VSt.new;repeat' split
                                all_goals rfl
  have:=this F (VSt.new k);unfold stF;omega
theorem VR {F:List zG} {s:VSt} (h1:kL F) (h:fA F s):s.pairs.length<=s.len:=by
  cases s with
  | t n=>exact Nat.le_refl _
  | b L G=>show((kD L).map gM).length<=L.length;rw[List.length_map];exact Z7 L
  | l L=>show(L.map tI).length<=L.length;rw[List.length_map];exact Nat.le_refl _
  | m X O=>exact Z6 X
  | s N G=>exact xt (nW h1 h)
theorem fit_k {t:ByteArray} {m:zG} (h:kE t m):k7 (oOf m).k=yO t/\1<=(oOf m).k/\(oOf m).k<=7:=⟨h.2,(fF _ h.1).2.1,(fF _ h.1).2.2.1⟩
theorem eZ {t:ByteArray} {m:zG} (h:kE t m):(yO t=2->(oOf m).k=2\/(oOf m).k=3)/\(yO t=3->(oOf m).k=4)/\(yO t=5->(oOf m).k=6\/(oOf m).k=7):=by
  obtain⟨h1,h2,h3⟩:=fit_k h;rw[ZQ h2 h3]at h1;refine⟨fun e=>?_,fun e=>?_,fun e=>?_⟩
  all_goals
    rw[e]at h1
    repeat' split at h1
    all_goals first | omega | (exact absurd h1 (by decide))
theorem QT (t:ByteArray) (R:List zG):(kK t R).length<=(qS R).length:=by
  unfold kK;refine Nat.le_trans (List.length_filter_le _ _) ?_;rw[cD];exact Nat.le_refl _
theorem lR {t:ByteArray} {R:List zG} {L:List yE} (hLF:L.map yE.m=kK t R) {a:yE} (ha:a∈L):kE t a.m:=wK (by rw[<-hLF];exact List.mem_map.2 ⟨a,ha,rfl⟩)
theorem rB {t:ByteArray} {m:zG} (h:kE t m):(oOf m).key.size<=16/\(oOf m).val.size<=16/\(oOf m).refs.length<=8/\-2147483648<=(oOf m).n/\(oOf m).n<2147483648:=by
  have h2:=fF _ h.1;exact⟨h2.2.2.2.1,h2.2.2.2.2.1,h2.2.2.2.2.2.1,kt _ h.1,h2.2.2.2.2.2.2.2⟩
theorem qm (t:ByteArray) (R:List zG) (hk:yO t≠0):(dR t R).kind=yO t:=by
  have:=fU t;exact XG (by omega) (by omega) _
theorem ZL (t:ByteArray) (R:List zG):(dR t R).pairs.length<=(qS R).length:=by
  have h1:=VR (i6 t R) (r6 t R);have h2:(dR t R).len<=_:=stF_len (yO t) (kK t R);have h3:=QT t R;omega
theorem dvalue (t:ByteArray) (A:Option Addr) (n cap:Nat) (R:List zG) (w:World) (hm:q9 w A n R) (hn:n<=1000) (ho:(qS R).length<=30) (hs:∀m∈R,m.body.size<=600) (hp:yZ w) (ht:t.size<=9223372036854775807) (hk:yO t≠0) :
    Calls Tryz.prog 23 #[.string t,.slice A n cap] w fun e w'=>∃A2 n2 cap2,e = .returned (.tuple #[.agg (zF ⟨yO t,(dR t R).num,.slice A2 n2 cap2⟩),.int .i64 0])/\(xL w' A2 n2 (dR t R).pairs/\n2<=1000000)/\Below w.heap.size w w':=by
  have hRl:R.length=n:=hm.len;have hFl:(kK t R).length<=30:=by have:=QT t R;omega
  have hmean:=r6 t R;have hone:=i6 t R;have hkind:=qm t R hk;have hpl:=ZL t R;have hfin:∀(K:Int),yO t=K->(dR t R).num=0->∀Ps,Ps=(dR t R).pairs->(Calls Tryz.prog 23 #[.string t,.slice A n cap] w fun e w'=>∃A2 n2 cap2,e = .returned (.tuple #[.agg (zF ⟨K,0,.slice A2 n2 cap2⟩),.int .i64 0])/\xL w' A2 n2 Ps/\Below w.heap.size w w') ->
      Calls Tryz.prog 23 #[.string t,.slice A n cap] w fun e w'=>∃A2 n2 cap2,e = .returned (.tuple #[.agg (zF ⟨yO t,(dR t R).num,.slice A2 n2 cap2⟩),.int .i64 0])/\(xL w' A2 n2 (dR t R).pairs/\n2<=1000000)/\Below w.heap.size w w':=by
    intro K hK hnum Ps hPs c;refine c.mono ?_;rintro e w' ⟨A2,n2,cap2,rfl,hp2,hb⟩;rw[hPs]at hp2;have hl:(dR t R).pairs.length=n2:=by simpa using hp2.1
    exact⟨A2,n2,cap2,by rw[hK,hnum],⟨hp2,by omega⟩,hb⟩
  rcases fU t with e | e | e | e | e | e
  · exact absurd e hk
  · have hd:dR t R = .t (cA (kK t R)):=by unfold dR;rw[e];exact sumD_ok _
    rw[hd];refine(dval_1 t A n cap R w (cA (kK t R)) hm hn ho hs hp ht e hFl (fun w' A' cap' L B ha hL hLF=>?_)).mono ?_
    · rw[<-hLF];exact BW A' L.length cap' L B w' ha hL (fun a h=>⟨(rB (lR hLF h)).2.2.2.1,(rB (lR hLF h)).2.2.2.2⟩)
    · rintro e1 w' ⟨rfl,hb⟩;exact⟨none,0,0,by rw[e];rfl,⟨SlR.nil_,by omega⟩,hb⟩
  · cases hd:dR t R with
    | b Lb G =>
      rw[hd]at hmean;have hps:=bagD_ok hmean (fun m hm=>(eZ (wK hm)).1 e);rw[<-hd];refine hfin 2 e (by rw[hd];rfl) (yF yG (J8 (kK t R))) (by rw[hd];exact hps) (dval_2 t A n cap R w _ hm hn ho hs hp ht e hFl (fun w' A' cap' L B ha hL hLF=>?_));rw[<-hLF];refine(dbag A' L.length cap' L B w' ha hL (fun a h=>by have:=(rB (lR hLF h)).2.2.1;omega)).mono ?_;rintro e1 w2 ⟨A2,c2,rfl,ho,hb⟩;exact⟨A2,_,c2,rfl,ho,hb⟩
    | _=>rw[hd,e]at hkind;simp[VSt.kind]at hkind
  · cases hd:dR t R with
    | l Ll =>
      rw[hd]at hmean;rw[<-hd];refine hfin 3 e (by rw[hd];rfl) _ (show Ll.map tI=_ by rw[hd];rfl) (dval_3 t A n cap R w _ hm hn ho hs hp ht e hFl (fun w' A' cap' L B ha hL hLF=>?_));refine(dlast A' L.length cap' L B w' ha hL (fun a h=>(rB (lR hLF h)).1) (Ll.map tI) (fun M hM=>?_)).mono ?_
      · rw[hLF]at hM;exact lastD_ok hmean hone hM (fun m hm=>rC (wK hm).1 ((eZ (wK hm)).2.1 e))
      · rintro e1 w2 ⟨A2,c2,rfl,ho,hb⟩;exact⟨A2,_,c2,rfl,ho,hb⟩
    | _=>rw[hd,e]at hkind;simp[VSt.kind]at hkind
  · cases hd:dR t R with
    | m X O =>
      rw[hd]at hmean;have hps:=xe hmean;rw[<-hd];refine hfin 4 e (by rw[hd];rfl) (yF yG (tL (kK t R))) (by rw[hd];exact hps) (dval_4 t A n cap R w _ hm hn ho hs hp ht e hFl (fun w' A' cap' L B ha hL hLF=>?_));rw[<-hLF];refine(dmulti A' L.length cap' L B w' ha hL (fun a h=>(rB (lR hLF h)).2.2.1)).mono ?_;rintro e1 w2 ⟨A2,c2,rfl,ho,hb⟩;exact⟨A2,_,c2,rfl,ho,hb⟩
    | _=>rw[hd,e]at hkind;simp[VSt.kind]at hkind
  · cases hd:dR t R with
    | s N G =>
      rw[hd]at hmean;have hps:=listD_ok hmean hone (fun m hm=>(eZ (wK hm)).2.2 e);rw[<-hd];refine hfin 5 e (by rw[hd];rfl) (pS (j4 (sK (kK t R))) (s8 (kK t R))) (by rw[hd];exact hps) (dval_5 t A n cap R w _ hm hn ho hs hp ht e hFl (fun w' A' cap' L B ha hL hLF=>?_));rw[<-hLF];exact dlist A' L.length cap' L B w' ha hL (fun a h=>(rB (lR hLF h)).2.1) (by rw[hLF];exact fitM_ris t R) (by rw[hLF];exact hone)
    | _=>rw[hd,e]at hkind;simp[VSt.kind]at hkind
def dN (t:ByteArray):Int:=yO t
def gZ (t:ByteArray) (R:List zG):Int:=if yO t=0 then 0 else(dR t R).num
def wP (t:ByteArray) (R:List zG):List xZ:=if yO t=0 then[]else(dR t R).pairs
theorem K4 (t:ByteArray) (A:Option Addr) (n cap:Nat) (R:List zG) (w:World) (hm:q9 w A n R) (hn:n<=1000) (ho:(qS R).length<=30) (hs:∀m∈R,m.body.size<=600) (hp:yZ w) (ht:t.size<=9223372036854775807) :
    Calls Tryz.prog 23 #[.string t,.slice A n cap] w fun e w'=>∃A2 n2 cap2,e = .returned (.tuple #[.agg (zF ⟨dN t,gZ t R,.slice A2 n2 cap2⟩),.int .i64 (xN t)])/\(xL w' A2 n2 (wP t R)/\n2<=1000000)/\Below w.heap.size w w':=by
  by_cases hk:yO t=0
  · have e1:gZ t R=0:=if_pos hk;have e2:wP t R = []:=if_pos hk;have e3:dN t=0:=hk;rw[e1,e2,e3];refine(dval_0 t A n cap w ht hk).mono ?_;rintro e w' ⟨rfl,hb⟩;exact⟨none,0,0,rfl,⟨SlR.nil_,by omega⟩,hb⟩
  · have e1:gZ t R=(dR t R).num:=if_neg hk;have e2:wP t R=(dR t R).pairs:=if_neg hk;have e3:xN t=0:=by unfold xN;rw[if_neg hk]
    rw[e1,e2,e3];exact dvalue t A n cap R w hm hn ho hs hp ht hk
end
structure g7 where
  id:zJ
  h:Int
  ref:zJ
  val:ByteArray
def yP (x:g7):Array Value:=idC x.id ++ #[.int .i64 x.h]++idC x.ref ++ #[.string x.val]
@[simp] theorem dF (x:g7):(yP x).size=66:=by simp[yP]
@[go_sem] theorem yf (x:g7):(yP x).extract 0 32=idC x.id:=by
  have h:yP x=((#[]:Array Value))++idC x.id++(#[.int .i64 x.h]++idC x.ref ++ #[.string x.val]):=by first | (simp[yP,Array.append_assoc];done) | (apply Array.ext';simp[yP];done)
  rw[h];exact fM _ _ _ _ _ (by simp) (by simp)
@[go_sem] theorem cV (x:g7):(yP x)[32]? = some (.int .i64 x.h):=by first | (simp[yP,Array.getElem?_append];done) | (rw[show yP x=(idC x.id) ++ #[.int .i64 x.h]++(idC x.ref ++ #[.string x.val])from by apply Array.ext';simp[yP]];exact xS _ _ _ _ (by simp))
@[go_sem] theorem rNodeC_gg32 (x:g7) (h:32<(yP x).size):(yP x)[32]'h = .int .i64 x.h:=Option.some.inj ((Array.getElem?_eq_getElem h).symm.trans (cV x))
@[go_sem] theorem V9 (x:g7):(yP x).extract 33 65=idC x.ref:=by
  have h:yP x=(idC x.id ++ #[.int .i64 x.h])++idC x.ref++(#[.string x.val]):=by first | (simp[yP,Array.append_assoc];done) | (apply Array.ext';simp[yP];done)
  rw[h];exact fM _ _ _ _ _ (by simp) (by simp)
@[go_sem] theorem cU (x:g7):(yP x)[65]? = some (.string x.val):=by first | (simp[yP,Array.getElem?_append];done) | (rw[show yP x=(idC x.id ++ #[.int .i64 x.h]++idC x.ref) ++ #[.string x.val]++((#[]:Array Value))from by apply Array.ext';simp[yP]];exact xS _ _ _ _ (by simp))
@[go_sem] theorem rNodeC_gg65 (x:g7) (h:65<(yP x).size):(yP x)[65]'h = .string x.val:=Option.some.inj ((Array.getElem?_eq_getElem h).symm.trans (cU x))
@[go_sem] theorem rNodeC_all (x:g7):(yP x).extract 0 66=yP x:=by have:=Array.extract_size (xs:=yP x);rwa [dF]at this
theorem cT (x:g7):∀u∈(yP x).toList,u.oneCell'=true:=by
  intro u hu;simp only[yP,Array.toList_append,List.mem_append]at hu;rcases hu with((hu | hu) | hu) | hu
  · exact qJ _ u hu
  · simp at hu;subst hu;rfl
  · exact qJ _ u hu
  · simp at hu;subst hu;rfl
def mR:g7:=⟨id0,0,id0,⟨#[]⟩⟩
theorem jg {x y:g7} (h:x.id=y.id/\x.h=y.h/\x.ref=y.ref/\x.val=y.val):x=y:=by cases x;cases y;simp_all
instance:DecidableEq g7:=fun x y=>if h:x.id=y.id/\x.h=y.h/\x.ref=y.ref/\x.val=y.val then isTrue (jg h)else isFalse (fun e=>h (by subst e;simp))
theorem ZC:(Tryz.prog.info? 146).map (·.size)=some 66:=by kernel_rfl
@[go_sem ↓] theorem iT (w:World):(zeroValue 146).run Tryz.prog w = .ok (.agg (yP mR)) w:=by
  have h:(Tryz.prog.info? 146).bind (·.zero)=some (.agg (yP mR)):=by kernel_rfl
  cases hi:Tryz.prog.info? 146 with
  | none=>rw[hi]at h;cases h
  | some i =>
    rw[hi]at h;have hz:i.zero=some (.agg (yP mR)):=h;simp[zeroValue,typeInfo,hi,hz]
@[go_sem ↓] theorem loadRNode_rw (a:Addr):loadVar 146 a=ldS 146 a:=rfl
@[go_sem ↓] theorem storeRNode_rw (a:Addr) (v:Value):storeVar 146 a v=stS 146 a v:=rfl
@[go_sem] theorem loadRNode_run (w:World) (g o:Nat):(ldS 146 ⟨g,o,none⟩).run Tryz.prog w=match z9 w g o 66 with | some cs=>.ok (.agg cs) w | none=>(loadVar 146 ⟨g,o,none⟩).run Tryz.prog w :=
  vD Tryz.underlying146 rfl ZC w g o
@[go_sem] theorem jt (w:World) (g:Nat) (hg:g=w.heap.size) (z:Array Value) (hz:z.size=66) (x:g7) (e:TypeId):(stS 146 ⟨g,0,none⟩ (.agg (yP x))).run Tryz.prog (w.alloc (.cells z e)) = .ok () (w.alloc (.cells (yP x) e)) :=
  hg ▸ qB ZC w z (yP x) hz (dF x) (cT x)
theorem QW:Tryz.prog.underlying 146=some (.struct (Tryz.prog.fieldsOf 146)):=by kernel_rfl
theorem XY (w:World):((Tryz.prog.fieldsOf 146).mapM fun (f:Field)=>do pure (f.offset,<-sizeOf f.type)).run Tryz.prog w = .ok #[(0,32),(32,1),(33,32),(65,1)] w:=by kernel_rfl
@[go_sem ↓] theorem buildRNode_rw (parts:Array (Nat×Value)):Instr.build 146 parts=bdS 146 parts:=rfl
@[go_sem] theorem buildRNode (a0:zJ) (a1:Int) (a2:zJ) (a3:ByteArray) (w:World):(bdS 146 #[(0,.agg (idC a0)),(1,.int .i64 a1),(2,.agg (idC a2)),(3,.string a3)]).run Tryz.prog w = .ok (.agg (yP ⟨a0,a1,a2,a3⟩)) w:=by
  refine vB w QW _ (iT w) _ (XY w) [(0,.agg (idC a0)),(1,.int .i64 a1),(2,.agg (idC a2)),(3,.string a3)] _ ?_;rw[show yP mR=(#[]:Array Value)++idC id0++(#[.int .i64 0]++(idC id0++(#[.string ⟨#[]⟩])))from by first | (simp[yP,mR,Array.append_assoc];done) | (apply Array.ext';simp[yP,mR])];rw[xD (off:=0) (size:=32) rfl (by simp) (by simp) (by simp[Value.cells])];rw[show(#[]:Array Value)++(Value.agg (idC a0)).cells++(#[.int .i64 0]++(idC id0++(#[.string ⟨#[]⟩])))=(idC a0) ++ #[.int .i64 0]++(idC id0++(#[.string ⟨#[]⟩]))from by first | (simp[Value.cells,Array.append_assoc];done) | (apply Array.ext';simp[Value.cells];done) | (apply Array.ext';simp only[Array.toList_append];simp[Value.cells])];rw[xD (off:=32) (size:=1) rfl (by simp) (by simp) (by simp[Value.cells])];rw[show(idC a0)++(Value.int .i64 a1).cells++(idC id0++(#[.string ⟨#[]⟩]))=(idC a0++(#[.int .i64 a1]))++idC id0++(#[.string ⟨#[]⟩])from by first | (simp[Value.cells,Array.append_assoc];done) | (apply Array.ext';simp[Value.cells];done) | (apply Array.ext';simp only[Array.toList_append];simp[Value.cells])];rw[xD (off:=33) (size:=32) rfl (by simp) (by simp) (by simp[Value.cells])];rw[show(idC a0++(#[.int .i64 a1]))++(Value.agg (idC a2)).cells++(#[.string ⟨#[]⟩])=(idC a0++(#[.int .i64 a1]++(idC a2))) ++ #[.string ⟨#[]⟩]++(#[]:Array Value)from by first | (simp[Value.cells,Array.append_assoc];done) | (apply Array.ext';simp[Value.cells];done) | (apply Array.ext';simp only[Array.toList_append];simp[Value.cells])];rw[xD (off:=65) (size:=1) rfl (by simp) (by simp) (by simp[Value.cells])];first | (simp[Instr.fill,yP,Array.append_assoc,Value.cells];done) | (simp only[Instr.fill,yP];congr 1;apply Array.ext';simp[Value.cells];done) | (simp only[Instr.fill,yP];congr 1;done) | (simp only[Instr.fill,yP];done)
def bZ (n:zT):g7:=⟨n.id,n.h,n.ref,n.val⟩
abbrev yQ (n:zT):Array Value:=yP (bZ n)
instance:Inhabited zT:=⟨⟨id0,0,id0,⟨#[]⟩⟩⟩
theorem qL:yY Tryz.prog 74 146 66 88 :=
  .of (z:=.agg (yP mR)) Tryz.underlying74 (by kernel_rfl) (by kernel_rfl) (by kernel_rfl) (dF _) (by omega)
@[go_sem ↓] theorem bsRN_rw (n:Nat) (parts:Array (Nat×Value)):Instr.buildSlice 74 n parts=bsS 74 n parts:=rfl
@[go_sem] theorem bsRN_run (w:World) (x:g7):(bsS 74 1 #[(0,.agg (yP x))]).run Tryz.prog w = .ok (.slice (some ⟨w.heap.size,0,none⟩) 1 1) (w.alloc (.cells (yP x) 146)) :=
  k8 qL (by omega) w (yP x) (dF x)
@[go_sem] theorem bsRN0_run (w:World):(bsS 74 0 #[]).run Tryz.prog w = .ok (.slice (some ⟨w.heap.size,0,none⟩) 0 0) (w.alloc (.cells #[] 146)):=gK qL w
@[go_sem ↓] theorem slRN_rw (x:Value) (lo hi mx:Option Value):Instr.sliceAt 74 x lo hi mx=slS 74 x lo hi mx:=rfl
theorem jG (n:zT):∀u∈(yQ n).toList,u.oneCell'=true:=cT _
abbrev bW (w:World) (A:Option Addr) (n:Nat) (R:List zT):Prop:=SlR w A n 66 (R.map yQ)
theorem bW.len {w:World} {A:Option Addr} {n:Nat} {R:List zT} (h:bW w A n R):R.length=n:=by simpa using h.1
theorem bG {w:World} {g o:Nat} {x:zT} (hr:z9 w g o 66=some (yQ x)) :
    z9 w g o 32=some (idC x.id)/\w.cell? ⟨g,o+32,none⟩=some (.int .i64 x.h)/\z9 w g (o+33) 32=some (idC x.ref)/\w.cell? ⟨g,o+65,none⟩=some (.string x.val):=by
  refine⟨?_,?_,?_,?_⟩
  · have:=zV hr (j:=0) (m:=32) (by omega)
    rwa [yf]at this
  · have:=z8 hr (j:=32) (by omega)
    rwa [cV]at this
  · have:=zV hr (j:=33) (m:=32) (by omega)
    rwa [V9]at this
  · have:=z8 hr (j:=65) (by omega)
    rwa [cU]at this
theorem bW.get {w:World} {A:Option Addr} {n:Nat} {R:List zT} (h:bW w A n R) {i:Nat} (hi:i<n) (hR:i<R.length) :
    ∃g o,A=some ⟨g,o,none⟩/\z9 w g (o+i*66) 66=some (yQ R[i]):=by
  obtain⟨g,o,e,hr⟩:=h.at_ hi;rw[List.getElem_map]at hr;exact⟨g,o,e,hr⟩
theorem onesN (X:List zT):∀r∈X.map yQ,∀u∈r.toList,u.oneCell'=true:=by
  intro r hr;obtain⟨x,_,rfl⟩:=List.mem_map.1 hr;exact jG x
theorem rscheck (n:zT) (w:World) (hv:n.val.size<=9223372036854775807) :
    Calls Tryz.prog 109 #[.agg (yQ n)] w fun e w'=>e = .returned (.int .i64 (g6 n))/\Below w.heap.size w w':=by
  obtain⟨d,h,ref,val⟩:=n;unfold yQ bZ;have hB:Below w.heap.size w (w.alloc (.cells (yP ⟨d,h,ref,val⟩) 146)):=(Below.refl _ _).alloc (Nat.le_refl _) _;have hE:g6 ⟨d,h,ref,val⟩=if 16<val.size then 3 else if h<1\/1073741824<h\/d=id0 then 5 else 0:=rfl;have HE:=Lib.hid hE;clear hE;dsimp only at *;obtain⟨b,hb⟩:∃b,(d==id0)=b:=⟨_,rfl⟩
  have Hb:=Lib.hid hb;cases b
  all_goals
    clear hb;go_enter Tryz.func109,Tryz.ntmps109
    go_wp2_with fail
    all_goals
      go_ret;exact⟨yB (by rw[HE.out];have hdd:=Hb.out;(repeat' split) <;> first | rfl | omega | (simp_all;done) | (simp_all;omega)),hB⟩
theorem rahead (ah:Int) (a:zJ) (bh:Int) (b:zJ) (w:World) :
    Calls Tryz.prog 145 #[.int .i64 ah,.agg (idC a),.int .i64 bh,.agg (idC b)] w fun e w'=>e = .returned (.bool (gX ah a bh b))/\Below w.heap.size w w':=by
  have hB:Below w.heap.size w ((w.alloc (.cells (idC a) 24)).alloc (.cells (idC b) 24)):=((Below.refl _ _).alloc (Nat.le_refl _) _).alloc (by simp) _;have hA:gX ah a bh b=if ah=bh then decide (zO a b<0)else decide (ah<bh):=rfl;have HA:=Lib.hid hA;clear hA;by_cases h:ah=bh
  · subst h;have hlt:decide (ah<ah)=false:=by simp
    go_enter Tryz.func145,Tryz.ntmps145
    (go_wp2_with fail);refine(wE a b _).mono ?_;rintro e w1 ⟨rfl,hb1⟩;have hbb:=xM hB hb1;clear hB hb1;(go_wp2_with fail);go_ret;exact⟨zS (by rw[HA.out];simp),hbb⟩
  · have hn2:(ah==bh)=false:=by simpa using h
    have Hh:=Lib.hid h;clear h;by_cases hlt:ah<bh
    · have hd:decide (ah<bh)=true:=decide_eq_true hlt;go_enter Tryz.func145,Tryz.ntmps145
      (go_wp2_with fail);go_ret;exact⟨zS (by rw[HA.out,if_neg Hh.out];simpa using hlt),hB⟩
    · have hd:decide (ah<bh)=false:=decide_eq_false hlt;go_enter Tryz.func145,Tryz.ntmps145
      (go_wp2_with fail);go_ret;exact⟨zS (by rw[HA.out,if_neg Hh.out];simpa using hlt),hB⟩
def jf (w:World) (g j:Nat) (L:List zT) (G:List zJ):Prop :=
  ∃A n cap A' n' cap',w.cell? ⟨g,j,none⟩=some (.slice A n cap)/\w.cell? ⟨g,j+1,none⟩=some (.slice A' n' cap')/\bW w A n L/\y8 w A' n' G
theorem jf.below {w w':World} {g j:Nat} {L:List zT} {G:List zJ} (h:jf w g j L G) (k:Below w.heap.size w w'):jf w' g j L G:=by
  obtain⟨A,n,cap,A',n',cap',h1,h2,h3,h4⟩:=h;exact⟨A,n,cap,A',n',cap',(k.cell (World.block_lt_of_cell? w _ h1)).trans h1,(k.cell (World.block_lt_of_cell? w _ h2)).trans h2,SlR.below h3 k,SlR.below h4 k⟩
theorem xw (L:List zT) (r:zJ) (k:Nat) (hk:k<L.length):xY (L.take (k+1)) r=if L[k].ref=r then xU pJ (xY (L.take k) r) L[k]else xY (L.take k) r:=by
  unfold xY;rw[List.take_add_one,List.getElem?_eq_getElem hk,Option.toList_some,List.filter_append];by_cases h:L[k].ref=r
  · rw[if_pos h];simp only[List.filter_cons,h,decide_true,if_true,List.filter_nil];rw[bE]
  · rw[if_neg h];simp[h]
theorem Z4 {L:List zT} (h:vH L):Ris zO (L.map zT.id):=by
  have h1:=zk h.one;have e:cG L=L:=pQ ZY h.ris
  rwa [e]at h1
theorem kids_ne {L:List zT} (h:vH L) {r:zJ} {k:Nat} (hk:k<L.length) {y:zT} (hy:y∈xY (L.take k) r):L[k].id≠y.id:=by
  have hm:=(nT.1 hy).1;obtain⟨i,hi,e⟩:=List.mem_iff_getElem.1 hm;rw[List.length_take]at hi;rw[List.getElem_take]at e;have hr:=KW (Z4 h) (i:=i) (j:=k) (by omega) (by simpa using hk);rw[List.getElem_map,List.getElem_map,e]at hr;exact fun e'=>qP.ne hr e'.symm
theorem vn (w:World) (g:Nat) (L:List zT) (G:List zJ) (r:zJ) (h:jf w g 8 L G) (hok:vH L) (hX:L.length<=100000) :
    Calls Tryz.prog 114 #[.pointer (some ⟨g,8,none⟩),.agg (idC r)] w fun e w'=>∃A n cap,e = .returned (.slice A n cap)/\Own w' w.heap.size 146 66 A n cap ((xY L r).map yQ)/\Below w.heap.size w w':=by
  obtain⟨XA,nx,xc,GA,ng,gc,hc0,hc1,hXr,hGr⟩:=h;have hnx:L.length=nx:=hXr.len;have Hnx:=Lib.hid hnx;have Hok:=Lib.hid hok;have hnx1:nx<=100000:=by omega
  have hb0:Below w.heap.size w (w.alloc (.cells (idC r) 24)):=(Below.refl _ _).alloc (Nat.le_refl _) _;have hr0:z9 (w.alloc (.cells (idC r) 24)) w.heap.size 0 32=some (idC r):=by simp[go_sem]
  have hc00:=(hb0.cell (p:=⟨g,8,none⟩) (World.block_lt_of_cell? w _ hc0)).trans hc0;have hXr0:=SlR.below hXr hb0;clear hnx hok hc1 hGr hc0 hXr;go_enter Tryz.func114,Tryz.ntmps114
  (go_wp2_with fail);obtain⟨gr,hgr⟩:∃gr,w.heap.size=gr:=⟨_,rfl⟩
  obtain⟨W0,hW0⟩:∃W0,w.alloc (.cells (idC r) 24)=W0:=⟨_,rfl⟩
  rw[hW0]at hb0 hr0 hc00 hXr0;rw[hW0];rw[hgr]at hr0 hb0 |-;have hgW:gr<W0.heap.size:=zI hr0;have Hgr:=Lib.hid hgr;clear hW0 hgr;go_loopw [5,6] (fun out i wr=>∃(k:Nat) (A1:Option Addr) (n1 cap1:Nat),k<=nx/\i = .int .i64 k/\out = .slice A1 n1 cap1/\Own wr W0.heap.size 146 66 A1 n1 cap1 ((xY (L.take k) r).map yQ)/\Below W0.heap.size W0 wr) (fun _ i _=>nx-(intOf i).toNat)
  case atStart=>exact⟨0,none,0,0,Nat.zero_le _,rfl,rfl,Own.nil _ _ _ _,Below.refl _ _⟩
  case round =>
    obtain⟨k,A1,n,cap1,hk,rfl,rfl,hown,hb⟩:=hrel;have hcr0:=(hb.cell (p:=⟨g,8,none⟩) (World.block_lt_of_cell? W0 _ hc00)).trans hc00;have hrr:z9 wr gr 0 32=some (idC r):=(zB (hb.block gr hgW) _ _).trans hr0;by_cases hlt:k<nx
    · have hltX:k<L.length:=by rw[Hnx.out];exact hlt
      obtain⟨q,o,rfl,hrx0⟩:=bW.get (SlR.below hXr0 hb) hlt hltX;have htk:=xw L r k hltX;have hne:=fun (y:zT) (hy:y∈xY (L.take k) r)=>kids_ne Hok.out hltX hy;have hOl:(xY (L.take k) r).length=n:=by simpa using hown.len
      have hol:n<=100000:=by have:=fV (L.take k) r;simp at this;omega
      have hris:Ris pJ (xY (L.take k) r):=cP _ _;obtain⟨O,hO⟩:∃O,xY (L.take k) r=O:=⟨_,rfl⟩
      obtain⟨x,hx⟩:∃x,L[k]'hltX=x:=⟨_,rfl⟩
      rw[hx]at hrx0 htk hne;rw[hO]at htk hown hris hOl hne;have Htk0:=Lib.hid htk;have Hlen:=Lib.hid hOl;have Hris:=Lib.hid hris;have Hne:=Lib.hid hne;clear hx hO htk hOl hris hne;have hszr:=hb.size;have hbx:Below wr.heap.size wr (wr.alloc (.cells (yQ x) 146)):=(Below.refl _ _).alloc (Nat.le_refl _) _;have hown1:=hown.below hbx;have hb1:Below W0.heap.size W0 (wr.alloc (.cells (yQ x) 146)):=hb.trans (hbx.mono hszr);have hrx1:z9 (wr.alloc (.cells (yQ x) 146)) wr.heap.size 0 66=some (yQ x):=by simp[go_sem]
      have hrr1:=(zB (hbx.block gr (zI hrr)) 0 32).trans hrr;have hgxr:wr.heap.size<(wr.alloc (.cells (yQ x) 146)).heap.size:=zI hrx1;go_upto_region 6 with fail
      obtain⟨gx,hgx⟩:∃gx,wr.heap.size=gx:=⟨_,rfl⟩
      obtain⟨V,hV⟩:∃V,wr.alloc (.cells (yQ x) 146)=V:=⟨_,rfl⟩
      rw[hV]at hown1 hb1 hrx1 hrr1;rw[hV];rw[hgx]at hrx1 |-;obtain⟨f1,f2,f3,f4⟩:=bG hrx1;rw[Nat.zero_add]at f2 f3 f4;clear hgx hV hown hb hbx hcr0 hrx0 hszr hrr hgxr;by_cases href:x.ref=r
      · have Htk:Hid (xY (L.take (k+1)) r=xU pJ O x):=(show _=_ by rw[Htk0.out,if_pos href])
        have hrf:z9 V gx 33 32=some (idC r):=by rw[<-href];exact f3
        clear href f3;have hsw2:=hown1.slw;(go_wp2_with fail);go_loopw [8] (fun j wj=>∃m:Nat,m<=n/\j = .int .i64 m/\Hid (∀i (hi:i<O.length),i<m->pJ O[i] x<0)/\Below V.heap.size V wj) (fun j _=>n-(intOf j).toNat)
        case atStart=>exact⟨0,Nat.zero_le _,rfl,(show ∀i (hi:i<O.length),i<0->_ from fun i _ h=>absurd h (by omega)),Below.refl _ _⟩
        case round =>
          obtain⟨m,hmO,rfl,hlow,hbj⟩:=hrel;have hrj:z9 wr gx 0 66=some (yQ x):=(zB (hbj.block gx (zI hrx1)) _ _).trans hrx1;obtain⟨j1,j2,_,_⟩:=bG hrj;rw[Nat.zero_add]at j2;have hswj:=hsw2.below hbj;by_cases hmlt:m<n
          · obtain⟨q2,o2,rfl,hrO⟩:=bW.get hswj.rd hmlt (by rw[Hlen.out];exact hmlt);obtain⟨y1,y2,_,_⟩:=bG hrO;have hmem:O[m]'(by rw[Hlen.out];exact hmlt)∈O:=List.getElem_mem _;have hxy:=Hne.out _ hmem;obtain⟨y,hy⟩:∃y,O[m]'(by rw[Hlen.out];exact hmlt)=y:=⟨_,rfl⟩
            rw[hy]at y1 y2 hxy;have Hy:=Lib.hid hy;have c2:=rahead x.h x.id y.h y.id wr.drew;rw[<-iE hxy]at c2;have Hxy:=Lib.hid hxy;clear hy hmem hrO hxy;by_cases hyx:pJ y x<0
            · rw[decide_eq_true hyx]at c2;have Hyx:=Lib.hid hyx;clear hyx;go_upto_region 8 with fail
              refine zA (Bel wr) false (by kernel_rfl) (by kernel_rfl) (by kernel_rfl) (zC wr) ?_;have hne:=zQ wr;have hS:=zC wr;have b1:=zY j1;have b2:=zP j2;have b3:=zY y1;have b4:=zP y2;repeat(refine z6 ?_ ?_;(focus(simp only[z3];done));intro K hK;go_simp;refine hK _ ?_;clear hK K)
              refine zH ?_ ?_ ?_;(focus(exact hS));(focus(simp only[z3];done));intro K hK;go_simp;refine(c2).mono ?_;rintro e w' ⟨rfl,hb⟩;replace hS:=yN hS hb;refine⟨_,rfl,hS,hK _ _ ?_⟩;clear hK K hb;repeat(refine z6 ?_ ?_;(focus(simp only[z3];done));intro K hK;go_simp;refine hK _ ?_;clear hK K)
              refine zK ?_;intro hS;have hS':Below wr.heap.size wr w':=hS;have hbz:=xM hbj hS';clear b1 b2 b3 b4 hne hS c2;(go_wp2_with fail);go_roundw
              case rel =>
                refine⟨m+1,by omega,by go_num,(show ∀i (hi:i<O.length),i<m+1->pJ O[i] x<0 from fun i hi hlt=>?_),hbz⟩;by_cases e:i=m
                · subst e;rw[Hy.out];exact Hyx.out
                · exact hlow.out i hi (by omega)
              case measure=>simp[intOf];omega
            · rw[decide_eq_false hyx]at c2;have hat:=vP (c:=pJ) O x m (by rw[Hlen.out];exact hmO) hlow.out (fun hk'=>by
                rw[Hy.out];have h1:pJ y x≠0:=fun e'=>Hxy.out (by rw[(BX.zero _ _).1 e']);omega)
              have Hat:=Lib.hid hat;clear hyx hat;go_upto_region 8 with fail
              refine zA (Bel wr) false (by kernel_rfl) (by kernel_rfl) (by kernel_rfl) (zC wr) ?_;have hne:=zQ wr;have hS:=zC wr;have b1:=zY j1;have b2:=zP j2;have b3:=zY y1;have b4:=zP y2;repeat(refine z6 ?_ ?_;(focus(simp only[z3];done));intro K hK;go_simp;refine hK _ ?_;clear hK K)
              refine zH ?_ ?_ ?_;(focus(exact hS));(focus(simp only[z3];done));intro K hK;go_simp;refine(c2).mono ?_;rintro e w' ⟨rfl,hb⟩;replace hS:=yN hS hb;refine⟨_,rfl,hS,hK _ _ ?_⟩;clear hK K hb;repeat(refine z6 ?_ ?_;(focus(simp only[z3];done));intro K hK;go_simp;refine hK _ ?_;clear hK K)
              refine zK ?_;intro hS;have hS':Below wr.heap.size wr w':=hS;have hbz:=xM hbj hS';have hrx:z9 w' gx 0 66=some (yQ x):=(zB (hS'.block gx (zI hrj)) _ _).trans hrj;have hsw:=hsw2.below hbz;have hBw:=hb1.trans (hbz.mono hb1.size);clear b1 b2 b3 b4 hne hS c2 hS' hbj hrj hswj j1 j2 y1 y2 hrx1 hbz;obtain⟨W,rfl⟩:∃W,W=w':=⟨w',rfl⟩
              obtain⟨A,hA1⟩:∃A,(some ⟨q2,o2,none⟩:Option Addr)=A:=⟨_,rfl⟩
              rw[hA1]at hsw |-;obtain⟨d,hd⟩:∃d,d=x:=⟨_,rfl⟩
              rw[<-hd]at hrx Hat Htk |-;obtain⟨cap,hcap⟩:∃cap,cap=cap1:=⟨_,rfl⟩
              rw[<-hcap]at hsw |-;clear hd hcap hA1;have hBx:Below W.heap.size W (W.alloc (.cells #[] 146)):=(Below.refl _ _).alloc (Nat.le_refl _) _;have hown0:=Own.empty W W.heap.size 146 66 (Nat.le_refl _);have hlo:∀w0:World,(slS 74 (.slice A n cap) none (some (.int .i64 m)) none).run Tryz.prog w0 = .ok (.slice A m cap) w0:=fun w0=>SlW.lo qL hsw hmO w0;obtain⟨Ah,ch,hhi,hhs,hhf⟩:=hsw.hi (P:=Tryz.prog) qL (m:=m) hmO;have hslo:SlR (W.alloc (.cells #[] 146)) A m 66 ((O.map yQ).take m):=(hsw.rd.below hBx).take_ hmO;have hf1:=hsw.nil;have hrone:∀r∈(O.map yQ).take m,∀u∈r.toList,u.oneCell'=true:=fun r hr=>(by obtain⟨y',_,rfl⟩:=List.mem_map.1 (List.mem_of_mem_take hr);exact jG _);have hrone2:∀r∈(O.map yQ).drop m,∀u∈r.toList,u.oneCell'=true:=fun r hr=>(by obtain⟨y',_,rfl⟩:=List.mem_map.1 (List.mem_of_mem_drop hr);exact jG _);go_upto_region 11 with(at_builtin;refine yD qL rfl hown0 rfl hslo hf1 hrone (by omega) (by omega) (by simp) ?_;intro A2 cap2 w2 hown2 hk2 hsub2)
              simp only[Nat.zero_add,List.nil_append]at hown2;have hwW:Below W.heap.size W w2:=hBx.trans (hk2.below (by simp) (by simp[blk]));have hrw2:z9 w2 gx (0) 66=some (yQ d):=(zB (hwW.block gx (zI hrx)) _ _).trans hrx;have hB3:Below w2.heap.size w2 (w2.alloc (.cells (yQ d) 146)):=(Below.refl _ _).alloc (Nat.le_refl _) _;have hown3:=hown2.below hB3;have hrow3:z9 (w2.alloc (.cells (yQ d) 146)) w2.heap.size 0 66=some (yQ d):=by simp[go_sem]
              have hsz2:=hwW.size;go_upto_region 12 with(at_builtin;refine yX qL rfl hown3 rfl hrow3 (jG _) (by omega) (by omega) (by simp;omega) ?_;intro A4 cap4 w4 hown4 hk4 hsub4)
              have hwW4:Below W.heap.size W w4:=(hwW.trans (hB3.mono hsz2)).trans (hk4.below (by simp;omega) (fun x hx=>(hown2.at_base hx).1));have hs4:=hhs w4 (hsw.rd.below hwW4);have hsz4:=hwW4.size;clear hown3 hrow3 hB3 hown0 hBx hslo hrw2 hlo;go_upto_region 13 with(at_builtin;refine yD qL rfl hown4 rfl hs4 hhf hrone2 (by omega) (by omega) (by omega) ?_;intro A5 cap5 w5 hown5 hk5 hsub5)
              have hwW5:Below W.heap.size W w5:=hwW4.trans (hk5.below (by omega) (fun x hx=>(hown4.at_base hx).1));have hO5:(O.map yQ).take m ++ [yQ d]++(O.map yQ).drop m=(O.take m++d :: O.drop m).map yQ:=by simp[List.map_take,List.map_drop]
              rw[hO5]at hown5;clear hown4 hown2 hO5 hs4 hhi hhs hrone hrone2 hf1;have hBw5:=hBw.trans (hwW5.mono hBw.size);have hL5:(O.take m++d :: O.drop m).length=m+1+(n-m):=by simp[Hlen.out];omega
              have hOe:O.take m++d :: O.drop m=xY (L.take (k+1)) r:=by rw[Htk.out,Hat.out]
              rw[hOe]at hown5 hL5;have hown6:=hown5.mono hBw.size;have HL:=Lib.hid hL5;clear hown5 hOe hL5;(go_wp2_with fail);go_roundw
              case rel=>exact⟨k+1,A5,m+1+(n-m),cap5,by omega,by go_num,rfl,hown6,hBw5⟩
              case measure=>simp[intOf];omega
          · have hd:decide (m<n)=false:=by simpa using hmlt
            have hat:=vP (c:=pJ) O x m (by rw[Hlen.out];exact hmO) hlow.out (fun hk'=>absurd (by rw[<-Hlen.out];exact hk') hmlt);have Hat:=Lib.hid hat;clear hat;go_upto_region 8 with fail
            refine zA (Bel wr) false (by kernel_rfl) (by kernel_rfl) (by kernel_rfl) (zC wr) ?_;have hne:=zQ wr;have hS:=zC wr;repeat(refine z6 ?_ ?_;(focus(simp only[z3];done));intro K hK;go_simp;refine hK _ ?_;clear hK K)
            refine zH ?_ ?_ ?_;(focus(exact hS));(focus(simp only[z3];done));intro K hK;go_simp;refine hK _ _ ?_;clear hK K;repeat(refine z6 ?_ ?_;(focus(simp only[z3];done));intro K hK;go_simp;refine hK _ ?_;clear hK K)
            refine zK ?_;intro hS;have hbz:Below V.heap.size V wr.drew:=hbj.drew;have hrx:z9 wr.drew gx 0 66=some (yQ x):=hrj;have hsw:=hsw2.below hbz;have hBw:=hb1.trans (hbz.mono hb1.size);clear hne hS hbz hrj hbj hmlt hd hswj j1 j2 hrx1;obtain⟨W,hW⟩:∃W,wr.drew=W:=⟨_,rfl⟩
            rw[hW]at hrx hsw hBw |-;clear hW;obtain⟨A,hA1⟩:∃A,A=A1:=⟨_,rfl⟩
            rw[<-hA1]at hsw |-;obtain⟨d,hd⟩:∃d,d=x:=⟨_,rfl⟩
            rw[<-hd]at hrx Hat Htk |-;obtain⟨cap,hcap⟩:∃cap,cap=cap1:=⟨_,rfl⟩
            rw[<-hcap]at hsw |-;clear hd hcap hA1;have hBx:Below W.heap.size W (W.alloc (.cells #[] 146)):=(Below.refl _ _).alloc (Nat.le_refl _) _;have hown0:=Own.empty W W.heap.size 146 66 (Nat.le_refl _);have hlo:∀w0:World,(slS 74 (.slice A n cap) none (some (.int .i64 m)) none).run Tryz.prog w0 = .ok (.slice A m cap) w0:=fun w0=>SlW.lo qL hsw hmO w0;obtain⟨Ah,ch,hhi,hhs,hhf⟩:=hsw.hi (P:=Tryz.prog) qL (m:=m) hmO;have hslo:SlR (W.alloc (.cells #[] 146)) A m 66 ((O.map yQ).take m):=(hsw.rd.below hBx).take_ hmO;have hf1:=hsw.nil;have hrone:∀r∈(O.map yQ).take m,∀u∈r.toList,u.oneCell'=true:=fun r hr=>(by obtain⟨y',_,rfl⟩:=List.mem_map.1 (List.mem_of_mem_take hr);exact jG _);have hrone2:∀r∈(O.map yQ).drop m,∀u∈r.toList,u.oneCell'=true:=fun r hr=>(by obtain⟨y',_,rfl⟩:=List.mem_map.1 (List.mem_of_mem_drop hr);exact jG _);go_upto_region 11 with(at_builtin;refine yD qL rfl hown0 rfl hslo hf1 hrone (by omega) (by omega) (by simp) ?_;intro A2 cap2 w2 hown2 hk2 hsub2)
            simp only[Nat.zero_add,List.nil_append]at hown2;have hwW:Below W.heap.size W w2:=hBx.trans (hk2.below (by simp) (by simp[blk]));have hrw2:z9 w2 gx (0) 66=some (yQ d):=(zB (hwW.block gx (zI hrx)) _ _).trans hrx;have hB3:Below w2.heap.size w2 (w2.alloc (.cells (yQ d) 146)):=(Below.refl _ _).alloc (Nat.le_refl _) _;have hown3:=hown2.below hB3;have hrow3:z9 (w2.alloc (.cells (yQ d) 146)) w2.heap.size 0 66=some (yQ d):=by simp[go_sem]
            have hsz2:=hwW.size;go_upto_region 12 with(at_builtin;refine yX qL rfl hown3 rfl hrow3 (jG _) (by omega) (by omega) (by simp;omega) ?_;intro A4 cap4 w4 hown4 hk4 hsub4)
            have hwW4:Below W.heap.size W w4:=(hwW.trans (hB3.mono hsz2)).trans (hk4.below (by simp;omega) (fun x hx=>(hown2.at_base hx).1));have hs4:=hhs w4 (hsw.rd.below hwW4);have hsz4:=hwW4.size;clear hown3 hrow3 hB3 hown0 hBx hslo hrw2 hlo;go_upto_region 13 with(at_builtin;refine yD qL rfl hown4 rfl hs4 hhf hrone2 (by omega) (by omega) (by omega) ?_;intro A5 cap5 w5 hown5 hk5 hsub5)
            have hwW5:Below W.heap.size W w5:=hwW4.trans (hk5.below (by omega) (fun x hx=>(hown4.at_base hx).1));have hO5:(O.map yQ).take m ++ [yQ d]++(O.map yQ).drop m=(O.take m++d :: O.drop m).map yQ:=by simp[List.map_take,List.map_drop]
            rw[hO5]at hown5;clear hown4 hown2 hO5 hs4 hhi hhs hrone hrone2 hf1;have hBw5:=hBw.trans (hwW5.mono hBw.size);have hL5:(O.take m++d :: O.drop m).length=m+1+(n-m):=by simp[Hlen.out];omega
            have hOe:O.take m++d :: O.drop m=xY (L.take (k+1)) r:=by rw[Htk.out,Hat.out]
            rw[hOe]at hown5 hL5;have hown6:=hown5.mono hBw.size;have HL:=Lib.hid hL5;clear hown5 hOe hL5;(go_wp2_with fail);go_roundw
            case rel=>exact⟨k+1,A5,m+1+(n-m),cap5,by omega,by go_num,rfl,hown6,hBw5⟩
            case measure=>simp[intOf];omega
      · have Htk:Hid (xY (L.take (k+1)) r=O):=(show _=_ by rw[Htk0.out,if_neg href])
        have hrf:(x.ref != r)=true:=by simpa using href
        have hrf2:(x.ref==r)=false:=by simpa using href
        clear href;(go_wp2_with fail);go_roundw
        case rel=>exact⟨k+1,A1,n,cap1,by omega,by go_num,rfl,(by rw[Htk.out];exact hown1),hb1⟩
        case measure=>simp[intOf];omega
    · have e:L.take k=L:=List.take_of_length_le (by rw[Hnx.out];omega);rw[e]at hown;clear e;(go_wp2_with fail);go_ret;exact⟨A1,n,cap1,rfl,hown.mono (by rw[Hgr.out];omega),by rw[Hgr.out];exact hb0.trans (hb.mono (by omega))⟩
@[go_sem] theorem bsIdN_run (w:World):(bsS 26 0 #[]).run Tryz.prog w = .ok (.slice (some ⟨w.heap.size,0,none⟩) 0 0) (w.alloc (.cells #[] 24)):=gK k6 w
@[go_sem ↓] theorem slId_rw (x:Value) (lo hi mx:Option Value):Instr.sliceAt 26 x lo hi mx=slS 26 x lo hi mx:=rfl
abbrev iP (w:World) (A:Option Addr) (n cap:Nat) (R:List zJ):Prop:=SlW w A n cap 32 (R.map idC)
theorem KU (w:World) (A:Option Addr) (n cap:Nat) (O:List zJ) (d:zJ) (h:iP w A n cap O) (hn:n<=1000000) (hris:Ris zO O) :
    Calls Tryz.prog 41 #[.slice A n cap,.agg (idC d)] w fun e w'=>∃A' cap',e = .returned (.slice A' (xU zO O d).length cap')/\iP w' A' (xU zO O d).length cap' (xU zO O d)/\(∀x∈blk A',x∈blk A\/w.heap.size<=x)/\Below w.heap.size w w':=by
  have hlen:O.length=n:=by simpa using h.len
  have hB:Below w.heap.size w (w.alloc (.cells (idC d) 24)):=(Below.refl _ _).alloc (Nat.le_refl _) _;have hd0:z9 (w.alloc (.cells (idC d) 24)) w.heap.size 0 32=some (idC d):=by simp[go_sem]
  have h0:=h.below hB;have c1:=XU (w.alloc (.cells (idC d) 24)) A n cap O d h0.rd (by omega);have Hlen:=Lib.hid hlen;clear hlen;by_cases hin:d∈O
  · rw[decide_eq_true hin]at c1;have hat:=wH qP hris hin;have Hat:=Lib.hid hat;clear hat hin;go_enter Tryz.func41,Tryz.ntmps41
    (go_wp2_with fail);refine c1.mono ?_;rintro e w1 ⟨rfl,hb1⟩;have h1:=h0.below hb1;have hbb:=xM hB hb1;clear c1;(go_wp2_with fail);go_ret;refine⟨A,cap,by rw[Hat.out,Hlen.out];rfl,by rw[Hat.out,Hlen.out];exact h1,fun x hx=>.inl hx,hbb⟩
  · rw[decide_eq_false hin]at c1;have Hin:=Lib.hid hin;clear hin;go_enter Tryz.func41,Tryz.ntmps41
    go_upto_region 1 with fail
    obtain⟨gx,hgx⟩:∃gx,w.heap.size=gx:=⟨_,rfl⟩
    have Hgx:=Lib.hid hgx;rw[hgx]at hd0 hB |-;obtain⟨W0,hW0⟩:∃W0,W0=w.alloc (.cells (idC d) 24):=⟨_,rfl⟩
    rw[<-hW0]at h0 hd0 hB c1 |-;clear hW0 hgx;(go_wp2_with fail);refine c1.mono ?_;rintro e w1 ⟨rfl,hb1⟩;have h1:=h0.below hb1;have hbb:Below gx w w1:=hB.trans (hb1.mono (by have:=hB.size;have:=Hgx.out;omega));have hr1:z9 w1 gx 0 32=some (idC d):=(zB (hb1.block gx (zI hd0)) _ _).trans hd0;clear c1 hd0 hb1 hB h0;(go_wp2_with fail);go_loopw [5] (fun j wj=>∃m:Nat,m<=n/\j = .int .i64 m/\Hid (∀i (hi:i<O.length),i<m->zO O[i] d<0)/\Below w1.heap.size w1 wj) (fun j _=>n-(intOf j).toNat)
    case atStart=>exact⟨0,Nat.zero_le _,rfl,(show ∀i (hi:i<O.length),i<0->_ from fun i _ h=>absurd h (by omega)),Below.refl _ _⟩
    case round =>
      obtain⟨m,hmO,rfl,hlow,hbj⟩:=hrel;have hrj:z9 wr gx 0 32=some (idC d):=(zB (hbj.block gx (zI hr1)) _ _).trans hr1;have hswj:=h1.below hbj;by_cases hmlt:m<n
      · obtain⟨q,o,rfl,hrO⟩:=y8.get hswj.rd hmlt (by rw[Hlen.out];exact hmlt);have hmem:O[m]'(by rw[Hlen.out];exact hmlt)∈O:=List.getElem_mem _;obtain⟨y,hy⟩:∃y,O[m]'(by rw[Hlen.out];exact hmlt)=y:=⟨_,rfl⟩
        rw[hy]at hrO hmem;have Hy:=Lib.hid hy;have Hmem:=Lib.hid hmem;clear hy hmem;have c2:=wE y d wr.drew;obtain⟨c,hc⟩:∃c,zO y d=c:=⟨_,rfl⟩
        rw[hc]at c2;have Hc:=Lib.hid hc;clear hc;go_upto_region 4 with fail
        refine zA (Bel wr) false (by kernel_rfl) (by kernel_rfl) (by kernel_rfl) (zC wr) ?_;have hne:=zQ wr;have hS:=zC wr;have b1:=zY hrj;have b2:=zY hrO;repeat(refine z6 ?_ ?_;(focus(simp only[z3];done));intro K hK;go_simp;refine hK _ ?_;clear hK K)
        refine zH ?_ ?_ ?_;(focus(exact hS));(focus(simp only[z3];done));intro K hK;go_simp;refine(c2).mono ?_;rintro e w' ⟨rfl,hb⟩;replace hS:=yN hS hb;refine⟨_,rfl,hS,hK _ _ ?_⟩;clear hK K hb;repeat(refine z6 ?_ ?_;(focus(simp only[z3];done));intro K hK;go_simp;refine hK _ ?_;clear hK K)
        refine zK ?_;intro hS;have hS':Below wr.heap.size wr w':=hS;have hbz:=xM hbj hS';clear b1 b2 hne hS c2;by_cases hyx:c<0
        · (go_wp2_with fail);go_roundw
          case rel =>
            refine⟨m+1,by omega,by go_num,(show ∀i (hi:i<O.length),i<m+1->zO O[i] d<0 from fun i hi hlt=>?_),hbz⟩;by_cases e:i=m
            · subst e;rw[Hy.out,Hc.out];exact hyx
            · exact hlow.out i hi (by omega)
          case measure=>simp[intOf];omega
        · have hat:=vP (c:=zO) O d m (by rw[Hlen.out];exact hmO) hlow.out (fun hk'=>by
            rw[Hy.out,Hc.out];have h1:c≠0:=fun e=>Hin.out (by rw[<-(qP.zero _ _).1 (Hc.out.trans e)];exact Hmem.out);omega)
          have Hat:=Lib.hid hat;have hsw:=h1.below hbz;have hrx:z9 w' gx 0 32=some (idC d):=(zB (hbz.block gx (zI hr1)) _ _).trans hr1;have hBw:Below gx w w':=hbb.trans (hbz.mono (by have:=zI hr1;omega));clear hat hrO hrj hbj hbz hS' hswj;obtain⟨W,rfl⟩:∃W,W=w':=⟨w',rfl⟩
          obtain⟨A,hA1⟩:∃A,(some ⟨q,o,none⟩:Option Addr)=A:=⟨_,rfl⟩
          rw[hA1]at hsw |-;clear hA1;have hBx:Below W.heap.size W (W.alloc (.cells #[] 24)):=(Below.refl _ _).alloc (Nat.le_refl _) _;have hown0:=Own.empty W W.heap.size 24 32 (Nat.le_refl _);have hlo:∀w0:World,(slS 26 (.slice A n cap) none (some (.int .i64 m)) none).run Tryz.prog w0 = .ok (.slice A m cap) w0:=fun w0=>SlW.lo k6 hsw hmO w0;obtain⟨Ah,ch,hhi,hhs,hhf⟩:=hsw.hi (P:=Tryz.prog) k6 (m:=m) hmO;have hslo:SlR (W.alloc (.cells #[] 24)) A m 32 ((O.map idC).take m):=(hsw.rd.below hBx).take_ hmO;have hf1:=hsw.nil;have hrone:∀r∈(O.map idC).take m,∀u∈r.toList,u.oneCell'=true:=fun r hr=>(by obtain⟨y',_,rfl⟩:=List.mem_map.1 (List.mem_of_mem_take hr);exact qJ _);have hrone2:∀r∈(O.map idC).drop m,∀u∈r.toList,u.oneCell'=true:=fun r hr=>(by obtain⟨y',_,rfl⟩:=List.mem_map.1 (List.mem_of_mem_drop hr);exact qJ _);go_upto_region 7 with(at_builtin;refine yD k6 rfl hown0 rfl hslo hf1 hrone (by omega) (by omega) (by simp) ?_;intro A2 cap2 w2 hown2 hk2 hsub2)
          simp only[Nat.zero_add,List.nil_append]at hown2;have hwW:Below W.heap.size W w2:=hBx.trans (hk2.below (by simp) (by simp[blk]));have hrw2:z9 w2 gx (0) 32=some (idC d):=(zB (hwW.block gx (zI hrx)) _ _).trans hrx;have hB3:Below w2.heap.size w2 (w2.alloc (.cells (idC d) 24)):=(Below.refl _ _).alloc (Nat.le_refl _) _;have hown3:=hown2.below hB3;have hrow3:z9 (w2.alloc (.cells (idC d) 24)) w2.heap.size 0 32=some (idC d):=by simp[go_sem]
          have hsz2:=hwW.size;go_upto_region 8 with(at_builtin;refine yX k6 rfl hown3 rfl hrow3 (qJ _) (by omega) (by omega) (by simp;omega) ?_;intro A4 cap4 w4 hown4 hk4 hsub4)
          have hwW4:Below W.heap.size W w4:=(hwW.trans (hB3.mono hsz2)).trans (hk4.below (by simp;omega) (fun x hx=>(hown2.at_base hx).1));have hs4:=hhs w4 (hsw.rd.below hwW4);have hsz4:=hwW4.size;clear hown3 hrow3 hB3 hown0 hBx hslo hrw2 hlo;go_upto_region 9 with(at_builtin;refine yD k6 rfl hown4 rfl hs4 hhf hrone2 (by omega) (by omega) (by omega) ?_;intro A5 cap5 w5 hown5 hk5 hsub5)
          have hwW5:Below W.heap.size W w5:=hwW4.trans (hk5.below (by omega) (fun x hx=>(hown4.at_base hx).1));have hO5:(O.map idC).take m ++ [idC d]++(O.map idC).drop m=(O.take m++d :: O.drop m).map idC:=by simp[List.map_take,List.map_drop]
          rw[hO5]at hown5;clear hown4 hown2 hO5 hs4 hhi hhs hrone hrone2 hf1;have hL5:(O.take m++d :: O.drop m).length=m+1+(n-m):=by simp[Hlen.out];omega
          have hLn:(xU zO O d).length=m+1+(n-m):=by rw[Hat.out,hL5]
          rw[<-Hat.out]at hown5;have HLn:=Lib.hid hLn;have hBf:=hBw.trans (hwW5.mono (by have:=zI hrx;omega));have hbase:∀x∈blk A5,w.heap.size<=x:=fun x hx=>(by have h1:=(hown5.at_base hx).1;have h2:=hBw.size;have h3:=Hgx.out;omega);have HB:=Lib.hid hBf;have Hbase:=Lib.hid hbase;have Hown5:=Lib.hid hown5;clear hL5 hLn hBf hbase hown5;(go_wp2_with fail);go_ret;exact⟨A5,cap5,by rw[HLn.out];rfl,by rw[HLn.out];exact Hown5.out.slw,fun x hx=>.inr (Hbase.out x hx),by rw[Hgx.out];exact HB.out⟩
      · have hd:decide (m<n)=false:=by simpa using hmlt
        have hat:=vP (c:=zO) O d m (by rw[Hlen.out];exact hmO) hlow.out (fun hk'=>absurd (by rw[<-Hlen.out];exact hk') hmlt);have Hat:=Lib.hid hat;clear hat;go_upto_region 4 with fail
        refine zA (Bel wr) false (by kernel_rfl) (by kernel_rfl) (by kernel_rfl) (zC wr) ?_;have hne:=zQ wr;have hS:=zC wr;repeat(refine z6 ?_ ?_;(focus(simp only[z3];done));intro K hK;go_simp;refine hK _ ?_;clear hK K)
        refine zH ?_ ?_ ?_;(focus(exact hS));(focus(simp only[z3];done));intro K hK;go_simp;refine hK _ _ ?_;clear hK K;repeat(refine z6 ?_ ?_;(focus(simp only[z3];done));intro K hK;go_simp;refine hK _ ?_;clear hK K)
        refine zK ?_;intro hS;have hbz:=hbj.drew;have hsw:=h1.below hbz;have hrx:z9 wr.drew gx 0 32=some (idC d):=hrj;have hBw:Below gx w wr.drew:=hbb.trans (hbz.mono (by have:=zI hr1;omega));clear hne hS hbz hrj hbj hmlt hd hswj;obtain⟨W,hW⟩:∃W,wr.drew=W:=⟨_,rfl⟩
        rw[hW]at hsw hBw hrx |-;clear hW;have hBx:Below W.heap.size W (W.alloc (.cells #[] 24)):=(Below.refl _ _).alloc (Nat.le_refl _) _;have hown0:=Own.empty W W.heap.size 24 32 (Nat.le_refl _);have hlo:∀w0:World,(slS 26 (.slice A n cap) none (some (.int .i64 m)) none).run Tryz.prog w0 = .ok (.slice A m cap) w0:=fun w0=>SlW.lo k6 hsw hmO w0;obtain⟨Ah,ch,hhi,hhs,hhf⟩:=hsw.hi (P:=Tryz.prog) k6 (m:=m) hmO;have hslo:SlR (W.alloc (.cells #[] 24)) A m 32 ((O.map idC).take m):=(hsw.rd.below hBx).take_ hmO;have hf1:=hsw.nil;have hrone:∀r∈(O.map idC).take m,∀u∈r.toList,u.oneCell'=true:=fun r hr=>(by obtain⟨y',_,rfl⟩:=List.mem_map.1 (List.mem_of_mem_take hr);exact qJ _);have hrone2:∀r∈(O.map idC).drop m,∀u∈r.toList,u.oneCell'=true:=fun r hr=>(by obtain⟨y',_,rfl⟩:=List.mem_map.1 (List.mem_of_mem_drop hr);exact qJ _);go_upto_region 7 with(at_builtin;refine yD k6 rfl hown0 rfl hslo hf1 hrone (by omega) (by omega) (by simp) ?_;intro A2 cap2 w2 hown2 hk2 hsub2)
        simp only[Nat.zero_add,List.nil_append]at hown2;have hwW:Below W.heap.size W w2:=hBx.trans (hk2.below (by simp) (by simp[blk]));have hrw2:z9 w2 gx (0) 32=some (idC d):=(zB (hwW.block gx (zI hrx)) _ _).trans hrx;have hB3:Below w2.heap.size w2 (w2.alloc (.cells (idC d) 24)):=(Below.refl _ _).alloc (Nat.le_refl _) _;have hown3:=hown2.below hB3;have hrow3:z9 (w2.alloc (.cells (idC d) 24)) w2.heap.size 0 32=some (idC d):=by simp[go_sem]
        have hsz2:=hwW.size;go_upto_region 8 with(at_builtin;refine yX k6 rfl hown3 rfl hrow3 (qJ _) (by omega) (by omega) (by simp;omega) ?_;intro A4 cap4 w4 hown4 hk4 hsub4)
        have hwW4:Below W.heap.size W w4:=(hwW.trans (hB3.mono hsz2)).trans (hk4.below (by simp;omega) (fun x hx=>(hown2.at_base hx).1));have hs4:=hhs w4 (hsw.rd.below hwW4);have hsz4:=hwW4.size;clear hown3 hrow3 hB3 hown0 hBx hslo hrw2 hlo;go_upto_region 9 with(at_builtin;refine yD k6 rfl hown4 rfl hs4 hhf hrone2 (by omega) (by omega) (by omega) ?_;intro A5 cap5 w5 hown5 hk5 hsub5)
        have hwW5:Below W.heap.size W w5:=hwW4.trans (hk5.below (by omega) (fun x hx=>(hown4.at_base hx).1));have hO5:(O.map idC).take m ++ [idC d]++(O.map idC).drop m=(O.take m++d :: O.drop m).map idC:=by simp[List.map_take,List.map_drop]
        rw[hO5]at hown5;clear hown4 hown2 hO5 hs4 hhi hhs hrone hrone2 hf1;have hL5:(O.take m++d :: O.drop m).length=m+1+(n-m):=by simp[Hlen.out];omega
        have hLn:(xU zO O d).length=m+1+(n-m):=by rw[Hat.out,hL5]
        rw[<-Hat.out]at hown5;have HLn:=Lib.hid hLn;have hBf:=hBw.trans (hwW5.mono (by have:=zI hrx;omega));have hbase:∀x∈blk A5,w.heap.size<=x:=fun x hx=>(by have h1:=(hown5.at_base hx).1;have h2:=hBw.size;have h3:=Hgx.out;omega);have HB:=Lib.hid hBf;have Hbase:=Lib.hid hbase;have Hown5:=Lib.hid hown5;clear hL5 hLn hBf hbase hown5;(go_wp2_with fail);go_ret;exact⟨A5,cap5,by rw[HLn.out];rfl,by rw[HLn.out];exact Hown5.out.slw,fun x hx=>.inr (Hbase.out x hx),by rw[Hgx.out];exact HB.out⟩
theorem rset (w:World) (A:Option Addr) (n cap:Nat) (R:List zJ) (h:y8 w A n R) (hn:n<=1000000) :
    Calls Tryz.prog 101 #[.slice A n cap] w fun e w'=>∃A' cap',e = .returned (.slice A' (yF zO R).length cap')/\iP w' A' (yF zO R).length cap' (yF zO R)/\(∀x∈blk A',w.heap.size<=x)/\Below w.heap.size w w':=by
  have hlen:=h.len;have Hlen:=Lib.hid hlen;clear hlen;go_enter Tryz.func101,Tryz.ntmps101
  (go_wp2_with fail);go_loopw [3,4] (fun out i wr=>∃(k:Nat) (A1:Option Addr) (n1 cap1:Nat) (O:List zJ),k<=n/\i = .int .i64 k/\out = .slice A1 n1 cap1/\Hid (O=yF zO (R.take k))/\iP wr A1 n1 cap1 O/\(∀x∈blk A1,w.heap.size<=x)/\Below w.heap.size w wr) (fun _ i _=>n-(intOf i).toNat)
  case atStart=>exact⟨0,none,0,0,[],Nat.zero_le _,rfl,rfl,rfl,SlW.none_,by simp[blk],Below.refl _ _⟩
  case round =>
    obtain⟨k,A1,n1,cap1,O,hk,rfl,rfl,hO,hsw,hbs,hb⟩:=hrel;have hn1:O.length=n1:=by simpa using hsw.len
    by_cases hlt:k<n
    · obtain⟨q,o,rfl,hr⟩:=y8.get (SlR.below h hb) hlt (by rw[Hlen.out];exact hlt);have htk:yF zO (R.take (k+1))=xU zO O (R[k]'(by rw[Hlen.out];exact hlt)):=by
        rw[List.take_add_one,List.getElem?_eq_getElem (by rw[Hlen.out];exact hlt),Option.toList_some,bE,hO.out]
      have hol:n1<=1000000:=by have:=qF (c:=zO) (R.take k);rw[<-hO.out]at this;simp at this;have:=Hlen.out;omega
      have hris:Ris zO O:=by rw[hO.out];exact xE qP _
      obtain⟨d,hd⟩:∃d,R[k]'(by rw[Hlen.out];exact hlt)=d:=⟨_,rfl⟩
      rw[hd]at hr htk;have Htk:=Lib.hid htk;have Hol:=Lib.hid hol;have Hris:=Lib.hid hris;clear hd htk hn1 hol hris;have c1:=KU wr A1 n1 cap1 O d hsw Hol.out Hris.out;(go_wp2_with fail);refine c1.mono ?_;rintro e w1 ⟨A2,cap2,rfl,hsw2,hsub2,hb1⟩;have hbb:=hb.trans (hb1.mono hb.size);have hsz:=hb.size;clear c1;(go_wp2_with fail);go_roundw
      case rel=>exact⟨k+1,A2,_,cap2,_,by omega,by go_num,rfl,(show _=_ from Htk.out.symm),hsw2,fun x hx=>(hsub2 x hx).elim (hbs x) (fun h=>by omega),hbb⟩
      case measure=>simp[intOf];omega
    · have e:R.take k=R:=List.take_of_length_le (by rw[Hlen.out];omega);have hO':=hO.out;rw[e]at hO';subst hO';subst hn1;clear hO e;(go_wp2_with fail);go_ret;exact⟨A1,cap1,rfl,hsw,hbs,hb⟩
theorem vz (w:World) (A B:Option Addr) (n m cap cap':Nat) (X Y:List zJ) (hx:y8 w A n X) (hy:y8 w B m Y) (hn:n<=500000) (hm:m<=500000) :
    Calls Tryz.prog 108 #[.slice A n cap,.slice B m cap'] w fun e w'=>∃A' cap',e = .returned (.slice A' (yF zO (X++Y)).length cap')/\iP w' A' (yF zO (X++Y)).length cap' (yF zO (X++Y))/\(∀x∈blk A',w.heap.size<=x)/\Below w.heap.size w w':=by
  have hlx:=hx.len;have hlen:=hy.len;have hXl:=qF (c:=zO) X;rw[hlx]at hXl;have Hlen:=Lib.hid hlen;have Hlx:=Lib.hid hlx;clear hlen hlx;have c0:=rset w A n cap X hx (by omega);go_enter Tryz.func108,Tryz.ntmps108
  (go_wp2_with fail);refine c0.mono ?_;rintro e w1 ⟨A1,cap1,rfl,hs1,hbs1,hb1⟩;clear c0;(go_wp2_with fail);go_loopw [5,6] (fun out i wr=>∃(k:Nat) (A2:Option Addr) (n2 cap2:Nat) (O:List zJ),k<=m/\i = .int .i64 k/\out = .slice A2 n2 cap2/\Hid (O=yF zO (X++Y.take k))/\iP wr A2 n2 cap2 O/\(∀x∈blk A2,w.heap.size<=x)/\Below w.heap.size w wr) (fun _ i _=>m-(intOf i).toNat)
  case atStart=>exact⟨0,A1,_,cap1,_,Nat.zero_le _,rfl,rfl,(show _=_ by simp),hs1,hbs1,hb1⟩
  case round =>
    obtain⟨k,A2,n2,cap2,O,hk,rfl,rfl,hO,hsw,hbs,hb⟩:=hrel;have hn1:O.length=n2:=by simpa using hsw.len
    by_cases hlt:k<m
    · obtain⟨q,o,rfl,hr⟩:=y8.get (SlR.below hy hb) hlt (by rw[Hlen.out];exact hlt);have htk:yF zO (X++Y.take (k+1))=xU zO O (Y[k]'(by rw[Hlen.out];exact hlt)):=by
        rw[List.take_add_one,List.getElem?_eq_getElem (by rw[Hlen.out];exact hlt),Option.toList_some,<-List.append_assoc,bE,hO.out]
      have hol:n2<=1000000:=by have:=qF (c:=zO) (X++Y.take k);rw[<-hO.out]at this;simp at this;have:=Hlen.out;have:=Hlx.out;omega
      have hris:Ris zO O:=by rw[hO.out];exact xE qP _
      obtain⟨d,hd⟩:∃d,Y[k]'(by rw[Hlen.out];exact hlt)=d:=⟨_,rfl⟩
      rw[hd]at hr htk;have Htk:=Lib.hid htk;have Hol:=Lib.hid hol;have Hris:=Lib.hid hris;clear hd htk hn1 hol hris;have c1:=KU wr A2 n2 cap2 O d hsw Hol.out Hris.out;(go_wp2_with fail);refine c1.mono ?_;rintro e w2 ⟨A3,cap3,rfl,hsw2,hsub2,hb2⟩;have hbb:=hb.trans (hb2.mono hb.size);have hsz:=hb.size;clear c1;(go_wp2_with fail);go_roundw
      case rel=>exact⟨k+1,A3,_,cap3,_,by omega,by go_num,rfl,(show _=_ from Htk.out.symm),hsw2,fun x hx=>(hsub2 x hx).elim (hbs x) (fun h=>by omega),hbb⟩
      case measure=>simp[intOf];omega
    · have e:Y.take k=Y:=List.take_of_length_le (by rw[Hlen.out];omega);have hO':=hO.out;rw[e]at hO';subst hO';subst hn1;clear hO e;(go_wp2_with fail);go_ret;exact⟨A2,cap2,rfl,hsw,hbs,hb⟩
theorem XK {cs:Array Value} {j:Nat} {v:Value} (h:cs[j]? = some v):cs.setIfInBounds j v=cs:=by
  obtain⟨hj,e⟩:=Array.getElem?_eq_some_iff.1 h;apply Array.ext
  · simp
  · intro i h1 h2;rw[Array.getElem_setIfInBounds];split
    · rename_i e';subst e';exact e.symm
    · rfl
theorem rsins8 (x:zT) (w:World) (g:Nat) (cs:Array Value) (A:Option Addr) (n cap:Nat) (L:List zT) (hg:w.heap[g]? = some (.cells cs 78 (0,0))) (hcs:cs[8]? = some (.slice A n cap)) (hswW:SlW w A n cap 66 (L.map yQ)) (hgA:g∉blk A) (hok:vH L) (hv:x.val.size<=9223372036854775807) (hn:n<=100000) :
    Calls Tryz.prog 77 #[.pointer (some ⟨g,8,none⟩),.agg (yQ x)] w fun e w'=>∃A' n' cap',e = .returned (.int .i64 (g6 x))/\w'.heap[g]? = some (.cells (cs.setIfInBounds 8 (.slice A' n' cap')) 78 (0,0))/\SlW w' A' n' cap' 66 ((tQ L x).map yQ)/\g∉blk A'/\z4 [g] w w':=by
  have hgl:g<w.heap.size:=(Array.getElem?_eq_some_iff.1 hg).1;have hb0:Below w.heap.size w (w.alloc (.cells (yP (bZ x)) 146)):=(Below.refl _ _).alloc (Nat.le_refl _) _;have hr0:z9 (w.alloc (.cells (yP (bZ x)) 146)) w.heap.size 0 66=some (yQ x):=by simp[go_sem]
  have hLn:L.length=n:=by simpa using hswW.len
  have Hlen:=Lib.hid hLn;have Hok:=Lib.hid hok;have hlt0:w.heap.size<(w.alloc (.cells (yP (bZ x)) 146)).heap.size:=zI hr0;clear hLn hok;go_enter Tryz.func77,Tryz.ntmps77
  go_upto_region 1 with fail
  obtain⟨gx,hgx⟩:∃gx,w.heap.size=gx:=⟨_,rfl⟩
  obtain⟨W0,hW0⟩:∃W0,w.alloc (.cells (yP (bZ x)) 146)=W0:=⟨_,rfl⟩
  rw[hW0]at hb0 hr0 hlt0;rw[hW0];rw[hgx]at hr0 hlt0 |-;have Hgx:=Lib.hid hgx;have c0:=rscheck x W0 hv;obtain⟨E,hE⟩:∃E,g6 x=E:=⟨_,rfl⟩
  rw[hE]at c0;have HE:=Lib.hid hE;clear hW0 hgx hE;(go_wp2_with fail);refine c0.mono ?_;rintro e w1 ⟨rfl,hb1⟩;have hb01:=xM hb0 hb1;have hg1:w1.heap[g]? = some (.cells cs 78 (0,0)):=(hb01.block g hgl).trans hg;have hr1:z9 w1 gx 0 66=some (yQ x):=(zB (hb1.block gx hlt0) _ _).trans hr0;have hsw1:=hswW.below hb01;have hc1:w1.cell? ⟨g,8,none⟩=some (.slice A n cap):=by rw[cell_of_row w1 g 8 _ _ _ hg1];exact hcs
  clear c0 hb0 hr0 hb1 hlt0 hg;by_cases hE0:E=0
  · subst hE0;obtain⟨f1,_,_,_⟩:=bG hr1;(go_wp2_with fail);go_loopw [6] (fun j wj=>∃m:Nat,m<=n/\j = .int .i64 m/\Hid (∀i (hi:i<L.length),i<m->zO (L[i]).id x.id<0)/\Below w1.heap.size w1 wj) (fun j _=>n-(intOf j).toNat)
    case atStart=>exact⟨0,Nat.zero_le _,rfl,(show ∀i (hi:i<L.length),i<0->_ from fun i _ h=>absurd h (by omega)),Below.refl _ _⟩
    case round =>
      obtain⟨m,hmO,rfl,hlow,hbj⟩:=hrel;have hrj:z9 wr gx 0 66=some (yQ x):=(zB (hbj.block gx (zI hr1)) _ _).trans hr1;have j1:z9 wr gx 0 32=some (idC x.id):=(zB (hbj.block gx (zI hr1)) _ _).trans f1;have hcj:=(hbj.cell (p:=⟨g,8,none⟩) (World.block_lt_of_cell? w1 _ hc1)).trans hc1;have hswj:=hsw1.below hbj;by_cases hmlt:m<n
      · obtain⟨q2,o2,rfl,hrO⟩:=bW.get hswj.rd hmlt (by rw[Hlen.out];exact hmlt);obtain⟨y1,_,_,_⟩:=bG hrO;obtain⟨y,hy⟩:∃y,L[m]'(by rw[Hlen.out];exact hmlt)=y:=⟨_,rfl⟩
        rw[hy]at y1;have Hy:=Lib.hid hy;have c2:=wE y.id x.id wr.drew;obtain⟨c,hc⟩:∃c,zO y.id x.id=c:=⟨_,rfl⟩
        rw[hc]at c2;have Hc:=Lib.hid hc;clear hy hc hrO;go_upto_region 5 with fail
        refine zA (Bel wr) false (by kernel_rfl) (by kernel_rfl) (by kernel_rfl) (zC wr) ?_;have hne:=zQ wr;have hS:=zC wr;have b1:=zY j1;have b2:=zY y1;have b3:=zP hcj;repeat(refine z6 ?_ ?_;(focus(simp only[z3];done));intro K hK;go_simp;refine hK _ ?_;clear hK K)
        refine zH ?_ ?_ ?_;(focus(exact hS));(focus(simp only[z3];done));intro K hK;go_simp;refine(c2).mono ?_;rintro e w' ⟨rfl,hb⟩;replace hS:=yN hS hb;refine⟨_,rfl,hS,hK _ _ ?_⟩;clear hK K hb;repeat(refine z6 ?_ ?_;(focus(simp only[z3];done));intro K hK;go_simp;refine hK _ ?_;clear hK K)
        refine zK ?_;intro hS;have hS':Below wr.heap.size wr w':=hS;have hbz:=xM hbj hS';have hcz:=(hS'.cell (World.block_lt_of_cell? wr _ hcj)).trans hcj;have j1z:z9 w' gx 0 32=some (idC x.id):=(zB (hS'.block gx (zI j1)) _ _).trans j1;have y1z:z9 w' q2 (o2+m*66) 32=some (idC y.id):=(zB (hS'.block q2 (zI y1)) _ _).trans y1;clear b1 b2 b3 hne hS c2 hS' hbj j1 y1 hcj hswj hrj;by_cases hyx:c<0
        · clear hcz j1z y1z;(go_wp2_with fail);go_roundw
          case rel =>
            refine⟨m+1,by omega,by go_num,(show ∀i (hi:i<L.length),i<m+1->zO (L[i]).id x.id<0 from fun i hi hlt=>?_),hbz⟩;by_cases e:i=m
            · subst e;rw[Hy.out,Hc.out];exact hyx
            · exact hlow.out i hi (by omega)
          case measure=>simp[intOf];omega
        · have Hyx:=Lib.hid hyx;obtain⟨V,rfl⟩:∃V,V=w':=⟨w',rfl⟩
          by_cases hid:y.id=x.id
          · have hin:x.id∈L.map zT.id:=List.mem_map.2 ⟨y,by rw[<-Hy.out];exact List.getElem_mem _,hid⟩;have Hin:Hid (tQ L x=L):=(show _=_ by unfold tQ;rw[if_pos HE.out,if_pos hin])
            have he:(y.id==x.id)=true:=by simpa using hid
            clear hin hid;go_upto_region 7 with fail
            refine zA (Bel V) false (by kernel_rfl) (by kernel_rfl) (by kernel_rfl) (zC V) ?_;have hne:=zQ V;have hS:=zC V;have b1:=zY j1z;have b2:=zY y1z;have b3:=zP hcz;repeat(refine z6 ?_ ?_;(focus(simp only[z3];done));intro K hK;go_simp;refine hK _ ?_;clear hK K)
            refine zK ?_;intro hS;have hsz:=hsw1.below (hbz.drew);have hgz:=(hbz.drew.block g (Array.getElem?_eq_some_iff.1 hg1).1).trans hg1;have hkz:z4 [g] w V.drew:=(z4.of_below (xM hb01 hbz.drew)).mono (S':=[g]) (by simp);have Hsz:=Lib.hid hsz;clear b1 b2 b3 hne hS j1z y1z hcz hbz hsz he;(go_wp2_with fail);go_ret;exact⟨yB HE.out.symm,_,n,cap,by rw[XK hcs];exact hgz,by rw[Hin.out];exact Hsz.out,hgA,hkz⟩
          · have hnin:x.id∉L.map zT.id:=fun hx=>by
              obtain⟨z,hz,e⟩:=List.mem_map.1 hx;obtain⟨i,hi,e2⟩:=List.mem_iff_getElem.1 hz;have hri:=Z4 Hok.out;rcases Nat.lt_trichotomy i m with h1 | h1 | h1
              · have:=hlow.out i hi h1;rw[e2,e]at this;exact qP.irr _ this
              · subst h1;rw[Hy.out]at e2;rw[<-e2]at e;exact hid e
              · have h2:=KW hri (i:=m) (j:=i) h1 (by simpa using hi);rw[List.getElem_map,List.getElem_map,Hy.out,e2,e]at h2;rw[Hc.out]at h2;exact Hyx.out h2
            have hat:=vP (c:=pK) L x m (by rw[Hlen.out];exact hmO) (fun i hi hlt=>by
                have h1:=hlow.out i hi hlt;unfold pK orC;rw[if_neg (by omega)];exact h1) (fun hk'=>by
                rw[Hy.out];have h1:zO y.id x.id≠0:=fun e'=>hid ((jO _ _).1 e');have h2:=Hyx.out;rw[<-Hc.out]at h2;unfold pK orC;rw[if_neg h1];omega)
            have Hat:=Lib.hid hat;have Hin:Hid (tQ L x=xU pK L x):=(show _=_ by unfold tQ;rw[if_pos HE.out,if_neg hnin])
            have he:(y.id==x.id)=false:=by simpa using hid
            clear hnin hat hid;go_upto_region 7 with fail
            refine zA (Bel V) false (by kernel_rfl) (by kernel_rfl) (by kernel_rfl) (zC V) ?_;have hne:=zQ V;have hS:=zC V;have b1:=zY j1z;have b2:=zY y1z;have b3:=zP hcz;repeat(refine z6 ?_ ?_;(focus(simp only[z3];done));intro K hK;go_simp;refine hK _ ?_;clear hK K)
            refine zK ?_;intro hS;have hsw:=hsw1.below (hbz.drew);have hrx:z9 V.drew gx 0 66=some (yQ x):=(zB (hbz.drew.block gx (zI hr1)) _ _).trans hr1;have hgV:=(hbz.drew.block g (Array.getElem?_eq_some_iff.1 hg1).1).trans hg1;have hcW:=(hbz.drew.cell (p:=⟨g,8,none⟩) (World.block_lt_of_cell? w1 _ hc1)).trans hc1;have hBw:=xM hb01 hbz.drew;clear b1 b2 b3 hne hS j1z y1z hcz hbz he hsw1 hr1 hg1 hc1 f1 hb01;obtain⟨W,hW⟩:∃W,V.drew=W:=⟨_,rfl⟩
            rw[hW]at hsw hrx hgV hcW hBw;rw[hW];clear hW;have hgW:g<W.heap.size:=(Array.getElem?_eq_some_iff.1 hgV).1;obtain⟨A,hA1⟩:∃A,(some ⟨q2,o2,none⟩:Option Addr)=A:=⟨_,rfl⟩
            rw[hA1]at hsw hcW;rw[hA1]at hgA;clear hA1 hcs hswW;have hBx:Below W.heap.size W (W.alloc (.cells #[] 146)):=(Below.refl _ _).alloc (Nat.le_refl _) _;have hcx:=(hBx.cell (p:=⟨g,8,none⟩) (World.block_lt_of_cell? W _ hcW)).trans hcW;have hown0:=Own.empty W W.heap.size 146 66 (Nat.le_refl _);have hlo:∀w0:World,(slS 74 (.slice A n cap) none (some (.int .i64 m)) none).run Tryz.prog w0 = .ok (.slice A m cap) w0:=fun w0=>SlW.lo qL hsw hmO w0;obtain⟨Ah,ch,hhi,hhs,hhf⟩:=hsw.hi (P:=Tryz.prog) qL (m:=m) hmO;have hslo:SlR (W.alloc (.cells #[] 146)) A m 66 ((L.map yQ).take m):=(hsw.rd.below hBx).take_ hmO;have hf1:=hsw.nil;have hrone:∀r∈(L.map yQ).take m,∀u∈r.toList,u.oneCell'=true:=fun r hr=>(by obtain⟨y',_,rfl⟩:=List.mem_map.1 (List.mem_of_mem_take hr);exact jG _);have hrone2:∀r∈(L.map yQ).drop m,∀u∈r.toList,u.oneCell'=true:=fun r hr=>(by obtain⟨y',_,rfl⟩:=List.mem_map.1 (List.mem_of_mem_drop hr);exact jG _);go_upto_region 10 with(at_builtin;refine yD qL rfl hown0 rfl hslo hf1 hrone (by omega) (by omega) (by simp) ?_;intro A2 cap2 w2 hown2 hk2 hsub2)
            simp only[Nat.zero_add,List.nil_append]at hown2;have hwW:Below W.heap.size W w2:=hBx.trans (hk2.below (by simp) (by simp[blk]));have hrw2:z9 w2 gx 0 66=some (yQ x):=(zB (hwW.block gx (zI hrx)) _ _).trans hrx;have hB3:Below w2.heap.size w2 (w2.alloc (.cells (yP (bZ x)) 146)):=(Below.refl _ _).alloc (Nat.le_refl _) _;have hown3:=hown2.below hB3;have hrow3:z9 (w2.alloc (.cells (yP (bZ x)) 146)) w2.heap.size 0 66=some (yQ x):=by simp[go_sem]
            have hsz2:=hwW.size;go_upto_region 11 with(at_builtin;refine yX qL rfl hown3 rfl hrow3 (jG _) (by omega) (by omega) (by simp;omega) ?_;intro A4 cap4 w4 hown4 hk4 hsub4)
            have hwW4:Below W.heap.size W w4:=(hwW.trans (hB3.mono hsz2)).trans (hk4.below (by simp;omega) (fun x hx=>(hown2.at_base hx).1));have hs4:=hhs w4 (hsw.rd.below hwW4);have hsz4:=hwW4.size;have hc4:=(hwW4.cell (p:=⟨g,8,none⟩) (World.block_lt_of_cell? W _ hcW)).trans hcW;clear hown3 hrow3 hB3 hown0 hBx hslo hrw2 hlo hcx;go_upto_region 12 with(at_builtin;refine yD qL rfl hown4 rfl hs4 hhf hrone2 (by omega) (by omega) (by omega) ?_;intro A5 cap5 w5 hown5 hk5 hsub5)
            have hwW5:Below W.heap.size W w5:=hwW4.trans (hk5.below (by omega) (fun x hx=>(hown4.at_base hx).1));have hO5:(L.map yQ).take m ++ [yQ x]++(L.map yQ).drop m=(L.take m++x :: L.drop m).map yQ:=by simp[List.map_take,List.map_drop]
            rw[hO5,<-Hat.out]at hown5;clear hown4 hown2 hO5 hs4 hhi hhs hrone hrone2 hf1 hc4;have hg5:w5.heap[g]? = some (.cells cs 78 (0,0)):=(hwW5.block g hgW).trans hgV;have hc5:w5.cell? ⟨g,8,none⟩=some (.slice A n cap):=(hwW5.cell (p:=⟨g,8,none⟩) (World.block_lt_of_cell? W _ hcW)).trans hcW;have hf5:w5.frozen? ⟨g,8,none⟩=false:=by simp[World.frozen?,hg5]
            have hfin:=zE hg5 8 (.slice A5 (m+1+(n-m)) cap5);have hks:=z4.setCell w5 ⟨g,8,none⟩ (.slice A5 (m+1+(n-m)) cap5);have hbb:Below w.heap.size w w5:=hBw.trans (hwW5.mono hBw.size);have hWw:=hBw.size;have hown6:=hown5.kept hks (fun y hy hm=>by have:=(hown5.at_base hy).1;simp at hm;omega);have hsl6:=hown6.slw;have hgA5:g∉blk A5:=fun hx=>(by have:=(hown5.at_base hx).1;omega);have hkf:z4 [g] w (w5.setCell ⟨g,8,none⟩ (.slice A5 (m+1+(n-m)) cap5)):=z4.trans ((z4.of_below hbb).mono (S':=[g]) (by simp)) hks (fun x hx=>.inl hx);have Hsl6:=Lib.hid hsl6;clear hown5 hown6 hsl6 hbb hks;(go_wp2_with fail);go_ret;first | exact⟨yB HE.out.symm,A5,m+1+(n-m),cap5,hfin,by rw[Hin.out];exact Hsl6.out,hgA5,hkf⟩ | exact⟨A5,m+1+(n-m),cap5,yB HE.out.symm,hfin,by rw[Hin.out];exact Hsl6.out,hgA5,hkf⟩
      · have hd:decide (m<n)=false:=by simpa using hmlt
        have hnin:x.id∉L.map zT.id:=fun hx=>by
          obtain⟨z,hz,e⟩:=List.mem_map.1 hx;obtain⟨i,hi,e2⟩:=List.mem_iff_getElem.1 hz;have:=hlow.out i hi (by have:=Hlen.out;omega);rw[e2,e]at this;exact qP.irr _ this
        have hat:=vP (c:=pK) L x m (by rw[Hlen.out];exact hmO) (fun i hi hlt=>by
            have h1:=hlow.out i hi hlt;unfold pK orC;rw[if_neg (by omega)];exact h1) (fun hk'=>absurd (by rw[<-Hlen.out];exact hk') hmlt)
        have Hat:=Lib.hid hat;have Hin:Hid (tQ L x=xU pK L x):=(show _=_ by unfold tQ;rw[if_pos HE.out,if_neg hnin])
        clear hnin hat j1;go_upto_region 5 with fail
        refine zA (Bel wr) false (by kernel_rfl) (by kernel_rfl) (by kernel_rfl) (zC wr) ?_;have hne:=zQ wr;have hS:=zC wr;have b3:=zP hcj;repeat(refine z6 ?_ ?_;(focus(simp only[z3];done));intro K hK;go_simp;refine hK _ ?_;clear hK K)
        refine zH ?_ ?_ ?_;(focus(exact hS));(focus(simp only[z3];done));intro K hK;go_simp;refine hK _ _ ?_;clear hK K;repeat(refine z6 ?_ ?_;(focus(simp only[z3];done));intro K hK;go_simp;refine hK _ ?_;clear hK K)
        refine zK ?_;intro hS;clear b3 hne hS;have hcz:wr.drew.cell? ⟨g,8,none⟩=some (.slice A n cap):=hcj;go_upto_region 7 with fail
        refine zA (Bel wr.drew) false (by kernel_rfl) (by kernel_rfl) (by kernel_rfl) (zC wr.drew) ?_;have hne:=zQ wr.drew;have hS:=zC wr.drew;have b3:=zP hcz;repeat(refine z6 ?_ ?_;(focus(simp only[z3];done));intro K hK;go_simp;refine hK _ ?_;clear hK K)
        refine zK ?_;intro hS;have hbz:Below w1.heap.size w1 wr.drew.drew:=hbj.drew.drew;have hsw:=hsw1.below hbz;have hrx:z9 wr.drew.drew gx 0 66=some (yQ x):=hrj;have hgV:=(hbz.block g (Array.getElem?_eq_some_iff.1 hg1).1).trans hg1;have hcW:wr.drew.drew.cell? ⟨g,8,none⟩=some (.slice A n cap):=hcj;have hBw:=xM hb01 hbz;clear b3 hne hS hcz hbz hsw1 hr1 hg1 hc1 f1 hb01 hcj hrj hbj hswj hd hmlt;obtain⟨W,hW⟩:∃W,wr.drew.drew=W:=⟨_,rfl⟩
        rw[hW]at hsw hrx hgV hcW hBw;rw[hW];clear hW;have hgW:g<W.heap.size:=(Array.getElem?_eq_some_iff.1 hgV).1;clear hcs hswW;have hBx:Below W.heap.size W (W.alloc (.cells #[] 146)):=(Below.refl _ _).alloc (Nat.le_refl _) _;have hcx:=(hBx.cell (p:=⟨g,8,none⟩) (World.block_lt_of_cell? W _ hcW)).trans hcW;have hown0:=Own.empty W W.heap.size 146 66 (Nat.le_refl _);have hlo:∀w0:World,(slS 74 (.slice A n cap) none (some (.int .i64 m)) none).run Tryz.prog w0 = .ok (.slice A m cap) w0:=fun w0=>SlW.lo qL hsw hmO w0;obtain⟨Ah,ch,hhi,hhs,hhf⟩:=hsw.hi (P:=Tryz.prog) qL (m:=m) hmO;have hslo:SlR (W.alloc (.cells #[] 146)) A m 66 ((L.map yQ).take m):=(hsw.rd.below hBx).take_ hmO;have hf1:=hsw.nil;have hrone:∀r∈(L.map yQ).take m,∀u∈r.toList,u.oneCell'=true:=fun r hr=>(by obtain⟨y',_,rfl⟩:=List.mem_map.1 (List.mem_of_mem_take hr);exact jG _);have hrone2:∀r∈(L.map yQ).drop m,∀u∈r.toList,u.oneCell'=true:=fun r hr=>(by obtain⟨y',_,rfl⟩:=List.mem_map.1 (List.mem_of_mem_drop hr);exact jG _);go_upto_region 10 with(at_builtin;refine yD qL rfl hown0 rfl hslo hf1 hrone (by omega) (by omega) (by simp) ?_;intro A2 cap2 w2 hown2 hk2 hsub2)
        simp only[Nat.zero_add,List.nil_append]at hown2;have hwW:Below W.heap.size W w2:=hBx.trans (hk2.below (by simp) (by simp[blk]));have hrw2:z9 w2 gx 0 66=some (yQ x):=(zB (hwW.block gx (zI hrx)) _ _).trans hrx;have hB3:Below w2.heap.size w2 (w2.alloc (.cells (yP (bZ x)) 146)):=(Below.refl _ _).alloc (Nat.le_refl _) _;have hown3:=hown2.below hB3;have hrow3:z9 (w2.alloc (.cells (yP (bZ x)) 146)) w2.heap.size 0 66=some (yQ x):=by simp[go_sem]
        have hsz2:=hwW.size;go_upto_region 11 with(at_builtin;refine yX qL rfl hown3 rfl hrow3 (jG _) (by omega) (by omega) (by simp;omega) ?_;intro A4 cap4 w4 hown4 hk4 hsub4)
        have hwW4:Below W.heap.size W w4:=(hwW.trans (hB3.mono hsz2)).trans (hk4.below (by simp;omega) (fun x hx=>(hown2.at_base hx).1));have hs4:=hhs w4 (hsw.rd.below hwW4);have hsz4:=hwW4.size;have hc4:=(hwW4.cell (p:=⟨g,8,none⟩) (World.block_lt_of_cell? W _ hcW)).trans hcW;clear hown3 hrow3 hB3 hown0 hBx hslo hrw2 hlo hcx;go_upto_region 12 with(at_builtin;refine yD qL rfl hown4 rfl hs4 hhf hrone2 (by omega) (by omega) (by omega) ?_;intro A5 cap5 w5 hown5 hk5 hsub5)
        have hwW5:Below W.heap.size W w5:=hwW4.trans (hk5.below (by omega) (fun x hx=>(hown4.at_base hx).1));have hO5:(L.map yQ).take m ++ [yQ x]++(L.map yQ).drop m=(L.take m++x :: L.drop m).map yQ:=by simp[List.map_take,List.map_drop]
        rw[hO5,<-Hat.out]at hown5;clear hown4 hown2 hO5 hs4 hhi hhs hrone hrone2 hf1 hc4;have hg5:w5.heap[g]? = some (.cells cs 78 (0,0)):=(hwW5.block g hgW).trans hgV;have hc5:w5.cell? ⟨g,8,none⟩=some (.slice A n cap):=(hwW5.cell (p:=⟨g,8,none⟩) (World.block_lt_of_cell? W _ hcW)).trans hcW;have hf5:w5.frozen? ⟨g,8,none⟩=false:=by simp[World.frozen?,hg5]
        have hfin:=zE hg5 8 (.slice A5 (m+1+(n-m)) cap5);have hks:=z4.setCell w5 ⟨g,8,none⟩ (.slice A5 (m+1+(n-m)) cap5);have hbb:Below w.heap.size w w5:=hBw.trans (hwW5.mono hBw.size);have hWw:=hBw.size;have hown6:=hown5.kept hks (fun y hy hm=>by have:=(hown5.at_base hy).1;simp at hm;omega);have hsl6:=hown6.slw;have hgA5:g∉blk A5:=fun hx=>(by have:=(hown5.at_base hx).1;omega);have hkf:z4 [g] w (w5.setCell ⟨g,8,none⟩ (.slice A5 (m+1+(n-m)) cap5)):=z4.trans ((z4.of_below hbb).mono (S':=[g]) (by simp)) hks (fun x hx=>.inl hx);have Hsl6:=Lib.hid hsl6;clear hown5 hown6 hsl6 hbb hks;(go_wp2_with fail);go_ret;first | exact⟨yB HE.out.symm,A5,m+1+(n-m),cap5,hfin,by rw[Hin.out];exact Hsl6.out,hgA5,hkf⟩ | exact⟨A5,m+1+(n-m),cap5,yB HE.out.symm,hfin,by rw[Hin.out];exact Hsl6.out,hgA5,hkf⟩
  · have hE1:(E != 0)=true:=by simpa using hE0
    have Hin:Hid (tQ L x=L):=(show _=_ by unfold tQ;rw[if_neg (by rw[HE.out];exact hE0)])
    have hkz:z4 [g] w w1:=(z4.of_below hb01).mono (S':=[g]) (by simp);have Hsz:=Lib.hid hsw1;clear hE0 hsw1 hr1 hc1 hb01;(go_wp2_with fail);go_ret;exact⟨A,n,cap,yB HE.out.symm,by rw[XK hcs];exact hg1,by rw[Hin.out];exact Hsz.out,hgA,hkz⟩
theorem rsdel8 (d:zJ) (w:World) (g:Nat) (cs:Array Value) (A:Option Addr) (n cap:Nat) (G:List zJ) (hg:w.heap[g]? = some (.cells cs 78 (0,0))) (hcs:cs[9]? = some (.slice A n cap)) (hI:iP w A n cap G) (hgA:g∉blk A) (hr:Ris zO G) (hn:n<=100000) :
    Calls Tryz.prog 78 #[.pointer (some ⟨g,8,none⟩),.agg (idC d)] w fun e w'=>∃A' cap',e = .returned (.tuple #[])/\w'.heap[g]? = some (.cells (cs.setIfInBounds 9 (.slice A' (xU zO G d).length cap')) 78 (0,0))/\iP w' A' (xU zO G d).length cap' (xU zO G d)/\g∉blk A'/\z4 [g] w w':=by
  have hgl:g<w.heap.size:=(Array.getElem?_eq_some_iff.1 hg).1;have hb0:Below w.heap.size w (w.alloc (.cells (idC d) 24)):=(Below.refl _ _).alloc (Nat.le_refl _) _;have hr0:z9 (w.alloc (.cells (idC d) 24)) w.heap.size 0 32=some (idC d):=by simp[go_sem]
  go_enter Tryz.func78,Tryz.ntmps78
  go_upto_region 1 with fail
  obtain⟨gx,hgx⟩:∃gx,w.heap.size=gx:=⟨_,rfl⟩
  obtain⟨W,hW⟩:∃W,w.alloc (.cells (idC d) 24)=W:=⟨_,rfl⟩
  rw[hW]at hb0 hr0;rw[hW];rw[hgx]at hr0 |-;have Hgx:=Lib.hid hgx;have hgW:=(hb0.block g hgl).trans hg;have hcW:W.cell? ⟨g,9,none⟩=some (.slice A n cap):=by rw[cell_of_row W g 9 _ _ _ hgW];exact hcs
  have hIW:=hI.below hb0;have c1:=KU W.drew A n cap G d (hIW.below (zC W)) (by omega) hr;clear hW hgx;refine xB (Kp [] W) false (by kernel_rfl) (by kernel_rfl) (by kernel_rfl) (by kernel_rfl) (zW [] W) ?_;have hne:=xA [] W;have hS:=zW [] W;have b1:=j5 hr0 (S:=[]) (by simp);have b2:=zM hcW (S:=[]) (by simp);repeat(refine z6 ?_ ?_;(focus(simp only[z3];done));intro K hK;go_simp;refine hK _ ?_;clear hK K)
  refine zH ?_ ?_ ?_;(focus(exact hS));(focus(simp only[z3];done));intro K hK;go_simp;refine c1.mono ?_;rintro e w3 ⟨A',cap',rfl,hI3,hsub3,hb3⟩;have hb30:Below W.heap.size W w3:=yN (zC W) hb3;have hb3w:=xM hb0 hb30;refine⟨_,rfl,(z4.of_below hb30),hK _ _ ?_⟩;clear hK K;have hg3:w3.heap[g]? = some (.cells cs 78 (0,0)):=(hb3w.block g hgl).trans hg;have hc3:w3.cell? ⟨g,9,none⟩=some (.slice A n cap):=by rw[cell_of_row w3 g 9 _ _ _ hg3];exact hcs
  have hf3:w3.frozen? ⟨g,9,none⟩=false:=by simp[World.frozen?,hg3]
  repeat(refine z6 ?_ ?_;(focus(simp only[z3];done));intro K hK;go_simp;refine hK _ ?_;clear hK K)
  refine jS ?_ ?_;(focus(simp only[z3];done));intro K hK;go_simp;refine hK _ _ ?_;clear hK K;have hfin:=zE hg3 9 (.slice A' (xU zO G d).length cap');have hks:=z4.setCell w3 ⟨g,9,none⟩ (.slice A' (xU zO G d).length cap');have hgA3:g∉blk A':=fun hx=>by
    rcases hsub3 g hx with h1 | h1
    · exact hgA h1
    · have h2:=hb0.size;have h3:W.drew.heap.size=W.heap.size:=rfl;omega
  have hI4:=hI3.kept hks (fun x hx hm=>hgA3 (by simp at hm;rw[<-hm];exact hx));have hkf:z4 [g] w (w3.setCell ⟨g,9,none⟩ (.slice A' (xU zO G d).length cap')):=z4.trans ((z4.of_below hb3w).mono (S':=[g]) (by simp)) hks (fun x hx=>.inl hx);clear hI3 hks hg3 hc3 hf3 b1 b2 hne hS c1;(go_wp2_with fail);go_end0;exact⟨A',cap',rfl,hfin,hI4,hgA3,hkf⟩
theorem rmset6 (xr:j6) (B:Option Addr) (m mc:Nat) (T:List zJ) (w:World) (g:Nat) (cs:Array Value) (AX:Option Addr) (nX cX:Nat) (X:List j6) (OA:Option Addr) (no oc:Nat) (G:List zJ)
    (hg:w.heap[g]? = some (.cells cs 78 (0,0))) (hcs:cs[6]? = some (.slice AX nX cX)) (hcs7:cs[7]? = some (.slice OA no oc)) (h1w:fN w AX nX X) (f1:AX=none->cX=0) (hOw:y8 w OA no G) (hgO:g∉blk OA) (hBw:y8 w B m T) (hgB:g∉blk B)
    (hks:xr.key.size<=16) (hvs:xr.val.size<=16) (hn:nX<=100000) (hno:no<=100000) (hm:m<=100000) :
    Calls Tryz.prog 76 #[.pointer (some ⟨g,6,none⟩),.agg (zX xr),.slice B m mc] w fun e w'=>∃A3 cap3 A9 cap9,e = .returned (.int .i64 0)/\w'.heap[g]? = some (.cells ((cs.setIfInBounds 6 (.slice A3 (nX+1) cap3)).setIfInBounds 7 (.slice A9 (yF zO (G++T)).length cap9)) 78 (0,0))/\Own w' w.heap.size 143 34 A3 (nX+1) cap3 ((X ++ [xr]).map zX)/\iP w' A9 (yF zO (G++T)).length cap9 (yF zO (G++T))/\(∀x∈blk A9,w.heap.size<=x)/\z4 [g] w w':=by
  have hbW:Below w.heap.size w (w.alloc (.cells (zX xr) 143)):=(Below.refl _ _).alloc (Nat.le_refl _) _;have hgl:g<w.heap.size:=(Array.getElem?_eq_some_iff.1 hg).1;have hgx:=(hbW.block g hgl).trans hg;have h1:=SlR.below h1w hbW;have hO:=SlR.below hOw hbW;have hB:=SlR.below hBw hbW;have hrb:z9 (w.alloc (.cells (zX xr) 143)) w.heap.size 0 34=some (zX xr):=by simp[go_sem]
  have hWs:w.heap.size<=(w.alloc (.cells (zX xr) 143)).heap.size:=by simp
  go_enter Tryz.func76,Tryz.ntmps76
  go_upto_region 3 with fail
  obtain⟨gx,hgxe⟩:∃gx,w.heap.size=gx:=⟨_,rfl⟩
  obtain⟨W,hW⟩:∃W,w.alloc (.cells (zX xr) 143)=W:=⟨_,rfl⟩
  rw[hW]at hbW hgx h1 hO hB hrb hWs;rw[hW];have HW:=Lib.hid hWs;rw[hgxe]at hrb |-;have hgW:g<W.heap.size:=by omega
  have hc0:W.cell? ⟨g,6,none⟩=some (.slice AX nX cX):=by rw[cell_of_row W g 6 _ _ _ hgx];exact hcs
  have b1:=zM hc0 (S:=[]) (by simp);have b2:=j5 hrb (S:=[]) (by simp);clear hW hgxe hWs h1w hOw hBw hgl;refine fX (.loose 0 (.loose 2 (.loose 3 (.loose 4 (.loose 5 (.loose 7 (.two 1 (.two 6 (.one 8 (.one 9 (.loose 10 (.loose 11 (.one 12 .done))))) 8 (.one 6 (.one 9 (.loose 10 (.loose 11 (.one 12 .done)))))) 8 (.one 1 (.one 6 (.one 9 (.loose 10 (.loose 11 (.one 12 .done))))))))))))) (Kp [] W) false (by kernel_rfl) (by kernel_rfl) (by kernel_rfl) (by kernel_rfl) (by kernel_rfl) (zW [] W) ?_;have hne:=xA [] W;have hS:=zW [] W;repeat(refine xW rfl ?_ ?_;(focus(simp only[z3];done));intro K hK;go_simp;refine hK _ ?_;clear hK K)
  refine gH ?_ ?_
  ·
    refine qA ?_ rfl ?_ ?_;(focus(exact hS));(focus(simp only[z3];done));intro K hK;go_simp;refine zZ (jE hS _) (fun hSn=>?_);refine hK _ _ ?_;clear hK K;replace hS:=hSn;clear hSn;refine gH ?_ ?_
    · have hs1:SlR (W.drew.alloc (.cells #[] 143)) AX nX 34 (X.map zX):=h1.kept hS (by simp);refine gE v8 rfl rfl (Own.empty W.drew W.heap.size 143 34 (Nat.le_refl _)) rfl hs1 f1 (VL X) (by omega) (by omega) (by simp) ?_;intro A2 cap2 w2 hown2 hk2 hsub2;simp only[Nat.zero_add,List.nil_append]at hown2 |-;refine zZ (z4.trans hS hk2 (by simp[blk])) (fun hSn=>?_);replace hS:=hSn;clear hSn;refine qA ?_ rfl ?_ ?_;(focus(exact hS));(focus(simp only[z3];done));intro K hK;go_simp;refine zZ (jE hS _) (fun hSn=>?_);refine hK _ _ ?_;clear hK K;replace hS:=hSn;clear hSn;have hba:Below w2.heap.size w2 (w2.alloc (.cells (zX xr) 143)):=(Below.refl _ _).alloc (Nat.le_refl _) _;have hown3:=hown2.below hba;have hrow3:z9 (w2.alloc (.cells (zX xr) 143)) w2.heap.size 0 34=some (zX xr):=by simp[go_sem]
      have hsz:=hS.size;refine kO v8 rfl rfl hown3 rfl hrow3 (vS _) (by omega) (by omega) hsz ?_;intro A3 cap3 w3 hown4 hk3 hsub3;refine zZ (z4.trans hS hk3 (fun x hx=>.inr ((hown2.at_base hx).1))) (fun hSn=>?_);replace hS:=hSn;clear hSn;repeat(refine xW rfl ?_ ?_;(focus(simp only[z3];done));intro K hK;go_simp;refine hK _ ?_;clear hK K)
      have hg3:w3.heap[g]? = some (.cells cs 78 (0,0)):=(hS.block g hgW (by simp)).trans hgx;have hc3:w3.cell? ⟨g,6,none⟩=some (.slice AX nX cX):=by rw[cell_of_row w3 g 6 _ _ _ hg3];exact hcs
      have hf3:w3.frozen? ⟨g,6,none⟩=false:=by simp[World.frozen?,hg3]
      refine bP rfl ?_ (by kernel_rfl) ?_;(focus(simp only[z3];done));intro K hK;go_simp;refine hK _ _ ?_;clear hK K;have hown5:=hown4.kept (z4.setCell w3 ⟨g,6,none⟩ (.slice A3 (nX+1) cap3)) (fun x hx=>by have:=(hown4.at_base hx).1;simp;omega);have hfin:(w3.setCell ⟨g,6,none⟩ (.slice A3 (nX+1) cap3)).heap[g]? = some (.cells (cs.setIfInBounds 6 (.slice A3 (nX+1) cap3)) 78 (0,0)):=zE hg3 6 _;have hrowsF:(X.map zX) ++ [zX xr]=(X ++ [xr]).map zX:=by simp
      have hown6:Own (w3.setCell ⟨g,6,none⟩ (.slice A3 (nX+1) cap3)) W.heap.size 143 34 A3 (nX+1) cap3 ((X ++ [xr]).map zX):=by rw[<-hrowsF];exact hown5
      have hkfin:z4 [g] W (w3.setCell ⟨g,6,none⟩ (.slice A3 (nX+1) cap3)):=z4.trans (hS.mono (S':=[g]) (by simp)) (z4.setCell w3 ⟨g,6,none⟩ _) (by simp);clear hown5 hown4 hown2 hown3 hS hg3 hc3 hf3 hk3 hk2 hsub3 hsub2 hrowsF;have hb3:z4 [g] w (w3.setCell ⟨g,6,none⟩ (.slice A3 (nX+1) cap3)):=z4.trans ((z4.of_below hbW).mono (S':=[g]) (by simp)) hkfin (fun x hx=>.inl hx);obtain⟨V,hV⟩:∃V,w3.setCell ⟨g,6,none⟩ (.slice A3 (nX+1) cap3)=V:=⟨_,rfl⟩
      rw[hV]at hfin hown6 hkfin hb3 |-;have hVO:y8 V OA no G:=hO.kept (hkfin) (fun x hx hm=>hgO (by simp at hm;subst hm;exact hx));have hVB:y8 V B m T:=hB.kept (hkfin) (fun x hx hm=>hgB (by simp at hm;subst hm;exact hx));have hcV:V.cell? ⟨g,7,none⟩=some (.slice OA no oc):=by rw[cell_of_row V g 7 _ _ _ hfin];simp[hcs7]
      have Hown6:=Lib.hid hown6;clear hV hcs hO hB hgx hkfin hown6 hc0 hrb b1 b2 hbW hgW h1;have cb:=vz V OA B no m oc mc G T hVO hVB (by omega) (by omega);(go_wp2_with fail);refine cb.mono ?_;rintro e w9 ⟨A9,cap9,rfl,hI9,hb9,hbel9⟩;have hg9:w9.heap[g]? = some (.cells (cs.setIfInBounds 6 (.slice A3 (nX+1) cap3)) 78 (0,0)):=(hbel9.block g (Array.getElem?_eq_some_iff.1 hfin).1).trans hfin;have hc9:w9.cell? ⟨g,7,none⟩=some (.slice OA no oc):=(hbel9.cell (p:=⟨g,7,none⟩) (World.block_lt_of_cell? V _ hcV)).trans hcV;have hf9:w9.frozen? ⟨g,7,none⟩=false:=by simp[World.frozen?,hg9]
      have hfinal:=zE hg9 7 (.slice A9 (yF zO (G++T)).length cap9);have hks:=z4.setCell w9 ⟨g,7,none⟩ (.slice A9 (yF zO (G++T)).length cap9);have hgl:g<w.heap.size:=(Array.getElem?_eq_some_iff.1 hg).1;have hVs:=hb3.size;have hWs:w.heap.size<=W.heap.size:=HW.out;have hI10:=hI9.kept hks (fun x hx hm=>by have:=hb9 x hx;simp at hm;omega);have hR10:=((Hown6.out).below hbel9).kept hks (fun x hx hm=>by have:=(Hown6.out.at_base hx).1;simp at hm;omega);have hkf:z4 [g] w (w9.setCell ⟨g,7,none⟩ (.slice A9 (yF zO (G++T)).length cap9)):=z4.trans (z4.trans hb3 (z4.of_below hbel9) (by simp)) hks (fun x hx=>.inl hx);have hb9':∀x∈blk A9,w.heap.size<=x:=fun x hx=>(by have:=hb9 x hx;omega);clear hI9 hb9 cb hVO hVB;(go_wp2_with fail);go_ret;exact⟨A3,cap3,A9,cap9,rfl,hfinal,hR10.mono hWs,hI10,hb9',hkf⟩
    ·
      refine qA ?_ rfl ?_ ?_;(focus(exact hS));(focus(simp only[z3];done));intro K hK;go_simp;refine zZ (jE hS _) (fun hSn=>?_);refine hK _ _ ?_;clear hK K;replace hS:=hSn;clear hSn;have hs1:SlR ((W.drew.alloc (.cells #[] 143)).alloc (.cells (zX xr) 143)) AX nX 34 (X.map zX):=h1.kept hS (by simp);have hown0:=(Own.empty W.drew W.heap.size 143 34 (Nat.le_refl _)).below ((Below.refl _ _).alloc (Nat.le_refl _) (.cells (zX xr) 143));refine gE v8 rfl rfl hown0 rfl hs1 f1 (VL X) (by omega) (by omega) (by simp;omega) ?_;intro A2 cap2 w2 hown2 hk2 hsub2;simp only[Nat.zero_add,List.nil_append]at hown2 |-;refine zZ (z4.trans hS hk2 (by simp[blk])) (fun hSn=>?_);replace hS:=hSn;clear hSn;have hown3:=hown2;have hrow3:z9 w2 (W.heap.size+1) 0 34=some (zX xr):=(hk2.row (by simp) (by simp[blk]) 0 34).trans (by simp[go_sem]);have hsz:=hS.size;refine kO v8 rfl rfl hown3 rfl hrow3 (vS _) (by omega) (by omega) hsz ?_;intro A3 cap3 w3 hown4 hk3 hsub3;refine zZ (z4.trans hS hk3 (fun x hx=>.inr ((hown2.at_base hx).1))) (fun hSn=>?_);replace hS:=hSn;clear hSn;repeat(refine xW rfl ?_ ?_;(focus(simp only[z3];done));intro K hK;go_simp;refine hK _ ?_;clear hK K)
      have hg3:w3.heap[g]? = some (.cells cs 78 (0,0)):=(hS.block g hgW (by simp)).trans hgx;have hc3:w3.cell? ⟨g,6,none⟩=some (.slice AX nX cX):=by rw[cell_of_row w3 g 6 _ _ _ hg3];exact hcs
      have hf3:w3.frozen? ⟨g,6,none⟩=false:=by simp[World.frozen?,hg3]
      refine bP rfl ?_ (by kernel_rfl) ?_;(focus(simp only[z3];done));intro K hK;go_simp;refine hK _ _ ?_;clear hK K;have hown5:=hown4.kept (z4.setCell w3 ⟨g,6,none⟩ (.slice A3 (nX+1) cap3)) (fun x hx=>by have:=(hown4.at_base hx).1;simp;omega);have hfin:(w3.setCell ⟨g,6,none⟩ (.slice A3 (nX+1) cap3)).heap[g]? = some (.cells (cs.setIfInBounds 6 (.slice A3 (nX+1) cap3)) 78 (0,0)):=zE hg3 6 _;have hrowsF:(X.map zX) ++ [zX xr]=(X ++ [xr]).map zX:=by simp
      have hown6:Own (w3.setCell ⟨g,6,none⟩ (.slice A3 (nX+1) cap3)) W.heap.size 143 34 A3 (nX+1) cap3 ((X ++ [xr]).map zX):=by rw[<-hrowsF];exact hown5
      have hkfin:z4 [g] W (w3.setCell ⟨g,6,none⟩ (.slice A3 (nX+1) cap3)):=z4.trans (hS.mono (S':=[g]) (by simp)) (z4.setCell w3 ⟨g,6,none⟩ _) (by simp);clear hown5 hown4 hown2 hown3 hS hg3 hc3 hf3 hk3 hk2 hsub3 hsub2 hrowsF;have hb3:z4 [g] w (w3.setCell ⟨g,6,none⟩ (.slice A3 (nX+1) cap3)):=z4.trans ((z4.of_below hbW).mono (S':=[g]) (by simp)) hkfin (fun x hx=>.inl hx);obtain⟨V,hV⟩:∃V,w3.setCell ⟨g,6,none⟩ (.slice A3 (nX+1) cap3)=V:=⟨_,rfl⟩
      rw[hV]at hfin hown6 hkfin hb3 |-;have hVO:y8 V OA no G:=hO.kept (hkfin) (fun x hx hm=>hgO (by simp at hm;subst hm;exact hx));have hVB:y8 V B m T:=hB.kept (hkfin) (fun x hx hm=>hgB (by simp at hm;subst hm;exact hx));have hcV:V.cell? ⟨g,7,none⟩=some (.slice OA no oc):=by rw[cell_of_row V g 7 _ _ _ hfin];simp[hcs7]
      have Hown6:=Lib.hid hown6;clear hV hcs hO hB hgx hkfin hown6 hc0 hrb b1 b2 hbW hgW h1;have cb:=vz V OA B no m oc mc G T hVO hVB (by omega) (by omega);(go_wp2_with fail);refine cb.mono ?_;rintro e w9 ⟨A9,cap9,rfl,hI9,hb9,hbel9⟩;have hg9:w9.heap[g]? = some (.cells (cs.setIfInBounds 6 (.slice A3 (nX+1) cap3)) 78 (0,0)):=(hbel9.block g (Array.getElem?_eq_some_iff.1 hfin).1).trans hfin;have hc9:w9.cell? ⟨g,7,none⟩=some (.slice OA no oc):=(hbel9.cell (p:=⟨g,7,none⟩) (World.block_lt_of_cell? V _ hcV)).trans hcV;have hf9:w9.frozen? ⟨g,7,none⟩=false:=by simp[World.frozen?,hg9]
      have hfinal:=zE hg9 7 (.slice A9 (yF zO (G++T)).length cap9);have hks:=z4.setCell w9 ⟨g,7,none⟩ (.slice A9 (yF zO (G++T)).length cap9);have hgl:g<w.heap.size:=(Array.getElem?_eq_some_iff.1 hg).1;have hVs:=hb3.size;have hWs:w.heap.size<=W.heap.size:=HW.out;have hI10:=hI9.kept hks (fun x hx hm=>by have:=hb9 x hx;simp at hm;omega);have hR10:=((Hown6.out).below hbel9).kept hks (fun x hx hm=>by have:=(Hown6.out.at_base hx).1;simp at hm;omega);have hkf:z4 [g] w (w9.setCell ⟨g,7,none⟩ (.slice A9 (yF zO (G++T)).length cap9)):=z4.trans (z4.trans hb3 (z4.of_below hbel9) (by simp)) hks (fun x hx=>.inl hx);have hb9':∀x∈blk A9,w.heap.size<=x:=fun x hx=>(by have:=hb9 x hx;omega);clear hI9 hb9 cb hVO hVB;(go_wp2_with fail);go_ret;exact⟨A3,cap3,A9,cap9,rfl,hfinal,hR10.mono hWs,hI10,hb9',hkf⟩
  ·
    refine qA ?_ rfl ?_ ?_;(focus(exact hS));(focus(simp only[z3];done));intro K hK;go_simp;refine zZ (jE hS _) (fun hSn=>?_);refine hK _ _ ?_;clear hK K;replace hS:=hSn;clear hSn;refine qA ?_ rfl ?_ ?_;(focus(exact hS));(focus(simp only[z3];done));intro K hK;go_simp;refine zZ (jE hS _) (fun hSn=>?_);refine hK _ _ ?_;clear hK K;replace hS:=hSn;clear hSn;have hs1:SlR ((W.drew.alloc (.cells (zX xr) 143)).alloc (.cells #[] 143)) AX nX 34 (X.map zX):=h1.kept hS (by simp);have hown0:Own ((W.drew.alloc (.cells (zX xr) 143)).alloc (.cells #[] 143)) W.heap.size 143 34 (some ⟨W.heap.size+1,0,none⟩) 0 0 []:=by
      have:=Own.empty (W.drew.alloc (.cells (zX xr) 143)) W.heap.size 143 34 (by simp);simpa using this
    refine gE v8 rfl rfl hown0 rfl hs1 f1 (VL X) (by omega) (by omega) (by simp;omega) ?_;intro A2 cap2 w2 hown2 hk2 hsub2;simp only[Nat.zero_add,List.nil_append]at hown2 |-;refine zZ (z4.trans hS hk2 (by simp[blk])) (fun hSn=>?_);replace hS:=hSn;clear hSn;have hown3:=hown2;have hrow3:z9 w2 W.heap.size 0 34=some (zX xr):=(hk2.row (by simp;omega) (by simp[blk]) 0 34).trans (by simp[go_sem]);have hsz:=hS.size;refine kO v8 rfl rfl hown3 rfl hrow3 (vS _) (by omega) (by omega) hsz ?_;intro A3 cap3 w3 hown4 hk3 hsub3;refine zZ (z4.trans hS hk3 (fun x hx=>.inr ((hown2.at_base hx).1))) (fun hSn=>?_);replace hS:=hSn;clear hSn;repeat(refine xW rfl ?_ ?_;(focus(simp only[z3];done));intro K hK;go_simp;refine hK _ ?_;clear hK K)
    have hg3:w3.heap[g]? = some (.cells cs 78 (0,0)):=(hS.block g hgW (by simp)).trans hgx;have hc3:w3.cell? ⟨g,6,none⟩=some (.slice AX nX cX):=by rw[cell_of_row w3 g 6 _ _ _ hg3];exact hcs
    have hf3:w3.frozen? ⟨g,6,none⟩=false:=by simp[World.frozen?,hg3]
    refine bP rfl ?_ (by kernel_rfl) ?_;(focus(simp only[z3];done));intro K hK;go_simp;refine hK _ _ ?_;clear hK K;have hown5:=hown4.kept (z4.setCell w3 ⟨g,6,none⟩ (.slice A3 (nX+1) cap3)) (fun x hx=>by have:=(hown4.at_base hx).1;simp;omega);have hfin:(w3.setCell ⟨g,6,none⟩ (.slice A3 (nX+1) cap3)).heap[g]? = some (.cells (cs.setIfInBounds 6 (.slice A3 (nX+1) cap3)) 78 (0,0)):=zE hg3 6 _;have hrowsF:(X.map zX) ++ [zX xr]=(X ++ [xr]).map zX:=by simp
    have hown6:Own (w3.setCell ⟨g,6,none⟩ (.slice A3 (nX+1) cap3)) W.heap.size 143 34 A3 (nX+1) cap3 ((X ++ [xr]).map zX):=by rw[<-hrowsF];exact hown5
    have hkfin:z4 [g] W (w3.setCell ⟨g,6,none⟩ (.slice A3 (nX+1) cap3)):=z4.trans (hS.mono (S':=[g]) (by simp)) (z4.setCell w3 ⟨g,6,none⟩ _) (by simp);clear hown5 hown4 hown2 hown3 hS hg3 hc3 hf3 hk3 hk2 hsub3 hsub2 hrowsF;have hb3:z4 [g] w (w3.setCell ⟨g,6,none⟩ (.slice A3 (nX+1) cap3)):=z4.trans ((z4.of_below hbW).mono (S':=[g]) (by simp)) hkfin (fun x hx=>.inl hx);obtain⟨V,hV⟩:∃V,w3.setCell ⟨g,6,none⟩ (.slice A3 (nX+1) cap3)=V:=⟨_,rfl⟩
    rw[hV]at hfin hown6 hkfin hb3 |-;have hVO:y8 V OA no G:=hO.kept (hkfin) (fun x hx hm=>hgO (by simp at hm;subst hm;exact hx));have hVB:y8 V B m T:=hB.kept (hkfin) (fun x hx hm=>hgB (by simp at hm;subst hm;exact hx));have hcV:V.cell? ⟨g,7,none⟩=some (.slice OA no oc):=by rw[cell_of_row V g 7 _ _ _ hfin];simp[hcs7]
    have Hown6:=Lib.hid hown6;clear hV hcs hO hB hgx hkfin hown6 hc0 hrb b1 b2 hbW hgW h1;have cb:=vz V OA B no m oc mc G T hVO hVB (by omega) (by omega);(go_wp2_with fail);refine cb.mono ?_;rintro e w9 ⟨A9,cap9,rfl,hI9,hb9,hbel9⟩;have hg9:w9.heap[g]? = some (.cells (cs.setIfInBounds 6 (.slice A3 (nX+1) cap3)) 78 (0,0)):=(hbel9.block g (Array.getElem?_eq_some_iff.1 hfin).1).trans hfin;have hc9:w9.cell? ⟨g,7,none⟩=some (.slice OA no oc):=(hbel9.cell (p:=⟨g,7,none⟩) (World.block_lt_of_cell? V _ hcV)).trans hcV;have hf9:w9.frozen? ⟨g,7,none⟩=false:=by simp[World.frozen?,hg9]
    have hfinal:=zE hg9 7 (.slice A9 (yF zO (G++T)).length cap9);have hks:=z4.setCell w9 ⟨g,7,none⟩ (.slice A9 (yF zO (G++T)).length cap9);have hgl:g<w.heap.size:=(Array.getElem?_eq_some_iff.1 hg).1;have hVs:=hb3.size;have hWs:w.heap.size<=W.heap.size:=HW.out;have hI10:=hI9.kept hks (fun x hx hm=>by have:=hb9 x hx;simp at hm;omega);have hR10:=((Hown6.out).below hbel9).kept hks (fun x hx hm=>by have:=(Hown6.out.at_base hx).1;simp at hm;omega);have hkf:z4 [g] w (w9.setCell ⟨g,7,none⟩ (.slice A9 (yF zO (G++T)).length cap9)):=z4.trans (z4.trans hb3 (z4.of_below hbel9) (by simp)) hks (fun x hx=>.inl hx);have hb9':∀x∈blk A9,w.heap.size<=x:=fun x hx=>(by have:=hb9 x hx;omega);clear hI9 hb9 cb hVO hVB;(go_wp2_with fail);go_ret;exact⟨A3,cap3,A9,cap9,rfl,hfinal,hR10.mono hWs,hI10,hb9',hkf⟩
theorem radd3 (d:zJ) (v:ByteArray) (w:World) (g:Nat) (cs:Array Value) (A:Option Addr) (n cap:Nat) (X:List xH) (hg:w.heap[g]? = some (.cells cs 78 (0,0))) (hcs:cs[3]? = some (.slice A n cap)) (h1w:qX w A n X) (f1:A=none->cap=0) (d1w:g∉blk A) (hv:v.size<=16) (hX:X.length<=100000) :
    Calls Tryz.prog 74 #[.pointer (some ⟨g,3,none⟩),.agg (idC d),.string v] w fun e w'=>∃A' cap',e = .returned (.int .i64 0)/\w'.heap[g]? = some (.cells (cs.setIfInBounds 3 (.slice A' (n+1) cap')) 78 (0,0))/\Own w' w.heap.size 151 33 A' (n+1) cap' ((X ++ [(⟨d,v⟩:xH)]).map y9)/\z4 [g] w w':=by
  have hb0:Below w.heap.size w (w.alloc (.cells (idC d) 24)):=(Below.refl _ _).alloc (Nat.le_refl _) _;have hgl:g<w.heap.size:=(Array.getElem?_eq_some_iff.1 hg).1;have hgx:=(hb0.block g hgl).trans hg;have h1:qX _ A n X:=SlR.below h1w hb0;have hd0:z9 (w.alloc (.cells (idC d) 24)) w.heap.size 0 32=some (idC d):=by simp[go_sem]
  go_enter Tryz.func74,Tryz.ntmps74
  go_upto_region 3 with fail
  obtain⟨W,hW⟩:∃W,W=w.alloc (.cells (idC d) 24):=⟨_,rfl⟩
  rw[<-hW]at hgx h1 hd0 hb0 |-;clear hW;have hn:=h1.len;have Hn:=Lib.hid hn;have hnb:n<=100000:=by omega
  clear hn;have hc0:W.cell? ⟨g,3,none⟩=some (.slice A n cap):=by rw[cell_of_row W g 3 _ _ _ hgx];exact hcs
  have hgW:g<W.heap.size:=by have:=hb0.size;omega
  refine fX (.loose 0 (.loose 2 (.loose 3 (.loose 4 (.loose 5 (.loose 7 (.loose 8 (.loose 9 (.two 1 (.two 6 (.one 10 (.one 11 (.loose 12 (.loose 13 (.one 14 .done))))) 10 (.one 6 (.one 11 (.loose 12 (.loose 13 (.one 14 .done)))))) 10 (.one 1 (.one 6 (.one 11 (.loose 12 (.loose 13 (.one 14 .done))))))))))))))) (Kp [] W) false (by kernel_rfl) (by kernel_rfl) (by kernel_rfl) (by kernel_rfl) (by kernel_rfl) (zW [] W) ?_;have hne:=xA [] W;have hS:=zW [] W;have b1:=zM hc0 (S:=[]) (by simp);have b2:=j5 hd0 (S:=[]) (by simp);repeat(refine xW rfl ?_ ?_;(focus(simp only[z3];done));intro K hK;go_simp;refine hK _ ?_;clear hK K)
  refine gH ?_ ?_
  ·
    refine qA ?_ rfl ?_ ?_;(focus(exact hS));(focus(simp only[z3];done));intro K hK;go_simp;refine zZ (jE hS _) (fun hSn=>?_);refine hK _ _ ?_;clear hK K;replace hS:=hSn;clear hSn;refine gH ?_ ?_
    · have hs1:qX (W.drew.alloc (.cells #[] 151)) A n X:=h1.kept hS (by simp);refine gE xV rfl rfl (Own.empty W.drew W.heap.size 151 33 (Nat.le_refl _)) rfl hs1 f1 (B9 X) (by omega) (by omega) (by simp) ?_;intro A2 cap2 w2 hown2 hk2 hsub2;simp only[Nat.zero_add,List.nil_append]at hown2 |-;refine zZ (z4.trans hS hk2 (by simp[blk])) (fun hSn=>?_);replace hS:=hSn;clear hSn;refine qA ?_ rfl ?_ ?_;(focus(exact hS));(focus(simp only[z3];done));intro K hK;go_simp;refine zZ (jE hS _) (fun hSn=>?_);refine hK _ _ ?_;clear hK K;replace hS:=hSn;clear hSn;have hba:Below w2.heap.size w2 (w2.alloc (.cells (y9 ⟨d,v⟩) 151)):=(Below.refl _ _).alloc (Nat.le_refl _) _;have hown3:=hown2.below hba;have hrow3:z9 (w2.alloc (.cells (y9 ⟨d,v⟩) 151)) w2.heap.size 0 33=some (y9 ⟨d,v⟩):=by simp[go_sem]
      have hsz:=hS.size;refine kO xV rfl rfl hown3 rfl hrow3 (vC _) (by omega) (by omega) hsz ?_;intro A3 cap3 w3 hown4 hk3 hsub3;refine zZ (z4.trans hS hk3 (fun x hx=>.inr ((hown2.at_base hx).1))) (fun hSn=>?_);replace hS:=hSn;clear hSn;repeat(refine xW rfl ?_ ?_;(focus(simp only[z3];done));intro K hK;go_simp;refine hK _ ?_;clear hK K)
      have hg3:w3.heap[g]? = some (.cells cs 78 (0,0)):=(hS.block g hgW (by simp)).trans hgx;have hc3:w3.cell? ⟨g,3,none⟩=some (.slice A n cap):=by rw[cell_of_row w3 g 3 _ _ _ hg3];exact hcs
      have hf3:w3.frozen? ⟨g,3,none⟩=false:=by simp[World.frozen?,hg3]
      refine bP rfl ?_ (by kernel_rfl) ?_;(focus(simp only[z3];done));intro K hK;go_simp;refine hK _ _ ?_;clear hK K;have hown5:=hown4.kept (z4.setCell w3 ⟨g,3,none⟩ (.slice A3 (n+1) cap3)) (fun x hx=>by have:=(hown4.at_base hx).1;simp;omega);have hfin:(w3.setCell ⟨g,3,none⟩ (.slice A3 (n+1) cap3)).heap[g]? = some (.cells (cs.setIfInBounds 3 (.slice A3 (n+1) cap3)) 78 (0,0)):=zE hg3 3 _;have hown6:=hown5.mono (show w.heap.size<=W.heap.size from hb0.size);have hkfin:z4 [g] w (w3.setCell ⟨g,3,none⟩ (.slice A3 (n+1) cap3)):=z4.trans ((z4.trans (z4.of_below hb0) hS (by simp)).mono (S':=[g]) (by simp)) (z4.setCell w3 ⟨g,3,none⟩ _) (by simp);clear hown5 hown4 hown2 hown3 hS hg3 hc3 hf3 hk3 hk2 hsub3 hsub2;(go_wp2_with fail);go_ret;exact⟨A3,cap3,rfl,hfin,by simpa using hown6,hkfin⟩
    ·
      refine qA ?_ rfl ?_ ?_;(focus(exact hS));(focus(simp only[z3];done));intro K hK;go_simp;refine zZ (jE hS _) (fun hSn=>?_);refine hK _ _ ?_;clear hK K;replace hS:=hSn;clear hSn;have hs1:qX ((W.drew.alloc (.cells #[] 151)).alloc (.cells (y9 ⟨d,v⟩) 151)) A n X:=h1.kept hS (by simp);have hown0:=(Own.empty W.drew W.heap.size 151 33 (Nat.le_refl _)).below ((Below.refl _ _).alloc (Nat.le_refl _) (.cells (y9 ⟨d,v⟩) 151));refine gE xV rfl rfl hown0 rfl hs1 f1 (B9 X) (by omega) (by omega) (by simp;omega) ?_;intro A2 cap2 w2 hown2 hk2 hsub2;simp only[Nat.zero_add,List.nil_append]at hown2 |-;refine zZ (z4.trans hS hk2 (by simp[blk])) (fun hSn=>?_);replace hS:=hSn;clear hSn;have hown3:=hown2;have hrow3:z9 w2 (W.heap.size+1) 0 33=some (y9 ⟨d,v⟩):=(hk2.row (by simp) (by simp[blk]) 0 33).trans (by simp[go_sem]);have hsz:=hS.size;refine kO xV rfl rfl hown3 rfl hrow3 (vC _) (by omega) (by omega) hsz ?_;intro A3 cap3 w3 hown4 hk3 hsub3;refine zZ (z4.trans hS hk3 (fun x hx=>.inr ((hown2.at_base hx).1))) (fun hSn=>?_);replace hS:=hSn;clear hSn;repeat(refine xW rfl ?_ ?_;(focus(simp only[z3];done));intro K hK;go_simp;refine hK _ ?_;clear hK K)
      have hg3:w3.heap[g]? = some (.cells cs 78 (0,0)):=(hS.block g hgW (by simp)).trans hgx;have hc3:w3.cell? ⟨g,3,none⟩=some (.slice A n cap):=by rw[cell_of_row w3 g 3 _ _ _ hg3];exact hcs
      have hf3:w3.frozen? ⟨g,3,none⟩=false:=by simp[World.frozen?,hg3]
      refine bP rfl ?_ (by kernel_rfl) ?_;(focus(simp only[z3];done));intro K hK;go_simp;refine hK _ _ ?_;clear hK K;have hown5:=hown4.kept (z4.setCell w3 ⟨g,3,none⟩ (.slice A3 (n+1) cap3)) (fun x hx=>by have:=(hown4.at_base hx).1;simp;omega);have hfin:(w3.setCell ⟨g,3,none⟩ (.slice A3 (n+1) cap3)).heap[g]? = some (.cells (cs.setIfInBounds 3 (.slice A3 (n+1) cap3)) 78 (0,0)):=zE hg3 3 _;have hown6:=hown5.mono (show w.heap.size<=W.heap.size from hb0.size);have hkfin:z4 [g] w (w3.setCell ⟨g,3,none⟩ (.slice A3 (n+1) cap3)):=z4.trans ((z4.trans (z4.of_below hb0) hS (by simp)).mono (S':=[g]) (by simp)) (z4.setCell w3 ⟨g,3,none⟩ _) (by simp);clear hown5 hown4 hown2 hown3 hS hg3 hc3 hf3 hk3 hk2 hsub3 hsub2;(go_wp2_with fail);go_ret;exact⟨A3,cap3,rfl,hfin,by simpa using hown6,hkfin⟩
  ·
    refine qA ?_ rfl ?_ ?_;(focus(exact hS));(focus(simp only[z3];done));intro K hK;go_simp;refine zZ (jE hS _) (fun hSn=>?_);refine hK _ _ ?_;clear hK K;replace hS:=hSn;clear hSn;refine qA ?_ rfl ?_ ?_;(focus(exact hS));(focus(simp only[z3];done));intro K hK;go_simp;refine zZ (jE hS _) (fun hSn=>?_);refine hK _ _ ?_;clear hK K;replace hS:=hSn;clear hSn;have hs1:qX ((W.drew.alloc (.cells (y9 ⟨d,v⟩) 151)).alloc (.cells #[] 151)) A n X:=h1.kept hS (by simp);have hown0:Own ((W.drew.alloc (.cells (y9 ⟨d,v⟩) 151)).alloc (.cells #[] 151)) W.heap.size 151 33 (some ⟨W.heap.size+1,0,none⟩) 0 0 []:=by
      have:=Own.empty (W.drew.alloc (.cells (y9 ⟨d,v⟩) 151)) W.heap.size 151 33 (by simp);simpa using this
    refine gE xV rfl rfl hown0 rfl hs1 f1 (B9 X) (by omega) (by omega) (by simp;omega) ?_;intro A2 cap2 w2 hown2 hk2 hsub2;simp only[Nat.zero_add,List.nil_append]at hown2 |-;refine zZ (z4.trans hS hk2 (by simp[blk])) (fun hSn=>?_);replace hS:=hSn;clear hSn;have hown3:=hown2;have hrow3:z9 w2 W.heap.size 0 33=some (y9 ⟨d,v⟩):=(hk2.row (by simp;omega) (by simp[blk]) 0 33).trans (by simp[go_sem]);have hsz:=hS.size;refine kO xV rfl rfl hown3 rfl hrow3 (vC _) (by omega) (by omega) hsz ?_;intro A3 cap3 w3 hown4 hk3 hsub3;refine zZ (z4.trans hS hk3 (fun x hx=>.inr ((hown2.at_base hx).1))) (fun hSn=>?_);replace hS:=hSn;clear hSn;repeat(refine xW rfl ?_ ?_;(focus(simp only[z3];done));intro K hK;go_simp;refine hK _ ?_;clear hK K)
    have hg3:w3.heap[g]? = some (.cells cs 78 (0,0)):=(hS.block g hgW (by simp)).trans hgx;have hc3:w3.cell? ⟨g,3,none⟩=some (.slice A n cap):=by rw[cell_of_row w3 g 3 _ _ _ hg3];exact hcs
    have hf3:w3.frozen? ⟨g,3,none⟩=false:=by simp[World.frozen?,hg3]
    refine bP rfl ?_ (by kernel_rfl) ?_;(focus(simp only[z3];done));intro K hK;go_simp;refine hK _ _ ?_;clear hK K;have hown5:=hown4.kept (z4.setCell w3 ⟨g,3,none⟩ (.slice A3 (n+1) cap3)) (fun x hx=>by have:=(hown4.at_base hx).1;simp;omega);have hfin:(w3.setCell ⟨g,3,none⟩ (.slice A3 (n+1) cap3)).heap[g]? = some (.cells (cs.setIfInBounds 3 (.slice A3 (n+1) cap3)) 78 (0,0)):=zE hg3 3 _;have hown6:=hown5.mono (show w.heap.size<=W.heap.size from hb0.size);have hkfin:z4 [g] w (w3.setCell ⟨g,3,none⟩ (.slice A3 (n+1) cap3)):=z4.trans ((z4.trans (z4.of_below hb0) hS (by simp)).mono (S':=[g]) (by simp)) (z4.setCell w3 ⟨g,3,none⟩ _) (by simp);clear hown5 hown4 hown2 hown3 hS hg3 hc3 hf3 hk3 hk2 hsub3 hsub2;(go_wp2_with fail);go_ret;exact⟨A3,cap3,rfl,hfin,by simpa using hown6,hkfin⟩
theorem rrem3 (v:ByteArray) (B:Option Addr) (m c:Nat) (T:List zJ) (w:World) (g:Nat) (cs:Array Value) (A':Option Addr) (n' cap':Nat) (G:List xH) (hg:w.heap[g]? = some (.cells cs 78 (0,0))) (hcs:cs[4]? = some (.slice A' n' cap')) (h2:qX w A' n' G) (f2:A'=none->cap'=0) (hT:y8 w B m T) (hv:v.size<=16) (hG:G.length<=100000) (hm:m<=100000) :
    Calls Tryz.prog 75 #[.pointer (some ⟨g,3,none⟩),.string v,.slice B m c] w fun e w'=>∃A3 cap3,e = .returned (.int .i64 0)/\w'.heap[g]? = some (.cells (cs.setIfInBounds 4 (.slice A3 (n'+m) cap3)) 78 (0,0))/\Own w' w.heap.size 151 33 A3 (n'+m) cap3 ((G++T.map fun t=>(⟨t,v⟩:xH)).map y9)/\z4 [g] w w':=by
  have hgl:g<w.heap.size:=(Array.getElem?_eq_some_iff.1 hg).1;have hn:=h2.len;have Hn:=Lib.hid hn;have hnb:n'<=100000:=by omega
  have hTl:=hT.len;have HT:=Lib.hid hTl;clear hn hTl;have hc1:w.cell? ⟨g,4,none⟩=some (.slice A' n' cap'):=by rw[cell_of_row w g 4 _ _ _ hg];exact hcs
  have hb0:Below w.heap.size w (w.alloc (.cells #[] 151)):=(Below.refl _ _).alloc (Nat.le_refl _) _;have hown0:=Own.empty w w.heap.size 151 33 (Nat.le_refl _);have hs1:qX (w.alloc (.cells #[] 151)) A' n' G:=SlR.below h2 hb0;go_enter Tryz.func75,Tryz.ntmps75
  go_upto_region 4 with(at_builtin;refine yD xV rfl hown0 rfl hs1 f2 (B9 G) (by omega) (by omega) (by simp) ?_;intro A2 cap2 w2 hown2 hk2 hsub2)
  simp only[Nat.zero_add,List.nil_append]at hown2;have hb2:Below w.heap.size w w2:=hb0.trans (hk2.below (by simp) (by simp[blk]));clear hown0 hs1 hk2 hsub2 hc1;(go_wp2_with fail);go_loopw [7,8] (fun l i wr=>∃(k:Nat) (A3:Option Addr) (cap3:Nat),k<=m/\i = .int .i64 k/\l = .slice A3 (n'+k) cap3/\Own wr w.heap.size 151 33 A3 (n'+k) cap3 ((G++(T.take k).map fun t=>(⟨t,v⟩:xH)).map y9)/\Below w.heap.size w wr) (fun _ i _=>m-(intOf i).toNat)
  case atStart=>exact⟨0,A2,cap2,Nat.zero_le _,rfl,rfl,by simpa using hown2,hb2⟩
  case round =>
    obtain⟨k,A3,cap3,hk,rfl,rfl,hown,hb⟩:=hrel;by_cases hlt:k<m
    · obtain⟨q,o,rfl,hr⟩:=y8.get (SlR.below hT hb) hlt (by rw[HT.out];exact hlt);have htk:T.take (k+1)=T.take k ++ [T[k]'(by rw[HT.out];exact hlt)]:=by rw[List.take_add_one,List.getElem?_eq_getElem (by rw[HT.out];exact hlt)];rfl
      obtain⟨d,hd⟩:∃d,T[k]'(by rw[HT.out];exact hlt)=d:=⟨_,rfl⟩
      rw[hd]at hr htk;have hrows:(G++(T.take (k+1)).map fun t=>(⟨t,v⟩:xH)).map y9=(G++(T.take k).map fun t=>(⟨t,v⟩:xH)).map y9 ++ [y9 ⟨d,v⟩]:=by rw[htk];simp
      have Hrows:=Lib.hid hrows;clear hd htk hrows;have hsz:=hb.size;have hbx:Below wr.heap.size wr (wr.alloc (.cells (y9 ⟨d,v⟩) 151)):=(Below.refl _ _).alloc (Nat.le_refl _) _;have hown3:=hown.below hbx;have hrow3:z9 (wr.alloc (.cells (y9 ⟨d,v⟩) 151)) wr.heap.size 0 33=some (y9 ⟨d,v⟩):=by simp[go_sem]
      go_wp2_with (at_builtin;refine yX xV rfl hown3 rfl hrow3 (vC _) (by omega) (by omega) (by simp;omega) ?_;intro A4 cap4 w4 hownA hkA hsubA)
      have hbA:Below w.heap.size w w4:=hb.trans ((hbx.mono hsz).trans (hkA.below (B:=w.heap.size) (by simp;omega) fun y hy=>(hown.at_base hy).1));(go_wp2_with fail);go_roundw
      case rel=>exact⟨k+1,A4,cap4,by omega,by go_num,by rw[Nat.add_assoc],by rw[Hrows.out,<-Nat.add_assoc];exact hownA,hbA⟩
      case measure=>simp[intOf];omega
    · have hkm:k=m:=by omega
      subst hkm;have hkt:T.take k=T:=List.take_of_length_le (by rw[HT.out];omega);rw[hkt]at hown;have hg3:wr.heap[g]? = some (.cells cs 78 (0,0)):=(hb.block g hgl).trans hg;have hc3:wr.cell? ⟨g,4,none⟩=some (.slice A' n' cap'):=by rw[cell_of_row wr g 4 _ _ _ hg3];exact hcs
      have hf3:wr.frozen? ⟨g,4,none⟩=false:=by simp[World.frozen?,hg3]
      have hown5:=hown.kept (z4.setCell wr ⟨g,4,none⟩ (.slice A3 (n'+k) cap3)) (fun x hx=>by have:=(hown.at_base hx).1;simp;omega);have hkb:z4 [] w wr:=z4.of_below hb;have hfin:(wr.setCell ⟨g,4,none⟩ (.slice A3 (n'+k) cap3)).heap[g]? = some (.cells (cs.setIfInBounds 4 (.slice A3 (n'+k) cap3)) 78 (0,0)):=zE hg3 4 _;have hkfin:z4 [g] w (wr.setCell ⟨g,4,none⟩ (.slice A3 (n'+k) cap3)):=z4.trans (hkb.mono (S':=[g]) (by simp)) (z4.setCell wr ⟨g,4,none⟩ _) (by simp);clear hown hkt hown2;(go_wp2_with fail);go_ret;exact⟨A3,cap3,rfl,hfin,hown5,hkfin⟩
abbrev OwnW (w:World) (B:Nat) (A:Option Addr) (cap:Nat) (R:List ByteArray):Prop:=Own w B 122 2 A R.length cap (R.map bQ)
theorem OwnW.get {w:World} {A:Option Addr} {n:Nat} {R:List ByteArray} (h:SlR w A n 2 (R.map bQ)) {i:Nat} (hi:i<n) (hR:i<R.length) :
    ∃g o,A=some ⟨g,o,none⟩/\w.cell? ⟨g,o+i*2,none⟩=some (.string R[i]):=by
  obtain⟨g,o,e,hr⟩:=SlR.at_ h hi;rw[List.getElem_map]at hr;refine⟨g,o,e,?_⟩;have:=z8 hr (j:=0) (by omega);unfold bQ at this
  rwa [nO]at this
end Go.Proofs.YtgedpfebepdcmaaGreatDoor
