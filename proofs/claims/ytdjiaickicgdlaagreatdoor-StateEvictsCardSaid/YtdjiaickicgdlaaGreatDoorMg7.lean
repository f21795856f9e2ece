/- Part 7 of the texts that lead to this claim: the walks of the functions and the plain law, in order. -/
import Derived.Test.YtdjiaickicgdlaaGreatDoorMg6
import Derived.Test.YtdjiaickicgdlaaGreatDoorLayView
import Derived.ArgAppend
import Derived.Laws.StructEq
namespace Go.Proofs.YtdjiaickicgdlaaGreatDoor
open Go.RowKit
open List hiding and get max min or set
open Go.Proofs.Tryz
open World
set_option maxRecDepth 100000
set_option maxHeartbeats 8000000
variable {w:World}{B g n:Nat}{L:List (Array Value)}{v:Value}{z:Array Value}{A:Option Addr}{R:List jI}{E:TypeId}{O:List Nat}
theorem xD.look1{b:Nat}{L:List jJ}(h:xD w g b L){p:jJ}(hp:p∈L) :
  (Instr.lookup 222 (.map (some b)) (.string p.1) false).run prog w=.ok (.agg (zM p.2)) w:=by
 obtain⟨M,es,f,hm,d⟩:=h.map;have hk:=(mC (h.rows.2 p hp)).1;exact hm.hit dM underlying222 (by simp only[maxLen];omega) (d.mem_iff.2 hp) false
def zu(p:jJ):jI:=⟨p.1,p.2.val⟩
def KM(L:List jJ):List (Array Value):=L.map λp=>yD (zu p)
theorem row_keys{L:List jJ}(h:w.ownsRow B 9 1 v n (L.map λp=>.string p.1))(hn:n=L.length) :
  ∃A cap,v=.slice A n cap/\((A=none/\n=0)\/∃g,A=some ⟨g,0,none⟩/\B<=g/\g<w.heap.size/\∀i (hi:i<L.length),w.cell? ⟨g,i,none⟩=some (.string (L[i]).1)):=by
 obtain⟨h1,h2⟩:=h;rcases h2 with⟨rfl,h0⟩ | ⟨g,c,cur,rfl,hb,hg,hnc,hcm,hcs,htake⟩
 ·exact⟨none,0,by rw[h0],.inl ⟨rfl,h0⟩⟩
 ·refine⟨some ⟨g,0,none⟩,c,rfl,.inr ⟨g,rfl,hb,(aG hg).1,?_⟩⟩;intro i hi;rw[cell_of_row w g i _ _ _ hg];have e1:=congrArg (λl=>l[i]?) htake;simp only[getElem?_take,getElem?_map]at e1;rw[if_pos oM,getElem?_eq_getElem hi]at e1;simpa using e1
theorem llist(w:World)(g b:Nat)(L:List jJ)(h:xD w g b L)(hn:L.length<=1000000) :
  Calls prog 94 #[.pointer (some ⟨g,0,none⟩)] w λe w'=>∃A cap,e=.returned (.slice A L.length cap)/\Own w' w.heap.size 147 2 A L.length cap (KM L)/\Below w.heap.size w w':=by
 have hc:=h.cell;go_enter func94,ntmps94
 (go_wp2_with fail);refine(wY _ _ _ hc).mono ?_;rintro e w' ⟨rfl,rfl⟩;(go_wp2_with fail);refine(lkeys _ _ _ _ h hn).mono ?_;rintro e w1 ⟨v,rfl,m,hb⟩;obtain⟨KA,kc,rfl,d⟩:=row_keys m rfl;have h1:=h.below hb;have Hk:=dH d;clear d m hc;(go_wp2_with fail);go_loopw [3,14] (λout i wr=>∃k A cap,k<=L.length/\i=.int .i64 (k:Nat)/\out=.slice A k cap/\Own wr w1.heap.size 147 2 A k cap (KM (L.take k))/\Below w1.heap.size w1 wr) (λ_ i _=>L.length-(intOf i).toNat)
 case atStart=>exact⟨0,none,0,zL,rfl,rfl,Own.nil _ _ _ _,Below.refl _ _⟩
 case round =>
  obtain⟨k,A,cap,hk,rfl,rfl,f,y⟩:=hrel;by_cases D:k<L.length
  ·obtain⟨q,rfl,hq,J,d⟩:∃q,KA=some ⟨q,0,none⟩/\w.heap.size<=q/\q<w1.heap.size/\Hid (∀i (hi:i<L.length),w1.cell? ⟨q,i,none⟩=some (.string (L[i]).1)):=by
    rcases Hk.out with⟨_,h0⟩ | h
    ·omega
    ·exact h
   have t:=(y.cell (p:=⟨q,k,none⟩) J).trans (d.out k D);have hr:=h1.below y;have O:=hr.cell;have hl:=hr.look1 (getElem_mem D);have E:KM (L.take (k+1))=KM (L.take k) ++ [yD (zu L[k])]:=by rw[take_add_one,getElem?_eq_getElem D];exact map_append
   have H:=dH E;clear E hr d Hk;obtain⟨⟨pk,ps⟩,hp⟩:∃p,L[k]=p:=⟨_,rfl⟩
   have Hp:=dH hp;rw[hp]at t hl H;clear hp;have G:Below wr.heap.size wr (wr.alloc (.cells (yD ⟨pk,ps.val⟩) 147)):=bA;have s:=f.below G;have j:zA (wr.alloc (.cells (yD ⟨pk,ps.val⟩) 147)) wr.heap.size 0 2=some (yD ⟨pk,ps.val⟩):=by simp[go_sem]
   have I:=y.size;go_wp2_with (at_builtin;refine xN bB rfl s rfl j (gG _) oM oM sO ?_;intro A' cap' w2 r M F)
   have N:Below w1.heap.size w1 w2:=y.trans ((G.mono I).trans (M.below (B:=w1.heap.size) sO λx hx=>(f.at_base hx).1));(go_wp2_with fail);go_roundw
   case rel=>exact⟨k+1,A',cap',oM,by go_num,rfl,by rw[H.out];exact r,N⟩
   case measure=>exact sZ
  ·(go_wp2_with fail);go_ret;have e:k=L.length:=oM;subst e;rw[take_length]at f;exact⟨A,cap,rfl,f.mono hb.size,yK hb y⟩
section
open Go.RowKit Go.Sort Go.Shelf
@[go_sem] theorem bsIdZ_run(w:World):(bsS 34 0 #[]).run prog w=.ok (.slice (some ⟨w.heap.size,0,none⟩) 0 0) (w.alloc (.cells #[] 31)):=run_bsS0 yP w
instance:Inhabited zB:=⟨id0⟩
theorem QV(w:World):(isAgg 31).run prog w=.ok true w:=by simp[isAgg,run_underlying underlying31]
theorem V3(w:World):(Go.sizeOf 31).run prog w=.ok 32 w:=by
 have h:=xU;cases hi:prog.info? 31 with
 | none=>rw[hi]at h;cases h
 | some i =>
  rw[hi]at h;have hk:i.size=32:=by simpa using h
  simp[Go.sizeOf,typeInfo,hi,hk]
theorem mH:qN yE:=vQ
theorem sort_ids(w:World)(B:Nat)(A:Option Addr)(n cap:Nat)(S L:List (zB))(d:Own w B 31 32 A n cap (S.map idC))(hp:S.Perm L)(hr:Ris yE L)(hn:L.length<=1000000) :
  Calls prog 100 #[.slice A n cap,.func (.func 128) #[] #[]] w λe w'=>e=.returned (.tuple #[])/\Own w' B 31 32 A n cap (L.map idC)/\z9 (blk A) w w':=by
 have hl:S.length=n:=by simpa using d.len
 have k:=hp.length_eq;rcases d.addr with rfl | ⟨g,rfl⟩
 ·have r:n=0:=(d.cap_le.2 rfl).1;subst r;have hS:S = []:=eq_nil_of_length_eq_zero hl;subst hS;have hL:L = []:=eq_nil_of_length_eq_zero k.symm;subst hL;refine(AnyF.slices_SortFunc_none laySortId none cap (.func (.func 128) #[] #[]) w).mono ?_;rintro e w' ⟨rfl,rfl⟩;exact⟨rfl,d,z9.refl _ _⟩
 ·subst hl;have hH:=own_holds (enc:=idC) oM xQ d;have j:CmpLays prog 128 #[] (λx:zB=>(idC x).toList) 32 yE g 0 S.toArray.size w:=λm os dk _ x y=>ZE x y _;have s:g<w.heap.size:=(d.at_base (x:=g) (by simp[blk])).2;have f:=AnyQ.slices_SortFunc_total laySortId 32 QV V3 (λx:zB=>(idC x).toList) sI (λx v hv=>yN x v hv) yE (swo_of mH) 128 #[] g 0 cap S.toArray w
   (enters_of func128 kR rfl) j hH s sO (λx y h1 h2=>by
    simp only[ltOf,decide_eq_false_iff_not]at h1 h2;exact Classical.byContradiction λe=>h2 ((mH).flip h1 e))
  have e1:S.toArray.size=S.length:=sI;rw[e1]at f;refine f.mono ?_;rintro e w' ⟨rfl,n,os,rfl⟩;have e2:(S.toArray.toList.mergeSort λx y=>!(ltOf yE y x))=L:=s5 mH hr hp;rw[e2];obtain⟨h1,h2⟩:=sU (enc:=idC) oM xQ d n L k.symm os;exact⟨rfl,h1,h2.mono (by simp[blk])⟩
theorem rG(w:World)(A:Option Addr)(n cap:Nat)(R:List zB)(h:zX w A n R)(hn:n<=1000000)(hA:A=none->cap=0) :
  Calls prog 99 #[.slice A n cap] w λe w'=>∃A' cap',e=.returned (.slice A' n cap')/\Own w' w.heap.size 31 32 A' n cap' (R.map idC)/\Below w.heap.size w w':=by
 have D:∀(w:World) (a:Option Addr) (n c n' c':Nat),(binOp .eql 34 (.slice a n c) (.slice none n' c') ).run prog w=.ok (.bool a.isNone) w:=λw a n c n' c'=>Lib.run_eql_slice_nil w _ _ a n c n' c' underlying34;have j:R.length=n:=by simpa using h.1
 cases A with
 | none =>
  have E:n=0:=by
   rcases Nat.eq_zero_or_pos n with e | e
   ·exact e
   ·obtain⟨g,o,e',_⟩:=h.2 e;cases e'
  subst E;have hR:R = []:=eq_nil_of_length_eq_zero j;subst hR;clear h j;go_enter func99,ntmps99
  (go_wp2_with fail);go_ret;exact⟨none,0,rfl,Own.nil _ _ _ _,Below.refl _ _⟩
 | some a =>
  have B:Below w.heap.size w (w.alloc (.cells #[] 31)):=bA;have f:=Own.empty w w.heap.size 31 32 lR;have t:SlR (w.alloc (.cells #[] 31)) (some a) n 32 (R.map idC):=SlR.below h B;have m:∀r∈R.map idC,∀u∈r.toList,u.oneCell'=true:=by
   intro r hr;obtain⟨x,_,rfl⟩:=mem_map.1 hr;exact yN x
  clear j;go_enter func99,ntmps99
  go_wp2_with (at_builtin;refine mF yP rfl f rfl t hA m oM oM sI ?_;intro A2 s w2 d y k)
  simp only[Nat.zero_add,nil_append]at d;have F:Below w.heap.size w w2:=B.trans (y.below sI (by simp[blk]));clear f t y k h;(go_wp2_with fail);go_ret;exact⟨A2,s,sI,d,F⟩
theorem kz(w:World)(A:Option Addr)(n cap:Nat)(R:List zB)(h:zX w A n R)(hr:Ris yE R)(hn:n<=1000000) :
  Calls prog 163 #[.slice A n cap] w λe w'=>e=.returned (.slice A n cap)/\Below w.heap.size w w':=by
 have s:R.length=n:=h.len;have d:=dH s;clear s;go_enter func163,ntmps163
 by_cases h2:n<2
 ·(go_wp2_with fail);go_ret;exact⟨rfl,Below.refl _ _⟩
 ·(go_wp2_with fail);go_loopw [3] (λi wr=>∃k:Nat,1<=k/\k<=n/\i=.int .i64 k/\Below w.heap.size w wr) (λi _=>n-(intOf i).toNat)
  case atStart=>exact⟨1,lR,oM,rfl,Below.refl _ _⟩
  case round =>
   obtain⟨k,G,hk,rfl,hb⟩:=hrel;by_cases r:k<n
   ·obtain⟨q,o,rfl,g⟩:=zX.get (SlR.below h hb) r (by rw[d.out];exact r);obtain⟨q',o',e',f⟩:=zX.get (SlR.below h hb) (i:=k-1) oM (by rw[d.out];omega);injection e' with e'
    injection e' with e1 e2
    subst e1;subst e2;have m:R[k]'(by rw[d.out];exact r)≠R[k-1]'(by rw[d.out];omega):=λe=>by
     have:=YZ hr (i:=k-1) (j:=k) oM (by rw[d.out];exact r);rw[e,eD]at this;omega
    obtain⟨x,hx⟩:=eX (R[k]'(by rw[d.out];exact r))
    obtain⟨y,hy⟩:=eX (R[k-1]'(by rw[d.out];omega))
    rw[hx]at g m;rw[hy]at f m;have E:(x==y)=false:=by rw[beq_eq_false_iff_ne];exact m
    have B:((k:Int)-1)=((k-1:Nat):Int):=oM;obtain⟨k1,t⟩:=eX (k-1)
    rw[t]at f B;have D:k1<n:=oM;have F:IntKind.i64.wrap (k1:Int)=(k1:Int):=IntWalk.i64_in _ oM;have H:=dH t;clear hx hy m t;go_upto_region 6 with fail
    refine lX wr ?_;intro m hS;have b1:=zS g;have b2:=zS f;refine lZ ?_;refine zD ?_;intro hS;clear m hS b1 b2 g f;(go_wp2_with fail);go_roundw
    case rel=>exact⟨k+1,oM,oM,by go_num,hb.drew⟩
    case measure=>exact sZ
   ·(go_wp2_with fail);go_ret;exact⟨rfl,hb⟩
theorem aV(w:World)(A:Option Addr)(n cap:Nat)(S L:List zB)(h:zX w A n S)(hp:S.Perm L)(hr:Ris yE L)(hn:n<=1000000)(hA:A=none->cap=0) :
  Calls prog 104 #[.slice A n cap] w λe w'=>∃A' cap',e=.returned (.slice A' L.length cap')/\Own w' w.heap.size 31 32 A' L.length cap' (L.map idC)/\Below w.heap.size w w':=by
 have k:L.length=n:=by rw[<-hp.length_eq];exact h.len
 have c1:=rG w A n cap S h hn hA;go_enter func104,ntmps104
 (go_wp2_with fail);refine c1.mono ?_;rintro e w1 ⟨A1,g,rfl,f,r⟩;have c2:=sort_ids w1 w.heap.size A1 n g S L f hp hr oM;clear c1;(go_wp2_with fail);refine c2.mono ?_;rintro e w2 ⟨rfl,d,t⟩;have B:Below w.heap.size w w2:=r.trans (t.below r.size (λx hx=>(f.at_base hx).1));have c3:=kz w2 A1 n g L d.slr hr hn;clear c2;(go_wp2_with fail);refine c3.mono ?_;rintro e w3 ⟨rfl,m⟩;have j:=d.below m;have y:=yK B m;have s:=dH k;clear c3 k;(go_wp2_with fail);go_ret;exact⟨A1,g,by rw[s.out];rfl,by rw[s.out];exact j,y⟩
end
section
open Go.RowKit Go.Sort Go.Shelf
theorem aT(w:World):(isAgg 230).run prog w=.ok true w:=by simp[isAgg,run_underlying underlying230]
theorem YM(w:World):(Go.sizeOf 230).run prog w=.ok 34 w:=by
 have h:=QY;cases hi:prog.info? 230 with
 | none=>rw[hi]at h;cases h
 | some i =>
  rw[hi]at h;have hk:i.size=34:=by simpa using h
  simp[Go.sizeOf,typeInfo,hi,hk]
theorem wQ:qN jZ:=XJ
theorem sort_mrows(w:World)(B:Nat)(A:Option Addr)(n cap:Nat)(S L:List (qO))(d:Own w B 230 34 A n cap (S.map zV))(hp:S.Perm L)(hr:Ris jZ L)(hn:L.length<=1000000) :
  Calls prog 209 #[.slice A n cap,.func (.func 190) #[] #[]] w λe w'=>e=.returned (.tuple #[])/\Own w' B 230 34 A n cap (L.map zV)/\z9 (blk A) w w':=by
 have hl:S.length=n:=by simpa using d.len
 have k:=hp.length_eq;rcases d.addr with rfl | ⟨g,rfl⟩
 ·have r:n=0:=(d.cap_le.2 rfl).1;subst r;have hS:S = []:=eq_nil_of_length_eq_zero hl;subst hS;have hL:L = []:=eq_nil_of_length_eq_zero k.symm;subst hL;refine(AnyF.slices_SortFunc_none laySortW none cap (.func (.func 190) #[] #[]) w).mono ?_;rintro e w' ⟨rfl,rfl⟩;exact⟨rfl,d,z9.refl _ _⟩
 ·subst hl;have hH:=own_holds (enc:=zV) oM gJ d;have j:CmpLays prog 190 #[] (λx:qO=>(zV x).toList) 34 jZ g 0 S.toArray.size w:=λm os dk _ x y=>morder x y _;have s:g<w.heap.size:=(d.at_base (x:=g) (by simp[blk])).2;have f:=AnyQ.slices_SortFunc_total laySortW 34 aT YM (λx:qO=>(zV x).toList) sI (λx v hv=>m6 x v hv) jZ (swo_of wQ) 190 #[] g 0 cap S.toArray w
   (enters_of func190 kR rfl) j hH s sO (λx y h1 h2=>by
    simp only[ltOf,decide_eq_false_iff_not]at h1 h2;exact Classical.byContradiction λe=>h2 ((wQ).flip h1 e))
  have e1:S.toArray.size=S.length:=sI;rw[e1]at f;refine f.mono ?_;rintro e w' ⟨rfl,n,os,rfl⟩;have e2:(S.toArray.toList.mergeSort λx y=>!(ltOf jZ y x))=L:=s5 wQ hr hp;rw[e2];obtain⟨h1,h2⟩:=sU (enc:=zV) oM gJ d n L k.symm os;exact⟨rfl,h1,h2.mono (by simp[blk])⟩
theorem msorted(wS:World)(g b bo:Nat)(L:List qO)(O:List zB)(h:xS wS g b bo L O)(hn:L.length<=1000000) :
  Calls prog 154 #[.pointer (some ⟨g,0,none⟩)] wS λe w'=>∃A cap,e=.returned (.slice A L.length cap)/\Own w' wS.heap.size 230 34 A L.length cap (L.map zV)/\Below wS.heap.size wS w':=by
 have a7:=h.live.lt;have hc:=h.cell0;have hr:=h.risX;obtain⟨w0,j,hR,U,a5⟩:=yM.range (P:=prog) (kv:=nI) (ok:=okM) h.live underlying279;go_enter func154,ntmps154
 (go_wp2_with fail);refine(QJ wS g b hc).mono ?_;rintro e w1 ⟨rfl,rfl⟩;(go_wp2_with fail);clear j hc h;go_loopw [3] (λout wr=>∃S A cap,out=.slice A S.length cap/\v6 wr b wS.heap.size nI okM L S/\Own wr w0.heap.size 230 34 A S.length cap (S.map zV)/\Below wS.heap.size wS wr/\w0.heap.size<=wr.heap.size) (λ_ wr=>wr.rangeLeft b wS.heap.size)
 case atStart=>exact⟨[],none,0,rfl,hR,Own.nil _ _ _ _,U,lR⟩
 case round =>
  obtain⟨S,A,cap,rfl,hR,d,hb,a4⟩:=hrel;rcases hR.next (P:=prog) 0 with⟨hall,H,j⟩ | ⟨x,w1,hxL,hxS,j,hR1,hk1,hs1,hl1,hen⟩
  focus
   have hp:S.Perm L:=(perm_ext_iff_of_nodup H (hr.nodup XJ)).2 hall;have R:=hp.length_eq;have a2:=dH hall;have a3:=dH R;clear hall R;have m:=sort_mrows wr w0.heap.size A S.length cap S L d hp hr hn;(go_wp2_with fail);refine m.mono ?_;rintro e w2 ⟨rfl,f,V⟩;clear j;(go_wp2_with fail);go_ret;rw[a3.out]at f |-;exact⟨A,cap,rfl,f.mono oM,hb.trans (V.below (B:=wS.heap.size) oM λx hx=>oH ((d.at_base hx).1))⟩
  have a8:S.length+1<=1000000:=by
   obtain⟨M,Z,hZ,T,_,a0,H⟩:=hR1;have h1:=hZ.length;have h2:(Z.map (·.1)).length=(S ++ [x]).length:=by rw[a0]
   have h3:(M.map (·.1)).length<=L.length:=gH H (λy hy=>(T y).1 hy);simp at h2 h3;omega
  have s:Own w1 w0.heap.size 230 34 A S.length cap (S.map zV):=d.kept hk1 (λy hy=>oS ((d.at_base hy).1));have Y:Below wS.heap.size wS w1:=hb.trans (hk1.below (B:=wS.heap.size) oM sI);have D:Below w1.heap.size w1 ((w1.alloc (.cells (zV x) 230)).alloc (.cells (zV x) 230)):=(bA).alloc sI _;have f:=s.below D;have r:zA ((w1.alloc (.cells (zV x) 230)).alloc (.cells (zV x) 230)) (w1.heap.size+1) 0 34=some (zV x):=by simp[go_sem]
  change (Instr.next _ _ _).run prog wr=.ok (.tuple #[.bool true,.agg (zV x),.bool true]) w1 at j;change (Instr.entry _).run prog w1=.ok (.tuple #[.agg (zV x),.bool true]) w1 at hen;have F:=dH hs1;clear hs1;go_wp2_with (at_builtin;refine xN rC rfl f rfl r (m6 _) oM oM (by simp;have:=F.out;omega) ?_;intro A' cap' w2 t E I)
  have N:b∉blk A:=λhx=>(oH ((d.at_base hx).1));have J:wS.heap.size∉blk A:=λhx=>(oH ((d.at_base hx).1));have k:=hR1.kept (z9.of_below D) sI sI;have a1:=k.kept E N J;have a6:w2.rangeLeft b wS.heap.size=w1.rangeLeft b wS.heap.size :=
   (qD E N J k.lt.2 k.lt.1).trans (qD (z9.of_below D) sI sI hR1.lt.2 hR1.lt.1)
  have G:w0.heap.size<=w2.heap.size:=by
   have e1:=D.size;have e2:=E.size;have e3:=F.out;omega
  have X:Below wS.heap.size wS w2:=Y.trans ((D.mono (oH F.out)).trans (E.below (B:=wS.heap.size) (by simp;have:=F.out;omega) λy hy=>oH ((d.at_base hy).1)));clear j hen;(go_wp2_with fail);go_roundw
  case rel=>exact⟨S ++ [x],A',cap',sI,a1,by simpa using t,X,G⟩
  case measure=>omega
end
@[go_sem ↓] theorem slPair_rw(x:Value)(lo hi mx:Option Value):Instr.sliceAt 40 x lo hi mx=slS 40 x lo hi mx:=rfl
section
section
variable {P:Program} {T E:TypeId} {k bytes:Nat}
theorem JW(hz:0<z.size)(h1:∀u∈z.toList,u.oneCell'=true):∀u∈(Builtin.zeroCells z n).toList,u.oneCell'=true:=by
 intro u hu;unfold Builtin.zeroCells at hu;simp only[Array.toList_map,mem_map]at hu;obtain⟨i,_,rfl⟩:=hu;have hi:i % z.size<z.size:=Nat.mod_lt _ hz;rw[getElem!_pos z _ hi];exact h1 _ sI
theorem KD(I:yR P T E k bytes){z:Value}(hz:(P.info? E).bind (·.zero)=some z)(a0:∀u∈z.cells.toList,u.oneCell'=true){cap m:Nat}(h:Own w B E k (some ⟨g,0,none⟩) n cap L)(hm:m<=n)(ty:TypeId) :
  ∃A2 c2,(∀w0:World,(slS T (.slice (some ⟨g,0,none⟩) n cap) (some (.int .i64 m)) none none).run P w0=.ok (.slice A2 (n-m) c2) w0) /\
   ∃w',(Builtin.clear_ #[T] ty #[.slice A2 (n-m) c2]).run P w=.ok (.tuple #[]) w'/\Own w' B E k (some ⟨g,0,none⟩) m cap (L.take m)/\z9 [g] w w':=by
 have hA:=h.cap_le;have F:∀w0:World,(slS T (.slice (some ⟨g,0,none⟩) n cap) (some (.int .i64 m)) none none).run P w0=.ok (.slice (if cap=m then some ⟨g,0,none⟩ else some ⟨g,m*k,none⟩) (n-m) (cap-m)) w0:=by
  intro w0;rw[tJ I];unfold Instr.slice Instr.sliceBounds;simp only[Sem.run_bind,run_underlying I.und,Result.andThen_ok,Sem.run_pure,kD w0 m n hm,I.sizeOf_run w0,Option.isSome_none,Bool.false_eq_true,if_false];congr 3
  show some ((⟨g,0,none⟩:Addr).add (m*k))=_;unfold Addr.add;split <;> simp_all
 refine⟨_,_,F,?_⟩;have N:=h;have a5:=j6 L k h.size;have hL:=h.len;have b2:=h.size;obtain⟨⟨h1,h2⟩,_,hs⟩:=h;rcases h2 with⟨h2,_⟩ | ⟨g',c,cur,hv,hb,hg,hnc,hcm,hcsz,htake⟩
 ·cases h2
 injection hv with t _ hc
 injection t with t
 injection t with t
 subst t;subst hc;have a4:m*k<=n*k:=Nat.mul_le_mul_right k hm;have b3:n*k<=cur.size:=by rw[hcsz];exact Nat.mul_le_mul_right k hnc
 have a1:(L.take m).flatMap Array.toList=(L.flatMap Array.toList).take (m*k):=by
  apply ext_getElem?;intro j;have O:(L.take m).length=m:=sO;have a6:=j6 (L.take m) k (λc hc=>hs c (mem_of_mem_take hc));rw[O]at a6;by_cases hj:j<m*k
  ·rw[getElem?_take,if_pos hj];have R:=I.pos;have hi:j / k<m:=Nat.div_lt_of_lt_mul (by rw[Nat.mul_comm];exact hj);have hr:j % k<k:=Nat.mod_lt _ R;have he:j=j / k*k+j % k:=by rw[Nat.mul_comm];exact(Nat.div_add_mod j k).symm
   rw[he,dG (L.take m) k (λc hc=>hs c (mem_of_mem_take hc)) (j / k) (j % k) (by rw[O];exact hi) hr,dG L k hs (j / k) (j % k) oM hr];congr 1
   rw[getElem_take]
  ·rw[getElem?_eq_none oM,getElem?_eq_none sO]
 have s:∀w' f,w'.heap[g]?=some (.cells f E (0,0))->f.size=cap*k->f.toList.take (m*k)=cur.toList.take (m*k)->Own w' B E k (some ⟨g,0,none⟩) m cap (L.take m):=by
  intro w' f a8 G D;refine⟨⟨?_,.inr ⟨g,cap,f,rfl,hb,a8,oM,hcm,G,?_⟩⟩,sO,λc hc=>hs c (mem_of_mem_take hc)⟩
  ·rw[j6 _ k (λc hc=>hs c (mem_of_mem_take hc)),length_take,hL,Nat.min_eq_left hm]
  ·rw[D,a1,<-htake,take_take,Nat.min_eq_left a4]
 by_cases a3:m=n
 ·subst a3;refine⟨w,?_,s w cur hg hcsz rfl,(z9.refl _ _)⟩;rw[Nat.sub_self];obtain⟨A2,b1⟩:∃A2,(if cap=m then(some ⟨g,0,none⟩:Option Addr)else some ⟨g,m*k,none⟩)=A2:=⟨_,rfl⟩
  rw[b1];cases A2 <;> simp[Builtin.clear_,run_underlying I.und]
 ·have H:¬cap=m:=oM;rw[if_neg H];obtain⟨X,z',r,M,a7,b4,A⟩:=I.info;have Y:z'=z:=by
   rw[r]at hz;have:X.zero=some z:=hz;rw[M]at this;injection this
  subst Y;have R:=I.pos;have y:=run_storeCells_at P g (m*k) E (Builtin.zeroCells z'.cells (n-m)).toList 0 cur w hg (by
   simp only[Nat.add_zero,Array.length_toList,size_zeroCells,A];have:m*k+(n-m)*k=n*k:=by rw[<-Nat.add_mul];congr 1;omega
   omega) (JW oM a0)
  simp only[Nat.add_zero,Array.length_toList,size_zeroCells,A]at y;have a2:m*k+(n-m)*k=n*k:=by rw[<-Nat.add_mul];congr 1;omega
  have U:(Builtin.zeroCells z'.cells (n-m)).toList.length=(n-m)*k:=by rw[Array.length_toList,size_zeroCells,A]
  have V:cur.toList.length=cap*k:=by rw[Array.length_toList];exact hcsz
  obtain⟨NC,J⟩:=eX ((cur.toList.take (m*k)++(Builtin.zeroCells z'.cells (n-m)).toList++cur.toList.drop (m*k+(n-m)*k)).toArray)
  rw[J]at y;have b0:NC.size=cap*k:=by
   rw[<-J];simp only[size_toArray,length_append,length_take,length_drop,U,V];omega
  have a9:NC.toList.take (m*k)=cur.toList.take (m*k):=by
   rw[<-J];show List.take (m*k) (cur.toList.take (m*k)++(Builtin.zeroCells z'.cells (n-m)).toList++cur.toList.drop (m*k+(n-m)*k))=_;rw[append_assoc,take_append_of_le_length (by rw[length_take,V];omega),take_take,Nat.min_self]
  refine⟨w.setRow g NC,?_,s _ _ (setRow_heap w g cur NC E (0,0) hg) b0 a9,⟨rfl,rfl,rfl,by simp[setRow],λx _ hx=>setRow_other w g x _ (by simpa using hx)⟩⟩;obtain⟨d,hd⟩:∃d,n-m=d+1:=⟨n-m-1,oM⟩
  rw[hd]at y |-;have Z:(zeroValue E).run P w=.ok z' w:=by simp[zeroValue,typeInfo,r,M]
  simp[Builtin.clear_,run_underlying I.und,Z,y]
end
end
def wB(x y:jI):Bool:=(x.key.toList==y.key.toList)&&(x.val.toList==y.val.toList)
theorem gF(x y:jI):wB x y=true↔x=y:=by
 unfold wB;simp only[Bool.and_eq_true,beq_iff_eq,toList_inj];exact⟨λh=>Pair_ext h,λh=>by subst h;exact⟨rfl,rfl⟩⟩
theorem BF(x y:jI)(w:World):(Op.equalIn 10000 147 (.agg (yD x)) (.agg (yD y))).run prog w=.ok (wB x y) w:=by
 rw[show(10000:Nat)=9999+1 from rfl,run_equalIn_agg w 9999 147 _ _ cR kR];unfold wB;have e1:=run_equalIn_string (P:=prog) w 9998 9 x.key y.key underlying9;have e2:=run_equalIn_string (P:=prog) w 9998 9 x.val y.val underlying9;simp only[Program.fieldsOf,underlying147];simp[Op.eqFields,part,asAgg,isAgg,go_sem,underlying9,e1,e2];by_cases h1:x.key.toList=y.key.toList <;> by_cases h2:x.val.toList=y.val.toList <;> simp[h1,h2]
@[go_sem ↓] theorem neqPair_run(x y:jI)(w:World):(binOp .neq 147 (.agg (yD x)) (.agg (yD y))).run prog w=.ok (.bool (!(wB x y))) w:=by
 rw[run_neq_struct,BF];rfl
def fV(w:World)(A:Option Addr)(n:Nat)(L:List jI):Prop:=SlR w A n 2 (L.map yD)
theorem fV.get(h:fV w A n R){i:Nat}(hi:i<n)(hR:i<R.length) :
  ∃g o,A=some ⟨g,o,none⟩/\zA w g (o+i*2) 2=some (yD R[i])/\w.cell? ⟨g,o+i*2,none⟩=some (.string (R[i]).key)/\w.cell? ⟨g,o+i*2+1,none⟩=some (.string (R[i]).val):=by
 obtain⟨g,o,e,hr⟩:=SlR.at_ h hi;rw[getElem_map]at hr;refine⟨g,o,e,hr,?_,?_⟩
 ·have:=zC hr (j:=0) oM
  rwa [jk]at this
 ·have:=zC hr (j:=1) oM
  rwa [jj]at this
theorem fV.len(h:fV w A n R):R.length=n:=by simpa using h.1
theorem rpairs(w:World)(A B:Option Addr)(n m cap cap':Nat)(X Y:List jI)(hx:fV w A n X)(hy:fV w B m Y)(hn:n<=1000000)(hm:m<=1000000) :
  Calls prog 43 #[.slice A n cap,.slice B m cap'] w λe w'=>e=.returned (.bool (decide (X=Y)))/\Below w.heap.size w w':=by
 have s:=hx.len;have r:=hy.len;have j:=dH s;have g:=dH r;by_cases G:n=m
 ·subst G;clear s r;go_enter func43,ntmps43
  (go_wp2_with fail);go_loopw [5] (λi wr=>∃k:Nat,k<=n/\i=.int .i64 k/\Hid (X.take k=Y.take k)/\Below w.heap.size w wr) (λi _=>n-(intOf i).toNat)
  case atStart=>exact⟨0,zL,rfl,rfl,Below.refl _ _⟩
  case round =>
   obtain⟨k,hk,rfl,H,hb⟩:=hrel;by_cases d:k<n
   ·obtain⟨q,o,rfl,hr,_,_⟩:=fV.get (SlR.below hx hb) d (by rw[j.out];exact d);obtain⟨q2,o2,rfl,F,_,_⟩:=fV.get (SlR.below hy hb) d (by rw[g.out];exact d);have hX:X.take (k+1)=X.take k ++ [X[k]'(by rw[j.out];exact d)]:=by rw[take_add_one,getElem?_eq_getElem (by rw[j.out];exact d)];rfl
    have hY:Y.take (k+1)=Y.take k ++ [Y[k]'(by rw[g.out];exact d)]:=by rw[take_add_one,getElem?_eq_getElem (by rw[g.out];exact d)];rfl
    obtain⟨x,D⟩:=eX (X[k]'(by rw[j.out];exact d))
    obtain⟨y,t⟩:=eX (Y[k]'(by rw[g.out];exact d))
    rw[D]at hr hX;rw[t]at F hY;have HX:=dH hX;have HY:=dH hY;clear hX hY;have O:=dH D;have N:=dH t;clear D t;go_upto_region 6 with fail
    refine lX wr ?_;intro f hS;have b1:=zS hr;have b2:=zS F;refine lZ ?_;refine zD ?_;intro hS;clear f hS b1 b2 hr F;have I:Below w.heap.size w wr.drew:=hb.drew;cases hpe:wB x y with
    | true =>
     have e:=(gF x y).1 hpe;have E:=dH e;clear e;(go_wp2_with fail);go_roundw
     case rel=>exact⟨k+1,oM,by go_num,(show X.take (k+1)=Y.take (k+1) by rw[HX.out,HY.out,H.out,E.out]),I⟩
     case measure=>exact sZ
    | false =>
     have f:X≠Y:=by
      intro e;subst e;have:x=y:=O.out.symm.trans N.out;rw[(gF x y).2 this]at hpe;cases hpe
     have hd:=dH (decide_eq_false f);clear f;(go_wp2_with fail);go_ret;exact⟨yB (by rw[hd.out]),I⟩
   ·have M:k=n:=oM;have e:X=Y:=by
     have:=H.out
     rwa [take_of_length_le (by rw[j.out];omega),take_of_length_le (by rw[g.out];omega)]at this
    have E:=dH (decide_eq_true e);clear e M;(go_wp2_with fail);go_ret;exact⟨yB (by rw[E.out]),hb⟩
 ·have f:X≠Y:=by intro e;subst e;exact G (s.symm.trans r)
  have hd:=dH (decide_eq_false f);have L:(n==m)=false:=by simpa using G
  have J:((n:Int)==(m:Int))=false:=by rw[beq_eq_false_iff_ne];omega
  clear s r f;go_enter func43,ntmps43
  (go_wp2_with fail);go_ret;exact⟨yB (by rw[hd.out]),Below.refl _ _⟩
section
open Go.RowKit Go.Sort Go.Shelf
instance:Inhabited jI:=⟨lW⟩
@[go_sem ↓] theorem eqPair_run(x y:jI)(w:World):(Op.equalIn 10000 147 (.agg (yD x)) (.agg (yD y))).run prog w=.ok (wB x y) w:=BF x y w
def jB(x y:jI):Int:=orL [qV x.key y.key,qV x.val y.val]
theorem tE:qN jB:=(V0.pair V0).of (λx:jI=>(x.key,x.val)) (λx y h=>by
 cases x;cases y
 simp only[Prod.mk.injEq]at h;obtain⟨h1,h2⟩:=h;subst h1;subst h2;rfl) (λx y=>orL2 _ _)
theorem Own.hi_at{P:Program}{T:TypeId}{k bytes:Nat}(I:yR P T E k bytes){cap:Nat}(h:Own w B E k (some ⟨g,0,none⟩) n cap L){m:Nat}(hm:m<n)(w0:World) :
  (slS T (.slice (some ⟨g,0,none⟩) n cap) (some (.int .i64 m)) none none).run P w0=.ok (.slice (some ⟨g,m*k,none⟩) (n-m) (cap-m)) w0:=by
 have hA:=h.cap_le;rw[tJ I];unfold Instr.slice Instr.sliceBounds;simp only[Sem.run_bind,run_underlying I.und,Result.andThen_ok,Sem.run_pure,kD w0 m n (Nat.le_of_lt hm),I.sizeOf_run w0,Option.isSome_none,Bool.false_eq_true,if_false];rw[if_neg oM];congr 2
 show some ((⟨g,0,none⟩:Addr).add (m*k))=_;unfold Addr.add;split <;> simp_all
theorem Own.get{α:Type}[Inhabited α]{enc:α->Array Value}{cap k:Nat}{d:Array α}(h:Own w B E k (some ⟨g,0,none⟩) n cap (d.toList.map enc)){j:Nat}(hj:j<n):zA w g (j*k) k=some (enc d[j]!):=by
 have hl:d.size=n:=by simpa using h.len
 obtain⟨q,o,e,hr⟩:=h.slr.at_ hj;injection e with e;injection e with e1 e2
 subst e1;subst e2;rw[Nat.zero_add]at hr;rw[hr,getElem_map,getElem!_pos d j oM]
 simp
theorem VG(w:World)(B g n cap:Nat)(R:List jI)(F:Own w B 147 2 (some ⟨g,0,none⟩) n cap (R.map yD))(hn:n<=1000000)(hs:R.Pairwise (λx y=>¬jB y x<0)) :
  Calls prog 159 #[.slice (some ⟨g,0,none⟩) n cap] w λe w'=>e=.returned (.slice (some ⟨g,0,none⟩) (kO jB R).length cap)/\Own w' B 147 2 (some ⟨g,0,none⟩) (kO jB R).length cap ((kO jB R).map yD)/\z9 [g] w w':=by
 have L:R.length=n:=by simpa using F.len
 rw[<-pR tE R hs];obtain⟨d,hd⟩:=eX R.toArray
 have c8:R=d.toList:=by rw[<-hd]
 have a6:d.size=n:=by rw[<-hd];simpa using L
 have c6:Lib.compact R=Lib.compactUpTo d n:=by unfold Lib.compact;rw[hd,L]
 rw[c6];rw[c8]at F;have I:(∀j,j<n->Lib.keeps d j=true)->Lib.compactUpTo d n=d.toList:=λh=>by
  rw[Lib.compactUpTo_all d n h,<-a6];exact Lib.range_map_get d
 have b3:=dH a6;clear hd c8 c6 hs L a6;have f2:g<w.heap.size:=(F.at_base (x:=g) (by simp[blk])).2;go_enter func159,ntmps159
 by_cases h2:n<2
 ·have he:=I (λj hj=>by
   have:j=0:=by
    by_cases h1:j=0
    ·exact h1
    ·have a5:j=1:=oM;omega
   subst this;simp[Lib.keeps])
  have He:=dH he;clear he I;(go_wp2_with fail);go_ret;rw[He.out];have hl:d.toList.length=n:=by rw[Array.length_toList];exact b3.out
  exact⟨by rw[hl];rfl,by rw[hl];exact F,z9.refl _ _⟩
 ·(go_wp2_with fail);go_loopw [3] (λi wr=>∃k:Nat,1<=k/\k<=n/\i=.int .i64 k/\Hid (∀j,j<k->Lib.keeps d j=true)/\Below w.heap.size w wr) (λi _=>n-(intOf i).toNat)
  case atStart=>exact⟨1,lR,oM,rfl,(show ∀j,j<1->_ from Lib.keeps_lt_one d),Below.refl _ _⟩
  case round =>
   obtain⟨k,f1,hk,rfl,N,hb⟩:=hrel;have t:=F.below hb;by_cases b6:k<n
   ·have H:=t.get b6;have G:=t.get (j:=k-1) oM;obtain⟨x,hx⟩:=eX (d[k]!)
    obtain⟨y,hy⟩:=eX (d[k-1]!)
    rw[hx]at H;rw[hy]at G;obtain⟨k1,a4⟩:=eX (k-1)
    have e2:((k:Int)-1)=(k1:Int):=oM;have e1:k1<n:=oM;have e7:IntKind.i64.wrap (k1:Int)=(k1:Int):=IntWalk.i64_in _ oM;rw[a4]at G;obtain⟨eb,c1⟩:=eX (wB x y)
    have d1:=dH c1;have Hx:=dH hx;have Hy:=dH hy;have f3:=dH a4;clear hx hy a4;go_upto_region 6 with fail
    refine lX wr ?_;intro O hS;have b1:=zS H;have b2:=zS G;refine lZ ?_;refine zD ?_;intro hS;have a7:Below w.heap.size w wr.drew:=hb.drew;have E:Own wr.drew B 147 2 (some ⟨g,0,none⟩) n cap (d.toList.map yD):=t.kept (z9.drew wr) sI;clear O hS b1 b2 H G c1 hb t;obtain⟨W,hW⟩:=eX wr.drew
    rw[hW]at a7 E |-;clear hW;cases eb with
    | false =>
     have O:d[k]!≠d[k-1]!:=by
      rw[Hx.out,Hy.out];intro e;have:=(gF x y).2 e;rw[d1.out]at this;cases this
     have T:=Lib.keeps_pos O;have a8:=dH T;clear O T;(go_wp2_with fail);go_roundw
     case rel=>exact⟨k+1,oM,oM,by go_num,(show ∀j,j<k+1->Lib.keeps d j=true from λj hj=>by
      by_cases e:j=k
      ·rw[e];exact a8.out
      ·exact N.out j oM),a7⟩
     case measure=>exact sZ
    | true =>
     have X:d[k]! = d[k-1]!:=by rw[Hx.out,Hy.out];exact(gF x y).1 d1.out
     have A:=Lib.CompInv.start N.out (Lib.keeps_neg oM X);have a9:=dH A;have e9:=λw0=>E.hi_at (P:=prog) bB b6 w0;clear X A;(go_wp2_with fail);go_loopw [3,5] (λkv iv ws=>∃(k2 kk:Nat) (dk:Array jI),1<=k2/\k2<=n-k/\iv=.int .i64 k2/\kv=.int .i64 kk/\Hid (Lib.CompInv d (k+k2) kk dk)/\Own ws B 147 2 (some ⟨g,0,none⟩) n cap (dk.toList.map yD)/\z9 [g] w ws/\kk<k+k2) (λ_ iv _=>(n-k)-(intOf iv).toNat)
     case atStart=>exact⟨1,k,d,lR,oM,rfl,rfl,a9,E,(z9.of_below a7).mono sI,oM⟩
     case round =>
      obtain⟨k2,kk,dk,e0,d9,rfl,rfl,A,f,a3,d7⟩:=hrel;by_cases d5:k2<n-k
      ·have Z:dk.size=n:=by simpa using f.len
       have H:=f.get (j:=k+k2) oM;have G:=f.get (j:=k+k2-1) oM;obtain⟨x2,a0⟩:=eX (dk[k+k2]!)
       obtain⟨y2,U⟩:=eX (dk[k+k2-1]!)
       have c4:d[k+k2]! = x2:=by rw[<-a0];exact(A.out.high _ oM).symm
       have c3:d[k+k2-1]! = y2:=by rw[<-U];exact(A.out.high _ oM).symm
       rw[a0]at H;rw[U]at G;obtain⟨j1,a5⟩:=eX (k2-1)
       have e4:((k2:Int)-1)=(j1:Int):=oM;have e3:j1<n-k:=oM;have d3:IntKind.i64.wrap (j1:Int)=(j1:Int):=IntWalk.i64_in _ oM;rw[(oM:k+k2-1=k+j1),Nat.add_mul]at G;rw[Nat.add_mul]at H;obtain⟨nb,b5⟩:=eX (wB x2 y2)
       have c9:=dH b5;have b0:=dH c4;have d2:=dH c3;have f4:=dH a5;have f5:=dH Z;clear a0 U a5 c4 c3 Z;go_upto_region 11 with fail
       refine lX wr ?_;intro O hS;have b1:=zS H;have b2:=zS G;refine lZ ?_;refine zD ?_;intro hS;have M:z9 [g] w wr.drew:=z9.trans a3 (z9.drew wr) sI;have s:Own wr.drew B 147 2 (some ⟨g,0,none⟩) n cap (dk.toList.map yD):=f.kept (z9.drew wr) sI;have a1:zA wr.drew g (k*2+k2*2) 2=some (yD x2):=H;clear O hS b1 b2 H G b5 a3 f;obtain⟨W2,c7⟩:=eX wr.drew
       rw[c7]at M s a1 |-;clear c7;cases nb with
       | true =>
        have X:d[k+k2]! = d[k+k2-1]!:=by rw[b0.out,d2.out];exact(gF x2 y2).1 c9.out
        have b4:=A.out.skip (Lib.keeps_neg oM X);have e6:=dH b4;clear X b4;(go_wp2_with fail);go_roundw
        case rel=>exact⟨k2+1,kk,dk,oM,oM,by go_num,rfl,(show Lib.CompInv d (k+(k2+1)) kk dk from e6.out),s,M,oM⟩
        case measure=>exact sZ
       | false =>
        have V:d[k+k2]!≠d[k+k2-1]!:=by
         rw[b0.out,d2.out];intro e;have:=(gF x2 y2).2 e;rw[c9.out]at this;cases this
        have T:=A.out.keep (by rw[b3.out];omega) (Lib.keeps_pos V);rw[b0.out]at T;have a8:=dH T;clear V T;obtain⟨w7,e8,J,c0⟩:=KC bB s (i:=kk) oM (cs:=yD x2) sI (gG x2);have b8:(dk.toList.map yD).set kk (yD x2)=(dk.setIfInBounds kk x2).toList.map yD:=by
         rw[Array.toList_setIfInBounds,map_set]
        rw[b8]at J;have a2:=z9.trans M c0 iL;have d6:kk<n:=oM;clear b8 c0 s;(go_wp2_with fail);go_roundw
        case rel=>exact⟨k2+1,kk+1,_,oM,oM,by go_num,by go_num,(show Lib.CompInv d (k+(k2+1)) (kk+1) _ from a8.out),J,a2,oM⟩
        case measure=>exact sZ
      ·have hm:k+k2=n:=oM;have r:=A.out;rw[hm]at r;have d6:kk<n:=oH r.lt;have Z:dk.size=n:=by simpa using f.len
       have c5:dk.toList.take kk=Lib.compactUpTo d n:=by
        apply ext_getElem?;intro j;by_cases hj:j<kk
        ·rw[r.low j hj,getElem?_take,if_pos hj,Array.getElem?_toList,getElem!_pos dk j oM,Array.getElem?_eq_getElem oM]
        ·rw[getElem?_eq_none sO,getElem?_eq_none (by rw[r.len];omega)]
       obtain⟨A2,c2,d4,w8,e5,D,b9⟩:=KD bB (z:=.agg (yD lW)) kR (gG lW) f (m:=kk) oM 0;rw[<-map_take,c5]at D;have b7:(Lib.compactUpTo d n).length=kk:=r.len;have f0:=λw0=>SlW.lo (P:=prog) bB f.slw (m:=kk) oM w0;have d8:=z9.trans a3 b9 iL;have d0:=dH b7;have Y:=dH D;clear c5 r b7 D Z hm b9 f;(go_wp2_with fail);go_ret;exact⟨by rw[d0.out];rfl,by rw[d0.out];exact Y.out,d8⟩
   ·have he:=I (λj hj=>N.out j oM);have He:=dH he;clear he I;(go_wp2_with fail);go_ret;rw[He.out];have hl:d.toList.length=n:=by rw[Array.length_toList];exact b3.out
    exact⟨by rw[hl];rfl,by rw[hl];exact t,(z9.of_below hb).mono sI⟩
end
section
open Go.RowKit Go.Sort Go.Shelf
def rY(S:List jI):List jI:=S.mergeSort λx y=>!(ltOf jB y x)
theorem psort_le(S:List jI):(rY S).Pairwise (λx y=>¬jB y x<0):=by
 have f:∀a b:jI,((!ltOf jB b a) || !ltOf jB a b)=true:=λa b=>by
  unfold ltOf;by_cases h1:jB b a<0
  ·have:=tE.asym h1;simp[this]
  ·simp[h1]
 have g:∀a b d:jI,(!ltOf jB b a)=true->(!ltOf jB d b)=true->(!ltOf jB d a)=true:=λa b d h1 h2=>by
  unfold ltOf at *;simp only[Bool.not_eq_true',decide_eq_false_iff_not]at h1 h2 |-;intro h3;exact h2 (tE.le_trans (a:=d) (b:=a) (d:=b) (tE.asym h3) (by
   by_cases e:a=b
   ·subst e;exact absurd h3 h2
   ·exact tE.flip h1 (λe'=>e e'.symm)))
 exact Pairwise.imp (fun {a b} h=>by simpa[ltOf]using h) (pairwise_mergeSort g f S)
theorem Q0(S:List jI):(rY S).Perm S:=mergeSort_perm _ _
theorem isAggPair(w:World):(isAgg 147).run prog w=.ok true w:=by simp[isAgg,run_underlying underlying147]
theorem size_pairs(w:World):(Go.sizeOf 147).run prog w=.ok 2 w:=by
 have h:=vp;cases hi:prog.info? 147 with
 | none=>rw[hi]at h;cases h
 | some i =>
  rw[hi]at h;have hk:i.size=2:=by simpa using h
  simp[Go.sizeOf,typeInfo,hi,hk]
theorem mpcmp(x y:jI)(w:World):Calls prog 156 #[.agg (yD x),.agg (yD y)] w λe w'=>e=.returned (.int .i64 (jB x y))/\Gr w w':=by
 go_enter func156,ntmps156
 go_upto_region 1 with fail
 obtain⟨W,hW⟩:=eR ((w.alloc (.cells (yD x) 147)).alloc (.cells (yD y) 147))
 have hB:Gr w W:=by rw[hW];exact((Gr.refl _).alloc _).alloc _
 have a3:W.cell? ⟨w.heap.size,0,none⟩=some (.string x.key):=by rw[hW];simp[go_sem]
 have a4:W.cell? ⟨w.heap.size+1,0,none⟩=some (.string y.key):=by rw[hW];simp[go_sem]
 have a5:W.cell? ⟨w.heap.size,1,none⟩=some (.string x.val):=by rw[hW];simp[go_sem]
 have a6:W.cell? ⟨w.heap.size+1,1,none⟩=some (.string y.val):=by rw[hW];simp[go_sem]
 rw[<-hW];clear hW;refine bL (Gr W) false kR kR kR (Gr.drew W) ?_;have d:=ye W;have hS:=Gr.drew W;have b3:=kH a3;have b4:=kH a4;have b5:=kH a5;have b6:=kH a6;refine lQ ?_;intro K hK;refine(rD _ _ _).mono ?_;rintro e w' ⟨rfl,rfl⟩;refine⟨_,rfl,hS,hK _ _ ?_⟩;clear hK K;refine lQ ?_;intro K hK;refine(rD _ _ _).mono ?_;rintro e w' ⟨rfl,rfl⟩;refine⟨_,rfl,hS,hK _ _ ?_⟩;clear hK K;refine lH ?_;intro K hK;refine zI (Gr.alloc hS _) (λhS=>?_);refine hK _ _ ?_;clear hK K;refine lH ?_;intro K hK;refine(zv W.heap.size 2 [qV x.key y.key,qV x.val y.val] sI (W.alloc (.cells #[.int .i64 (qV x.key y.key),.int .i64 (qV x.val y.val)] 3)).drew (KG W _ _)).mono ?_;rintro e w' ⟨rfl,rfl⟩;refine⟨_,rfl,hS,hK _ _ ?_⟩;clear hK K;refine lZ ?_;refine zD ?_;intro hS;(go_wp2_with fail);go_ret;exact⟨rfl,hB.trans hS⟩
theorem sort_pairs(w:World)(B:Nat)(A:Option Addr)(n cap:Nat)(S:List jI)(d:Own w B 147 2 A n cap (S.map yD))(hn:S.length<=1000000) :
  Calls prog 155 #[.slice A n cap,.func (.func 156) #[] #[]] w λe w'=>e=.returned (.tuple #[])/\Own w' B 147 2 A n cap ((rY S).map yD)/\z9 (blk A) w w':=by
 have hl:S.length=n:=by simpa using d.len
 rcases d.addr with rfl | ⟨g,rfl⟩
 ·have k:n=0:=(d.cap_le.2 rfl).1;subst k;have hS:S = []:=eq_nil_of_length_eq_zero hl;subst hS;refine(AnyF.slices_SortFunc_none laySortPair none cap (.func (.func 156) #[] #[]) w).mono ?_;rintro e w' ⟨rfl,rfl⟩;exact⟨rfl,by simpa[rY]using d,z9.refl _ _⟩
 ·subst hl;have hH:=own_holds (enc:=yD) oM wU d;have j:CmpLays prog 156 #[] (λx:jI=>(yD x).toList) 2 jB g 0 S.toArray.size w:=λm os dk _ x y=>mpcmp x y _;have r:g<w.heap.size:=(d.at_base (x:=g) (by simp[blk])).2;have f:=AnyQ.slices_SortFunc_total laySortPair 2 isAggPair size_pairs (λx:jI=>(yD x).toList) sI (λx v hv=>gG x v hv) jB (swo_of tE) 156 #[] g 0 cap S.toArray w
   (enters_of func156 kR rfl) j hH r sO (λx y h1 h2=>by
    simp only[ltOf,decide_eq_false_iff_not]at h1 h2;exact Classical.byContradiction λe=>h2 (tE.flip h1 e))
  have e1:S.toArray.size=S.length:=sI;rw[e1]at f;refine f.mono ?_;rintro e w' ⟨rfl,n,os,rfl⟩;have e2:(S.toArray.toList.mergeSort λx y=>!(ltOf jB y x))=rY S:=rfl;rw[e2];obtain⟨h1,h2⟩:=sU (enc:=yD) oM wU d n (rY S) (Q0 S).length_eq os;exact⟨rfl,h1,h2.mono (by simp[blk])⟩
theorem kx(w:World)(cap:Nat):Calls prog 159 #[.slice none 0 cap] w λe w'=>e=.returned (.slice none 0 cap)/\w=w':=by
 go_enter func159,ntmps159
 (go_wp2_with fail);go_ret;exact⟨rfl,rfl⟩
def QI(x:qO):jI:=⟨x.key,x.val⟩
def pG(X:List qO):List jI:=kO jB (X.map QI)
theorem listM_len(X:List qO):(pG X).length<=X.length:=by have:=mJ (c:=jB) (X.map QI);simpa[pG]using this
theorem mlist(w:World)(g bl bo:Nat)(X:List qO)(O:List zB)(h:xS w g bl bo X O)(hn:X.length<=1000000) :
  Calls prog 95 #[.pointer (some ⟨g,0,none⟩)] w λe w'=>∃A cap,e=.returned (.slice A (pG X).length cap)/\Own w' w.heap.size 147 2 A (pG X).length cap ((pG X).map yD)/\Below w.heap.size w w':=by
 have c1:=msorted w g bl bo X O h hn;go_enter func95,ntmps95
 (go_wp2_with fail);refine c1.mono ?_;rintro e w1 ⟨RA,rc,rfl,t,hb⟩;have a3:=t.slr;have H:=t.addr;clear t c1 h;(go_wp2_with fail);go_loopw [3,9] (λout i wr=>∃(k:Nat) (A:Option Addr) (cap:Nat),k<=X.length/\i=.int .i64 k/\out=.slice A k cap/\Own wr w1.heap.size 147 2 A k cap (((X.take k).map QI).map yD)/\Below w1.heap.size w1 wr) (λ_ i _=>X.length-(intOf i).toNat)
 case atStart=>exact⟨0,none,0,zL,rfl,rfl,Own.nil _ _ _ _,Below.refl _ _⟩
 case round =>
  obtain⟨k,A,cap,hk,rfl,rfl,f,D⟩:=hrel;by_cases J:k<X.length
  ·obtain⟨q,o,rfl,hr⟩:=(a3.below D).at_ J;obtain rfl:o=0:=by
    rcases H with e | ⟨g',e⟩
    ·cases e
    ·injection e with e;injection e
   rw[Nat.zero_add,getElem_map]at hr;have L:((X.take (k+1)).map QI).map yD=((X.take k).map QI).map yD ++ [yD (QI (X[k]'J))]:=by rw[take_add_one,getElem?_eq_getElem J,Option.toList_some,map_append,map_append];rfl
   obtain⟨x,hx⟩:=eX (X[k]'J)
   rw[hx]at hr L;have a9:=dH L;clear hx L;have M:=D.size;have U:Below wr.heap.size wr ((wr.alloc (.cells (zV x) 230)).alloc (.cells (yD ⟨x.key,x.val⟩) 147)):=(bA).alloc sI _;have d:=f.below U;have F:zA ((wr.alloc (.cells (zV x) 230)).alloc (.cells (yD ⟨x.key,x.val⟩) 147)) (wr.heap.size+1) 0 2=some (yD ⟨x.key,x.val⟩):=by simp[go_sem]
   go_wp2_with (at_builtin;refine xN bB rfl d rfl F (gG _) oM oM sO ?_;intro A' cap' w2 G a4 R)
   have a6:Below w1.heap.size w1 w2:=D.trans ((U.mono M).trans (a4.below (B:=w1.heap.size) sO λy hy=>(f.at_base hy).1));(go_wp2_with fail);go_roundw
   case rel=>exact⟨k+1,A',cap',oM,by go_num,rfl,by rw[a9.out];exact G,a6⟩
   case measure=>exact sZ
  ·have e:X.take k=X:=take_of_length_le oM;have N:k=X.length:=oM;rw[e]at f;obtain⟨S,hS⟩:=eX (X.map QI)
   have a1:S.length=k:=by rw[<-hS];simp[N]
   have r:pG X=kO jB (rY S):=by unfold pG;rw[hS];exact p4 tE λz=>(Q0 S).mem_iff.symm
   rw[hS]at f;have s:=dH r;have cs:=sort_pairs wr w1.heap.size A k cap S f oM;have b1:=dH N;have b0:k<=1000000:=oM;clear hS r e N;(go_wp2_with fail);refine cs.mono ?_;rintro e w2 ⟨rfl,d,Y⟩;have a0:Below w1.heap.size w1 w2:=D.trans (Y.below (B:=w1.heap.size) D.size λx hx=>(f.at_base hx).1);have m:=yK hb a0;have E:=hb.size;clear cs Y a0 D;rcases d.addr with rfl | ⟨q,rfl⟩
   ·have Z:k=0:=(d.cap_le.2 rfl).1;have a5:cap=0:=(d.cap_le.2 rfl).2;have a8:S = []:=eq_nil_of_length_eq_zero (a1.trans Z);subst a8;have T:pG X = []:=by rw[s.out];simp[rY,kO]
    have a2:=dH T;subst Z;clear T a1 a5;have cn:=kx w2 cap;(go_wp2_with fail);refine cn.mono ?_;rintro e w3 ⟨rfl,rfl⟩;(go_wp2_with fail);go_ret;exact⟨none,cap,by rw[a2.out];rfl,by rw[a2.out];have:=d.mono E;simpa[rY]using this,m⟩
   ·have cc:=VG w2 w1.heap.size q k cap (rY S) d oM (psort_le S);(go_wp2_with fail);refine cc.mono ?_;rintro e w3 ⟨rfl,j,V⟩;have a7:=m.trans (V.below (B:=w.heap.size) m.size (by have:=(d.at_base (x:=q) (by simp[blk])).1;simp;omega));rw[<-s.out]at j |-;have I:=dH (j.mono (B':=w.heap.size) E);clear cc V d f j m;(go_wp2_with fail);go_ret;exact⟨_,cap,rfl,I.out,a7⟩
end
theorem JG(w:World)(g:Nat)(v:Value)(t:TypeId)(h:w.heap[g]?=some (.cells #[v] t (0,0))):w.cell? ⟨g,0,none⟩=some v:=by rw[cell_of_row w g 0 _ _ _ h];rfl
theorem frozen_of(w:World)(g j:Nat)(cs:Array Value)(t:TypeId)(h:w.heap[g]?=some (.cells cs t (0,0))):w.frozen? ⟨g,j,none⟩=false:=by simp[frozen?,h]
structure r5(w0:World)(gs go gd B:Nat)(g:Nat)(w:World)(P:List zW)(A:Option Addr)(cap:Nat):Prop where
 bel:Below w0.heap.size w0 w
 hgs:w.heap[gs]?=some (.cells #[.pointer (some ⟨g,0,none⟩)] 145 (0,0))
 hgo:w.heap[go]?=some (.cells #[.slice A P.length cap] 34 (0,0))
 hgd:w.heap[gd]?=some (.cells #[.func (.func 213) #[] #[.pointer (some ⟨gs,0,none⟩),.pointer (some ⟨go,0,none⟩),.pointer (some ⟨gd,0,none⟩)]] 309 (0,0))
 own:Own w B 31 32 A P.length cap ((P.map zW.id).map idC)
 B:B<=w.heap.size
theorem sqdown(w0:World)(M:List Nat)(g bn bb bg:Nat)(N:List zW)(G:List zB)(h:xF w0 M g bn bb bg N G)(hN:N.length<=100000)(gs go gd B:Nat)(h1:w0.heap.size<=gs)(h2:w0.heap.size<=go)(h3:w0.heap.size<=gd)(n1:gs≠go)(n2:gd≠go)(b1:gs<B)(b2:go<B)(b3:gd<B) :
  ∀(k:Nat) (r:zB) (P:List zW) (A:Option Addr) (cap:Nat) (w:World),Deep (vC N) zW.id k r->r5 w0 gs go gd B g w P A cap->P.length+(tY (vC N) zW.id k r).length<=1000000 ->
  Calls prog 213 #[.agg (idC r),.pointer (some ⟨gs,0,none⟩),.pointer (some ⟨go,0,none⟩),.pointer (some ⟨gd,0,none⟩)] w λe w'=>e=.returned (.tuple #[])/\∃A' cap',r5 w0 gs go gd B g w' (P++tY (vC N) zW.id k r) A' cap':=by
 intro k;induction k with
 | zero=>intro r P A cap w hd;exact hd.elim
 | succ k ih =>
  intro r P A cap w hd hD D;obtain⟨BM,f6,f0,hb,c4,c6⟩:=h.behind;obtain⟨⟨As,sn,sc⟩,a9,e5,s⟩:=blook hb c4 c6 r;dsimp only at a9 e5 s;have b8:∀c∈vC N r,Deep (vC N) zW.id k c.id:=hd;have L:tY (vC N) zW.id (k+1) r=(vC N r).flatMap λc=>c :: tY (vC N) zW.id k c.id:=rfl;have c8:=pI N r;obtain⟨K,hK⟩:=eX (vC N r)
  rw[hK]at a9 b8 L c8;rw[L]at D |-;have c7:K.length=sn:=by have:=a9.len;simpa using this
  have e4:sn<=100000:=oM;have U:=dH c7;have f2:=dH b8;clear hd b8 L hK c7 c8;obtain⟨f,hf⟩:∃f:zW->List zW,(λc=>c :: tY (vC N) zW.id k c.id)=f:=⟨_,rfl⟩
  have d0:∀c,f c=c :: tY (vC N) zW.id k c.id:=λc=>(by rw[<-hf]);rw[hf]at D |-;have e2:=dH d0;have c2:=dH D;clear hf d0 D;have Z:Below w.heap.size w (w.alloc (.cells (idC r) 31)):=bA;have b0:zA (w.alloc (.cells (idC r) 31)) w.heap.size 0 32=some (idC r):=by simp[go_sem]
  have y:r5 w0 gs go gd B g (w.alloc (.cells (idC r) 31)) P A cap:=by
   have hB:=hD.B;have hs:=Z.size;exact⟨yK hD.bel Z,(Z.block gs oM).trans hD.hgs,(Z.block go oM).trans hD.hgo,(Z.block gd oM).trans hD.hgd,hD.own.below Z,oM⟩
  go_enter func213,ntmps213
  go_upto_region 1 with fail
  obtain⟨W,hW⟩:=eR (w.alloc (.cells (idC r) 31))
  obtain⟨ga,c9⟩:=eX w.heap.size
  rw[c9]at b0 |-;rw[<-hW]at y b0 |-;clear hW c9 hD Z;have d1:W.cell? ⟨gs,0,none⟩=some (.pointer (some ⟨g,0,none⟩)):=by rw[cell_of_row W gs 0 _ _ _ y.hgs];rfl
  have d3:W.cell? ⟨g,1,none⟩=some (.map (some bb)):=(y.bel.cell (p:=⟨g,1,none⟩) h.ltg).trans h.cell1;have hk:∀x:Subtype (Bel W),(Instr.lookup 100 (.map (some bb)) (.agg (idC r)) false).run prog x.1=.ok (.slice As sn sc) x.1:=λx=>s x.1 ((hb.kept (z9.of_below y.bel) sI).kept (z9.of_below x.2) sI);refine lX W ?_;intro e6 hS;have b1:=zK d1;have b2:=zK d3;have b3:=zS b0;refine lZ ?_;refine zD ?_;intro hS;have d9:r5 w0 gs go gd B g W.drew P A cap:=⟨y.bel.drew,y.hgs,y.hgo,y.hgd,y.own.kept (z9.drew W) sI,y.B⟩
  clear b1 b2 b3 e6 hS hk d1 d3 b0 y s hb c4 c6;obtain⟨W1,d4⟩:=eX W.drew
  rw[d4]at d9 |-;clear d4 hS;(go_wp2_with fail);go_loopw [14] (λiv wr=>∃(i:Nat) (A':Option Addr) (cap':Nat),i<=sn/\iv=.int .i64 i/\r5 w0 gs go gd B g wr (P++(K.take i).flatMap f) A' cap') (λiv _=>sn-(intOf iv).toNat)
  case atStart=>exact⟨0,A,cap,zL,rfl,by simpa using d9⟩
  case round =>
   obtain⟨i,A',cap',hi,rfl,j⟩:=hrel;by_cases R:i<sn
   ·obtain⟨q,o,rfl,b6⟩:=(a9.below j.bel).rd.at_ R;rw[getElem_map,getElem_map]at b6;have O:K[i]'(by rw[U.out];exact R)∈K:=getElem_mem _;have J:K.flatMap f=(K.take i).flatMap f++f (K[i]'(by rw[U.out];exact R))++(K.drop (i+1)).flatMap f:=by
     rw[append_assoc,<-flatMap_cons,<-drop_eq_getElem_cons (show i<K.length by rw[U.out];exact R),<-flatMap_append,take_append_drop]
    have b5:(K.take (i+1)).flatMap f=(K.take i).flatMap f++f (K[i]'(by rw[U.out];exact R)):=by
     rw[take_add_one,getElem?_eq_getElem (by rw[U.out];exact R),Option.toList_some,flatMap_append];simp
    obtain⟨c,hc⟩:=eX (K[i]'(by rw[U.out];exact R))
    rw[hc]at b6 O J b5;have e8:=f2.out c O;have b7:(P++(K.take i).flatMap f).length+1+(tY (vC N) zW.id k c.id).length<=1000000:=by
     have:=c2.out;rw[J,e2.out c]at this;simp only[length_append,length_cons]at this |-;omega
    obtain⟨Q,hQ⟩:=eX (P++(K.take i).flatMap f)
    have d5:P++(K.take (i+1)).flatMap f=Q ++ [c]++tY (vC N) zW.id k c.id:=by rw[b5,e2.out c,<-hQ];simp
    rw[hQ]at j b7;have f3:=dH d5;have f1:=dH b7;have f5:Q.length+1<=1000000:=oM;clear hc J b5 hQ d5 O b7;have e0:=j.B;have t:Below wr.heap.size wr ((wr.alloc (.cells (idC c.id) 31)).alloc (.cells (idC c.id) 31)):=(bA).alloc sI _;have a7:Below wr.heap.size wr (wr.alloc (.cells (idC c.id) 31)):=bA;have c0:(wr.alloc (.cells (idC c.id) 31)).cell? ⟨go,0,none⟩=some (.slice A' Q.length cap'):=(a7.cell (p:=⟨go,0,none⟩) (oM:go<wr.heap.size)).trans (by rw[cell_of_row wr go 0 _ _ _ j.hgo];rfl);have I:=j.own.below t;have F:zA ((wr.alloc (.cells (idC c.id) 31)).alloc (.cells (idC c.id) 31)) (wr.heap.size+1) 0 32=some (idC c.id):=by simp[go_sem]
    have a5:=(t.block go oM).trans j.hgo;have a2:go<((wr.alloc (.cells (idC c.id) 31)).alloc (.cells (idC c.id) 31)).heap.size:=oH t.size;have e1:B<=((wr.alloc (.cells (idC c.id) 31)).alloc (.cells (idC c.id) 31)).heap.size:=oH t.size;have a3:go∉blk A':=λhx=>(oH ((j.own.at_base hx).1));go_upto_region 5 with(at_builtin;refine xN yP rfl I rfl F (yN _) oM oM e1 ?_;intro A2 d w2 m V a0;have E:=(V.block go a2 a3).trans a5;have b9:=JG w2 go _ _ E;have e7:=frozen_of w2 go 0 _ _ E)
    have e9:w0.heap.size<=wr.heap.size:=j.bel.size;have Y:Below w0.heap.size w0 w2:=(yK j.bel t).trans (V.below (B:=w0.heap.size) (oH t.size) (λx hx=>oH ((j.own.at_base hx).1)));have T:=z9.setCell w2 ⟨go,0,none⟩ (.slice A2 (Q.length+1) d);have a6:Below w0.heap.size w0 (w2.setCell ⟨go,0,none⟩ (.slice A2 (Q.length+1) d)):=Y.trans (T.below (B:=w0.heap.size) Y.size (by simpa using h2));have e3:wr.heap.size+2<=w2.heap.size:=by have:=V.size;simpa using this
    have a1:=(T.block gs oM (by simpa using n1)).trans ((V.block gs (oH t.size) (λhx=>oH ((j.own.at_base hx).1))).trans ((t.block gs oM).trans j.hgs));have X:=(T.block gd oM (by simpa using n2)).trans ((V.block gd (oH t.size) (λhx=>oH ((j.own.at_base hx).1))).trans ((t.block gd oM).trans j.hgd));have a4:(w2.setCell ⟨go,0,none⟩ (.slice A2 (Q.length+1) d)).heap[go]?=some (.cells #[.slice A2 (Q.length+1) d] 34 (0,0)):=by rw[zF E];rfl
    have H:=m.kept T (λx hx hm=>by
     have e:x=go:=by simpa using hm
     have:=(m.at_base hx).1;omega)
    have b4:(Q ++ [c]).length=Q.length+1:=sI;have d8:r5 w0 gs go gd B g (w2.setCell ⟨go,0,none⟩ (.slice A2 (Q.length+1) d)) (Q ++ [c]) A2 d :=
     ⟨a6,a1,by rw[b4];exact a4,X,by rw[b4];simpa using H,oH T.size⟩
    have c5:zA (w2.setCell ⟨go,0,none⟩ (.slice A2 (Q.length+1) d)) wr.heap.size 0 32=some (idC c.id):=(T.row oM sO _ _).trans ((V.row sO (λhx=>oH ((j.own.at_base hx).2)) _ _).trans (by simp[go_sem]));have c1:=ih c.id (Q ++ [c]) A2 d _ e8 d8 (by rw[b4];exact f1.out);have d2:=JG _ gd _ _ X;have f7:Hid (B<=wr.heap.size):=e0;clear Y a6 T a1 X a4 H b4 d8 E b9 e7 m V a0 I F a5 a3 a2 e1 t a7 c0 b6 j e0;obtain⟨w5,c3⟩:=eX (w2.setCell ⟨go,0,none⟩ (.slice A2 (Q.length+1) d))
    rw[c3]at c5 c1 d2 |-;clear c3;(go_wp2_with fail);refine c1.mono ?_;rintro e w6 ⟨rfl,A6,a8,d7⟩;have d6:r5 w0 gs go gd B g w6 (P++(K.take (i+1)).flatMap f) A6 a8:=by rw[f3.out];exact d7
    have f4:=dH d6;clear d7 d6 c1 c5 d2;(go_wp2_with fail);go_roundw
    case rel=>exact⟨i+1,A6,a8,oM,by go_num,f4.out⟩
    case measure=>exact sZ
   ·have e:i=sn:=oM;subst e;rw[take_of_length_le (by rw[U.out];exact lR)]at j;(go_wp2_with fail);go_end0;exact⟨rfl,A',cap',j⟩
theorem sqorder(w:World)(M:List Nat)(g bn bb bg:Nat)(N:List zW)(G:List zB)(h:xF w M g bn bb bg N G)(hl:N.length<=100000) :
  Calls prog 160 #[.pointer (some ⟨g,0,none⟩)] w λe w'=>∃A cap,e=.returned (.slice A (dQ N).length cap)/\Own w' w.heap.size 31 32 A (dQ N).length cap (((dQ N).map zW.id).map idC)/\Below w.heap.size w w':=by
 have hf:eH N:=⟨h.one,λa ha=>(iD (h.ok a ha)).1⟩
 have m:Below w.heap.size w (w.alloc (.cells #[.pointer (some ⟨g,0,none⟩)] 145)):=bA;have h0:=h.below m;have s:=fun (a:Addr) (c:Array Value) (w:World)=>run_store prog w a (.func (.func 213) #[] c) .plain rfl;have r:Below w.heap.size w (((w.alloc (.cells #[.pointer (some ⟨g,0,none⟩)] 145)).alloc (.cells #[.slice none 0 0] 34)).alloc (.cells #[.func (.func 213) #[] #[.pointer (some ⟨w.heap.size,0,none⟩),.pointer (some ⟨w.heap.size+1,0,none⟩),.pointer (some ⟨w.heap.size+1+1,0,none⟩)]] 309)):=((bA).alloc sI _).alloc sO _;have hD:r5 w w.heap.size (w.heap.size+1) (w.heap.size+1+1) (w.heap.size+3) g (((w.alloc (.cells #[.pointer (some ⟨g,0,none⟩)] 145)).alloc (.cells #[.slice none 0 0] 34)).alloc (.cells #[.func (.func 213) #[] #[.pointer (some ⟨w.heap.size,0,none⟩),.pointer (some ⟨w.heap.size+1,0,none⟩),.pointer (some ⟨w.heap.size+1+1,0,none⟩)]] 309)) [] none 0:=by
  refine⟨r,?_,?_,?_,Own.nil _ _ _ _,sI⟩
  ·exact((z9.alloc _ _).block _ sO sI).trans (((z9.alloc _ _).block _ sI sI).trans (heap_alloc_new w _))
  ·have e:=heap_alloc_new (w.alloc (.cells #[.pointer (some ⟨g,0,none⟩)] 145 (0,0))) (.cells #[.slice none 0 0] 34 (0,0));have e1:(w.alloc (.cells #[.pointer (some ⟨g,0,none⟩)] 145 (0,0))).heap.size=w.heap.size+1:=sI;rw[e1]at e;exact((z9.alloc _ _).block _ sI sI).trans e
  ·have e:=heap_alloc_new ((w.alloc (.cells #[.pointer (some ⟨g,0,none⟩)] 145 (0,0))).alloc (.cells #[.slice none 0 0] 34 (0,0))) (.cells #[.func (.func 213) #[] #[.pointer (some ⟨w.heap.size,0,none⟩),.pointer (some ⟨w.heap.size+1,0,none⟩),.pointer (some ⟨w.heap.size+1+1,0,none⟩)]] 309 (0,0));have e1:((w.alloc (.cells #[.pointer (some ⟨g,0,none⟩)] 145 (0,0))).alloc (.cells #[.slice none 0 0] 34 (0,0))).heap.size=w.heap.size+1+1:=sI;rw[e1]at e;exact e
 have t:=l9 hf;have cd:=sqdown w M g bn bb bg N G h hl w.heap.size (w.heap.size+1) (w.heap.size+1+1) (w.heap.size+3) lR oM oM oM oM oM oM oM (N.length+1) id0 [] none 0 _ hf.deep hD (by show 0+(dQ N).length<=_;omega);have e0:tY (vC N) zW.id (N.length+1) id0=dQ N:=rfl;rw[e0]at cd;simp only[nil_append]at cd;obtain⟨P,hP⟩:=eX (dQ N)
 rw[hP]at cd |-;clear hP t hf hD r e0;go_enter func160,ntmps160
 (go_wp2_with fail);refine(nZ _ g bn h0.cell0).mono ?_;rintro e w1 ⟨rfl,rfl⟩;clear h0 m;(go_wp2_with fail);refine cd.mono ?_;rintro e w2 ⟨rfl,A2,k,d⟩;have y:=JG _ _ _ _ d.hgo;have f:=d.own.mono (B':=w.heap.size) oM;have j:=d.bel;clear cd d s;(go_wp2_with fail);go_ret;exact⟨A2,k,rfl,f,j⟩
def iJ(N:List zW)(G:List zB):List jI:=(dN N G).map λv=>⟨⟨#[]⟩,v⟩
theorem listS_len{N:List zW}{G:List zB}(hf:eH N):(iJ N G).length<=N.length:=by
 unfold iJ dN;rw[length_map,length_map];exact Nat.le_trans (length_filter_le _ _) (l9 hf)
@[go_sem] theorem buildPair_v(v:ByteArray)(w:World):(bdS 147 #[(1,.string v)]).run prog w=.ok (.agg (yD ⟨⟨#[]⟩,v⟩)) w:=kR
def pS(T:List zW)(G:List zB):List jI:=((T.filter λn=>decide (n.id∉G)).map zW.val).map λv=>⟨⟨#[]⟩,v⟩
theorem pS_snoc(T:List zW)(G:List zB)(c:zW):pS (T ++ [c]) G=if c.id∈G then pS T G else pS T G ++ [⟨⟨#[]⟩,c.val⟩]:=by
 unfold pS;rw[filter_append];by_cases e:c.id∈G <;> simp[e]
theorem pS_len(T:List zW)(G:List zB):(pS T G).length<=T.length:=by
 unfold pS;rw[length_map,length_map];exact length_filter_le _ _
theorem sqlist(w:World)(M:List Nat)(g bn bb bg:Nat)(N:List zW)(G:List zB)(h:xF w M g bn bb bg N G)(hl:N.length<=100000) :
  Calls prog 96 #[.pointer (some ⟨g,0,none⟩)] w λe w'=>∃A cap,e=.returned (.slice A (iJ N G).length cap)/\Own w' w.heap.size 147 2 A (iJ N G).length cap ((iJ N G).map yD)/\Below w.heap.size w w':=by
 have hf:eH N:=⟨h.one,λa ha=>(iD (h.ok a ha)).1⟩
 have c1:=sqorder w M g bn bb bg N G h hl;have hN:=(mN hf).2;have c2:=l9 hf;have a7:iJ N G=pS (dQ N) G:=rfl;rw[a7];obtain⟨L,hL⟩:=eX (dQ N)
 rw[hL]at c1 hN c2 |-;clear hL a7 hf;go_enter func96,ntmps96
 (go_wp2_with fail);refine c1.mono ?_;rintro e w1 ⟨RA,rc,rfl,r,hb⟩;have b9:=r.slr;have O:=r.addr;clear r c1;(go_wp2_with fail);go_loopw [3,9] (λout i wr=>∃(k:Nat) (A:Option Addr) (cap:Nat),k<=L.length/\i=.int .i64 k/\out=.slice A (pS (L.take k) G).length cap/\Own wr w1.heap.size 147 2 A (pS (L.take k) G).length cap ((pS (L.take k) G).map yD)/\Below w1.heap.size w1 wr) (λ_ i _=>L.length-(intOf i).toNat)
 case atStart=>exact⟨0,none,0,zL,rfl,rfl,Own.nil _ _ _ _,Below.refl _ _⟩
 case round =>
  obtain⟨k,A,cap,hk,rfl,rfl,f,B⟩:=hrel;by_cases t:k<L.length
  ·obtain⟨q,o,rfl,hr⟩:=(b9.below B).at_ t;obtain rfl:o=0:=by
    rcases O with e | ⟨g',e⟩
    ·cases e
    ·injection e with e;injection e
   rw[Nat.zero_add,getElem_map,getElem_map]at hr;have R:pS (L.take (k+1)) G=if(L[k]'t).id∈G then pS (L.take k) G else pS (L.take k) G ++ [⟨⟨#[]⟩,(L[k]'t).val⟩]:=by
    rw[take_add_one,getElem?_eq_getElem t,Option.toList_some,pS_snoc]
   have b3:=hN _ (getElem_mem t);have c0:(pS (L.take k) G).length+1<=1000000:=by have:=pS_len (L.take k) G;simp at this;omega
   obtain⟨c,hc⟩:=eX (L[k]'t)
   rw[hc]at hr R b3;obtain⟨T0,b6⟩:=eX (pS (L.take k) G)
   rw[b6]at R c0 f |-;have b7:=dH R;clear hc b6 R;have X:=B.size;have T:Below wr.heap.size wr (wr.alloc (.cells (idC c.id) 31)):=bA;have b5:Below w.heap.size w (wr.alloc (.cells (idC c.id) 31)):=(yK hb B).trans (T.mono (oH hb.size));have j:=f.below T;have s:Below w1.heap.size w1 (wr.alloc (.cells (idC c.id) 31)):=B.trans (T.mono X);have H:zA (wr.alloc (.cells (idC c.id) 31)) wr.heap.size 0 32=some (idC c.id):=by simp[go_sem]
   have D:=h.below b5;go_upto_region 5 with fail
   obtain⟨W,hW⟩:=eX (wr.alloc (.cells (idC c.id) 31))
   obtain⟨gx,b0⟩:=eX wr.heap.size
   have a2:gx∉blk A:=λhx=>(oH ((f.at_base hx).2));rw[b0]at H |-;rw[hW]at j s H D |-;have b4:=D.cell2;have a8:∀y:Subtype (Bel W),(Instr.lookup 66 (.map (some bg)) (.agg (idC c.id)) false).run prog y.1=.ok (.bool (decide (c.id∈G))) y.1:=λy=>vq (D.gone.below y.2);obtain⟨rr,U⟩:=eX (decide (c.id∈G))
   rw[U]at a8;have b8:=dH U;clear hW b0 U hr f B T b5;refine lX W ?_;intro a0 hS;have b1:=zK b4;have b2:=zS H;refine lZ ?_;refine zD ?_;intro hS;have Z:=D.below (xR W);have d:=j.kept (z9.drew W) sI;have m:Below w1.heap.size w1 W.drew:=s.drew;have F:zA W.drew gx 0 32=some (idC c.id):=H;clear b1 b2 a0 hS a8 b4 H D j s;obtain⟨V,hV⟩:=eX W.drew
   rw[hV]at Z d m F |-;clear hV;cases rr with
   | true =>
    have e5:=b7.out;rw[if_pos (of_decide_eq_true b8.out)]at e5;have E5:=dH e5;clear e5;(go_wp2_with fail);go_roundw
    case rel=>exact⟨k+1,A,cap,oM,by go_num,by rw[E5.out],by rw[E5.out];exact d,m⟩
    case measure=>exact sZ
   | false =>
    have e5:=b7.out;rw[if_neg (of_decide_eq_false b8.out)]at e5;have E5:=dH e5;clear e5;have c5:=Z.cell0;obtain⟨es,c9,hn⟩:=Z.nodes;have c4:g∉blk A:=λhx=>(by have:=(d.at_base hx).1;have:=h.ltg;have:=hb.size;omega);have a3:bn∉blk A:=λhx=>(by have:=(d.at_base hx).1;have:=h.lt.1;have:=hb.size;omega);have c3:∀y:Subtype (Kp (blk A) V),(Instr.lookup 236 (.map (some bn)) (.agg (idC c.id)) false).run prog y.1=.ok (.agg (zP ⟨c.h,c.ref,c.val⟩)) y.1:=λy=>nlook (hn.kept y.2 a3) b3 false;go_upto_region 6 with fail
    refine kX (blk A) V ?_;intro a0 hS;have b1:=zG c5 c4;have b2:=zY F (S:=blk A) a2;refine lQ ?_;intro K hK;refine zI (z9.trans (z9.trans (z9.refl (blk A) V) (z9.drew _) sI) (z9.alloc _ _) sI) (λc8=>?_);refine hK _ _ ?_;clear hK K;have a1:z9 [] V (V.drew.alloc (.cells (yD ⟨⟨#[]⟩,c.val⟩) 147)):=z9.trans (z9.drew V) (z9.alloc _ _) sI;have I:=d.kept a1 sI;have E:zA (V.drew.alloc (.cells (yD ⟨⟨#[]⟩,c.val⟩) 147)) V.heap.size 0 2=some (yD ⟨⟨#[]⟩,c.val⟩):=by simp[go_sem]
    have Y:=m.size;refine mE bB rfl I rfl E (gG _) oM oM sO ?_;intro A3 a4 w3 J a9 a6;refine zI (z9.trans (a1.mono (S':=blk A) sI) a9 iL) (λc7=>?_);refine lZ ?_;refine zD ?_;intro hS;have c6:Below w1.heap.size w1 w3:=m.trans ((z9.trans (a1.mono (S':=blk A) sI) a9 iL).below Y (λx hx=>(d.at_base hx).1));clear a0 hS c8 c7 b1 b2 c3;(go_wp2_with fail);go_roundw
    case rel=>exact⟨k+1,A3,a4,oM,by go_num,by rw[E5.out];simp,by rw[E5.out];simpa using J,c6⟩
    case measure=>exact sZ
  ·have e:L.take k=L:=take_of_length_le oM;rw[e]at f |-;have a5:=dH (f.mono (B':=w.heap.size) hb.size);have Hb:=dH (yK hb B);clear f e;(go_wp2_with fail);go_ret;exact⟨A,cap,rfl,a5.out,Hb.out⟩
inductive VSt where
 | t (n:Int)
 | b (L G:List xC)
 | l (L:List jJ)
 | m (X:List qO) (O:List zB)
 | s (N:List zW) (G:List zB)
def kQ(w:World)(O M:List Nat)(v:Value):VSt->Prop
 | .t n=>∃g,v=.iface 140 (.pointer (some ⟨g,0,none⟩))/\xG w g n/\O = [g]
 | .b L G=>∃g bl bg,v=.iface 141 (.pointer (some ⟨g,0,none⟩))/\qS w g bl bg L G/\O = [g,bl,bg]
 | .l L=>∃g b,v=.iface 143 (.pointer (some ⟨g,0,none⟩))/\xD w g b L/\O = [g,b]
 | .m X Ov=>∃g bl bo,v=.iface 144 (.pointer (some ⟨g,0,none⟩))/\xS w g bl bo X Ov/\O = [g,bl,bo]
 | .s N G=>∃g bn bb bg,v=.iface 145 (.pointer (some ⟨g,0,none⟩))/\xF w M g bn bb bg N G/\O = [g,bn,bb,bg]
def VSt.kind:VSt->Int
 | .t _=>1
 | .b ..=>2
 | .l _=>3
 | .m ..=>4
 | .s ..=>5
def VSt.len:VSt->Nat
 | .t _=>0
 | .b L _=>L.length
 | .l L=>L.length
 | .m X _=>X.length
 | .s N _=>N.length
def doS(m:j9)(o:OpV):VSt->VSt
 | .t n=>.t (wrap64 (n+o.n))
 | .b L G=>if o.k=2 then .b (JP L G ⟨m.id,o.val⟩) G else .b (aL L o.val o.refs) (XY G o.val o.refs)
 | .l L=>.l (V4 L o.key ⟨o.val,o.n,m.id⟩)
 | .m X Ov=>.m (setX X Ov ⟨m.id,o.key,o.val⟩ o.refs) (aM Ov o.refs)
 | .s N G=>if o.k=6 then .s (VI N ⟨m.id,m.h,o.ref,o.val⟩) G else .s N (jO yE G o.ref)
theorem doS_b2(m:j9)(o:OpV)(L G:List xC)(h:o.k=2):doS m o (.b L G)=.b (JP L G ⟨m.id,o.val⟩) G:=if_pos h
theorem doS_b3(m:j9)(o:OpV)(L G:List xC)(h:¬o.k=2):doS m o (.b L G)=.b (aL L o.val o.refs) (XY G o.val o.refs):=if_neg h
theorem doS_s6(m:j9)(o:OpV)(N:List zW)(G:List zB)(h:o.k=6):doS m o (.s N G)=.s (VI N ⟨m.id,m.h,o.ref,o.val⟩) G:=if_pos h
theorem doS_s7(m:j9)(o:OpV)(N:List zW)(G:List zB)(h:¬o.k=6):doS m o (.s N G)=.s N (jO yE G o.ref):=if_neg h
theorem doS_kind(m:j9)(o:OpV)(s:VSt):(doS m o s).kind=s.kind:=by
 cases s <;> simp only[doS] <;> (try split) <;> rfl
theorem qx(v:ByteArray):∀(T:List zB) (L:List xC),(aL L v T).length<=L.length
 | [],L=>lR
 | t :: T,L=>Nat.le_trans (qx v T _) (length_filter_le _ _)
theorem doS_len(m:j9)(o:OpV)(s:VSt):(doS m o s).len<=s.len+1:=by
 cases s with
 | t n=>exact zL
 | b L G =>
  by_cases h:o.k=2
  ·rw[doS_b2 m o L G h];show(JP L G ⟨m.id,o.val⟩).length<=L.length+1;unfold JP;have:=tQ (c:=vL) L ⟨m.id,o.val⟩
   repeat' split
   all_goals omega
  ·rw[doS_b3 m o L G h];show(aL L o.val o.refs).length<=L.length+1;have:=qx o.val o.refs L;omega
 | l L=>exact qm _ _ _
 | m X Ov =>
  show(setX X Ov ⟨m.id,o.key,o.val⟩ o.refs).length<=X.length+1;unfold setX m7;exact Nat.le_trans (length_filter_le _ _) (tQ (c:=jZ) X _)
 | s N G =>
  by_cases h:o.k=6
  ·rw[doS_s6 m o N G h];show(VI N ⟨m.id,m.h,o.ref,o.val⟩).length<=N.length+1;unfold VI;repeat' split
   all_goals simp
  ·rw[doS_s7 m o N G h];exact Nat.le_succ N.length
theorem kQ.kept{w w':World}{O M S:List Nat}{v:Value}{s:VSt}(h:kQ w O M v s)(k:z9 S w w')(hO:∀x∈O,x∉S)(hS:∀x∈S,x∈M\/w.heap.size<=x):kQ w' O M v s:=by
 cases s with
 | t n=>obtain⟨g,e,h1,rfl⟩:=h;exact⟨g,e,h1.kept k (hO g sI),rfl⟩
 | b L G=>obtain⟨g,bl,bg,e,h1,rfl⟩:=h;exact⟨g,bl,bg,e,h1.kept k (hO g sI) (hO bl sI) (hO bg sI),rfl⟩
 | l L=>obtain⟨g,b,e,h1,rfl⟩:=h;exact⟨g,b,e,h1.kept k (hO g sI) (hO b sI),rfl⟩
 | m X Ov=>obtain⟨g,bl,bo,e,h1,rfl⟩:=h;exact⟨g,bl,bo,e,h1.kept k (hO g sI) (hO bl sI) (hO bo sI),rfl⟩
 | s N G=>obtain⟨g,bn,bb,bg,e,h1,rfl⟩:=h;exact⟨g,bn,bb,bg,e,h1.kept k hS (hO g sI) (hO bn sI) (hO bb sI) (hO bg sI),rfl⟩
theorem kQ.below{w':World}{M:List Nat}{s:VSt}(h:kQ w O M v s)(k:Below w.heap.size w w'):kQ w' O M v s:=h.kept (z9.of_below k) sI sI
structure OpFit(s:VSt)(o:OpV):Prop where
 kind:nA o.k=s.kind
 key:o.key.size<=16
 val:o.val.size<=16
 refs:o.refs.length<=8
 lo:-2147483648<=o.n
 hi:o.n<2147483648
theorem vdoes(m:j9)(o:OpV)(A:Option Addr)(c:Nat)(w:World)(g:Nat)(t:ByteArray)(b:Nat)(I:List zB)(v:Value)(O M:List Nat)(s:VSt)(h:yU w g t b I v)(hs:kQ w O M v s)(hM:∀x∈M,x<w.heap.size)(ho:OpFit s o)(hA:zX w A o.refs.length o.refs)(hl:s.len<=1000) :
  Calls prog 175 #[.pointer (some ⟨g,0,none⟩),.agg (y8 m),.agg (opC o A c)] w λe w'=>e=.returned (.tuple #[])/\kQ w' O M v (doS m o s)/\z9 O w w':=by
 cases s with
 | t n =>
  obtain⟨gt,rfl,h1,rfl⟩:=hs;refine(vdoes_t m o A c w g gt t b I n h h1 ho.lo ho.hi).mono ?_;rintro e w' ⟨rfl,h2,hk⟩;exact⟨rfl,⟨gt,rfl,h2,rfl⟩,hk⟩
 | b L G =>
  obtain⟨gt,bl,bg,rfl,h1,rfl⟩:=hs;by_cases h2:o.k=2
  ·refine(vdoes_b2 m o A c w g gt bl bg t b I L G h h1 h2 ho.val).mono ?_;rintro e w' ⟨rfl,h3,hk⟩;refine⟨rfl,?_,hk.mono sI⟩;rw[doS_b2 m o L G h2];exact⟨gt,bl,bg,rfl,h3,rfl⟩
  ·refine(vdoes_b3 m o A c w g gt bl bg t b I L G h h1 (by simpa using h2) ho.val hA ho.refs).mono ?_;rintro e w' ⟨rfl,h3,hk⟩;refine⟨rfl,?_,hk.mono (by intro x hx;simp at hx |-;omega)⟩;rw[doS_b3 m o L G h2];exact⟨gt,bl,bg,rfl,h3,rfl⟩
 | l L =>
  obtain⟨gt,bl,rfl,h1,rfl⟩:=hs;refine(vdoes_l m o A c w g gt bl t b I L h h1 ho.key ho.val).mono ?_;rintro e w' ⟨rfl,h3,hk⟩;exact⟨rfl,⟨gt,bl,rfl,h3,rfl⟩,hk.mono sI⟩
 | m X Ov =>
  obtain⟨gt,bl,bo,rfl,h1,rfl⟩:=hs;refine(vdoes_m m o A c w g gt bl bo t b I X Ov h h1 ho.key ho.val hA ho.refs (by have:X.length<=1000:=hl;omega)).mono ?_;rintro e w' ⟨rfl,h3,hk⟩;exact⟨rfl,⟨gt,bl,bo,rfl,h3,rfl⟩,hk.mono (by intro x hx;simp at hx |-;omega)⟩
 | s N G =>
  obtain⟨gt,bn,bb,bg,rfl,h1,rfl⟩:=hs;by_cases h2:o.k=6
  ·refine(vdoes_s6 m o A c w g gt bn bb bg t b I M N G h h1 hM h2 ho.val (by have:N.length<=1000:=hl;omega)).mono ?_;rintro e w' ⟨rfl,h3,hk⟩;refine⟨rfl,?_,hk.mono (by intro x hx;simp at hx |-;omega)⟩;rw[doS_s6 m o N G h2];exact⟨gt,bn,bb,bg,rfl,h3,rfl⟩
  ·refine(vdoes_s7 m o A c w g gt bn bb bg t b I M N G h h1 (by simpa using h2)).mono ?_;rintro e w' ⟨rfl,h3,hk⟩;refine⟨rfl,?_,hk.mono (by intro x hx;simp at hx |-;omega)⟩;rw[doS_s7 m o N G h2];exact⟨gt,bn,bb,bg,rfl,h3,rfl⟩
def VSt.num:VSt->Int
 | .t n=>n
 | _=>0
def VSt.pairs:VSt->List jI
 | .t _=>[]
 | .b L _=>(nL L).map pairV
 | .l L=>L.map zu
 | .m X _=>pG X
 | .s N G=>iJ N G
theorem vvalue(w:World)(g:Nat)(t:ByteArray)(b:Nat)(I:List zB)(v:Value)(O M:List Nat)(s:VSt)(h:yU w g t b I v)(hs:kQ w O M v s)(ht:t.size<=9223372036854775807)(hk:yH t=s.kind)(hl:s.len<=1000) :
  Calls prog 42 #[.pointer (some ⟨g,0,none⟩)] w λe w'=>∃A cap,e=.returned (.agg (zJ ⟨s.kind,s.num,.slice A s.pairs.length cap⟩))/\Own w' w.heap.size 147 2 A s.pairs.length cap (s.pairs.map yD)/\Below w.heap.size w w':=by
 cases s with
 | t n =>
  obtain⟨gt,rfl,h1,rfl⟩:=hs;refine(vvalue_t w g gt t b I n h h1 ht hk).mono ?_;rintro e w' ⟨rfl,hb⟩;exact⟨none,0,rfl,Own.nil _ _ _ _,hb⟩
 | b L G =>
  obtain⟨gt,bl,bg,rfl,h1,rfl⟩:=hs;refine(vvalue_b w g gt t b I h ht hk (nL L).length ((nL L).map λs=>yD (pairV s)) (λw' hb=>blist w' gt bl bg L G (h1.below hb) (by have:L.length<=1000:=hl;omega))).mono ?_;rintro e w' ⟨A,cap,rfl,ho,hb⟩;have e1:(VSt.b L G).pairs.length=(nL L).length:=by simp[VSt.pairs]
  refine⟨A,cap,by rw[e1];rfl,?_,hb⟩;rw[e1];simpa[VSt.pairs,map_map,Function.comp_def]using ho
 | l L =>
  obtain⟨gt,bl,rfl,h1,rfl⟩:=hs;refine(vvalue_l w g gt t b I h ht hk L.length (KM L) (λw' hb=>llist w' gt bl L (h1.below hb) (by have:L.length<=1000:=hl;omega))).mono ?_;rintro e w' ⟨A,cap,rfl,ho,hb⟩;have e1:(VSt.l L).pairs.length=L.length:=by simp[VSt.pairs]
  refine⟨A,cap,by rw[e1];rfl,?_,hb⟩;rw[e1];simpa[VSt.pairs,KM,map_map,Function.comp_def]using ho
 | m X Ov =>
  obtain⟨gt,bl,bo,rfl,h1,rfl⟩:=hs;exact vvalue_m w g gt t b I h ht hk (pG X).length ((pG X).map yD) (λw' hb=>mlist w' gt bl bo X Ov (h1.below hb) (by have:X.length<=1000:=hl;omega))
 | s N G =>
  obtain⟨gt,bn,bb,bg,rfl,h1,rfl⟩:=hs;exact vvalue_s w g gt t b I h ht hk (iJ N G).length ((iJ N G).map yD) (λw' hb=>sqlist w' M gt bn bb bg N G (h1.below hb) (by have:N.length<=1000:=hl;omega))

structure VAt(w:World)(g:Nat)(t:ByteArray)(b:Nat)(O:List Nat)(I:List zB)(v:Value)(s:VSt):Prop where
 view:yU w g t b I v
 st:kQ w O (b :: O) v s
 gM:g∉b :: O
 bO:b∉O
 lt:∀x∈b :: O,x<w.heap.size
 b0:1∉b :: O
def VSt.new(k:Int):VSt:=if k=1 then .t 0 else if k=2 then .b [] []else if k=3 then .l []else if k=4 then .m [] []else .s [] []
theorem fG(t:ByteArray):yH t=0\/yH t=1\/yH t=2\/yH t=3\/yH t=4\/yH t=5:=by
 unfold yH Y5
 repeat' split
 all_goals simp
theorem nS{w2 w3 w':World}{b:Nat}{t:ByteArray}{s:VSt}(hv:yU w' g t b [] v)(hs:kQ w3 O O v s)(hO:∀x∈O,w2.heap.size<=x/\x<w3.heap.size)(hb:Below w3.heap.size w3 w')(hg:g=w3.heap.size)(f:b<w2.heap.size)(d:1<b)(hm:kQ w3 O O v s->kQ w3 O (b :: O) v s):VAt w' g t b O [] v s:=by
 have h3:=(hm hs).below hb;refine⟨hv,h3,?_,?_,?_,?_⟩
 ·intro hx;rcases mem_cons.1 hx with h | h
  ·exact hv.ne h
  ·have:=(hO _ h).2;omega
 ·intro h;have:=(hO _ h).1;omega
 ·intro x hx;rcases mem_cons.1 hx with h | h
  ·rw[h];exact hv.ids.lt
  ·have:=(hO _ h).2;have:=hb.size;omega
 ·intro hx;rcases mem_cons.1 hx with h | h
  ·omega
  ·have:=(hO _ h).1;omega
theorem vnew_any(t:ByteArray)(w:World)(ht:t.size<=9223372036854775807)(A:yH t≠0)(hw:1<w.heap.size) :
  Calls prog 38 #[.string t] w λe w'=>∃g b O v,e=.returned (.tuple #[.pointer (some ⟨g,0,none⟩),.int .i64 0])/\VAt w' g t b O [] v (VSt.new (yH t))/\(∀x∈b :: O,w.heap.size<=x)/\w.heap.size<=g/\Below w.heap.size w w':=by
 rcases fG t with h | h | h | h | h | h
 ·exact absurd h A
 ·have hf:∀w,Calls prog 85 #[.int .i64 1] w λe w'=>∃gs,e=.returned (.iface 140 (.pointer (some ⟨gs,0,none⟩)))/\(xG w' gs 0/\w.heap.size<=gs)/\Below w.heap.size w w':=λw=>(xf w).mono λe w' ⟨h1,h2,h3⟩=>⟨_,h1,⟨h2,lR⟩,h3⟩;refine(JY t w ht 1 h oM _ _ hf).mono ?_;rintro e w' ⟨g,b,gs,w2,w3,rfl,hv,⟨hz,y⟩,d,f,hg,r,j,hB⟩;refine⟨g,b,[gs],.iface 140 (.pointer (some ⟨gs,0,none⟩)),rfl,?_,?_,?_,hB⟩
  ·rw[h];refine nS (s:=.t 0) (w2:=w2) hv ⟨gs,rfl,hz,rfl⟩ (λx hx=>?_) f hg j oM (λh=>?_)
   ·obtain rfl:x=gs:=by simpa using hx
    exact⟨y,hz.lt⟩
   ·obtain⟨g',e,h1,h2⟩:=h;exact⟨g',e,h1,h2⟩
  ·intro x hx;simp at hx;omega
  ·have:=d.size;omega
 ·refine(JY t w ht 2 h oM _ _ xl).mono ?_;rintro e w' ⟨g,b,gs,w2,w3,rfl,hv,⟨bl,bg,hz,z1,z2,z3⟩,d,f,hg,r,j,hB⟩;refine⟨g,b,[gs,bl,bg],.iface 141 (.pointer (some ⟨gs,0,none⟩)),rfl,?_,?_,?_,hB⟩
  ·rw[h];refine nS (s:=.b [] []) (w2:=w2) hv ⟨gs,bl,bg,rfl,hz,rfl⟩ (λx hx=>?_) f hg j oM (λh=>?_)
   ·have h1:=hz.lt.1;have h2:=hz.live.lt;have h3:=hz.gone.lt;simp at hx;rcases hx with rfl | rfl | rfl <;> omega
   ·exact h
  ·intro x hx;simp at hx;omega
  ·have:=d.size;omega
 ·refine(JY t w ht 3 h oM _ _ xj).mono ?_;rintro e w' ⟨g,b,gs,w2,w3,rfl,hv,⟨bl,hz,z1,z2⟩,d,f,hg,r,j,hB⟩;refine⟨g,b,[gs,bl],.iface 143 (.pointer (some ⟨gs,0,none⟩)),rfl,?_,?_,?_,hB⟩
  ·rw[h];refine nS (s:=.l []) (w2:=w2) hv ⟨gs,bl,rfl,hz,rfl⟩ (λx hx=>?_) f hg j oM (λh=>?_)
   ·have h1:=hz.lt;simp at hx;rcases hx with rfl | rfl <;> omega
   ·exact h
  ·intro x hx;simp at hx;omega
  ·have:=d.size;omega
 ·refine(JY t w ht 4 h oM _ _ xh).mono ?_;rintro e w' ⟨g,b,gs,w2,w3,rfl,hv,⟨bl,bg,hz,z1,z2,z3⟩,d,f,hg,r,j,hB⟩;refine⟨g,b,[gs,bl,bg],.iface 144 (.pointer (some ⟨gs,0,none⟩)),rfl,?_,?_,?_,hB⟩
  ·rw[h];refine nS (s:=.m [] []) (w2:=w2) hv ⟨gs,bl,bg,rfl,hz,rfl⟩ (λx hx=>?_) f hg j oM (λh=>?_)
   ·have h1:=hz.lt.1;have h2:=hz.live.lt;have h3:=hz.over.lt;simp at hx;rcases hx with rfl | rfl | rfl <;> omega
   ·exact h
  ·intro x hx;simp at hx;omega
  ·have:=d.size;omega
 ·refine(JY t w ht 5 h oM _ _ xg).mono ?_;rintro e w' ⟨g,b,gs,w2,w3,rfl,hv,⟨bn,bb,bg,hz,z1,z2,z3,z4⟩,d,f,hg,r,j,hB⟩;have k:=hz [bn,bb,bg] sI sI sI;have hm:xF w3 (b :: [gs,bn,bb,bg]) gs bn bb bg [] []:=hz _ sI sI sI;refine⟨g,b,[gs,bn,bb,bg],.iface 145 (.pointer (some ⟨gs,0,none⟩)),rfl,?_,?_,?_,hB⟩
  ·rw[h];refine nS (s:=.s [] []) (w2:=w2) hv ⟨gs,bn,bb,bg,rfl,hz _ sI sI sI,rfl⟩ (λx hx=>?_) f hg j oM (λ_=>⟨gs,bn,bb,bg,rfl,hm,rfl⟩);have h1:=k.ltg;obtain⟨_,_,hn⟩:=k.nodes;obtain⟨_,_,_,B,_⟩:=k.behind;have h4:=k.gone.lt;have h2:=hn.lt;have h3:=B.lt;simp at hx;rcases hx with rfl | rfl | rfl | rfl <;> omega
  ·intro x hx;simp at hx;omega
  ·have:=d.size;omega
theorem opO_lo(l:List UInt8)(h:opE l=0):-2147483648<=(opO l).n:=by
 have hn:=opO_ok l h;have hk:1<=xB 1 l 0/\xB 1 l 0<=7:=by
  unfold opE at h;split at h
  ·contradiction
  split at h
  ·cases h
  ·omega
 have h2:=jq (xB 1 l 0) (zN 1 l 0) 0 hk.1 hk.2;have e:(qK (xB 1 l 0) (zN 1 l 0) 0).o=opO l:=rfl;rw[e,decide_eq_true hn.2.2.2.2.2.2.2]at h2;unfold jr at h2;simp only[Bool.and_eq_true,decide_eq_true_eq]at h2;exact h2.2.2
def mA(t:ByteArray)(m:j9)(s:VSt):VSt:=if Z7 t m then doS m (opO m.body.data.toList) s else s
theorem foldS_kind(t:ByteArray)(m:j9)(s:VSt):(mA t m s).kind=s.kind:=by
 unfold mA;split
 ·exact doS_kind _ _ _
 ·rfl
theorem foldS_len(t:ByteArray)(m:j9)(s:VSt):(mA t m s).len<=s.len+1:=by
 unfold mA;split
 ·exact doS_len _ _ _
 ·omega
theorem getL_cons(a:jJ)(l:List jJ)(k:ByteArray):pN (a :: l) k=if a.1=k then some a.2 else pN l k:=by
 unfold pN;rw[find?_cons];by_cases h:a.1=k <;> simp[h]


structure Row where
 key:ByteArray
 val:ByteArray
 n:Int
 id:zB
def vM(x:Row):Array Value:=#[.string x.key] ++ #[.string x.val] ++ #[.int .i64 x.n]++idC x.id
@[simp] theorem rowC_size(x:Row):(vM x).size=35:=by simp[vM]
@[go_sem] theorem rowC_g1(x:Row):(vM x)[1]?=some (.string x.val):=by first | (simp[vM,Array.getElem?_append];done) | (rw[show vM x=(#[.string x.key]) ++ #[.string x.val]++(#[.int .i64 x.n]++idC x.id)from by apply Array.ext';simp[vM]];exact xM _ _ _ _ sI)
@[go_sem] theorem rowC_gg1(x:Row)(h:1<(vM x).size):(vM x)[1]'h=.string x.val:=Option.some.inj ((Array.getElem?_eq_getElem h).symm.trans (rowC_g1 x))
@[go_sem] theorem rowC_g2(x:Row):(vM x)[2]?=some (.int .i64 x.n):=by first | (simp[vM,Array.getElem?_append];done) | (rw[show vM x=(#[.string x.key] ++ #[.string x.val]) ++ #[.int .i64 x.n]++(idC x.id)from by apply Array.ext';simp[vM]];exact xM _ _ _ _ sI)
@[go_sem] theorem rowC_gg2(x:Row)(h:2<(vM x).size):(vM x)[2]'h=.int .i64 x.n:=Option.some.inj ((Array.getElem?_eq_getElem h).symm.trans (rowC_g2 x))
def qr:Row:=⟨⟨#[]⟩,⟨#[]⟩,0,id0⟩
theorem Row_ext{x y:Row}(h:x.key=y.key/\x.val=y.val/\x.n=y.n/\x.id=y.id):x=y:=by cases x;cases y;simp_all
instance:DecidableEq Row:=λx y=>if h:x.key=y.key/\x.val=y.val/\x.n=y.n/\x.id=y.id then isTrue (Row_ext h)else isFalse (λe=>h (by subst e;simp))
theorem KX{q o c:Nat}{d:zB}(h:zA w q o 32=some (idC d)):(convert 128 9 (.slice (some ⟨q,o,none⟩) 32 c)).run prog w=.ok (.string ⟨d.l.toArray⟩) w:=by
 have:=run_convert_bytes_back (P:=prog) w 128 9 5 ⟨q,o,none⟩ c d.l underlying128 underlying5 underlying9 (λj hj=>by
  have f:(⟨q,o,none⟩:Addr).add j=⟨q,o+j,none⟩:=by unfold Addr.add;split <;> simp_all
  have hd:=d.h;rw[f,zC h oM];simp[idC,yI,hj])
 rwa [d.h]at this
def VX(p:jJ):List UInt8:=beL 1 p.1.size++(p.1.data.toList++(beL 1 p.2.val.size++(p.2.val.data.toList++(beL 4 p.2.n.toNat++p.2.id.l))))
def jb(L:List jJ):List UInt8:=beL 4 L.length++L.flatMap VX
def gE(x:Row):yW:=⟨x.val,x.n,x.id⟩
def wR(x:Row):jJ:=(x.key,gE x)
theorem rhas6(w:World)(A:Option Addr)(n cap:Nat)(R:List zB)(d:zB)(h:zX w A n R)(hn:n<=9223372036854775807) :
  Calls prog 13 #[.slice A n cap,.agg (idC d)] w λe w'=>e=.returned (.bool (decide (d∈R)))/\Below w.heap.size w w':=by
 have m:=h.len;have hB:Below w.heap.size w (w.alloc (.cells (idC d) 31)):=bA;have hd0:zA (w.alloc (.cells (idC d) 31)) w.heap.size 0 32=some (idC d):=by simp[go_sem]
 have f:=dH m;clear m;go_enter func13,ntmps13
 (go_wp2_with fail);generalize w.alloc (.cells (idC d) 31)=W at *;go_loopw [5] (λi wr=>∃k:Nat,k<=n/\i=.int .i64 k/\Hid (d∉R.take k)/\Below W.heap.size W wr) (λi _=>n-(intOf i).toNat)
 case atStart=>exact⟨0,zL,rfl,(sI:d∉R.take 0),Below.refl _ _⟩
 case round =>
  obtain⟨k,hk,rfl,y,hb⟩:=hrel;by_cases j:k<n
  ·obtain⟨q,o,rfl,hr⟩:=zX.get (SlR.below (SlR.below h hB) hb) j (by rw[f.out];exact j);have B:zA wr w.heap.size 0 32=some (idC d):=(zH (hb.block _ (zE hd0)) _ _).trans hd0;have s:R.take (k+1)=R.take k ++ [R[k]'(by rw[f.out];exact j)]:=by rw[take_add_one,getElem?_eq_getElem (by rw[f.out];exact j)];rfl
   have g:R[k]'(by rw[f.out];exact j)∈R:=getElem_mem _;obtain⟨x,hx⟩:=eX (R[k]'(by rw[f.out];exact j))
   rw[hx]at hr s g;have E:=dH s;have Hm:=dH g;clear hx s g;go_upto_region 4 with fail
   refine lX wr ?_;intro D hS;have b1:=zS hr;have b2:=zS B;refine lZ ?_;refine zD ?_;intro hS;clear D hS b1 b2 hr B;go_wp2_with fail
   ·have he:(x==d)=true:=by assumption
    have e:x=d:=by simpa using he
    have F:Hid (decide (d∈R)=true):=decide_eq_true (by rw[<-e];exact Hm.out);clear e;go_ret;exact⟨yB (by rw[F.out]),hB.trans (hb.drew.mono hB.size)⟩
   ·have he:(x==d)=false:=by assumption
    have e:¬x=d:=by simpa using he
    have t:Hid (d∉R.take (k+1)):=by
     show _;rw[E.out,mem_append,mem_singleton];rintro(h1 | h1)
     ·exact y.out h1
     ·exact e h1.symm
    clear e;go_roundw
    case rel=>exact⟨k+1,oM,by go_num,t,hb.drew⟩
    case measure=>exact sZ
  ·have r:d∉R:=by
    have:=y.out
    rwa [take_of_length_le (by rw[f.out];omega)]at this
   have Hn:Hid (decide (d∈R)=false):=decide_eq_false r;clear r;(go_wp2_with fail);go_ret;exact⟨yB (by rw[Hn.out]),hB.trans (hb.mono hB.size)⟩
abbrev xO(w:World)(A:Option Addr)(n:Nat)(R:List xC):Prop:=SlR w A n 33 (R.map zZ)
theorem xO.len{R:List xC}(h:xO w A n R):R.length=n:=by simpa using h.1
theorem xO.get{R:List xC}(h:xO w A n R){i:Nat}(hi:i<n)(hR:i<R.length) :
  ∃g o,A=some ⟨g,o,none⟩/\zA w g (o+i*33) 33=some (zZ R[i])/\zA w g (o+i*33) 32=some (idC (R[i]).tag)/\w.cell? ⟨g,o+i*33+32,none⟩=some (.string (R[i]).val):=by
 obtain⟨g,o,e,hr⟩:=h.at_ hi;rw[getElem_map]at hr;refine⟨g,o,e,hr,?_,?_⟩
 ·have:=yF hr (j:=0) (m:=32) oM
  rwa [bRowC_e0]at this
 ·have:=zC hr (j:=32) oM
  rwa [ZL]at this


structure RV where
 tal:Int
 adds:List xC
 gone:List xC
 last:List Row
 mL:List qO
 mO:List zB
 sL:List zW
 sG:List zB
structure RNode where
 id:zB
 h:Int
 ref:zB
 val:ByteArray
theorem RNode_ext{x y:RNode}(h:x.id=y.id/\x.h=y.h/\x.ref=y.ref/\x.val=y.val):x=y:=by cases x;cases y;simp_all
instance:DecidableEq RNode:=λx y=>if h:x.id=y.id/\x.h=y.h/\x.ref=y.ref/\x.val=y.val then isTrue (RNode_ext h)else isFalse (λe=>h (by subst e;simp))
instance:Inhabited zW:=⟨⟨id0,0,id0,⟨#[]⟩⟩⟩
theorem tR{α β:Type}(f:α->List β)(k:Nat):∀l:List α,(∀a∈l,(f a).length<=k)->(l.flatMap f).length<=l.length*k
 | [],_=>by simp
 | a :: l,h=>by
  have h1:=h a sI;have h2:=tR f k l (λb hb=>h b (by simp[hb]));simp only[flatMap_cons,length_append,length_cons,Nat.add_mul];omega
section
open Go.RowKit Go.Sort Go.Shelf
def vY(x:qO):List UInt8:=x.id.l++(beL 1 x.key.size++(x.key.data.toList++(beL 1 x.val.size++x.val.data.toList)))
def idsB(O:List zB):List UInt8:=beL 4 O.length++O.flatMap zB.l
def putMB(X:List qO)(O:List zB):List UInt8:=beL 4 X.length++X.flatMap vY++idsB O
theorem VW(x:qO):(vY x).length=34+x.key.size+x.val.size:=by
 have e:x.val.data.toList.length=x.val.size:=Array.length_toList;have e2:x.key.data.toList.length=x.key.size:=Array.length_toList;simp only[vY,length_append,xA,x.id.h,e,e2];omega
end
def sortN(N:List zW):List zW:=kO cmpM N
def s4(n:zW):List UInt8:=n.id.l++(beL 4 n.h.toNat++(n.ref.l++(beL 1 n.val.size++n.val.data.toList)))
def putSB(N:List zW)(G:List zB):List UInt8:=beL 4 (sortN N).length++(sortN N).flatMap s4++idsB G
theorem KH(n:zW):(s4 n).length=69+n.val.size:=by
 have e:n.val.data.toList.length=n.val.size:=Array.length_toList;simp only[s4,length_append,xA,n.id.h,n.ref.h,e];omega

@[go_sem ↓] theorem slId_rw(x:Value)(lo hi mx:Option Value):Instr.sliceAt 34 x lo hi mx=slS 34 x lo hi mx:=rfl








section
def RV.len(x:RV):Nat:=x.adds.length+x.gone.length+x.last.length+x.mL.length+x.mO.length+x.sL.length+x.sG.length
end


def cJ(k:Nat):ByteArray:=if k=1 then⟨#[78]⟩ else if k=2 then⟨#[86]⟩ else if k=3 then⟨#[86,83]⟩ else if k=4 then⟨#[75,86,78]⟩ else if k=5 then⟨#[75,86,83]⟩ else if k=6 then⟨#[82,86]⟩ else if k=7 then⟨#[82]⟩ else⟨#[]⟩
theorem rop_has(k:Nat)(w:World)(hk:k<=9223372036854775807):Calls prog 56 #[.int .i64 k] w λe w'=>e=.returned (.string (cJ k))/\w=w':=by
 by_cases h:k<=7
 ·have h8:k=0\/k=1\/k=2\/k=3\/k=4\/k=5\/k=6\/k=7:=oM;rcases h8 with rfl | rfl | rfl | rfl | rfl | rfl | rfl | rfl
  all_goals
   go_enter func56,ntmps56
   (go_wp2_with fail);go_ret;exact⟨rfl,rfl⟩
 ·have hs:cJ k=⟨#[]⟩:=by unfold cJ;rw[if_neg oM,if_neg oM,if_neg oM,if_neg oM,if_neg oM,if_neg oM,if_neg oM]
  have Hs:=dH hs;have h1:((k:Int)==1)=false:=sO;have h2:((k:Int)==2)=false:=sO;have h3:((k:Int)==3)=false:=sO;have h4:((k:Int)==4)=false:=sO;have h5:((k:Int)==5)=false:=sO;have h6:((k:Int)==6)=false:=sO;have h7:((k:Int)==7)=false:=sO;clear hs h;go_enter func56,ntmps56
  (go_wp2_with fail);go_ret;exact⟨by rw[Hs.out];rfl,rfl⟩
section
structure OfS where
 n:Int
 key:ByteArray
 val:ByteArray
 ref:zB
 refs:List zB
 l:List UInt8
 e:Int
def OfS.op(k:Nat)(s:OfS):OpR:=⟨⟨k,s.n,s.key,s.val,s.ref,s.refs⟩,s.l,s.e⟩
end
theorem VV(w:World)(A B:Option Addr)(n m cap cap':Nat)(X Y:List zB)(hx:zX w A n X)(hy:zX w B m Y)(hn:n<=1000000)(hm:m<=1000000) :
  Calls prog 15 #[.slice A n cap,.slice B m cap'] w λe w'=>e=.returned (.bool (decide (X=Y)))/\Below w.heap.size w w':=by
 have s:=hx.len;have r:=hy.len;have j:=dH s;have g:=dH r;by_cases G:n=m
 ·subst G;clear s r;go_enter func15,ntmps15
  (go_wp2_with fail);go_loopw [5] (λi wr=>∃k:Nat,k<=n/\i=.int .i64 k/\Hid (X.take k=Y.take k)/\Below w.heap.size w wr) (λi _=>n-(intOf i).toNat)
  case atStart=>exact⟨0,zL,rfl,rfl,Below.refl _ _⟩
  case round =>
   obtain⟨k,hk,rfl,H,hb⟩:=hrel;by_cases d:k<n
   ·obtain⟨q,o,rfl,hr⟩:=zX.get (SlR.below hx hb) d (by rw[j.out];exact d);obtain⟨q2,o2,rfl,F⟩:=zX.get (SlR.below hy hb) d (by rw[g.out];exact d);have hX:X.take (k+1)=X.take k ++ [X[k]'(by rw[j.out];exact d)]:=by rw[take_add_one,getElem?_eq_getElem (by rw[j.out];exact d)];rfl
    have hY:Y.take (k+1)=Y.take k ++ [Y[k]'(by rw[g.out];exact d)]:=by rw[take_add_one,getElem?_eq_getElem (by rw[g.out];exact d)];rfl
    obtain⟨x,D⟩:=eX (X[k]'(by rw[j.out];exact d))
    obtain⟨y,t⟩:=eX (Y[k]'(by rw[g.out];exact d))
    rw[D]at hr hX;rw[t]at F hY;have HX:=dH hX;have HY:=dH hY;clear hX hY;have O:=dH D;have N:=dH t;clear D t;go_upto_region 6 with fail
    refine lX wr ?_;intro f hS;have b1:=zS hr;have b2:=zS F;refine lZ ?_;refine zD ?_;intro hS;clear f hS b1 b2 hr F;have I:Below w.heap.size w wr.drew:=hb.drew;cases hpe:(x==y)with
    | true =>
     have e:=beq_iff_eq.1 hpe;have E:=dH e;clear e;(go_wp2_with fail);go_roundw
     case rel=>exact⟨k+1,oM,by go_num,(show X.take (k+1)=Y.take (k+1) by rw[HX.out,HY.out,H.out,E.out]),I⟩
     case measure=>exact sZ
    | false =>
     have f:X≠Y:=by
      intro e;subst e;have:x=y:=O.out.symm.trans N.out;rw[beq_iff_eq.2 this]at hpe;cases hpe
     have hd:=dH (decide_eq_false f);clear f;(go_wp2_with fail);go_ret;exact⟨yB (by rw[hd.out]),I⟩
   ·have M:k=n:=oM;have e:X=Y:=by
     have:=H.out
     rwa [take_of_length_le (by rw[j.out];omega),take_of_length_le (by rw[g.out];omega)]at this
    have E:=dH (decide_eq_true e);clear e M;(go_wp2_with fail);go_ret;exact⟨yB (by rw[E.out]),hb⟩
 ·have f:X≠Y:=by intro e;subst e;exact G (s.symm.trans r)
  have hd:=dH (decide_eq_false f);have L:(n==m)=false:=by simpa using G
  have J:((n:Int)==(m:Int))=false:=by rw[beq_eq_false_iff_ne];omega
  clear s r f;go_enter func15,ntmps15
  (go_wp2_with fail);go_ret;exact⟨yB (by rw[hd.out]),Below.refl _ _⟩

def inB(s:ByteArray)(c:Int):Bool:=s.data.toList.any λb=>((b.toNat:Int)==c)
theorem XS(s:ByteArray)(c:Int)(w:World)(hs:s.size<=9223372036854775807):Calls prog 105 #[.string s,.int .u8 c] w λe w'=>e=.returned (.bool (inB s c))/\w=w':=by
 have f:s.data.toList.length=s.size:=Array.length_toList;have j:inB s c=(s.data.toList.drop 0).any λb=>((b.toNat:Int)==c):=rfl;have m:=dH j;clear j;go_enter func105,ntmps105
 (go_wp2_with fail);go_loopw [5] (λi wr=>∃k:Nat,k<=s.size/\i=.int .i64 k/\wr=w/\Hid (inB s c=(s.data.toList.drop k).any λb=>((b.toNat:Int)==c))) (λi _=>s.size-(intOf i).toNat)
 case atStart=>exact⟨0,zL,rfl,rfl,m⟩
 case round =>
  obtain⟨k,hk,rfl,rfl,hd⟩:=hrel;by_cases g:k<s.size
  ·have hg:s.data.toList.drop k=s[k]'g :: s.data.toList.drop (k+1):=by
    rw[drop_eq_getElem_cons (show k<s.data.toList.length by rw[f];exact g)];rfl
   have d:=hd.out;rw[hg,any_cons]at d;obtain⟨b,hb⟩:=eX (s[k]'g)
   rw[hb]at d;cases hc:((b.toNat:Int)==c)with
   | true =>
    rw[hc,Bool.true_or]at d;have Hd:=dH d;clear hd d hg;(go_wp2_with fail);go_ret;exact⟨yB (by rw[Hd.out]),rfl⟩
   | false =>
    rw[hc,Bool.false_or]at d;have Hd:=dH d;clear hd d hg;(go_wp2_with fail);go_roundw
    case rel=>exact⟨k+1,oM,by go_num,trivial,Hd⟩
    case measure=>exact sZ
  ·have d:=hd.out;rw[drop_eq_nil_of_le (by rw[f];omega)]at d;have Hd:=dH d;clear hd d;(go_wp2_with fail);go_ret;exact⟨yB (by rw[Hd.out];rfl),rfl⟩
theorem emptyS:(⟨#[]⟩:ByteArray).size=0:=rfl

end Go.Proofs.YtdjiaickicgdlaaGreatDoor
