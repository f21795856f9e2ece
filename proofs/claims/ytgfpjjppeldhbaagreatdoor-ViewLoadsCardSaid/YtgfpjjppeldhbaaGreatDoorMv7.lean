/- Part 7 of the texts that lead to this claim: the walks of the functions and the plain law, in order. -/
import Derived.Test.YtgfpjjppeldhbaaGreatDoorMv6
import Derived.Test.YtgfpjjppeldhbaaGreatDoorLayBag
import Derived.Shelf.Slices.CompactS
import Derived.Test.YtgfpjjppeldhbaaGreatDoorLayKeys
import Derived.Test.YtgfpjjppeldhbaaGreatDoorLayView
import Derived.IntWalk
import Derived.ArgAppend
import Derived.Laws.StructEq
namespace Go.Proofs.YtgfpjjppeldhbaaGreatDoor
open Go.RowKit
set_option maxRecDepth 100000
set_option maxHeartbeats 8000000
section
open Go.RowKit Go.Sort Go.Shelf
instance:Inhabited yH:=⟨fM⟩
theorem sT:xH Tryz.prog 304 171 33 48 :=
 .of (z:=.agg (zH fM)) Tryz.underlying304 kR kR kR (kV _) oM
@[go_sem ↓] theorem bsBRow_rw(n:Nat)(parts:Array (Nat×Value)):Instr.buildSlice 304 n parts=bsS 304 n parts:=rfl
@[go_sem] theorem bsBRow_run(w:World)(x:yH):(bsS 304 1 #[(0,.agg (zH x))]).run Tryz.prog w=.ok (.slice (some ⟨w.heap.size,0,none⟩) 1 1) (w.alloc (.cells (zH x) 171)) :=
 bF sT oM w (zH x) (kV x)
theorem V9(w:World):(isAgg 171).run Tryz.prog w=.ok true w:=by simp[isAgg,run_underlying Tryz.underlying171]
theorem zf(w:World):(Go.sizeOf 171).run Tryz.prog w=.ok 33 w:=by
 have h:=aK;cases hi:Tryz.prog.info? 171 with
 | none=>rw[hi]at h;cases h
 | some i =>
  rw[hi]at h;have hk:i.size=33:=by simpa using h
  simp[Go.sizeOf,typeInfo,hi,hk]
theorem xo(w:World)(B:Nat)(A:Option Addr)(n cap:Nat)(S L:List yH)(d:Own w B 171 33 A n cap (S.map zH))(hp:S.Perm L)(hr:Ris yG L)(hn:L.length<=1000000) :
  Calls Tryz.prog 328 #[.slice A n cap,.func (.func 275) #[] #[]] w λe w'=>e=.returned (.tuple #[])/\Own w' B 171 33 A n cap (L.map zH)/\z6 (blk A) w w':=by
 have hl:S.length=n:=by simpa using d.len
 have k:=hp.length_eq;rcases d.addr with rfl | ⟨g,rfl⟩
 ·have r:n=0:=(d.cap_le.2 rfl).1;subst r;have hS:S = []:=List.eq_nil_of_length_eq_zero hl;subst hS;have hL:L = []:=List.eq_nil_of_length_eq_zero k.symm;subst hL;refine(AnyF.slices_SortFunc_none Tryz.laySortRow none cap (.func (.func 275) #[] #[]) w).mono ?_;rintro e w' ⟨rfl,rfl⟩;exact⟨rfl,d,z6.refl _ _⟩
 ·subst hl;have hH:=own_holds (enc:=zH) oM kV d;have j:CmpLays Tryz.prog 275 #[] (λx:yH=>(zH x).toList) 33 yG g 0 S.toArray.size w:=λm os dk _ x y=>rorder x y _;have s:g<w.heap.size:=(d.at_base (x:=g) (by simp[blk])).2;have f:=AnyQ.slices_SortFunc_total Tryz.laySortRow 33 V9 zf (λx:yH=>(zH x).toList) sI (λx v hv=>j5 x v hv) yG (XU jI) 275 #[] g 0 cap S.toArray w
   (enters_of Tryz.func275 kR rfl) j hH s sO (λx y h1 h2=>by
    simp only[ltOf,decide_eq_false_iff_not]at h1 h2;exact Classical.byContradiction λe=>h2 (jI.flip h1 e))
  have e1:S.toArray.size=S.length:=sI;rw[e1]at f;refine f.mono ?_;rintro e w' ⟨rfl,n,os,rfl⟩;have e2:(S.toArray.toList.mergeSort λx y=>!(ltOf yG y x))=L:=tE jI hr hp;rw[e2];obtain⟨h1,h2⟩:=lK (enc:=zH) oM kV d n L k.symm os;exact⟨rfl,h1,h2.mono (by simp[blk])⟩
theorem yj(w:World)(b:Nat)(L:List yH)(h:fZ w b L)(hr:Ris yG L)(hn:L.length<=1000000) :
  Calls Tryz.prog 327 #[.map (some b)] w λe w'=>∃A cap,e=.returned (.slice A L.length cap)/\Own w' w.heap.size 171 33 A L.length cap (L.map zH)/\Below w.heap.size w w':=by
 have a5:=h.lt;obtain⟨w0,g,hR,X,a3⟩:=yS.range (P:=Tryz.prog) (kv:=rD) (ok:=okR) h Tryz.underlying167;go_enter Tryz.func327,Tryz.ntmps327
 (go_wp2_with fail);clear g;go_loopw [3] (λout wr=>∃S A cap,out=.slice A S.length cap/\jW wr b w.heap.size rD okR L S/\Own wr w0.heap.size 171 33 A S.length cap (S.map zH)/\Below w.heap.size w wr/\w0.heap.size<=wr.heap.size) (λ_ wr=>wr.rangeLeft b w.heap.size)
 case atStart=>exact⟨[],none,0,rfl,hR,Own.nil _ _ _ _,X,lR⟩
 case round =>
  obtain⟨S,A,cap,rfl,hR,d,hb,a2⟩:=hrel;rcases hR.next (P:=Tryz.prog) 0 with⟨hall,G,g⟩ | ⟨x,w1,hxL,hxS,g,hR1,hk1,hs1,hl1,hen⟩
  ·have hp:S.Perm L:=(List.perm_ext_iff_of_nodup G (hr.nodup jI)).2 hall;have N:=hp.length_eq;have k:=xo wr w0.heap.size A S.length cap S L d hp hr hn;have a0:=dH hall;have a1:=dH N;clear hall N hp;(go_wp2_with fail);refine k.mono ?_;rintro e w2 ⟨rfl,f,R⟩;clear g;(go_wp2_with fail);go_ret;rw[a1.out]at f |-;refine⟨A,cap,rfl,f.mono oM,hb.trans (R.below (B:=w.heap.size) oM λx hx=>oH ((d.at_base hx).1))⟩
  ·have a6:S.length+1<=1000000:=by
    obtain⟨M,Z,hZ,O,_,Y,G⟩:=hR1;have h1:=hZ.length;have h2:(Z.map (·.1)).length=(S ++ [x]).length:=by rw[Y]
    have h3:(M.map (·.1)).length<=L.length:=kY G (λy hy=>(O y).1 hy);simp at h2 h3;omega
   have r:Own w1 w0.heap.size 171 33 A S.length cap (S.map zH):=d.kept hk1 (λy hy=>oS ((d.at_base hy).1));have V:Below w.heap.size w w1:=hb.trans (hk1.below (B:=w.heap.size) oM sI);have t:Below w1.heap.size w1 ((w1.alloc (.cells (zH x) 171)).alloc (.cells (zH x) 171)):=(bA).alloc sI _;have f:=r.below t;have m:z7 ((w1.alloc (.cells (zH x) 171)).alloc (.cells (zH x) 171)) (w1.heap.size+1) 0 33=some (zH x):=by simp[go_sem]
   change (Instr.next _ _ _).run Tryz.prog wr=.ok (.tuple #[.bool true,.agg (zH x),.bool true]) w1 at g;change (Instr.entry _).run Tryz.prog w1=.ok (.tuple #[.agg (zH x),.bool true]) w1 at hen;have E:=dH hs1;clear hs1;go_wp2_with (at_builtin;refine yM sT rfl f rfl m (j5 _) oM oM (by simp;have:=E.out;omega) ?_;intro A' cap' w2 s D H)
   have J:b∉blk A:=λhx=>(oH ((d.at_base hx).1));have I:w.heap.size∉blk A:=λhx=>(oH ((d.at_base hx).1));have j:=hR1.kept (z6.of_below t) sI sI;have U:=j.kept D J I;have a4:w2.rangeLeft b w.heap.size=w1.rangeLeft b w.heap.size :=
    (xB D J I j.lt.2 j.lt.1).trans (xB (z6.of_below t) sI sI hR1.lt.2 hR1.lt.1)
   have F:w0.heap.size<=w2.heap.size:=by
    have e1:=t.size;have e2:=D.size;have e3:=E.out;omega
   have T:Below w.heap.size w w2:=V.trans ((t.mono (oH E.out)).trans (D.below (B:=w.heap.size) (by simp;have:=E.out;omega) λy hy=>oH ((d.at_base hy).1)));clear g hen;(go_wp2_with fail);go_roundw
   case rel=>exact⟨S ++ [x],A',cap',sI,U,by simpa using s,T,F⟩
   case measure=>omega
def tagsOf(L:List yH)(v:ByteArray):List zE:=(L.filter λx=>decide (x.val=v)).map (·.tag)
end
section
open Go.RowKit Go.Sort
section
variable {α:Type} [Inhabited α] [DecidableEq α] {c:α->α->Int}
theorem rZ(T:jH c)(d:Array α)(hs:∀i j,i<j->j<d.size->¬c d[j]! d[i]! < 0):∀m,m<=d.size ->
  Ris c (Lib.compactUpTo d m)/\(∀z,z∈Lib.compactUpTo d m↔∃j,j<m/\d[j]! = z)/\(0<m->∀y∈Lib.compactUpTo d m,¬c d[m-1]! y<0)
 | 0,_=>⟨by simp[Lib.compactUpTo,Ris],by simp[Lib.compactUpTo],sI⟩
 | m+1,hm=>by
  obtain⟨h1,h2,h3⟩:=rZ T d hs m oM;rw[Lib.compactUpTo_succ];by_cases hk:Lib.keeps d m=true
  ·rw[if_pos hk];have k:∀y∈Lib.compactUpTo d m,c y d[m]! < 0:=by
    intro y hy;have g:0<m:=by
     rcases Nat.eq_zero_or_pos m with h | h
     ·subst h;simp[Lib.compactUpTo]at hy
     ·exact h
    have s:d[m]!≠d[m-1]!:=by
     have:m=0\/d[m]!≠d[m-1]!:=by simpa[Lib.keeps]using hk
     rcases this with h | h
     ·omega
     ·exact h
    exact T.le_trans (h3 g y hy) (T.flip (hs (m-1) m oM oM) s)
   refine⟨?_,λz=>?_,λ_ y hy=>?_⟩
   ·refine List.pairwise_append.2 ⟨h1,sI,λy hy z hz=>?_⟩;simp at hz;subst hz;exact k y hy
   ·rw[List.mem_append,h2,List.mem_singleton];constructor
    ·rintro(⟨j,hj,e⟩ | e)
     ·exact⟨j,oM,e⟩
     ·exact⟨m,oM,e.symm⟩
    ·rintro⟨j,hj,e⟩;by_cases f:j=m
     ·subst f;exact .inr e.symm
     ·exact .inl ⟨j,oM,e⟩
   ·rw[Nat.add_sub_cancel];rcases List.mem_append.1 hy with hy | hy
    ·exact T.asym (k y hy)
    ·simp at hy;subst hy;exact T.irr _
  ·rw[if_neg hk,List.append_nil];have g:¬m=0:=λe=>hk (by simp[Lib.keeps,e]);have r:d[m]! = d[m-1]!:=Classical.byContradiction λe=>hk (Lib.keeps_pos e);refine⟨h1,λz=>?_,λ_ y hy=>?_⟩
   ·rw[h2];constructor
    ·rintro⟨j,hj,e⟩;exact⟨j,oM,e⟩
    ·rintro⟨j,hj,e⟩;by_cases f:j=m
     ·subst f;exact⟨j-1,oM,by rw[<-r];exact e⟩
     ·exact⟨j,oM,e⟩
   ·rw[Nat.add_sub_cancel,r];exact h3 oM y hy
theorem mN(T:jH c)(l:List α)(hs:l.Pairwise (λx y=>¬c y x<0)):Lib.compact l=yB c l:=by
 have h:=rZ T l.toArray (λi j f hj=>by
  have d:j<l.length:=by simpa using hj
  rw[getElem!_pos l.toArray i sO,getElem!_pos l.toArray j hj];exact List.pairwise_iff_getElem.1 hs i j oM d f) l.length sI
 refine bL T h.1 (xJ T l) λz=>?_;rw[qE T];refine(h.2.1 z).trans ⟨?_,?_⟩
 ·rintro⟨j,hj,e⟩;rw[getElem!_pos l.toArray j (by simpa using hj)]at e;rw[<-e];exact List.getElem_mem hj
 ·intro hz;obtain⟨j,hj,e⟩:=List.mem_iff_getElem.1 hz;exact⟨j,hj,by rw[getElem!_pos l.toArray j (by simpa using hj)];simpa using e⟩
end
end
section
open Go.RowKit Go.Sort Go.Shelf
theorem einfoStr:xH Tryz.prog 166 9 1 16 :=
 .of (z:=.string ⟨#[]⟩) Tryz.underlying166 kR kR kR rfl oM
def eI(s:ByteArray):Array Value:=#[.string s]
theorem strR_one(s:ByteArray):∀u∈(eI s).toList,u.oneCell'=true:=by simp[eI,Value.oneCell']
def bl(s:ByteArray):List UInt8:=s.data.toList
theorem XH(s:ByteArray):s.toList=bl s:=ByteArray.toList_eq s
theorem XD(s:ByteArray):encStr (bl s)=.string s:=by cases s;rfl
theorem rM(x y:List UInt8):decide (x<=y)=true↔¬vP y x<0:=by
 have h:=bytesLess_eq y x;rw[bJ]at h;have h2:(vP y x<0)↔y<x:=by simpa using h
 rw[decide_eq_true_eq,h2];exact Iff.rfl
theorem QZ:jH vP:=⟨sW,nH,lS⟩
theorem QF(l:List (List UInt8)):(l.mergeSort λx y=>decide (x<=y)).Pairwise (λx y=>¬vP y x<0):=by
 have g:∀a b d:List UInt8,decide (a<=b)=true->decide (b<=d)=true->decide (a<=d)=true:=λa b d h1 h2=>by
  rw[rM]at *;intro h3;exact h2 (QZ.le_trans (a:=d) (b:=a) (d:=b) (QZ.asym h3) (by
   by_cases e:a=b
   ·subst e;exact absurd h3 h2
   ·exact QZ.flip h1 (λe'=>e e'.symm)))
 have f:∀a b:List UInt8,(decide (a<=b)||decide (b<=a))=true:=λa b=>by
  by_cases h:vP b a<0
  ·have:=(rM b a).2 (QZ.asym h);simp only[this,Bool.or_true]
  ·have:=(rM a b).2 h;simp only[this,Bool.true_or]
 exact List.Pairwise.imp (fun {a b} h=>(rM a b).1 h) (List.pairwise_mergeSort g f l)
theorem Y0(l:List ByteArray):Lib.compact ((l.map bl).mergeSort λx y=>decide (x<=y))=(yB xY l).map bl:=by
 rw[mN QZ _ (QF _)];have hR:Ris vP ((yB xY l).map bl):=by
  refine List.pairwise_map.2 (List.Pairwise.imp (fun {a b} h=>?_) (xJ sA l));have h':vP a.toList b.toList<0:=h
  rwa [XH,XH]at h'
 refine bL QZ (xJ QZ _) hR λz=>?_;rw[qE QZ,(List.mergeSort_perm _ _).mem_iff];simp only[List.mem_map,qE sA]
def vG(L:List yH):List ByteArray:=yB xY (L.map (·.val))
def nY(s:ByteArray):jM:=⟨s,⟨#[]⟩⟩
theorem sQ(L:List yH):(vG L).length<=L.length:=by have:=xF (c:=xY) (L.map (·.val));simpa[vG]using this
end
section
open Go.RowKit Go.Sort Go.Shelf Go.Lib
@[go_sem ↓] theorem bsStr_rw(n:Nat)(parts:Array (Nat×Value)):Instr.buildSlice 166 n parts=bsS 166 n parts:=rfl
@[go_sem] theorem bsStr_run(w:World)(x:ByteArray):(bsS 166 1 #[(0,.string x)]).run Tryz.prog w=.ok (.slice (some ⟨w.heap.size,0,none⟩) 1 1) (w.alloc (.cells (eI x) 9)):=kR
def zR(z:List UInt8):Array Value:=#[encStr z]
theorem strR_zR(S:List ByteArray):S.map eI=(S.map bl).map zR:=by
 rw[List.map_map];exact List.map_congr_left λs _=>by simp[eI,zR,XD]
theorem xl(w:World)(B:Nat)(A:Option Addr)(n cap:Nat)(zs:List (List UInt8))(d:Own w B 9 1 A n cap (zs.map zR))(hn:n<=1000000) :
  Calls Tryz.prog 123 #[.slice A n cap] w λe w'=>e=.returned (.tuple #[])/\Own w' B 9 1 A n cap ((zs.mergeSort λx y=>decide (x<=y)).map zR)/\z6 (blk A) w w':=by
 have hl:zs.length=n:=by simpa using d.len
 rcases d.addr with rfl | ⟨g,rfl⟩
 ·have j:n=0:=(d.cap_le.2 rfl).1;subst j;have hS:zs = []:=List.eq_nil_of_length_eq_zero hl;subst hS;refine(AnyM.slices_Sort_string_none Tryz.laySortStr none cap w).mono ?_;rintro e w' ⟨rfl,rfl⟩;exact⟨rfl,by simpa using d,z6.refl _ _⟩
 ·subst hl;have k:g<w.heap.size:=(d.at_base (x:=g) (by simp[blk])).2;refine(AnyM.slices_Sort_string Tryz.laySortStr g 0 cap zs w (iU (f:=encStr) d) k oM).mono ?_;rintro e w' ⟨rfl,m,os,rfl⟩;obtain⟨h1,h2⟩:=JQ (f:=encStr) d lR m (zs.mergeSort λx y=>decide (x<=y)) (zs.mergeSort λx y=>decide (x<=y)) (List.mergeSort_perm _ _).length_eq (List.take_of_length_le (Nat.le_of_eq (List.mergeSort_perm _ _).length_eq)) os;exact⟨rfl,h1,h2.mono (by simp[blk])⟩
theorem VU(zs:List (List UInt8)):(Lib.compact zs).length<=zs.length:=by
 unfold Lib.compact Lib.compactUpTo;rw[List.length_map];exact Nat.le_trans (List.length_filter_le _ _) sI
theorem vg(w:World)(B:Nat)(A:Option Addr)(n cap:Nat)(zs:List (List UInt8))(d:Own w B 9 1 A n cap (zs.map zR))(hn:n<=1000000) :
  Calls Tryz.prog 124 #[.slice A n cap] w λe w'=>e=.returned (.slice A (Lib.compact zs).length cap)/\Own w' B 9 1 A (Lib.compact zs).length cap ((Lib.compact zs).map zR)/\z6 (blk A) w w':=by
 have hl:zs.length=n:=by simpa using d.len
 rcases d.addr with rfl | ⟨g,rfl⟩
 ·have j:n=0:=(d.cap_le.2 rfl).1;subst j;have hS:zs = []:=List.eq_nil_of_length_eq_zero hl;subst hS;refine(Any.slices_Compact_string_empty Tryz.layCompStr none cap w).mono ?_;rintro e w' ⟨rfl,rfl⟩;exact⟨rfl,d,z6.refl _ _⟩
 ·subst hl;refine(Any.slices_Compact_string Tryz.layCompStr g 0 cap zs w (iU (f:=encStr) d) oM (d.cap_le.1)).mono ?_;rintro e w' ⟨rfl,m,rfl⟩;have k:=VU zs;obtain⟨h1,h2⟩:=JQ (f:=encStr) d k m (Lib.compact zs++List.replicate (zs.length-(Lib.compact zs).length) []) (Lib.compact zs) sO sI #[];rw[grow_empty]at h1 h2;exact⟨rfl,h1,h2.mono (by simp[blk])⟩
abbrev OwnL(w:World)(B:Nat)(A:Option Addr)(n cap:Nat)(L:List ByteArray):Prop:=Own w B 98 2 A n cap (L.map λs=>zS (nY s))
theorem blist(w:World)(g bl_ bg:Nat)(L G:List yH)(h:jC w g bl_ bg L G)(hn:L.length<=1000000) :
  Calls Tryz.prog 58 #[.pointer (some ⟨g,0,none⟩)] w λe w'=>∃A cap,e=.returned (.slice A (vG L).length cap)/\OwnL w' w.heap.size A (vG L).length cap (vG L)/\Below w.heap.size w w':=by
 have hc:=h.cell0;have V:=h.lt;have hr:=h.risL;obtain⟨w0,s,hR,b9,c5⟩:=yS.range (P:=Tryz.prog) (kv:=rD) (ok:=okR) h.live Tryz.underlying167;go_enter Tryz.func58,Tryz.ntmps58
 (go_wp2_with fail);refine(pZ _ _ _ hc).mono ?_;rintro e w' ⟨rfl,rfl⟩;(go_wp2_with fail);clear s hc;go_loopw [3] (λout wr=>∃(S:List yH) (A:Option Addr) (cap:Nat),out=.slice A S.length cap/\jW wr bl_ w.heap.size rD okR L S/\Own wr w0.heap.size 9 1 A S.length cap ((S.map λx=>bl x.val).map zR)/\Below w.heap.size w wr/\w0.heap.size<=wr.heap.size) (λ_ wr=>wr.rangeLeft bl_ w.heap.size)
 case atStart=>exact⟨[],none,0,rfl,hR,Own.nil _ _ _ _,b9,lR⟩
 case round =>
  obtain⟨S,A,cap,rfl,hR,d,hb,c4⟩:=hrel;rcases hR.next (P:=Tryz.prog) 0 with⟨hall,a4,s⟩ | ⟨x,w1,hxL,hxS,s,hR1,hk1,hs1,hl1,hen⟩
  ·have hp:S.Perm L:=(List.perm_ext_iff_of_nodup a4 (hr.nodup jI)).2 hall;have b1:=hp.length_eq;have F:=xl wr w0.heap.size A S.length cap _ d oM;have a7:=dH hall;have c3:=dH b1;clear hall b1 hp;(go_wp2_with fail);refine F.mono ?_;rintro e w2 ⟨rfl,f,a9⟩;clear s;have r:=vg w2 w0.heap.size A S.length cap _ f (oH c3.out);have hz:Lib.compact ((S.map λx=>bl x.val).mergeSort λx y=>decide (x<=y))=(vG L).map bl:=by
    have e1:(S.map λx=>bl x.val)=(S.map (·.val)).map bl:=by rw[List.map_map];rfl
    rw[e1,Y0];congr 1
    exact m8 sA λz=>by simp only[List.mem_map,a7.out]
   rw[hz,<-strR_zR,List.length_map]at r;have b4:=sQ L;obtain⟨N,hN⟩:=eX (vG L)
   rw[hN]at r b4;have HN:=dH hN;clear hz F hN;(go_wp2_with fail);refine r.mono ?_;rintro e w3 ⟨rfl,D,b6⟩;have b0:Below w.heap.size w w3:=(hb.trans (a9.below (B:=w.heap.size) oM λx hx=>oH ((d.at_base hx).1))).trans (b6.below (B:=w.heap.size) (by have:=hb.size;have:=a9.size;omega) λx hx=>oH ((d.at_base hx).1));have b3:=D.slr;have T:=D.addr;clear f D d r;(go_wp2_with fail);go_loopw [5,29] (λout i wr=>∃(k:Nat) (A:Option Addr) (cap:Nat),k<=N.length/\i=.int .i64 k/\out=.slice A k cap/\OwnL wr w3.heap.size A k cap (N.take k)/\Below w3.heap.size w3 wr) (λ_ i _=>N.length-(intOf i).toNat)
   case atStart=>exact⟨0,none,0,zL,rfl,rfl,Own.nil _ _ _ _,Below.refl _ _⟩
   case round =>
    obtain⟨k,A',cap',hk,rfl,rfl,d,X⟩:=hrel;by_cases V:k<N.length
    ·obtain⟨q,o,rfl,a3⟩:=(b3.below X).at_ V;obtain rfl:o=0:=by
      rcases T with e | ⟨g',e⟩
      ·cases e
      ·injection e with e;injection e
     rw[List.getElem_map]at a3;have E:=z8 a3 (j:=0) oM;have a0:N.take (k+1)=N.take k ++ [N[k]]:=by rw[List.take_add_one,List.getElem?_eq_getElem V];rfl
     obtain⟨x,hx⟩:=eX (N[k]'V)
     rw[hx]at E a0;have a5:wr.cell? ⟨q,k,none⟩=some (.string x):=by simpa[eI]using E
     have c2:=dH a0;clear hx E a3 a0;have a1:=X.size;have H:Below wr.heap.size wr (wr.alloc (.cells (zS ⟨x,⟨#[]⟩⟩) 98)):=bA;have f:=d.below H;have t:z7 (wr.alloc (.cells (zS ⟨x,⟨#[]⟩⟩) 98)) wr.heap.size 0 2=some (zS ⟨x,⟨#[]⟩⟩):=by simp[go_sem]
     go_wp2_with (at_builtin;refine yM yP rfl f rfl t (qD _) oM oM sO ?_;intro A2 a6 w4 m J O)
     have Y:Below w3.heap.size w3 w4:=X.trans ((H.mono a1).trans (J.below (B:=w3.heap.size) sO λy hy=>(d.at_base hy).1));(go_wp2_with fail);go_roundw
     case rel=>exact⟨k+1,A2,a6,oM,by go_num,rfl,by rw[c2.out];show Own _ _ _ _ _ _ _ _;rw[List.map_append];exact m,Y⟩
     case measure=>exact sZ
    ·(go_wp2_with fail);go_ret;have e:k=N.length:=oM;subst e;rw[List.take_length]at d;rw[HN.out];exact⟨A',cap',rfl,d.mono b0.size,yE b0 X⟩
  ·have c7:S.length+1<=1000000:=by
    obtain⟨M,Z,hZ,b5,_,c0,a4⟩:=hR1;have h1:=hZ.length;have h2:(Z.map (·.1)).length=(S ++ [x]).length:=by rw[c0]
    have h3:(M.map (·.1)).length<=L.length:=kY a4 (λy hy=>(b5 y).1 hy);simp at h2 h3;omega
   have R:Own w1 w0.heap.size 9 1 A S.length cap ((S.map λx=>bl x.val).map zR):=d.kept hk1 (λy hy=>oS ((d.at_base hy).1));have b8:Below w.heap.size w w1:=hb.trans (hk1.below (B:=w.heap.size) oM sI);have H:Below w1.heap.size w1 ((w1.alloc (.cells (zH x) 171)).alloc (.cells (eI x.val) 9)):=(bA).alloc sI _;have f:=R.below H;have t:z7 ((w1.alloc (.cells (zH x) 171)).alloc (.cells (eI x.val) 9)) (w1.heap.size+1) 0 1=some (eI x.val):=by simp[go_sem,eI]
   change (Instr.next _ _ _).run Tryz.prog wr=.ok (.tuple #[.bool true,.agg (zH x),.bool true]) w1 at s;change (Instr.entry _).run Tryz.prog w1=.ok (.tuple #[.agg (zH x),.bool true]) w1 at hen;have U:=dH hs1;clear hs1;go_wp2_with (at_builtin;refine yM einfoStr rfl f rfl t (strR_one _) oM oM (by simp;have:=U.out;omega) ?_;intro A' cap' w2 m J O)
   have Y:bl_∉blk A:=λhx=>(oH ((d.at_base hx).1));have a8:w.heap.size∉blk A:=λhx=>(oH ((d.at_base hx).1));have I:=hR1.kept (z6.of_below H) sI sI;have c1:=I.kept J Y a8;have c6:w2.rangeLeft bl_ w.heap.size=w1.rangeLeft bl_ w.heap.size :=
    (xB J Y a8 I.lt.2 I.lt.1).trans (xB (z6.of_below H) sI sI hR1.lt.2 hR1.lt.1)
   have a2:w0.heap.size<=w2.heap.size:=by
    have e1:=H.size;have e2:=J.size;have e3:=U.out;omega
   have b7:Below w.heap.size w w2:=b8.trans ((H.mono (oH U.out)).trans (J.below (B:=w.heap.size) (by simp;have:=U.out;omega) λy hy=>oH ((d.at_base hy).1)));have b2:(S.map λx=>bl x.val).map zR ++ [eI x.val]=((S ++ [x]).map λx=>bl x.val).map zR:=by simp[zR,eI,XD]
   rw[b2]at m;clear s hen b2;(go_wp2_with fail);go_roundw
   case rel=>exact⟨S ++ [x],A',cap',sI,c1,by simpa using m,b7,a2⟩
   case measure=>omega
end
section
open Go.RowKit Go.Sort Go.Maps
def i6(_:Value):Option (DataW Unit×List MemPlace):=some (.nil,[])
theorem xR.owns{w:World}{g b:Nat}{L:List jE}(h:xR w g b L)(hn:L.length<=1000000) :
  ∃D0:DataW Unit,w.ownsMap Tryz.prog 9 i6 b L.length D0/\Maps.size D0<=1000000/\(strKeys D0).Perm (L.map λp=>p.1.data.toList):=by
 obtain⟨M,es,y,hm,hp⟩:=h.map;have t:es.size=L.length:=by rw[hm.length,hp.length_eq]
 have f:∀e∈es.toList,∃k:ByteArray,e.key=.string k/\k.size<=maxLen:=by
  intro e he;obtain⟨j,hj,rfl⟩:=List.mem_iff_getElem.1 he;obtain⟨p,hp,hk,_⟩:=hm.at_key (List.getElem?_eq_getElem hj);exact⟨p.1,hk,hm.okk p (List.mem_of_getElem? hp)⟩
 have m:∀e∈es.toList,∀k:ByteArray,e.key=.string k->k.size<=maxLen->WideElems.rd Tryz.prog 9 i6 e=some (.string k.data.toList,.nil):=by
  intro e _ k hk d;simp[WideElems.rd,hk,keyOf,mapKey,Tryz.underlying9,d,i6]
 refine⟨_,⟨es,y,hm.heap,⟨?_,?_,?_⟩,oM,rfl⟩,?_,?_⟩
 ·simp only[maxLen];omega
 ·rw[MapKept.stamped_iff];refine⟨hm.clock,hm.born,?_⟩;have s:(es.toList.map (·.key)).Pairwise (·≠·):=by
   rw[hm.keys];have h2:=hm.nodup;rw[List.Nodup,List.pairwise_map]at h2;rw[List.pairwise_map];exact h2.imp λh e=>h (by injection e)
  rw[List.pairwise_map]at s;exact s
 ·intro e he;obtain⟨k,hk,d⟩:=f e he;exact⟨_,m e he k hk d⟩
 ·show(List.foldr DataW.insert [] _).length<=_;rw[(WideShapes.sorted_perm _).length_eq]
  simp;omega
 ·have h1:(strKeys (DataW.map (List.foldr DataW.insert [] (es.toList.map (WideElems.rg Tryz.prog 9 i6))))).Perm ((es.toList.map (WideElems.rg Tryz.prog 9 i6)).map λp=>strOf p.1) :=
   (WideShapes.sorted_perm _).map _
  refine h1.trans ?_;have h2:((es.toList.map (WideElems.rg Tryz.prog 9 i6)).map λp=>strOf p.1)=M.map λp=>p.1.data.toList:=by
   rw[List.map_map];apply List.ext_getElem?;intro n;rw[List.getElem?_map,List.getElem?_map];cases he:es.toList[n]? with
   | none =>
    have:M[n]?=none:=by
     rw[List.getElem?_eq_none_iff]at he |-;have:=hm.length;simp at he;omega
    rw[this];rfl
   | some e =>
    obtain⟨p,r,hk,_⟩:=hm.at_key he;rw[r];have hr:=m e (List.mem_of_getElem? he) p.1 hk (hm.okk p (List.mem_of_getElem? r));simp[WideElems.rg_of hr,strOf]
  rw[h2];exact hp.map _
theorem leB_cmp(x y:List UInt8):leB x y=true↔¬vP y x<0:=by
 have h:=bytesLess_eq y x;rw[bJ]at h;have h2:(vP y x<0)↔y<x:=by simpa using h
 show decide (x<=y)=true↔_;rw[decide_eq_true_eq,h2];exact Iff.rfl
theorem nT:∀ {L:List jE},g7 L->(L.map λp=>p.1.data.toList).Pairwise (λx y=>leB x y=true)
 | [],_=>by simp
 | x :: l,h=>by
  rw[List.map_cons,List.pairwise_cons];refine⟨λy hy=>?_,nT h.2⟩;obtain⟨z,hz,rfl⟩:=List.mem_map.1 hy;rw[leB_cmp];have h1:=h.1 z hz;have h2:=vj h1;unfold xY at h2
  rwa [ByteArray.toList_eq,ByteArray.toList_eq]at h2
theorem J2{L:List jE}(h:g7 L){ss:List (List UInt8)}(hp:ss.Perm (L.map λp=>p.1.data.toList)) :
  (ss.mergeSort (λx y=>decide (x<=y))).map encStr=L.map λp=>Value.string p.1:=by
 have e:ss.mergeSort leB=(L.map λp=>p.1.data.toList).mergeSort leB:=mergeSort_of_perm hp;have e2:(L.map λp=>p.1.data.toList).mergeSort leB=L.map λp=>p.1.data.toList:=List.mergeSort_of_pairwise (nT h);have e3:ss.mergeSort (λx y=>decide (x<=y))=L.map λp=>p.1.data.toList:=e.trans e2;rw[e3,List.map_map];rfl
theorem lkeys(w:World)(g b:Nat)(L:List jE)(h:xR w g b L)(hn:L.length<=1000000) :
  Calls Tryz.prog 126 #[.map (some b)] w λe w'=>∃v,e=.returned v/\w'.ownsRow w.heap.size 9 1 v L.length (L.map λp=>.string p.1)/\Below w.heap.size w w':=by
 obtain⟨D0,k,A,f⟩:=h.owns hn;have c1:=callsIn_wide.1 (Tryz.maps_Keys_197 (some b) w);have c2:=callsIn_wide.1 (Tryz.slices_Sorted_keys_196_197 b L.length D0 i6 w k (by simp only[maxLen];omega) oM);go_enter Tryz.func126,Tryz.ntmps126
 (go_wp2_with fail);refine c1.mono ?_;rintro e w' ⟨rfl,rfl⟩;(go_wp2_with fail);refine c2.mono ?_;rintro e w' ⟨v,ss,rfl,hS,d,s,hb⟩;(go_wp2_with fail);go_ret;have r:=hS.trans f;rw[J2 h.rows.1 r]at d;have m:ss.length=L.length:=by rw[r.length_eq,List.length_map]
 rw[m]at d;have t:Below w.heap.size w (w.alloc (.cells #[.map (some b)] 175)):=bA;refine⟨v,rfl,?_,yE t hb⟩;obtain⟨r1,r2⟩:=d;refine⟨r1,?_⟩;rcases r2 with r2 | ⟨q,cap,y,hv,hq,j⟩
 ·exact .inl r2
 ·exact .inr ⟨q,cap,y,hv,by simp at hq;omega,j⟩
end
theorem xR.look1{w:World}{g b:Nat}{L:List jE}(h:xR w g b L){p:jE}(hp:p∈L) :
  (Instr.lookup 175 (.map (some b)) (.string p.1) false).run Tryz.prog w=.ok (.agg (zV p.2)) w:=by
 obtain⟨M,es,f,hm,d⟩:=h.map;have hk:=(fY (h.rows.2 p hp)).1;exact hm.hit XV Tryz.underlying175 (by simp only[maxLen];omega) (d.mem_iff.2 hp) false
def iS(p:jE):jM:=⟨p.1,p.2.val⟩
def YU(L:List jE):List (Array Value):=L.map λp=>zS (iS p)
theorem J6{w:World}{B:Nat}{v:Value}{n:Nat}{L:List jE}(h:w.ownsRow B 9 1 v n (L.map λp=>.string p.1))(hn:n=L.length) :
  ∃A cap,v=.slice A n cap/\((A=none/\n=0)\/∃g,A=some ⟨g,0,none⟩/\B<=g/\g<w.heap.size/\∀i (hi:i<L.length),w.cell? ⟨g,i,none⟩=some (.string (L[i]).1)):=by
 obtain⟨h1,h2⟩:=h;rcases h2 with⟨rfl,h0⟩ | ⟨g,c,cur,rfl,hb,hg,hnc,hcm,hcs,htake⟩
 ·exact⟨none,0,by rw[h0],.inl ⟨rfl,h0⟩⟩
 ·refine⟨some ⟨g,0,none⟩,c,rfl,.inr ⟨g,rfl,hb,(aG hg).1,?_⟩⟩;intro i hi;rw[cell_of_row w g i _ _ _ hg];have e1:=congrArg (λl=>l[i]?) htake;simp only[List.getElem?_take,List.getElem?_map]at e1;rw[if_pos oM,List.getElem?_eq_getElem hi]at e1;simpa using e1
theorem llist(w:World)(g b:Nat)(L:List jE)(h:xR w g b L)(hn:L.length<=1000000) :
  Calls Tryz.prog 59 #[.pointer (some ⟨g,0,none⟩)] w λe w'=>∃A cap,e=.returned (.slice A L.length cap)/\Own w' w.heap.size 98 2 A L.length cap (YU L)/\Below w.heap.size w w':=by
 have hc:=h.cell;go_enter Tryz.func59,Tryz.ntmps59
 (go_wp2_with fail);refine(fX _ _ _ hc).mono ?_;rintro e w' ⟨rfl,rfl⟩;(go_wp2_with fail);refine(lkeys _ _ _ _ h hn).mono ?_;rintro e w1 ⟨v,rfl,m,hb⟩;obtain⟨KA,kc,rfl,d⟩:=J6 m rfl;have h1:=h.below hb;have Hk:=dH d;clear d m hc;(go_wp2_with fail);go_loopw [3,14] (λout i wr=>∃k A cap,k<=L.length/\i=.int .i64 (k:Nat)/\out=.slice A k cap/\Own wr w1.heap.size 98 2 A k cap (YU (L.take k))/\Below w1.heap.size w1 wr) (λ_ i _=>L.length-(intOf i).toNat)
 case atStart=>exact⟨0,none,0,zL,rfl,rfl,Own.nil _ _ _ _,Below.refl _ _⟩
 case round =>
  obtain⟨k,A,cap,hk,rfl,rfl,f,y⟩:=hrel;by_cases D:k<L.length
  ·obtain⟨q,rfl,hq,J,d⟩:∃q,KA=some ⟨q,0,none⟩/\w.heap.size<=q/\q<w1.heap.size/\Hid (∀i (hi:i<L.length),w1.cell? ⟨q,i,none⟩=some (.string (L[i]).1)):=by
    rcases Hk.out with⟨_,h0⟩ | h
    ·omega
    ·exact h
   have t:=(y.cell (p:=⟨q,k,none⟩) J).trans (d.out k D);have hr:=h1.below y;have O:=hr.cell;have hl:=hr.look1 (List.getElem_mem D);have E:YU (L.take (k+1))=YU (L.take k) ++ [zS (iS L[k])]:=by rw[List.take_add_one,List.getElem?_eq_getElem D];exact List.map_append
   have H:=dH E;clear E hr d Hk;obtain⟨⟨pk,ps⟩,hp⟩:∃p,L[k]=p:=⟨_,rfl⟩
   have Hp:=dH hp;rw[hp]at t hl H;clear hp;have G:Below wr.heap.size wr (wr.alloc (.cells (zS ⟨pk,ps.val⟩) 98)):=bA;have s:=f.below G;have j:z7 (wr.alloc (.cells (zS ⟨pk,ps.val⟩) 98)) wr.heap.size 0 2=some (zS ⟨pk,ps.val⟩):=by simp[go_sem]
   have I:=y.size;go_wp2_with (at_builtin;refine yM yP rfl s rfl j (qD _) oM oM sO ?_;intro A' cap' w2 r M F)
   have N:Below w1.heap.size w1 w2:=y.trans ((G.mono I).trans (M.below (B:=w1.heap.size) sO λx hx=>(f.at_base hx).1));(go_wp2_with fail);go_roundw
   case rel=>exact⟨k+1,A',cap',oM,by go_num,rfl,by rw[H.out];exact r,N⟩
   case measure=>exact sZ
  ·(go_wp2_with fail);go_ret;have e:k=L.length:=oM;subst e;rw[List.take_length]at f;exact⟨A,cap,rfl,f.mono hb.size,yE hb y⟩
section
open Go.RowKit Go.Sort Go.Shelf
@[go_sem] theorem bsIdZ_run(w:World):(bsS 50 0 #[]).run Tryz.prog w=.ok (.slice (some ⟨w.heap.size,0,none⟩) 0 0) (w.alloc (.cells #[] 39)):=dZ xI w
instance:Inhabited zE:=⟨id0⟩
theorem aE(w:World):(isAgg 39).run Tryz.prog w=.ok true w:=by simp[isAgg,run_underlying Tryz.underlying39]
theorem ZP(w:World):(Go.sizeOf 39).run Tryz.prog w=.ok 32 w:=by
 have h:=bU;cases hi:Tryz.prog.info? 39 with
 | none=>rw[hi]at h;cases h
 | some i =>
  rw[hi]at h;have hk:i.size=32:=by simpa using h
  simp[Go.sizeOf,typeInfo,hi,hk]
theorem l9:jH zI:=q6
theorem sort_ids(w:World)(B:Nat)(A:Option Addr)(n cap:Nat)(S L:List (zE))(d:Own w B 39 32 A n cap (S.map idC))(hp:S.Perm L)(hr:Ris zI L)(hn:L.length<=1000000) :
  Calls Tryz.prog 155 #[.slice A n cap,.func (.func 108) #[] #[]] w λe w'=>e=.returned (.tuple #[])/\Own w' B 39 32 A n cap (L.map idC)/\z6 (blk A) w w':=by
 have hl:S.length=n:=by simpa using d.len
 have k:=hp.length_eq;rcases d.addr with rfl | ⟨g,rfl⟩
 ·have r:n=0:=(d.cap_le.2 rfl).1;subst r;have hS:S = []:=List.eq_nil_of_length_eq_zero hl;subst hS;have hL:L = []:=List.eq_nil_of_length_eq_zero k.symm;subst hL;refine(AnyF.slices_SortFunc_none Tryz.laySortId none cap (.func (.func 108) #[] #[]) w).mono ?_;rintro e w' ⟨rfl,rfl⟩;exact⟨rfl,d,z6.refl _ _⟩
 ·subst hl;have hH:=own_holds (enc:=idC) oM kB d;have j:CmpLays Tryz.prog 108 #[] (λx:zE=>(idC x).toList) 32 zI g 0 S.toArray.size w:=λm os dk _ x y=>sU x y _;have s:g<w.heap.size:=(d.at_base (x:=g) (by simp[blk])).2;have f:=AnyQ.slices_SortFunc_total Tryz.laySortId 32 aE ZP (λx:zE=>(idC x).toList) sI (λx v hv=>xG x v hv) zI (XU l9) 108 #[] g 0 cap S.toArray w
   (enters_of Tryz.func108 kR rfl) j hH s sO (λx y h1 h2=>by
    simp only[ltOf,decide_eq_false_iff_not]at h1 h2;exact Classical.byContradiction λe=>h2 ((l9).flip h1 e))
  have e1:S.toArray.size=S.length:=sI;rw[e1]at f;refine f.mono ?_;rintro e w' ⟨rfl,n,os,rfl⟩;have e2:(S.toArray.toList.mergeSort λx y=>!(ltOf zI y x))=L:=tE l9 hr hp;rw[e2];obtain⟨h1,h2⟩:=lK (enc:=idC) oM kB d n L k.symm os;exact⟨rfl,h1,h2.mono (by simp[blk])⟩
theorem vl(w:World)(A:Option Addr)(n cap:Nat)(R:List zE)(h:zY w A n R)(hn:n<=1000000)(hA:A=none->cap=0) :
  Calls Tryz.prog 154 #[.slice A n cap] w λe w'=>∃A' cap',e=.returned (.slice A' n cap')/\Own w' w.heap.size 39 32 A' n cap' (R.map idC)/\Below w.heap.size w w':=by
 have D:∀(w:World) (a:Option Addr) (n c n' c':Nat),(binOp .eql 50 (.slice a n c) (.slice none n' c') ).run Tryz.prog w=.ok (.bool a.isNone) w:=λw a n c n' c'=>Lib.run_eql_slice_nil w _ _ a n c n' c' Tryz.underlying50;have j:R.length=n:=by simpa using h.1
 cases A with
 | none =>
  have E:n=0:=by
   rcases Nat.eq_zero_or_pos n with e | e
   ·exact e
   ·obtain⟨g,o,e',_⟩:=h.2 e;cases e'
  subst E;have hR:R = []:=List.eq_nil_of_length_eq_zero j;subst hR;clear h j;go_enter Tryz.func154,Tryz.ntmps154
  (go_wp2_with fail);go_ret;exact⟨none,0,rfl,Own.nil _ _ _ _,Below.refl _ _⟩
 | some a =>
  have B:Below w.heap.size w (w.alloc (.cells #[] 39)):=bA;have f:=Own.empty w w.heap.size 39 32 lR;have t:SlR (w.alloc (.cells #[] 39)) (some a) n 32 (R.map idC):=SlR.below h B;have m:∀r∈R.map idC,∀u∈r.toList,u.oneCell'=true:=by
   intro r hr;obtain⟨x,_,rfl⟩:=List.mem_map.1 hr;exact xG x
  clear j;go_enter Tryz.func154,Tryz.ntmps154
  go_wp2_with (at_builtin;refine yD xI rfl f rfl t hA m oM oM sI ?_;intro A2 s w2 d y k)
  simp only[Nat.zero_add,List.nil_append]at d;have F:Below w.heap.size w w2:=B.trans (y.below sI (by simp[blk]));clear f t y k h;(go_wp2_with fail);go_ret;exact⟨A2,s,sI,d,F⟩
theorem VV(w:World)(A:Option Addr)(n cap:Nat)(R:List zE)(h:zY w A n R)(hr:Ris zI R)(hn:n<=1000000) :
  Calls Tryz.prog 156 #[.slice A n cap] w λe w'=>e=.returned (.slice A n cap)/\Below w.heap.size w w':=by
 have s:R.length=n:=h.len;have d:=dH s;clear s;go_enter Tryz.func156,Tryz.ntmps156
 by_cases h2:n<2
 ·(go_wp2_with fail);go_ret;exact⟨rfl,Below.refl _ _⟩
 ·(go_wp2_with fail);go_loopw [3] (λi wr=>∃k:Nat,1<=k/\k<=n/\i=.int .i64 k/\Below w.heap.size w wr) (λi _=>n-(intOf i).toNat)
  case atStart=>exact⟨1,lR,oM,rfl,Below.refl _ _⟩
  case round =>
   obtain⟨k,G,hk,rfl,hb⟩:=hrel;by_cases r:k<n
   ·obtain⟨q,o,rfl,g⟩:=zY.get (SlR.below h hb) r (by rw[d.out];exact r);obtain⟨q',o',e',f⟩:=zY.get (SlR.below h hb) (i:=k-1) oM (by rw[d.out];omega);injection e' with e'
    injection e' with e1 e2
    subst e1;subst e2;have m:R[k]'(by rw[d.out];exact r)≠R[k-1]'(by rw[d.out];omega):=λe=>by
     have:=Q2 hr (i:=k-1) (j:=k) oM (by rw[d.out];exact r);rw[e,pY]at this;omega
    obtain⟨x,hx⟩:=eX (R[k]'(by rw[d.out];exact r))
    obtain⟨y,hy⟩:=eX (R[k-1]'(by rw[d.out];omega))
    rw[hx]at g m;rw[hy]at f m;have E:(x==y)=false:=by rw[beq_eq_false_iff_ne];exact m
    have B:((k:Int)-1)=((k-1:Nat):Int):=oM;obtain⟨k1,t⟩:=eX (k-1)
    rw[t]at f B;have D:k1<n:=oM;have F:IntKind.i64.wrap (k1:Int)=(k1:Int):=IntWalk.i64_in _ oM;have H:=dH t;clear hx hy m t;go_upto_region 6 with fail
    refine lX wr ?_;intro m hS;have b1:=zU g;have b2:=zU f;refine lZ ?_;refine zC ?_;intro hS;clear m hS b1 b2 g f;(go_wp2_with fail);go_roundw
    case rel=>exact⟨k+1,oM,oM,by go_num,hb.drew⟩
    case measure=>exact sZ
   ·(go_wp2_with fail);go_ret;exact⟨rfl,hb⟩
theorem nD(w:World)(A:Option Addr)(n cap:Nat)(S L:List zE)(h:zY w A n S)(hp:S.Perm L)(hr:Ris zI L)(hn:n<=1000000)(hA:A=none->cap=0) :
  Calls Tryz.prog 78 #[.slice A n cap] w λe w'=>∃A' cap',e=.returned (.slice A' L.length cap')/\Own w' w.heap.size 39 32 A' L.length cap' (L.map idC)/\Below w.heap.size w w':=by
 have k:L.length=n:=by rw[<-hp.length_eq];exact h.len
 have c1:=vl w A n cap S h hn hA;go_enter Tryz.func78,Tryz.ntmps78
 (go_wp2_with fail);refine c1.mono ?_;rintro e w1 ⟨A1,g,rfl,f,r⟩;have c2:=sort_ids w1 w.heap.size A1 n g S L f hp hr oM;clear c1;(go_wp2_with fail);refine c2.mono ?_;rintro e w2 ⟨rfl,d,t⟩;have B:Below w.heap.size w w2:=r.trans (t.below r.size (λx hx=>(f.at_base hx).1));have c3:=VV w2 A1 n g L d.slr hr hn;clear c2;(go_wp2_with fail);refine c3.mono ?_;rintro e w3 ⟨rfl,m⟩;have j:=d.below m;have y:=yE B m;have s:=dH k;clear c3 k;(go_wp2_with fail);go_ret;exact⟨A1,g,by rw[s.out];rfl,by rw[s.out];exact j,y⟩
end
section
open Go.RowKit Go.Sort Go.Shelf
theorem sR(w:World):(isAgg 184).run Tryz.prog w=.ok true w:=by simp[isAgg,run_underlying Tryz.underlying184]
theorem eJ(w:World):(Go.sizeOf 184).run Tryz.prog w=.ok 34 w:=by
 have h:=aJ;cases hi:Tryz.prog.info? 184 with
 | none=>rw[hi]at h;cases h
 | some i =>
  rw[hi]at h;have hk:i.size=34:=by simpa using h
  simp[Go.sizeOf,typeInfo,hi,hk]
theorem dW:jH xN:=dD
theorem KS(w:World)(B:Nat)(A:Option Addr)(n cap:Nat)(S L:List (xW))(d:Own w B 184 34 A n cap (S.map zF))(hp:S.Perm L)(hr:Ris xN L)(hn:L.length<=1000000) :
  Calls Tryz.prog 199 #[.slice A n cap,.func (.func 200) #[] #[]] w λe w'=>e=.returned (.tuple #[])/\Own w' B 184 34 A n cap (L.map zF)/\z6 (blk A) w w':=by
 have hl:S.length=n:=by simpa using d.len
 have k:=hp.length_eq;rcases d.addr with rfl | ⟨g,rfl⟩
 ·have r:n=0:=(d.cap_le.2 rfl).1;subst r;have hS:S = []:=List.eq_nil_of_length_eq_zero hl;subst hS;have hL:L = []:=List.eq_nil_of_length_eq_zero k.symm;subst hL;refine(AnyF.slices_SortFunc_none Tryz.laySortW none cap (.func (.func 200) #[] #[]) w).mono ?_;rintro e w' ⟨rfl,rfl⟩;exact⟨rfl,d,z6.refl _ _⟩
 ·subst hl;have hH:=own_holds (enc:=zF) oM k7 d;have j:CmpLays Tryz.prog 200 #[] (λx:xW=>(zF x).toList) 34 xN g 0 S.toArray.size w:=λm os dk _ x y=>morder x y _;have s:g<w.heap.size:=(d.at_base (x:=g) (by simp[blk])).2;have f:=AnyQ.slices_SortFunc_total Tryz.laySortW 34 sR eJ (λx:xW=>(zF x).toList) sI (λx v hv=>j3 x v hv) xN (XU dW) 200 #[] g 0 cap S.toArray w
   (enters_of Tryz.func200 kR rfl) j hH s sO (λx y h1 h2=>by
    simp only[ltOf,decide_eq_false_iff_not]at h1 h2;exact Classical.byContradiction λe=>h2 ((dW).flip h1 e))
  have e1:S.toArray.size=S.length:=sI;rw[e1]at f;refine f.mono ?_;rintro e w' ⟨rfl,n,os,rfl⟩;have e2:(S.toArray.toList.mergeSort λx y=>!(ltOf xN y x))=L:=tE dW hr hp;rw[e2];obtain⟨h1,h2⟩:=lK (enc:=zF) oM k7 d n L k.symm os;exact⟨rfl,h1,h2.mono (by simp[blk])⟩
theorem zy(wS:World)(g b bo:Nat)(L:List xW)(O:List zE)(h:qB wS g b bo L O)(hn:L.length<=1000000) :
  Calls Tryz.prog 127 #[.pointer (some ⟨g,0,none⟩)] wS λe w'=>∃A cap,e=.returned (.slice A L.length cap)/\Own w' wS.heap.size 184 34 A L.length cap (L.map zF)/\Below wS.heap.size wS w':=by
 have a7:=h.live.lt;have hc:=h.cell0;have hr:=h.risX;obtain⟨w0,j,hR,U,a5⟩:=yS.range (P:=Tryz.prog) (kv:=lY) (ok:=okM) h.live Tryz.underlying269;go_enter Tryz.func127,Tryz.ntmps127
 (go_wp2_with fail);refine(pP wS g b hc).mono ?_;rintro e w1 ⟨rfl,rfl⟩;(go_wp2_with fail);clear j hc h;go_loopw [3] (λout wr=>∃S A cap,out=.slice A S.length cap/\jW wr b wS.heap.size lY okM L S/\Own wr w0.heap.size 184 34 A S.length cap (S.map zF)/\Below wS.heap.size wS wr/\w0.heap.size<=wr.heap.size) (λ_ wr=>wr.rangeLeft b wS.heap.size)
 case atStart=>exact⟨[],none,0,rfl,hR,Own.nil _ _ _ _,U,lR⟩
 case round =>
  obtain⟨S,A,cap,rfl,hR,d,hb,a4⟩:=hrel;rcases hR.next (P:=Tryz.prog) 0 with⟨hall,H,j⟩ | ⟨x,w1,hxL,hxS,j,hR1,hk1,hs1,hl1,hen⟩
  focus
   have hp:S.Perm L:=(List.perm_ext_iff_of_nodup H (hr.nodup dD)).2 hall;have R:=hp.length_eq;have a2:=dH hall;have a3:=dH R;clear hall R;have m:=KS wr w0.heap.size A S.length cap S L d hp hr hn;(go_wp2_with fail);refine m.mono ?_;rintro e w2 ⟨rfl,f,V⟩;clear j;(go_wp2_with fail);go_ret;rw[a3.out]at f |-;exact⟨A,cap,rfl,f.mono oM,hb.trans (V.below (B:=wS.heap.size) oM λx hx=>oH ((d.at_base hx).1))⟩
  have a8:S.length+1<=1000000:=by
   obtain⟨M,Z,hZ,T,_,a0,H⟩:=hR1;have h1:=hZ.length;have h2:(Z.map (·.1)).length=(S ++ [x]).length:=by rw[a0]
   have h3:(M.map (·.1)).length<=L.length:=kY H (λy hy=>(T y).1 hy);simp at h2 h3;omega
  have s:Own w1 w0.heap.size 184 34 A S.length cap (S.map zF):=d.kept hk1 (λy hy=>oS ((d.at_base hy).1));have Y:Below wS.heap.size wS w1:=hb.trans (hk1.below (B:=wS.heap.size) oM sI);have D:Below w1.heap.size w1 ((w1.alloc (.cells (zF x) 184)).alloc (.cells (zF x) 184)):=(bA).alloc sI _;have f:=s.below D;have r:z7 ((w1.alloc (.cells (zF x) 184)).alloc (.cells (zF x) 184)) (w1.heap.size+1) 0 34=some (zF x):=by simp[go_sem]
  change (Instr.next _ _ _).run Tryz.prog wr=.ok (.tuple #[.bool true,.agg (zF x),.bool true]) w1 at j;change (Instr.entry _).run Tryz.prog w1=.ok (.tuple #[.agg (zF x),.bool true]) w1 at hen;have F:=dH hs1;clear hs1;go_wp2_with (at_builtin;refine yM nE rfl f rfl r (j3 _) oM oM (by simp;have:=F.out;omega) ?_;intro A' cap' w2 t E I)
  have N:b∉blk A:=λhx=>(oH ((d.at_base hx).1));have J:wS.heap.size∉blk A:=λhx=>(oH ((d.at_base hx).1));have k:=hR1.kept (z6.of_below D) sI sI;have a1:=k.kept E N J;have a6:w2.rangeLeft b wS.heap.size=w1.rangeLeft b wS.heap.size :=
   (xB E N J k.lt.2 k.lt.1).trans (xB (z6.of_below D) sI sI hR1.lt.2 hR1.lt.1)
  have G:w0.heap.size<=w2.heap.size:=by
   have e1:=D.size;have e2:=E.size;have e3:=F.out;omega
  have X:Below wS.heap.size wS w2:=Y.trans ((D.mono (oH F.out)).trans (E.below (B:=wS.heap.size) (by simp;have:=F.out;omega) λy hy=>oH ((d.at_base hy).1)));clear j hen;(go_wp2_with fail);go_roundw
  case rel=>exact⟨S ++ [x],A',cap',sI,a1,by simpa using t,X,G⟩
  case measure=>omega
end
@[go_sem ↓] theorem slPair_rw(x:Value)(lo hi mx:Option Value):Instr.sliceAt 23 x lo hi mx=slS 23 x lo hi mx:=rfl
section
open Go.RowKit
section
variable {P:Program} {T E:TypeId} {k bytes:Nat}
theorem ZJ{z:Array Value}{n:Nat}(hz:0<z.size)(h1:∀u∈z.toList,u.oneCell'=true):∀u∈(Builtin.zeroCells z n).toList,u.oneCell'=true:=by
 intro u hu;unfold Builtin.zeroCells at hu;simp only[Array.toList_map,List.mem_map]at hu;obtain⟨i,_,rfl⟩:=hu;have hi:i % z.size<z.size:=Nat.mod_lt _ hz;rw[getElem!_pos z _ hi];exact h1 _ sI
theorem qs(I:xH P T E k bytes){z:Value}(hz:(P.info? E).bind (·.zero)=some z)(a0:∀u∈z.cells.toList,u.oneCell'=true){w:World}{B g n cap m:Nat}{L:List (Array Value)}(h:Own w B E k (some ⟨g,0,none⟩) n cap L)(hm:m<=n)(ty:TypeId) :
  ∃A2 c2,(∀w0:World,(slS T (.slice (some ⟨g,0,none⟩) n cap) (some (.int .i64 m)) none none).run P w0=.ok (.slice A2 (n-m) c2) w0) /\
   ∃w',(Builtin.clear_ #[T] ty #[.slice A2 (n-m) c2]).run P w=.ok (.tuple #[]) w'/\Own w' B E k (some ⟨g,0,none⟩) m cap (L.take m)/\z6 [g] w w':=by
 have hA:=h.cap_le;have F:∀w0:World,(slS T (.slice (some ⟨g,0,none⟩) n cap) (some (.int .i64 m)) none none).run P w0=.ok (.slice (if cap=m then some ⟨g,0,none⟩ else some ⟨g,m*k,none⟩) (n-m) (cap-m)) w0:=by
  intro w0;rw[lD I];unfold Instr.slice Instr.sliceBounds;simp only[Sem.run_bind,run_underlying I.und,Result.andThen_ok,Sem.run_pure,bX w0 m n hm,I.sizeOf_run w0,Option.isSome_none,Bool.false_eq_true,if_false];congr 3
  show some ((⟨g,0,none⟩:Addr).add (m*k))=_;unfold Addr.add;split <;> simp_all
 refine⟨_,_,F,?_⟩;have N:=h;have a5:=kQ L k h.size;have hL:=h.len;have b2:=h.size;obtain⟨⟨h1,h2⟩,_,hs⟩:=h;rcases h2 with⟨h2,_⟩ | ⟨g',c,cur,hv,hb,hg,hnc,hcm,hcsz,htake⟩
 ·cases h2
 injection hv with t _ hc
 injection t with t
 injection t with t
 subst t;subst hc;have a4:m*k<=n*k:=Nat.mul_le_mul_right k hm;have b3:n*k<=cur.size:=by rw[hcsz];exact Nat.mul_le_mul_right k hnc
 have a1:(L.take m).flatMap Array.toList=(L.flatMap Array.toList).take (m*k):=by
  apply List.ext_getElem?;intro j;have O:(L.take m).length=m:=sO;have a6:=kQ (L.take m) k (λc hc=>hs c (List.mem_of_mem_take hc));rw[O]at a6;by_cases hj:j<m*k
  ·rw[List.getElem?_take,if_pos hj];have R:=I.pos;have hi:j / k<m:=Nat.div_lt_of_lt_mul (by rw[Nat.mul_comm];exact hj);have hr:j % k<k:=Nat.mod_lt _ R;have he:j=j / k*k+j % k:=by rw[Nat.mul_comm];exact(Nat.div_add_mod j k).symm
   rw[he,tX (L.take m) k (λc hc=>hs c (List.mem_of_mem_take hc)) (j / k) (j % k) (by rw[O];exact hi) hr,tX L k hs (j / k) (j % k) oM hr];congr 1
   rw[List.getElem_take]
  ·rw[List.getElem?_eq_none oM,List.getElem?_eq_none sO]
 have s:∀w' f,w'.heap[g]?=some (.cells f E (0,0))->f.size=cap*k->f.toList.take (m*k)=cur.toList.take (m*k)->Own w' B E k (some ⟨g,0,none⟩) m cap (L.take m):=by
  intro w' f a8 G D;refine⟨⟨?_,.inr ⟨g,cap,f,rfl,hb,a8,oM,hcm,G,?_⟩⟩,sO,λc hc=>hs c (List.mem_of_mem_take hc)⟩
  ·rw[kQ _ k (λc hc=>hs c (List.mem_of_mem_take hc)),List.length_take,hL,Nat.min_eq_left hm]
  ·rw[D,a1,<-htake,List.take_take,Nat.min_eq_left a4]
 by_cases a3:m=n
 ·subst a3;refine⟨w,?_,s w cur hg hcsz rfl,(z6.refl _ _)⟩;rw[Nat.sub_self];obtain⟨A2,b1⟩:∃A2,(if cap=m then(some ⟨g,0,none⟩:Option Addr)else some ⟨g,m*k,none⟩)=A2:=⟨_,rfl⟩
  rw[b1];cases A2 <;> simp[Builtin.clear_,run_underlying I.und]
 ·have H:¬cap=m:=oM;rw[if_neg H];obtain⟨X,z',r,M,a7,b4,A⟩:=I.info;have Y:z'=z:=by
   rw[r]at hz;have:X.zero=some z:=hz;rw[M]at this;injection this
  subst Y;have R:=I.pos;have y:=run_storeCells_at P g (m*k) E (Builtin.zeroCells z'.cells (n-m)).toList 0 cur w hg (by
   simp only[Nat.add_zero,Array.length_toList,size_zeroCells,A];have:m*k+(n-m)*k=n*k:=by rw[<-Nat.add_mul];congr 1;omega
   omega) (ZJ oM a0)
  simp only[Nat.add_zero,Array.length_toList,size_zeroCells,A]at y;have a2:m*k+(n-m)*k=n*k:=by rw[<-Nat.add_mul];congr 1;omega
  have U:(Builtin.zeroCells z'.cells (n-m)).toList.length=(n-m)*k:=by rw[Array.length_toList,size_zeroCells,A]
  have V:cur.toList.length=cap*k:=by rw[Array.length_toList];exact hcsz
  obtain⟨NC,J⟩:=eX ((cur.toList.take (m*k)++(Builtin.zeroCells z'.cells (n-m)).toList++cur.toList.drop (m*k+(n-m)*k)).toArray)
  rw[J]at y;have b0:NC.size=cap*k:=by
   rw[<-J];simp only[List.size_toArray,List.length_append,List.length_take,List.length_drop,U,V];omega
  have a9:NC.toList.take (m*k)=cur.toList.take (m*k):=by
   rw[<-J];show List.take (m*k) (cur.toList.take (m*k)++(Builtin.zeroCells z'.cells (n-m)).toList++cur.toList.drop (m*k+(n-m)*k))=_;rw[List.append_assoc,List.take_append_of_le_length (by rw[List.length_take,V];omega),List.take_take,Nat.min_self]
  refine⟨w.setRow g NC,?_,s _ _ (setRow_heap w g cur NC E (0,0) hg) b0 a9,⟨rfl,rfl,rfl,by simp[World.setRow],λx _ hx=>setRow_other w g x _ (by simpa using hx)⟩⟩;obtain⟨d,hd⟩:∃d,n-m=d+1:=⟨n-m-1,oM⟩
  rw[hd]at y |-;have Z:(zeroValue E).run P w=.ok z' w:=by simp[zeroValue,typeInfo,r,M]
  simp[Builtin.clear_,run_underlying I.und,Z,y]
end
end
def gD(x y:jM):Bool:=(x.key.toList==y.key.toList)&&(x.val.toList==y.val.toList)
theorem bR(x y:jM):gD x y=true↔x=y:=by
 unfold gD;simp only[Bool.and_eq_true,beq_iff_eq,toList_inj];exact⟨λh=>K8 h,λh=>by subst h;exact⟨rfl,rfl⟩⟩
theorem XC(x y:jM)(w:World):(Op.equalIn 10000 98 (.agg (zS x)) (.agg (zS y))).run Tryz.prog w=.ok (gD x y) w:=by
 rw[show(10000:Nat)=9999+1 from rfl,run_equalIn_agg w 9999 98 _ _ pX kR];unfold gD;have e1:=run_equalIn_string (P:=Tryz.prog) w 9998 9 x.key y.key Tryz.underlying9;have e2:=run_equalIn_string (P:=Tryz.prog) w 9998 9 x.val y.val Tryz.underlying9;simp only[Program.fieldsOf,Tryz.underlying98];simp[Op.eqFields,part,asAgg,isAgg,go_sem,Tryz.underlying9,e1,e2];by_cases h1:x.key.toList=y.key.toList <;> by_cases h2:x.val.toList=y.val.toList <;> simp[h1,h2]
@[go_sem ↓] theorem neqPair_run(x y:jM)(w:World):(binOp .neq 98 (.agg (zS x)) (.agg (zS y))).run Tryz.prog w=.ok (.bool (!(gD x y))) w:=by
 rw[run_neq_struct,XC];rfl
def vS(w:World)(A:Option Addr)(n:Nat)(L:List jM):Prop:=SlR w A n 2 (L.map zS)
theorem vS.get{w:World}{A:Option Addr}{n:Nat}{R:List jM}(h:vS w A n R){i:Nat}(hi:i<n)(hR:i<R.length) :
  ∃g o,A=some ⟨g,o,none⟩/\z7 w g (o+i*2) 2=some (zS R[i])/\w.cell? ⟨g,o+i*2,none⟩=some (.string (R[i]).key)/\w.cell? ⟨g,o+i*2+1,none⟩=some (.string (R[i]).val):=by
 obtain⟨g,o,e,hr⟩:=SlR.at_ h hi;rw[List.getElem_map]at hr;refine⟨g,o,e,hr,?_,?_⟩
 ·have:=z8 hr (j:=0) oM
  rwa [rG]at this
 ·have:=z8 hr (j:=1) oM
  rwa [iT]at this
theorem vS.len{w:World}{A:Option Addr}{n:Nat}{R:List jM}(h:vS w A n R):R.length=n:=by simpa using h.1
theorem rpairs(w:World)(A B:Option Addr)(n m cap cap':Nat)(X Y:List jM)(hx:vS w A n X)(hy:vS w B m Y)(hn:n<=1000000)(hm:m<=1000000) :
  Calls Tryz.prog 50 #[.slice A n cap,.slice B m cap'] w λe w'=>e=.returned (.bool (decide (X=Y)))/\Below w.heap.size w w':=by
 have s:=hx.len;have r:=hy.len;have j:=dH s;have g:=dH r;by_cases G:n=m
 ·subst G;clear s r;go_enter Tryz.func50,Tryz.ntmps50
  (go_wp2_with fail);go_loopw [5] (λi wr=>∃k:Nat,k<=n/\i=.int .i64 k/\Hid (X.take k=Y.take k)/\Below w.heap.size w wr) (λi _=>n-(intOf i).toNat)
  case atStart=>exact⟨0,zL,rfl,rfl,Below.refl _ _⟩
  case round =>
   obtain⟨k,hk,rfl,H,hb⟩:=hrel;by_cases d:k<n
   ·obtain⟨q,o,rfl,hr,_,_⟩:=vS.get (SlR.below hx hb) d (by rw[j.out];exact d);obtain⟨q2,o2,rfl,F,_,_⟩:=vS.get (SlR.below hy hb) d (by rw[g.out];exact d);have hX:X.take (k+1)=X.take k ++ [X[k]'(by rw[j.out];exact d)]:=by rw[List.take_add_one,List.getElem?_eq_getElem (by rw[j.out];exact d)];rfl
    have hY:Y.take (k+1)=Y.take k ++ [Y[k]'(by rw[g.out];exact d)]:=by rw[List.take_add_one,List.getElem?_eq_getElem (by rw[g.out];exact d)];rfl
    obtain⟨x,D⟩:=eX (X[k]'(by rw[j.out];exact d))
    obtain⟨y,t⟩:=eX (Y[k]'(by rw[g.out];exact d))
    rw[D]at hr hX;rw[t]at F hY;have HX:=dH hX;have HY:=dH hY;clear hX hY;have O:=dH D;have N:=dH t;clear D t;go_upto_region 6 with fail
    refine lX wr ?_;intro f hS;have b1:=zU hr;have b2:=zU F;refine lZ ?_;refine zC ?_;intro hS;clear f hS b1 b2 hr F;have I:Below w.heap.size w wr.drew:=hb.drew;cases hpe:gD x y with
    | true =>
     have e:=(bR x y).1 hpe;have E:=dH e;clear e;(go_wp2_with fail);go_roundw
     case rel=>exact⟨k+1,oM,by go_num,(show X.take (k+1)=Y.take (k+1) by rw[HX.out,HY.out,H.out,E.out]),I⟩
     case measure=>exact sZ
    | false =>
     have f:X≠Y:=by
      intro e;subst e;have:x=y:=O.out.symm.trans N.out;rw[(bR x y).2 this]at hpe;cases hpe
     have hd:=dH (decide_eq_false f);clear f;(go_wp2_with fail);go_ret;exact⟨yF (by rw[hd.out]),I⟩
   ·have M:k=n:=oM;have e:X=Y:=by
     have:=H.out
     rwa [List.take_of_length_le (by rw[j.out];omega),List.take_of_length_le (by rw[g.out];omega)]at this
    have E:=dH (decide_eq_true e);clear e M;(go_wp2_with fail);go_ret;exact⟨yF (by rw[E.out]),hb⟩
 ·have f:X≠Y:=by intro e;subst e;exact G (s.symm.trans r)
  have hd:=dH (decide_eq_false f);have L:(n==m)=false:=by simpa using G
  have J:((n:Int)==(m:Int))=false:=by rw[beq_eq_false_iff_ne];omega
  clear s r f;go_enter Tryz.func50,Tryz.ntmps50
  (go_wp2_with fail);go_ret;exact⟨yF (by rw[hd.out]),Below.refl _ _⟩
section
open Go.RowKit Go.Sort Go.Shelf
instance:Inhabited jM:=⟨wG⟩
@[go_sem ↓] theorem eqPair_run(x y:jM)(w:World):(Op.equalIn 10000 98 (.agg (zS x)) (.agg (zS y))).run Tryz.prog w=.ok (gD x y) w:=XC x y w
def xT(x y:jM):Int:=orL [xY x.key y.key,xY x.val y.val]
theorem kW:jH xT:=(sA.pair sA).of (λx:jM=>(x.key,x.val)) (λx y h=>by
 cases x;cases y
 simp only[Prod.mk.injEq]at h;obtain⟨h1,h2⟩:=h;subst h1;subst h2;rfl) (λx y=>orL2 _ _)
theorem Own.hi_at{P:Program}{T E:TypeId}{k bytes:Nat}(I:xH P T E k bytes){w:World}{B g n cap:Nat}{L:List (Array Value)}(h:Own w B E k (some ⟨g,0,none⟩) n cap L){m:Nat}(hm:m<n)(w0:World) :
  (slS T (.slice (some ⟨g,0,none⟩) n cap) (some (.int .i64 m)) none none).run P w0=.ok (.slice (some ⟨g,m*k,none⟩) (n-m) (cap-m)) w0:=by
 have hA:=h.cap_le;rw[lD I];unfold Instr.slice Instr.sliceBounds;simp only[Sem.run_bind,run_underlying I.und,Result.andThen_ok,Sem.run_pure,bX w0 m n (Nat.le_of_lt hm),I.sizeOf_run w0,Option.isSome_none,Bool.false_eq_true,if_false];rw[if_neg oM];congr 2
 show some ((⟨g,0,none⟩:Addr).add (m*k))=_;unfold Addr.add;split <;> simp_all
theorem Own.get{α:Type}[Inhabited α]{enc:α->Array Value}{w:World}{B g n cap k:Nat}{E:TypeId}{d:Array α}(h:Own w B E k (some ⟨g,0,none⟩) n cap (d.toList.map enc)){j:Nat}(hj:j<n):z7 w g (j*k) k=some (enc d[j]!):=by
 have hl:d.size=n:=by simpa using h.len
 obtain⟨q,o,e,hr⟩:=h.slr.at_ hj;injection e with e;injection e with e1 e2
 subst e1;subst e2;rw[Nat.zero_add]at hr;rw[hr,List.getElem_map,getElem!_pos d j oM]
 simp
theorem Y1(w:World)(B g n cap:Nat)(R:List jM)(F:Own w B 98 2 (some ⟨g,0,none⟩) n cap (R.map zS))(hn:n<=1000000)(hs:R.Pairwise (λx y=>¬xT y x<0)) :
  Calls Tryz.prog 131 #[.slice (some ⟨g,0,none⟩) n cap] w λe w'=>e=.returned (.slice (some ⟨g,0,none⟩) (yB xT R).length cap)/\Own w' B 98 2 (some ⟨g,0,none⟩) (yB xT R).length cap ((yB xT R).map zS)/\z6 [g] w w':=by
 have L:R.length=n:=by simpa using F.len
 rw[<-mN kW R hs];obtain⟨d,hd⟩:=eX R.toArray
 have c8:R=d.toList:=by rw[<-hd]
 have a6:d.size=n:=by rw[<-hd];simpa using L
 have c6:Lib.compact R=Lib.compactUpTo d n:=by unfold Lib.compact;rw[hd,L]
 rw[c6];rw[c8]at F;have I:(∀j,j<n->Lib.keeps d j=true)->Lib.compactUpTo d n=d.toList:=λh=>by
  rw[Lib.compactUpTo_all d n h,<-a6];exact Lib.range_map_get d
 have b3:=dH a6;clear hd c8 c6 hs L a6;have f2:g<w.heap.size:=(F.at_base (x:=g) (by simp[blk])).2;go_enter Tryz.func131,Tryz.ntmps131
 by_cases h2:n<2
 ·have he:=I (λj hj=>by
   have:j=0:=by
    by_cases h1:j=0
    ·exact h1
    ·have a5:j=1:=oM;omega
   subst this;simp[Lib.keeps])
  have He:=dH he;clear he I;(go_wp2_with fail);go_ret;rw[He.out];have hl:d.toList.length=n:=by rw[Array.length_toList];exact b3.out
  exact⟨by rw[hl];rfl,by rw[hl];exact F,z6.refl _ _⟩
 ·(go_wp2_with fail);go_loopw [3] (λi wr=>∃k:Nat,1<=k/\k<=n/\i=.int .i64 k/\Hid (∀j,j<k->Lib.keeps d j=true)/\Below w.heap.size w wr) (λi _=>n-(intOf i).toNat)
  case atStart=>exact⟨1,lR,oM,rfl,(show ∀j,j<1->_ from Lib.keeps_lt_one d),Below.refl _ _⟩
  case round =>
   obtain⟨k,f1,hk,rfl,N,hb⟩:=hrel;have t:=F.below hb;by_cases b6:k<n
   ·have H:=t.get b6;have G:=t.get (j:=k-1) oM;obtain⟨x,hx⟩:=eX (d[k]!)
    obtain⟨y,hy⟩:=eX (d[k-1]!)
    rw[hx]at H;rw[hy]at G;obtain⟨k1,a4⟩:=eX (k-1)
    have e2:((k:Int)-1)=(k1:Int):=oM;have e1:k1<n:=oM;have e7:IntKind.i64.wrap (k1:Int)=(k1:Int):=IntWalk.i64_in _ oM;rw[a4]at G;obtain⟨eb,c1⟩:=eX (gD x y)
    have d1:=dH c1;have Hx:=dH hx;have Hy:=dH hy;have f3:=dH a4;clear hx hy a4;go_upto_region 6 with fail
    refine lX wr ?_;intro O hS;have b1:=zU H;have b2:=zU G;refine lZ ?_;refine zC ?_;intro hS;have a7:Below w.heap.size w wr.drew:=hb.drew;have E:Own wr.drew B 98 2 (some ⟨g,0,none⟩) n cap (d.toList.map zS):=t.kept (z6.drew wr) sI;clear O hS b1 b2 H G c1 hb t;obtain⟨W,hW⟩:=eX wr.drew
    rw[hW]at a7 E |-;clear hW;cases eb with
    | false =>
     have O:d[k]!≠d[k-1]!:=by
      rw[Hx.out,Hy.out];intro e;have:=(bR x y).2 e;rw[d1.out]at this;cases this
     have T:=Lib.keeps_pos O;have a8:=dH T;clear O T;(go_wp2_with fail);go_roundw
     case rel=>exact⟨k+1,oM,oM,by go_num,(show ∀j,j<k+1->Lib.keeps d j=true from λj hj=>by
      by_cases e:j=k
      ·rw[e];exact a8.out
      ·exact N.out j oM),a7⟩
     case measure=>exact sZ
    | true =>
     have X:d[k]! = d[k-1]!:=by rw[Hx.out,Hy.out];exact(bR x y).1 d1.out
     have A:=Lib.CompInv.start N.out (Lib.keeps_neg oM X);have a9:=dH A;have e9:=λw0=>E.hi_at (P:=Tryz.prog) yP b6 w0;clear X A;(go_wp2_with fail);go_loopw [3,5] (λkv iv ws=>∃(k2 kk:Nat) (dk:Array jM),1<=k2/\k2<=n-k/\iv=.int .i64 k2/\kv=.int .i64 kk/\Hid (Lib.CompInv d (k+k2) kk dk)/\Own ws B 98 2 (some ⟨g,0,none⟩) n cap (dk.toList.map zS)/\z6 [g] w ws/\kk<k+k2) (λ_ iv _=>(n-k)-(intOf iv).toNat)
     case atStart=>exact⟨1,k,d,lR,oM,rfl,rfl,a9,E,(z6.of_below a7).mono sI,oM⟩
     case round =>
      obtain⟨k2,kk,dk,e0,d9,rfl,rfl,A,f,a3,d7⟩:=hrel;by_cases d5:k2<n-k
      ·have Z:dk.size=n:=by simpa using f.len
       have H:=f.get (j:=k+k2) oM;have G:=f.get (j:=k+k2-1) oM;obtain⟨x2,a0⟩:=eX (dk[k+k2]!)
       obtain⟨y2,U⟩:=eX (dk[k+k2-1]!)
       have c4:d[k+k2]! = x2:=by rw[<-a0];exact(A.out.high _ oM).symm
       have c3:d[k+k2-1]! = y2:=by rw[<-U];exact(A.out.high _ oM).symm
       rw[a0]at H;rw[U]at G;obtain⟨j1,a5⟩:=eX (k2-1)
       have e4:((k2:Int)-1)=(j1:Int):=oM;have e3:j1<n-k:=oM;have d3:IntKind.i64.wrap (j1:Int)=(j1:Int):=IntWalk.i64_in _ oM;rw[(oM:k+k2-1=k+j1),Nat.add_mul]at G;rw[Nat.add_mul]at H;obtain⟨nb,b5⟩:=eX (gD x2 y2)
       have c9:=dH b5;have b0:=dH c4;have d2:=dH c3;have f4:=dH a5;have f5:=dH Z;clear a0 U a5 c4 c3 Z;go_upto_region 11 with fail
       refine lX wr ?_;intro O hS;have b1:=zU H;have b2:=zU G;refine lZ ?_;refine zC ?_;intro hS;have M:z6 [g] w wr.drew:=z6.trans a3 (z6.drew wr) sI;have s:Own wr.drew B 98 2 (some ⟨g,0,none⟩) n cap (dk.toList.map zS):=f.kept (z6.drew wr) sI;have a1:z7 wr.drew g (k*2+k2*2) 2=some (zS x2):=H;clear O hS b1 b2 H G b5 a3 f;obtain⟨W2,c7⟩:=eX wr.drew
       rw[c7]at M s a1 |-;clear c7;cases nb with
       | true =>
        have X:d[k+k2]! = d[k+k2-1]!:=by rw[b0.out,d2.out];exact(bR x2 y2).1 c9.out
        have b4:=A.out.skip (Lib.keeps_neg oM X);have e6:=dH b4;clear X b4;(go_wp2_with fail);go_roundw
        case rel=>exact⟨k2+1,kk,dk,oM,oM,by go_num,rfl,(show Lib.CompInv d (k+(k2+1)) kk dk from e6.out),s,M,oM⟩
        case measure=>exact sZ
       | false =>
        have V:d[k+k2]!≠d[k+k2-1]!:=by
         rw[b0.out,d2.out];intro e;have:=(bR x2 y2).2 e;rw[c9.out]at this;cases this
        have T:=A.out.keep (by rw[b3.out];omega) (Lib.keeps_pos V);rw[b0.out]at T;have a8:=dH T;clear V T;obtain⟨w7,e8,J,c0⟩:=YM yP s (i:=kk) oM (cs:=zS x2) sI (qD x2);have b8:(dk.toList.map zS).set kk (zS x2)=(dk.setIfInBounds kk x2).toList.map zS:=by
         rw[Array.toList_setIfInBounds,List.map_set]
        rw[b8]at J;have a2:=z6.trans M c0 iL;have d6:kk<n:=oM;clear b8 c0 s;(go_wp2_with fail);go_roundw
        case rel=>exact⟨k2+1,kk+1,_,oM,oM,by go_num,by go_num,(show Lib.CompInv d (k+(k2+1)) (kk+1) _ from a8.out),J,a2,oM⟩
        case measure=>exact sZ
      ·have hm:k+k2=n:=oM;have r:=A.out;rw[hm]at r;have d6:kk<n:=oH r.lt;have Z:dk.size=n:=by simpa using f.len
       have c5:dk.toList.take kk=Lib.compactUpTo d n:=by
        apply List.ext_getElem?;intro j;by_cases hj:j<kk
        ·rw[r.low j hj,List.getElem?_take,if_pos hj,Array.getElem?_toList,getElem!_pos dk j oM,Array.getElem?_eq_getElem oM]
        ·rw[List.getElem?_eq_none sO,List.getElem?_eq_none (by rw[r.len];omega)]
       obtain⟨A2,c2,d4,w8,e5,D,b9⟩:=qs yP (z:=.agg (zS wG)) kR (qD wG) f (m:=kk) oM 0;rw[<-List.map_take,c5]at D;have b7:(Lib.compactUpTo d n).length=kk:=r.len;have f0:=λw0=>SlW.lo (P:=Tryz.prog) yP f.slw (m:=kk) oM w0;have d8:=z6.trans a3 b9 iL;have d0:=dH b7;have Y:=dH D;clear c5 r b7 D Z hm b9 f;(go_wp2_with fail);go_ret;exact⟨by rw[d0.out];rfl,by rw[d0.out];exact Y.out,d8⟩
   ·have he:=I (λj hj=>N.out j oM);have He:=dH he;clear he I;(go_wp2_with fail);go_ret;rw[He.out];have hl:d.toList.length=n:=by rw[Array.length_toList];exact b3.out
    exact⟨by rw[hl];rfl,by rw[hl];exact t,(z6.of_below hb).mono sI⟩
end
section
open Go.RowKit Go.Sort Go.Shelf
def nW(S:List jM):List jM:=S.mergeSort λx y=>!(ltOf xT y x)
theorem psort_le(S:List jM):(nW S).Pairwise (λx y=>¬xT y x<0):=by
 have f:∀a b:jM,((!ltOf xT b a) || !ltOf xT a b)=true:=λa b=>by
  unfold ltOf;by_cases h1:xT b a<0
  ·have:=kW.asym h1;simp[this]
  ·simp[h1]
 have g:∀a b d:jM,(!ltOf xT b a)=true->(!ltOf xT d b)=true->(!ltOf xT d a)=true:=λa b d h1 h2=>by
  unfold ltOf at *;simp only[Bool.not_eq_true',decide_eq_false_iff_not]at h1 h2 |-;intro h3;exact h2 (kW.le_trans (a:=d) (b:=a) (d:=b) (kW.asym h3) (by
   by_cases e:a=b
   ·subst e;exact absurd h3 h2
   ·exact kW.flip h1 (λe'=>e e'.symm)))
 exact List.Pairwise.imp (fun {a b} h=>by simpa[ltOf]using h) (List.pairwise_mergeSort g f S)
theorem iO(S:List jM):(nW S).Perm S:=List.mergeSort_perm _ _
theorem jp(w:World):(isAgg 98).run Tryz.prog w=.ok true w:=by simp[isAgg,run_underlying Tryz.underlying98]
theorem KU(w:World):(Go.sizeOf 98).run Tryz.prog w=.ok 2 w:=by
 have h:=aI;cases hi:Tryz.prog.info? 98 with
 | none=>rw[hi]at h;cases h
 | some i =>
  rw[hi]at h;have hk:i.size=2:=by simpa using h
  simp[Go.sizeOf,typeInfo,hi,hk]
theorem mpcmp(x y:jM)(w:World):Calls Tryz.prog 129 #[.agg (zS x),.agg (zS y)] w λe w'=>e=.returned (.int .i64 (xT x y))/\Gr w w':=by
 go_enter Tryz.func129,Tryz.ntmps129
 go_upto_region 1 with fail
 obtain⟨W,hW⟩:=eR ((w.alloc (.cells (zS x) 98)).alloc (.cells (zS y) 98))
 have hB:Gr w W:=by rw[hW];exact((Gr.refl _).alloc _).alloc _
 have a3:W.cell? ⟨w.heap.size,0,none⟩=some (.string x.key):=by rw[hW];simp[go_sem]
 have a4:W.cell? ⟨w.heap.size+1,0,none⟩=some (.string y.key):=by rw[hW];simp[go_sem]
 have a5:W.cell? ⟨w.heap.size,1,none⟩=some (.string x.val):=by rw[hW];simp[go_sem]
 have a6:W.cell? ⟨w.heap.size+1,1,none⟩=some (.string y.val):=by rw[hW];simp[go_sem]
 rw[<-hW];clear hW;refine bE (Gr W) false kR kR kR (Gr.drew W) ?_;have d:=QK W;have hS:=Gr.drew W;have b3:=kG a3;have b4:=kG a4;have b5:=kG a5;have b6:=kG a6;refine lZ ?_;refine lH ?_;intro K hK;refine(nF _ _ _).mono ?_;rintro e w' ⟨rfl,rfl⟩;refine⟨_,rfl,hS,hK _ _ ?_⟩;clear hK K;refine lZ ?_;refine lH ?_;intro K hK;refine(nF _ _ _).mono ?_;rintro e w' ⟨rfl,rfl⟩;refine⟨_,rfl,hS,hK _ _ ?_⟩;clear hK K;refine lH ?_;intro K hK;refine zG (Gr.alloc hS _) (λhS=>?_);refine hK _ _ ?_;clear hK K;refine lH ?_;intro K hK;refine(QA W.heap.size 2 [xY x.key y.key,xY x.val y.val] sI (W.alloc (.cells #[.int .i64 (xY x.key y.key),.int .i64 (xY x.val y.val)] 3)).drew (YO W _ _)).mono ?_;rintro e w' ⟨rfl,rfl⟩;refine⟨_,rfl,hS,hK _ _ ?_⟩;clear hK K;refine lZ ?_;refine zC ?_;intro hS;(go_wp2_with fail);go_ret;exact⟨rfl,hB.trans hS⟩
theorem KR(w:World)(B:Nat)(A:Option Addr)(n cap:Nat)(S:List jM)(d:Own w B 98 2 A n cap (S.map zS))(hn:S.length<=1000000) :
  Calls Tryz.prog 128 #[.slice A n cap,.func (.func 129) #[] #[]] w λe w'=>e=.returned (.tuple #[])/\Own w' B 98 2 A n cap ((nW S).map zS)/\z6 (blk A) w w':=by
 have hl:S.length=n:=by simpa using d.len
 rcases d.addr with rfl | ⟨g,rfl⟩
 ·have k:n=0:=(d.cap_le.2 rfl).1;subst k;have hS:S = []:=List.eq_nil_of_length_eq_zero hl;subst hS;refine(AnyF.slices_SortFunc_none Tryz.laySortPair none cap (.func (.func 129) #[] #[]) w).mono ?_;rintro e w' ⟨rfl,rfl⟩;exact⟨rfl,by simpa[nW]using d,z6.refl _ _⟩
 ·subst hl;have hH:=own_holds (enc:=zS) oM bS d;have j:CmpLays Tryz.prog 129 #[] (λx:jM=>(zS x).toList) 2 xT g 0 S.toArray.size w:=λm os dk _ x y=>mpcmp x y _;have r:g<w.heap.size:=(d.at_base (x:=g) (by simp[blk])).2;have f:=AnyQ.slices_SortFunc_total Tryz.laySortPair 2 jp KU (λx:jM=>(zS x).toList) sI (λx v hv=>qD x v hv) xT (XU kW) 129 #[] g 0 cap S.toArray w
   (enters_of Tryz.func129 kR rfl) j hH r sO (λx y h1 h2=>by
    simp only[ltOf,decide_eq_false_iff_not]at h1 h2;exact Classical.byContradiction λe=>h2 (kW.flip h1 e))
  have e1:S.toArray.size=S.length:=sI;rw[e1]at f;refine f.mono ?_;rintro e w' ⟨rfl,n,os,rfl⟩;have e2:(S.toArray.toList.mergeSort λx y=>!(ltOf xT y x))=nW S:=rfl;rw[e2];obtain⟨h1,h2⟩:=lK (enc:=zS) oM bS d n (nW S) (iO S).length_eq os;exact⟨rfl,h1,h2.mono (by simp[blk])⟩
theorem VT(w:World)(cap:Nat):Calls Tryz.prog 131 #[.slice none 0 cap] w λe w'=>e=.returned (.slice none 0 cap)/\w=w':=by
 go_enter Tryz.func131,Tryz.ntmps131
 (go_wp2_with fail);go_ret;exact⟨rfl,rfl⟩
def cP(x:xW):jM:=⟨x.key,x.val⟩
def vN(X:List xW):List jM:=yB xT (X.map cP)
theorem YT(X:List xW):(vN X).length<=X.length:=by have:=xF (c:=xT) (X.map cP);simpa[vN]using this
theorem mlist(w:World)(g bl bo:Nat)(X:List xW)(O:List zE)(h:qB w g bl bo X O)(hn:X.length<=1000000) :
  Calls Tryz.prog 60 #[.pointer (some ⟨g,0,none⟩)] w λe w'=>∃A cap,e=.returned (.slice A (vN X).length cap)/\Own w' w.heap.size 98 2 A (vN X).length cap ((vN X).map zS)/\Below w.heap.size w w':=by
 have c1:=zy w g bl bo X O h hn;go_enter Tryz.func60,Tryz.ntmps60
 (go_wp2_with fail);refine c1.mono ?_;rintro e w1 ⟨RA,rc,rfl,t,hb⟩;have a3:=t.slr;have H:=t.addr;clear t c1 h;(go_wp2_with fail);go_loopw [3,9] (λout i wr=>∃(k:Nat) (A:Option Addr) (cap:Nat),k<=X.length/\i=.int .i64 k/\out=.slice A k cap/\Own wr w1.heap.size 98 2 A k cap (((X.take k).map cP).map zS)/\Below w1.heap.size w1 wr) (λ_ i _=>X.length-(intOf i).toNat)
 case atStart=>exact⟨0,none,0,zL,rfl,rfl,Own.nil _ _ _ _,Below.refl _ _⟩
 case round =>
  obtain⟨k,A,cap,hk,rfl,rfl,f,D⟩:=hrel;by_cases J:k<X.length
  ·obtain⟨q,o,rfl,hr⟩:=(a3.below D).at_ J;obtain rfl:o=0:=by
    rcases H with e | ⟨g',e⟩
    ·cases e
    ·injection e with e;injection e
   rw[Nat.zero_add,List.getElem_map]at hr;have L:((X.take (k+1)).map cP).map zS=((X.take k).map cP).map zS ++ [zS (cP (X[k]'J))]:=by rw[List.take_add_one,List.getElem?_eq_getElem J,Option.toList_some,List.map_append,List.map_append];rfl
   obtain⟨x,hx⟩:=eX (X[k]'J)
   rw[hx]at hr L;have a9:=dH L;clear hx L;have M:=D.size;have U:Below wr.heap.size wr ((wr.alloc (.cells (zF x) 184)).alloc (.cells (zS ⟨x.key,x.val⟩) 98)):=(bA).alloc sI _;have d:=f.below U;have F:z7 ((wr.alloc (.cells (zF x) 184)).alloc (.cells (zS ⟨x.key,x.val⟩) 98)) (wr.heap.size+1) 0 2=some (zS ⟨x.key,x.val⟩):=by simp[go_sem]
   go_wp2_with (at_builtin;refine yM yP rfl d rfl F (qD _) oM oM sO ?_;intro A' cap' w2 G a4 R)
   have a6:Below w1.heap.size w1 w2:=D.trans ((U.mono M).trans (a4.below (B:=w1.heap.size) sO λy hy=>(f.at_base hy).1));(go_wp2_with fail);go_roundw
   case rel=>exact⟨k+1,A',cap',oM,by go_num,rfl,by rw[a9.out];exact G,a6⟩
   case measure=>exact sZ
  ·have e:X.take k=X:=List.take_of_length_le oM;have N:k=X.length:=oM;rw[e]at f;obtain⟨S,hS⟩:=eX (X.map cP)
   have a1:S.length=k:=by rw[<-hS];simp[N]
   have r:vN X=yB xT (nW S):=by unfold vN;rw[hS];exact m8 kW λz=>(iO S).mem_iff.symm
   rw[hS]at f;have s:=dH r;have cs:=KR wr w1.heap.size A k cap S f oM;have b1:=dH N;have b0:k<=1000000:=oM;clear hS r e N;(go_wp2_with fail);refine cs.mono ?_;rintro e w2 ⟨rfl,d,Y⟩;have a0:Below w1.heap.size w1 w2:=D.trans (Y.below (B:=w1.heap.size) D.size λx hx=>(f.at_base hx).1);have m:=yE hb a0;have E:=hb.size;clear cs Y a0 D;rcases d.addr with rfl | ⟨q,rfl⟩
   ·have Z:k=0:=(d.cap_le.2 rfl).1;have a5:cap=0:=(d.cap_le.2 rfl).2;have a8:S = []:=List.eq_nil_of_length_eq_zero (a1.trans Z);subst a8;have T:vN X = []:=by rw[s.out];simp[nW,yB]
    have a2:=dH T;subst Z;clear T a1 a5;have cn:=VT w2 cap;(go_wp2_with fail);refine cn.mono ?_;rintro e w3 ⟨rfl,rfl⟩;(go_wp2_with fail);go_ret;exact⟨none,cap,by rw[a2.out];rfl,by rw[a2.out];have:=d.mono E;simpa[nW]using this,m⟩
   ·have cc:=Y1 w2 w1.heap.size q k cap (nW S) d oM (psort_le S);(go_wp2_with fail);refine cc.mono ?_;rintro e w3 ⟨rfl,j,V⟩;have a7:=m.trans (V.below (B:=w.heap.size) m.size (by have:=(d.at_base (x:=q) (by simp[blk])).1;simp;omega));rw[<-s.out]at j |-;have I:=dH (j.mono (B':=w.heap.size) E);clear cc V d f j m;(go_wp2_with fail);go_ret;exact⟨_,cap,rfl,I.out,a7⟩
end
theorem Z4(w:World)(g:Nat)(v:Value)(t:TypeId)(h:w.heap[g]?=some (.cells #[v] t (0,0))):w.cell? ⟨g,0,none⟩=some v:=by rw[cell_of_row w g 0 _ _ _ h];rfl
theorem jw(w:World)(g j:Nat)(cs:Array Value)(t:TypeId)(h:w.heap[g]?=some (.cells cs t (0,0))):w.frozen? ⟨g,j,none⟩=false:=by simp[World.frozen?,h]
structure mX(w0:World)(gs go gd B:Nat)(g:Nat)(w:World)(P:List zO)(A:Option Addr)(cap:Nat):Prop where
 bel:Below w0.heap.size w0 w
 hgs:w.heap[gs]?=some (.cells #[.pointer (some ⟨g,0,none⟩)] 106 (0,0))
 hgo:w.heap[go]?=some (.cells #[.slice A P.length cap] 50 (0,0))
 hgd:w.heap[gd]?=some (.cells #[.func (.func 204) #[] #[.pointer (some ⟨gs,0,none⟩),.pointer (some ⟨go,0,none⟩),.pointer (some ⟨gd,0,none⟩)]] 214 (0,0))
 own:Own w B 39 32 A P.length cap ((P.map zO.id).map idC)
 B:B<=w.heap.size
theorem sqdown(w0:World)(M:List Nat)(g bn bb bg:Nat)(N:List zO)(G:List zE)(h:q7 w0 M g bn bb bg N G)(hN:N.length<=100000)(gs go gd B:Nat)(h1:w0.heap.size<=gs)(h2:w0.heap.size<=go)(h3:w0.heap.size<=gd)(n1:gs≠go)(n2:gd≠go)(b1:gs<B)(b2:go<B)(b3:gd<B) :
  ∀(k:Nat) (r:zE) (P:List zO) (A:Option Addr) (cap:Nat) (w:World),Deep (qF N) zO.id k r->mX w0 gs go gd B g w P A cap->P.length+(dA (qF N) zO.id k r).length<=1000000 ->
  Calls Tryz.prog 204 #[.agg (idC r),.pointer (some ⟨gs,0,none⟩),.pointer (some ⟨go,0,none⟩),.pointer (some ⟨gd,0,none⟩)] w λe w'=>e=.returned (.tuple #[])/\∃A' cap',mX w0 gs go gd B g w' (P++dA (qF N) zO.id k r) A' cap':=by
 intro k;induction k with
 | zero=>intro r P A cap w hd;exact hd.elim
 | succ k ih =>
  intro r P A cap w hd hD D;obtain⟨BM,f6,f0,hb,c4,c6⟩:=h.behind;obtain⟨⟨As,sn,sc⟩,a9,e5,s⟩:=blook hb c4 c6 r;dsimp only at a9 e5 s;have b8:∀c∈qF N r,Deep (qF N) zO.id k c.id:=hd;have L:dA (qF N) zO.id (k+1) r=(qF N r).flatMap λc=>c :: dA (qF N) zO.id k c.id:=rfl;have c8:=gU N r;obtain⟨K,hK⟩:=eX (qF N r)
  rw[hK]at a9 b8 L c8;rw[L]at D |-;have c7:K.length=sn:=by have:=a9.len;simpa using this
  have e4:sn<=100000:=oM;have U:=dH c7;have f2:=dH b8;clear hd b8 L hK c7 c8;obtain⟨f,hf⟩:∃f:zO->List zO,(λc=>c :: dA (qF N) zO.id k c.id)=f:=⟨_,rfl⟩
  have d0:∀c,f c=c :: dA (qF N) zO.id k c.id:=λc=>(by rw[<-hf]);rw[hf]at D |-;have e2:=dH d0;have c2:=dH D;clear hf d0 D;have Z:Below w.heap.size w (w.alloc (.cells (idC r) 39)):=bA;have b0:z7 (w.alloc (.cells (idC r) 39)) w.heap.size 0 32=some (idC r):=by simp[go_sem]
  have y:mX w0 gs go gd B g (w.alloc (.cells (idC r) 39)) P A cap:=by
   have hB:=hD.B;have hs:=Z.size;exact⟨yE hD.bel Z,(Z.block gs oM).trans hD.hgs,(Z.block go oM).trans hD.hgo,(Z.block gd oM).trans hD.hgd,hD.own.below Z,oM⟩
  go_enter Tryz.func204,Tryz.ntmps204
  go_upto_region 1 with fail
  obtain⟨W,hW⟩:=eR (w.alloc (.cells (idC r) 39))
  obtain⟨ga,c9⟩:=eX w.heap.size
  rw[c9]at b0 |-;rw[<-hW]at y b0 |-;clear hW c9 hD Z;have d1:W.cell? ⟨gs,0,none⟩=some (.pointer (some ⟨g,0,none⟩)):=by rw[cell_of_row W gs 0 _ _ _ y.hgs];rfl
  have d3:W.cell? ⟨g,1,none⟩=some (.map (some bb)):=(y.bel.cell (p:=⟨g,1,none⟩) h.ltg).trans h.cell1;have hk:∀x:Subtype (Bel W),(Instr.lookup 189 (.map (some bb)) (.agg (idC r)) false).run Tryz.prog x.1=.ok (.slice As sn sc) x.1:=λx=>s x.1 ((hb.kept (z6.of_below y.bel) sI).kept (z6.of_below x.2) sI);refine lX W ?_;intro e6 hS;have b1:=zJ d1;have b2:=zJ d3;have b3:=zU b0;refine lZ ?_;refine zC ?_;intro hS;have d9:mX w0 gs go gd B g W.drew P A cap:=⟨y.bel.drew,y.hgs,y.hgo,y.hgd,y.own.kept (z6.drew W) sI,y.B⟩
  clear b1 b2 b3 e6 hS hk d1 d3 b0 y s hb c4 c6;obtain⟨W1,d4⟩:=eX W.drew
  rw[d4]at d9 |-;clear d4 hS;(go_wp2_with fail);go_loopw [14] (λiv wr=>∃(i:Nat) (A':Option Addr) (cap':Nat),i<=sn/\iv=.int .i64 i/\mX w0 gs go gd B g wr (P++(K.take i).flatMap f) A' cap') (λiv _=>sn-(intOf iv).toNat)
  case atStart=>exact⟨0,A,cap,zL,rfl,by simpa using d9⟩
  case round =>
   obtain⟨i,A',cap',hi,rfl,j⟩:=hrel;by_cases R:i<sn
   ·obtain⟨q,o,rfl,b6⟩:=(a9.below j.bel).rd.at_ R;rw[List.getElem_map,List.getElem_map]at b6;have O:K[i]'(by rw[U.out];exact R)∈K:=List.getElem_mem _;have J:K.flatMap f=(K.take i).flatMap f++f (K[i]'(by rw[U.out];exact R))++(K.drop (i+1)).flatMap f:=by
     rw[List.append_assoc,<-List.flatMap_cons,<-List.drop_eq_getElem_cons (show i<K.length by rw[U.out];exact R),<-List.flatMap_append,List.take_append_drop]
    have b5:(K.take (i+1)).flatMap f=(K.take i).flatMap f++f (K[i]'(by rw[U.out];exact R)):=by
     rw[List.take_add_one,List.getElem?_eq_getElem (by rw[U.out];exact R),Option.toList_some,List.flatMap_append];simp
    obtain⟨c,hc⟩:=eX (K[i]'(by rw[U.out];exact R))
    rw[hc]at b6 O J b5;have e8:=f2.out c O;have b7:(P++(K.take i).flatMap f).length+1+(dA (qF N) zO.id k c.id).length<=1000000:=by
     have:=c2.out;rw[J,e2.out c]at this;simp only[List.length_append,List.length_cons]at this |-;omega
    obtain⟨Q,hQ⟩:=eX (P++(K.take i).flatMap f)
    have d5:P++(K.take (i+1)).flatMap f=Q ++ [c]++dA (qF N) zO.id k c.id:=by rw[b5,e2.out c,<-hQ];simp
    rw[hQ]at j b7;have f3:=dH d5;have f1:=dH b7;have f5:Q.length+1<=1000000:=oM;clear hc J b5 hQ d5 O b7;have e0:=j.B;have t:Below wr.heap.size wr ((wr.alloc (.cells (idC c.id) 39)).alloc (.cells (idC c.id) 39)):=(bA).alloc sI _;have a7:Below wr.heap.size wr (wr.alloc (.cells (idC c.id) 39)):=bA;have c0:(wr.alloc (.cells (idC c.id) 39)).cell? ⟨go,0,none⟩=some (.slice A' Q.length cap'):=(a7.cell (p:=⟨go,0,none⟩) (oM:go<wr.heap.size)).trans (by rw[cell_of_row wr go 0 _ _ _ j.hgo];rfl);have I:=j.own.below t;have F:z7 ((wr.alloc (.cells (idC c.id) 39)).alloc (.cells (idC c.id) 39)) (wr.heap.size+1) 0 32=some (idC c.id):=by simp[go_sem]
    have a5:=(t.block go oM).trans j.hgo;have a2:go<((wr.alloc (.cells (idC c.id) 39)).alloc (.cells (idC c.id) 39)).heap.size:=oH t.size;have e1:B<=((wr.alloc (.cells (idC c.id) 39)).alloc (.cells (idC c.id) 39)).heap.size:=oH t.size;have a3:go∉blk A':=λhx=>(oH ((j.own.at_base hx).1));go_upto_region 5 with(at_builtin;refine yM xI rfl I rfl F (xG _) oM oM e1 ?_;intro A2 d w2 m V a0;have E:=(V.block go a2 a3).trans a5;have b9:=Z4 w2 go _ _ E;have e7:=jw w2 go 0 _ _ E)
    have e9:w0.heap.size<=wr.heap.size:=j.bel.size;have Y:Below w0.heap.size w0 w2:=(yE j.bel t).trans (V.below (B:=w0.heap.size) (oH t.size) (λx hx=>oH ((j.own.at_base hx).1)));have T:=z6.setCell w2 ⟨go,0,none⟩ (.slice A2 (Q.length+1) d);have a6:Below w0.heap.size w0 (w2.setCell ⟨go,0,none⟩ (.slice A2 (Q.length+1) d)):=Y.trans (T.below (B:=w0.heap.size) Y.size (by simpa using h2));have e3:wr.heap.size+2<=w2.heap.size:=by have:=V.size;simpa using this
    have a1:=(T.block gs oM (by simpa using n1)).trans ((V.block gs (oH t.size) (λhx=>oH ((j.own.at_base hx).1))).trans ((t.block gs oM).trans j.hgs));have X:=(T.block gd oM (by simpa using n2)).trans ((V.block gd (oH t.size) (λhx=>oH ((j.own.at_base hx).1))).trans ((t.block gd oM).trans j.hgd));have a4:(w2.setCell ⟨go,0,none⟩ (.slice A2 (Q.length+1) d)).heap[go]?=some (.cells #[.slice A2 (Q.length+1) d] 50 (0,0)):=by rw[zA E];rfl
    have H:=m.kept T (λx hx hm=>by
     have e:x=go:=by simpa using hm
     have:=(m.at_base hx).1;omega)
    have b4:(Q ++ [c]).length=Q.length+1:=sI;have d8:mX w0 gs go gd B g (w2.setCell ⟨go,0,none⟩ (.slice A2 (Q.length+1) d)) (Q ++ [c]) A2 d :=
     ⟨a6,a1,by rw[b4];exact a4,X,by rw[b4];simpa using H,oH T.size⟩
    have c5:z7 (w2.setCell ⟨go,0,none⟩ (.slice A2 (Q.length+1) d)) wr.heap.size 0 32=some (idC c.id):=(T.row oM sO _ _).trans ((V.row sO (λhx=>oH ((j.own.at_base hx).2)) _ _).trans (by simp[go_sem]));have c1:=ih c.id (Q ++ [c]) A2 d _ e8 d8 (by rw[b4];exact f1.out);have d2:=Z4 _ gd _ _ X;have f7:Hid (B<=wr.heap.size):=e0;clear Y a6 T a1 X a4 H b4 d8 E b9 e7 m V a0 I F a5 a3 a2 e1 t a7 c0 b6 j e0;obtain⟨w5,c3⟩:=eX (w2.setCell ⟨go,0,none⟩ (.slice A2 (Q.length+1) d))
    rw[c3]at c5 c1 d2 |-;clear c3;(go_wp2_with fail);refine c1.mono ?_;rintro e w6 ⟨rfl,A6,a8,d7⟩;have d6:mX w0 gs go gd B g w6 (P++(K.take (i+1)).flatMap f) A6 a8:=by rw[f3.out];exact d7
    have f4:=dH d6;clear d7 d6 c1 c5 d2;(go_wp2_with fail);go_roundw
    case rel=>exact⟨i+1,A6,a8,oM,by go_num,f4.out⟩
    case measure=>exact sZ
   ·have e:i=sn:=oM;subst e;rw[List.take_of_length_le (by rw[U.out];exact lR)]at j;(go_wp2_with fail);go_end0;exact⟨rfl,A',cap',j⟩
theorem sqorder(w:World)(M:List Nat)(g bn bb bg:Nat)(N:List zO)(G:List zE)(h:q7 w M g bn bb bg N G)(hl:N.length<=100000) :
  Calls Tryz.prog 132 #[.pointer (some ⟨g,0,none⟩)] w λe w'=>∃A cap,e=.returned (.slice A (jJ N).length cap)/\Own w' w.heap.size 39 32 A (jJ N).length cap (((jJ N).map zO.id).map idC)/\Below w.heap.size w w':=by
 have hf:gB N:=⟨h.one,λa ha=>(gQ (h.ok a ha)).1⟩
 have m:Below w.heap.size w (w.alloc (.cells #[.pointer (some ⟨g,0,none⟩)] 106)):=bA;have h0:=h.below m;have s:=fun (a:Addr) (c:Array Value) (w:World)=>run_store Tryz.prog w a (.func (.func 204) #[] c) .plain rfl;have r:Below w.heap.size w (((w.alloc (.cells #[.pointer (some ⟨g,0,none⟩)] 106)).alloc (.cells #[.slice none 0 0] 50)).alloc (.cells #[.func (.func 204) #[] #[.pointer (some ⟨w.heap.size,0,none⟩),.pointer (some ⟨w.heap.size+1,0,none⟩),.pointer (some ⟨w.heap.size+1+1,0,none⟩)]] 214)):=((bA).alloc sI _).alloc sO _;have hD:mX w w.heap.size (w.heap.size+1) (w.heap.size+1+1) (w.heap.size+3) g (((w.alloc (.cells #[.pointer (some ⟨g,0,none⟩)] 106)).alloc (.cells #[.slice none 0 0] 50)).alloc (.cells #[.func (.func 204) #[] #[.pointer (some ⟨w.heap.size,0,none⟩),.pointer (some ⟨w.heap.size+1,0,none⟩),.pointer (some ⟨w.heap.size+1+1,0,none⟩)]] 214)) [] none 0:=by
  refine⟨r,?_,?_,?_,Own.nil _ _ _ _,sI⟩
  ·exact((z6.alloc _ _).block _ sO sI).trans (((z6.alloc _ _).block _ sI sI).trans (heap_alloc_new w _))
  ·have e:=heap_alloc_new (w.alloc (.cells #[.pointer (some ⟨g,0,none⟩)] 106 (0,0))) (.cells #[.slice none 0 0] 50 (0,0));have e1:(w.alloc (.cells #[.pointer (some ⟨g,0,none⟩)] 106 (0,0))).heap.size=w.heap.size+1:=sI;rw[e1]at e;exact((z6.alloc _ _).block _ sI sI).trans e
  ·have e:=heap_alloc_new ((w.alloc (.cells #[.pointer (some ⟨g,0,none⟩)] 106 (0,0))).alloc (.cells #[.slice none 0 0] 50 (0,0))) (.cells #[.func (.func 204) #[] #[.pointer (some ⟨w.heap.size,0,none⟩),.pointer (some ⟨w.heap.size+1,0,none⟩),.pointer (some ⟨w.heap.size+1+1,0,none⟩)]] 214 (0,0));have e1:((w.alloc (.cells #[.pointer (some ⟨g,0,none⟩)] 106 (0,0))).alloc (.cells #[.slice none 0 0] 50 (0,0))).heap.size=w.heap.size+1+1:=sI;rw[e1]at e;exact e
 have t:=bG hf;have cd:=sqdown w M g bn bb bg N G h hl w.heap.size (w.heap.size+1) (w.heap.size+1+1) (w.heap.size+3) lR oM oM oM oM oM oM oM (N.length+1) id0 [] none 0 _ hf.deep hD (by show 0+(jJ N).length<=_;omega);have e0:dA (qF N) zO.id (N.length+1) id0=jJ N:=rfl;rw[e0]at cd;simp only[List.nil_append]at cd;obtain⟨P,hP⟩:=eX (jJ N)
 rw[hP]at cd |-;clear hP t hf hD r e0;go_enter Tryz.func132,Tryz.ntmps132
 (go_wp2_with fail);refine(wU _ g bn h0.cell0).mono ?_;rintro e w1 ⟨rfl,rfl⟩;clear h0 m;(go_wp2_with fail);refine cd.mono ?_;rintro e w2 ⟨rfl,A2,k,d⟩;have y:=Z4 _ _ _ _ d.hgo;have f:=d.own.mono (B':=w.heap.size) oM;have j:=d.bel;clear cd d s;(go_wp2_with fail);go_ret;exact⟨A2,k,rfl,f,j⟩
def wL(N:List zO)(G:List zE):List jM:=(d8 N G).map λv=>⟨⟨#[]⟩,v⟩
theorem jl{N:List zO}{G:List zE}(hf:gB N):(wL N G).length<=N.length:=by
 unfold wL d8;rw[List.length_map,List.length_map];exact Nat.le_trans (List.length_filter_le _ _) (bG hf)
@[go_sem] theorem buildPair_v(v:ByteArray)(w:World):(bdS 98 #[(1,.string v)]).run Tryz.prog w=.ok (.agg (zS ⟨⟨#[]⟩,v⟩)) w:=kR
def pS(T:List zO)(G:List zE):List jM:=((T.filter λn=>decide (n.id∉G)).map zO.val).map λv=>⟨⟨#[]⟩,v⟩
theorem zq(T:List zO)(G:List zE)(c:zO):pS (T ++ [c]) G=if c.id∈G then pS T G else pS T G ++ [⟨⟨#[]⟩,c.val⟩]:=by
 unfold pS;rw[List.filter_append];by_cases e:c.id∈G <;> simp[e]
theorem pS_len(T:List zO)(G:List zE):(pS T G).length<=T.length:=by
 unfold pS;rw[List.length_map,List.length_map];exact List.length_filter_le _ _
theorem sqlist(w:World)(M:List Nat)(g bn bb bg:Nat)(N:List zO)(G:List zE)(h:q7 w M g bn bb bg N G)(hl:N.length<=100000) :
  Calls Tryz.prog 61 #[.pointer (some ⟨g,0,none⟩)] w λe w'=>∃A cap,e=.returned (.slice A (wL N G).length cap)/\Own w' w.heap.size 98 2 A (wL N G).length cap ((wL N G).map zS)/\Below w.heap.size w w':=by
 have hf:gB N:=⟨h.one,λa ha=>(gQ (h.ok a ha)).1⟩
 have c1:=sqorder w M g bn bb bg N G h hl;have hN:=(lL hf).2;have c2:=bG hf;have a7:wL N G=pS (jJ N) G:=rfl;rw[a7];obtain⟨L,hL⟩:=eX (jJ N)
 rw[hL]at c1 hN c2 |-;clear hL a7 hf;go_enter Tryz.func61,Tryz.ntmps61
 (go_wp2_with fail);refine c1.mono ?_;rintro e w1 ⟨RA,rc,rfl,r,hb⟩;have b9:=r.slr;have O:=r.addr;clear r c1;(go_wp2_with fail);go_loopw [3,9] (λout i wr=>∃(k:Nat) (A:Option Addr) (cap:Nat),k<=L.length/\i=.int .i64 k/\out=.slice A (pS (L.take k) G).length cap/\Own wr w1.heap.size 98 2 A (pS (L.take k) G).length cap ((pS (L.take k) G).map zS)/\Below w1.heap.size w1 wr) (λ_ i _=>L.length-(intOf i).toNat)
 case atStart=>exact⟨0,none,0,zL,rfl,rfl,Own.nil _ _ _ _,Below.refl _ _⟩
 case round =>
  obtain⟨k,A,cap,hk,rfl,rfl,f,B⟩:=hrel;by_cases t:k<L.length
  ·obtain⟨q,o,rfl,hr⟩:=(b9.below B).at_ t;obtain rfl:o=0:=by
    rcases O with e | ⟨g',e⟩
    ·cases e
    ·injection e with e;injection e
   rw[Nat.zero_add,List.getElem_map,List.getElem_map]at hr;have R:pS (L.take (k+1)) G=if(L[k]'t).id∈G then pS (L.take k) G else pS (L.take k) G ++ [⟨⟨#[]⟩,(L[k]'t).val⟩]:=by
    rw[List.take_add_one,List.getElem?_eq_getElem t,Option.toList_some,zq]
   have b3:=hN _ (List.getElem_mem t);have c0:(pS (L.take k) G).length+1<=1000000:=by have:=pS_len (L.take k) G;simp at this;omega
   obtain⟨c,hc⟩:=eX (L[k]'t)
   rw[hc]at hr R b3;obtain⟨T0,b6⟩:=eX (pS (L.take k) G)
   rw[b6]at R c0 f |-;have b7:=dH R;clear hc b6 R;have X:=B.size;have T:Below wr.heap.size wr (wr.alloc (.cells (idC c.id) 39)):=bA;have b5:Below w.heap.size w (wr.alloc (.cells (idC c.id) 39)):=(yE hb B).trans (T.mono (oH hb.size));have j:=f.below T;have s:Below w1.heap.size w1 (wr.alloc (.cells (idC c.id) 39)):=B.trans (T.mono X);have H:z7 (wr.alloc (.cells (idC c.id) 39)) wr.heap.size 0 32=some (idC c.id):=by simp[go_sem]
   have D:=h.below b5;go_upto_region 5 with fail
   obtain⟨W,hW⟩:=eX (wr.alloc (.cells (idC c.id) 39))
   obtain⟨gx,b0⟩:=eX wr.heap.size
   have a2:gx∉blk A:=λhx=>(oH ((f.at_base hx).2));rw[b0]at H |-;rw[hW]at j s H D |-;have b4:=D.cell2;have a8:∀y:Subtype (Bel W),(Instr.lookup 75 (.map (some bg)) (.agg (idC c.id)) false).run Tryz.prog y.1=.ok (.bool (decide (c.id∈G))) y.1:=λy=>yb (D.gone.below y.2);obtain⟨rr,U⟩:=eX (decide (c.id∈G))
   rw[U]at a8;have b8:=dH U;clear hW b0 U hr f B T b5;refine lX W ?_;intro a0 hS;have b1:=zJ b4;have b2:=zU H;refine lZ ?_;refine zC ?_;intro hS;have Z:=D.below (yZ W);have d:=j.kept (z6.drew W) sI;have m:Below w1.heap.size w1 W.drew:=s.drew;have F:z7 W.drew gx 0 32=some (idC c.id):=H;clear b1 b2 a0 hS a8 b4 H D j s;obtain⟨V,hV⟩:=eX W.drew
   rw[hV]at Z d m F |-;clear hV;cases rr with
   | true =>
    have e5:=b7.out;rw[if_pos (of_decide_eq_true b8.out)]at e5;have E5:=dH e5;clear e5;(go_wp2_with fail);go_roundw
    case rel=>exact⟨k+1,A,cap,oM,by go_num,by rw[E5.out],by rw[E5.out];exact d,m⟩
    case measure=>exact sZ
   | false =>
    have e5:=b7.out;rw[if_neg (of_decide_eq_false b8.out)]at e5;have E5:=dH e5;clear e5;have c5:=Z.cell0;obtain⟨es,c9,hn⟩:=Z.nodes;have c4:g∉blk A:=λhx=>(by have:=(d.at_base hx).1;have:=h.ltg;have:=hb.size;omega);have a3:bn∉blk A:=λhx=>(by have:=(d.at_base hx).1;have:=h.lt.1;have:=hb.size;omega);have c3:∀y:Subtype (Kp (blk A) V),(Instr.lookup 188 (.map (some bn)) (.agg (idC c.id)) false).run Tryz.prog y.1=.ok (.agg (zW ⟨c.h,c.ref,c.val⟩)) y.1:=λy=>zx (hn.kept y.2 a3) b3 false;go_upto_region 6 with fail
    refine kX (blk A) V ?_;intro a0 hS;have b1:=zP c5 c4;have b2:=y9 F (S:=blk A) a2;refine lZ ?_;refine lH ?_;intro K hK;refine zG (z6.trans (z6.trans (z6.refl (blk A) V) (z6.drew _) sI) (z6.alloc _ _) sI) (λc8=>?_);refine hK _ _ ?_;clear hK K;have a1:z6 [] V (V.drew.alloc (.cells (zS ⟨⟨#[]⟩,c.val⟩) 98)):=z6.trans (z6.drew V) (z6.alloc _ _) sI;have I:=d.kept a1 sI;have E:z7 (V.drew.alloc (.cells (zS ⟨⟨#[]⟩,c.val⟩) 98)) V.heap.size 0 2=some (zS ⟨⟨#[]⟩,c.val⟩):=by simp[go_sem]
    have Y:=m.size;refine vW yP rfl I rfl E (qD _) oM oM sO ?_;intro A3 a4 w3 J a9 a6;refine zG (z6.trans (a1.mono (S':=blk A) sI) a9 iL) (λc7=>?_);refine lZ ?_;refine zC ?_;intro hS;have c6:Below w1.heap.size w1 w3:=m.trans ((z6.trans (a1.mono (S':=blk A) sI) a9 iL).below Y (λx hx=>(d.at_base hx).1));clear a0 hS c8 c7 b1 b2 c3;(go_wp2_with fail);go_roundw
    case rel=>exact⟨k+1,A3,a4,oM,by go_num,by rw[E5.out];simp,by rw[E5.out];simpa using J,c6⟩
    case measure=>exact sZ
  ·have e:L.take k=L:=List.take_of_length_le oM;rw[e]at f |-;have a5:=dH (f.mono (B':=w.heap.size) hb.size);have Hb:=dH (yE hb B);clear f e;(go_wp2_with fail);go_ret;exact⟨A,cap,rfl,a5.out,Hb.out⟩
inductive VSt where
 | t (n:Int)
 | b (L G:List yH)
 | l (L:List jE)
 | m (X:List xW) (O:List zE)
 | s (N:List zO) (G:List zE)
def dM(w:World)(O M:List Nat)(v:Value):VSt->Prop
 | .t n=>∃g,v=.iface 100 (.pointer (some ⟨g,0,none⟩))/\xO w g n/\O = [g]
 | .b L G=>∃g bl bg,v=.iface 102 (.pointer (some ⟨g,0,none⟩))/\jC w g bl bg L G/\O = [g,bl,bg]
 | .l L=>∃g b,v=.iface 104 (.pointer (some ⟨g,0,none⟩))/\xR w g b L/\O = [g,b]
 | .m X Ov=>∃g bl bo,v=.iface 105 (.pointer (some ⟨g,0,none⟩))/\qB w g bl bo X Ov/\O = [g,bl,bo]
 | .s N G=>∃g bn bb bg,v=.iface 106 (.pointer (some ⟨g,0,none⟩))/\q7 w M g bn bb bg N G/\O = [g,bn,bb,bg]
def VSt.kind:VSt->Int
 | .t _=>1
 | .b ..=>2
 | .l _=>3
 | .m ..=>4
 | .s ..=>5
def VSt.len:VSt->Nat
 | .t _=>0
 | .b L _=>L.length
 | .l L=>L.length
 | .m X _=>X.length
 | .s N _=>N.length
def doS(m:yW)(o:OpV):VSt->VSt
 | .t n=>.t (wrap64 (n+o.n))
 | .b L G=>if o.k=2 then .b (mU L G ⟨m.id,o.val⟩) G else .b (lF L o.val o.refs) (lG G o.val o.refs)
 | .l L=>.l (sD L o.key ⟨o.val,o.n,m.id⟩)
 | .m X Ov=>.m (ZQ X Ov ⟨m.id,o.key,o.val⟩ o.refs) (lJ Ov o.refs)
 | .s N G=>if o.k=6 then .s (s6 N ⟨m.id,m.h,o.ref,o.val⟩) G else .s N (xS zI G o.ref)
theorem aW(m:yW)(o:OpV)(L G:List yH)(h:o.k=2):doS m o (.b L G)=.b (mU L G ⟨m.id,o.val⟩) G:=if_pos h
theorem aV(m:yW)(o:OpV)(L G:List yH)(h:¬o.k=2):doS m o (.b L G)=.b (lF L o.val o.refs) (lG G o.val o.refs):=if_neg h
theorem aU(m:yW)(o:OpV)(N:List zO)(G:List zE)(h:o.k=6):doS m o (.s N G)=.s (s6 N ⟨m.id,m.h,o.ref,o.val⟩) G:=if_pos h
theorem aT(m:yW)(o:OpV)(N:List zO)(G:List zE)(h:¬o.k=6):doS m o (.s N G)=.s N (xS zI G o.ref):=if_neg h
theorem doS_kind(m:yW)(o:OpV)(s:VSt):(doS m o s).kind=s.kind:=by
 cases s <;> simp only[doS] <;> (try split) <;> rfl
theorem iH(v:ByteArray):∀(T:List zE) (L:List yH),(lF L v T).length<=L.length
 | [],L=>lR
 | t :: T,L=>Nat.le_trans (iH v T _) (List.length_filter_le _ _)
theorem doS_len(m:yW)(o:OpV)(s:VSt):(doS m o s).len<=s.len+1:=by
 cases s with
 | t n=>exact zL
 | b L G =>
  by_cases h:o.k=2
  ·rw[aW m o L G h];show(mU L G ⟨m.id,o.val⟩).length<=L.length+1;unfold mU;have:=jV (c:=yG) L ⟨m.id,o.val⟩
   repeat' split
   all_goals omega
  ·rw[aV m o L G h];show(lF L o.val o.refs).length<=L.length+1;have:=iH o.val o.refs L;omega
 | l L=>exact cL _ _ _
 | m X Ov =>
  show(ZQ X Ov ⟨m.id,o.key,o.val⟩ o.refs).length<=X.length+1;unfold ZQ wK;exact Nat.le_trans (List.length_filter_le _ _) (jV (c:=xN) X _)
 | s N G =>
  by_cases h:o.k=6
  ·rw[aU m o N G h];show(s6 N ⟨m.id,m.h,o.ref,o.val⟩).length<=N.length+1;unfold s6;repeat' split
   all_goals simp
  ·rw[aT m o N G h];exact Nat.le_succ N.length
theorem dM.kept{w w':World}{O M S:List Nat}{v:Value}{s:VSt}(h:dM w O M v s)(k:z6 S w w')(hO:∀x∈O,x∉S)(hS:∀x∈S,x∈M\/w.heap.size<=x):dM w' O M v s:=by
 cases s with
 | t n=>obtain⟨g,e,h1,rfl⟩:=h;exact⟨g,e,h1.kept k (hO g sI),rfl⟩
 | b L G=>obtain⟨g,bl,bg,e,h1,rfl⟩:=h;exact⟨g,bl,bg,e,h1.kept k (hO g sI) (hO bl sI) (hO bg sI),rfl⟩
 | l L=>obtain⟨g,b,e,h1,rfl⟩:=h;exact⟨g,b,e,h1.kept k (hO g sI) (hO b sI),rfl⟩
 | m X Ov=>obtain⟨g,bl,bo,e,h1,rfl⟩:=h;exact⟨g,bl,bo,e,h1.kept k (hO g sI) (hO bl sI) (hO bo sI),rfl⟩
 | s N G=>obtain⟨g,bn,bb,bg,e,h1,rfl⟩:=h;exact⟨g,bn,bb,bg,e,h1.kept k hS (hO g sI) (hO bn sI) (hO bb sI) (hO bg sI),rfl⟩
theorem dM.below{w w':World}{O M:List Nat}{v:Value}{s:VSt}(h:dM w O M v s)(k:Below w.heap.size w w'):dM w' O M v s:=h.kept (z6.of_below k) sI sI
structure OpFit(s:VSt)(o:OpV):Prop where
 kind:kL o.k=s.kind
 key:o.key.size<=16
 val:o.val.size<=16
 refs:o.refs.length<=8
 lo:-2147483648<=o.n
 hi:o.n<2147483648
theorem vdoes(m:yW)(o:OpV)(A:Option Addr)(c:Nat)(w:World)(g:Nat)(t:ByteArray)(b:Nat)(I:List zE)(v:Value)(O M:List Nat)(s:VSt)(h:xE w g t b I v)(hs:dM w O M v s)(hM:∀x∈M,x<w.heap.size)(ho:OpFit s o)(hA:zY w A o.refs.length o.refs)(hl:s.len<=1000) :
  Calls Tryz.prog 64 #[.pointer (some ⟨g,0,none⟩),.agg (zN m),.agg (opC o A c)] w λe w'=>e=.returned (.tuple #[])/\dM w' O M v (doS m o s)/\z6 O w w':=by
 cases s with
 | t n =>
  obtain⟨gt,rfl,h1,rfl⟩:=hs;refine(zb m o A c w g gt t b I n h h1 ho.lo ho.hi).mono ?_;rintro e w' ⟨rfl,h2,hk⟩;exact⟨rfl,⟨gt,rfl,h2,rfl⟩,hk⟩
 | b L G =>
  obtain⟨gt,bl,bg,rfl,h1,rfl⟩:=hs;by_cases h2:o.k=2
  ·refine(vdoes_b2 m o A c w g gt bl bg t b I L G h h1 h2 ho.val).mono ?_;rintro e w' ⟨rfl,h3,hk⟩;refine⟨rfl,?_,hk.mono sI⟩;rw[aW m o L G h2];exact⟨gt,bl,bg,rfl,h3,rfl⟩
  ·refine(vdoes_b3 m o A c w g gt bl bg t b I L G h h1 (by simpa using h2) ho.val hA ho.refs).mono ?_;rintro e w' ⟨rfl,h3,hk⟩;refine⟨rfl,?_,hk.mono (by intro x hx;simp at hx |-;omega)⟩;rw[aV m o L G h2];exact⟨gt,bl,bg,rfl,h3,rfl⟩
 | l L =>
  obtain⟨gt,bl,rfl,h1,rfl⟩:=hs;refine(vdoes_l m o A c w g gt bl t b I L h h1 ho.key ho.val).mono ?_;rintro e w' ⟨rfl,h3,hk⟩;exact⟨rfl,⟨gt,bl,rfl,h3,rfl⟩,hk.mono sI⟩
 | m X Ov =>
  obtain⟨gt,bl,bo,rfl,h1,rfl⟩:=hs;refine(vdoes_m m o A c w g gt bl bo t b I X Ov h h1 ho.key ho.val hA ho.refs (by have:X.length<=1000:=hl;omega)).mono ?_;rintro e w' ⟨rfl,h3,hk⟩;exact⟨rfl,⟨gt,bl,bo,rfl,h3,rfl⟩,hk.mono (by intro x hx;simp at hx |-;omega)⟩
 | s N G =>
  obtain⟨gt,bn,bb,bg,rfl,h1,rfl⟩:=hs;by_cases h2:o.k=6
  ·refine(vdoes_s6 m o A c w g gt bn bb bg t b I M N G h h1 hM h2 ho.val (by have:N.length<=1000:=hl;omega)).mono ?_;rintro e w' ⟨rfl,h3,hk⟩;refine⟨rfl,?_,hk.mono (by intro x hx;simp at hx |-;omega)⟩;rw[aU m o N G h2];exact⟨gt,bn,bb,bg,rfl,h3,rfl⟩
  ·refine(vdoes_s7 m o A c w g gt bn bb bg t b I M N G h h1 (by simpa using h2)).mono ?_;rintro e w' ⟨rfl,h3,hk⟩;refine⟨rfl,?_,hk.mono (by intro x hx;simp at hx |-;omega)⟩;rw[aT m o N G h2];exact⟨gt,bn,bb,bg,rfl,h3,rfl⟩
def VSt.num:VSt->Int
 | .t n=>n
 | _=>0
def VSt.pairs:VSt->List jM
 | .t _=>[]
 | .b L _=>(vG L).map nY
 | .l L=>L.map iS
 | .m X _=>vN X
 | .s N G=>wL N G
theorem vvalue(w:World)(g:Nat)(t:ByteArray)(b:Nat)(I:List zE)(v:Value)(O M:List Nat)(s:VSt)(h:xE w g t b I v)(hs:dM w O M v s)(ht:t.size<=9223372036854775807)(hk:yC t=s.kind)(hl:s.len<=1000) :
  Calls Tryz.prog 24 #[.pointer (some ⟨g,0,none⟩)] w λe w'=>∃A cap,e=.returned (.agg (zQ ⟨s.kind,s.num,.slice A s.pairs.length cap⟩))/\Own w' w.heap.size 98 2 A s.pairs.length cap (s.pairs.map zS)/\Below w.heap.size w w':=by
 cases s with
 | t n =>
  obtain⟨gt,rfl,h1,rfl⟩:=hs;refine(QX w g gt t b I n h h1 ht hk).mono ?_;rintro e w' ⟨rfl,hb⟩;exact⟨none,0,rfl,Own.nil _ _ _ _,hb⟩
 | b L G =>
  obtain⟨gt,bl,bg,rfl,h1,rfl⟩:=hs;refine(kl w g gt t b I h ht hk (vG L).length ((vG L).map λs=>zS (nY s)) (λw' hb=>blist w' gt bl bg L G (h1.below hb) (by have:L.length<=1000:=hl;omega))).mono ?_;rintro e w' ⟨A,cap,rfl,ho,hb⟩;have e1:(VSt.b L G).pairs.length=(vG L).length:=by simp[VSt.pairs]
  refine⟨A,cap,by rw[e1];rfl,?_,hb⟩;rw[e1];simpa[VSt.pairs,List.map_map,Function.comp_def]using ho
 | l L =>
  obtain⟨gt,bl,rfl,h1,rfl⟩:=hs;refine(kj w g gt t b I h ht hk L.length (YU L) (λw' hb=>llist w' gt bl L (h1.below hb) (by have:L.length<=1000:=hl;omega))).mono ?_;rintro e w' ⟨A,cap,rfl,ho,hb⟩;have e1:(VSt.l L).pairs.length=L.length:=by simp[VSt.pairs]
  refine⟨A,cap,by rw[e1];rfl,?_,hb⟩;rw[e1];simpa[VSt.pairs,YU,List.map_map,Function.comp_def]using ho
 | m X Ov =>
  obtain⟨gt,bl,bo,rfl,h1,rfl⟩:=hs;exact ki w g gt t b I h ht hk (vN X).length ((vN X).map zS) (λw' hb=>mlist w' gt bl bo X Ov (h1.below hb) (by have:X.length<=1000:=hl;omega))
 | s N G =>
  obtain⟨gt,bn,bb,bg,rfl,h1,rfl⟩:=hs;exact kh w g gt t b I h ht hk (wL N G).length ((wL N G).map zS) (λw' hb=>sqlist w' M gt bn bb bg N G (h1.below hb) (by have:N.length<=1000:=hl;omega))
end Go.Proofs.YtgfpjjppeldhbaaGreatDoor
