/- Part 6 of the texts that lead to this claim: the walks of the functions and the plain law, in order. -/
import Derived.Test.YtplpiicfkbpkaaaGreatDoorMk5
import Derived.Test.YtplpiicfkbpkaaaGreatDoorLayView
import Derived.IntWalk
import Derived.ArgAppend
import Derived.Laws.StructEq
import Derived.Laws.Bits64b
import Derived.LoopN
import Derived.Lib.BufferWrite
namespace Go.Proofs.YtplpiicfkbpkaaaGreatDoor
open Go.RowKit
open List hiding and get max min or set
open Go.Proofs.Tryz
open World
set_option maxRecDepth 100000
set_option maxHeartbeats 8000000
variable {z:Array Value}{k n:Nat}{w:World}{L:List (Array Value)}{e:Int}{t:ByteArray}
section
open Go.RowKit Go.Sort Go.Shelf
@[go_sem] theorem bsIdZ_run(w:World):(bsS 26 0 #[]).run prog w=.ok (.slice (some ⟨w.heap.size,0,none⟩) 0 0) (w.alloc (.cells #[] 23)):=run_bsS0 einfoId w
instance:Inhabited Id32:=⟨id0⟩
theorem isAgg_sort_ids(w:World):(isAgg 23).run prog w=.ok true w:=by simp[isAgg,run_underlying underlying23]
theorem size_sort_ids(w:World):(Go.sizeOf 23).run prog w=.ok 32 w:=by
 have h:=infoId;cases hi:prog.info? 23 with
 | none=>rw[hi]at h;cases h
 | some i =>
  rw[hi]at h;have hk:i.size=32:=by simpa using h
  simp[Go.sizeOf,typeInfo,hi,hk]
theorem tot_sort_ids:TotC cmpId:=totId
theorem sort_ids(w:World)(B:Nat)(A:Option Addr)(n cap:Nat)(S L:List (Id32))(d:Own w B 23 32 A n cap (S.map idC))(hp:S.Perm L)(hr:Ris cmpId L)(hn:L.length<=1000000) :
  Calls prog 171 #[.slice A n cap,.func (.func 173) #[] #[]] w λe w'=>e=.returned (.tuple #[])/\Own w' B 23 32 A n cap (L.map idC)/\Keep (blk A) w w':=by
 have hl:S.length=n:=by simpa using d.len
 have k:=hp.length_eq;rcases d.addr with rfl | ⟨g,rfl⟩
 ·have r:n=0:=(d.cap_le.2 rfl).1;subst r;have hS:S = []:=eq_nil_of_length_eq_zero hl;subst hS;have hL:L = []:=eq_nil_of_length_eq_zero k.symm;subst hL;refine(AnyF.slices_SortFunc_none laySortId none cap (.func (.func 173) #[] #[]) w).mono ?_;rintro e w' ⟨rfl,rfl⟩;exact⟨rfl,d,Keep.refl _ _⟩
 ·subst hl;have hH:=own_holds (enc:=idC) oM idC_size d;have j:CmpLays prog 173 #[] (λx:Id32=>(idC x).toList) 32 cmpId g 0 S.toArray.size w:=λm os dk _ x y=>cmp_id_gr x y _;have s:g<w.heap.size:=(d.at_base (x:=g) (by simp[blk])).2;have f:=AnyQ.slices_SortFunc_total laySortId 32 isAgg_sort_ids size_sort_ids (λx:Id32=>(idC x).toList) sI (λx v hv=>idC_one x v hv) cmpId (swo_of tot_sort_ids) 173 #[] g 0 cap S.toArray w
   (enters_of func173 kR rfl) j hH s sO (λx y h1 h2=>by
    simp only[ltOf,decide_eq_false_iff_not]at h1 h2;exact Classical.byContradiction λe=>h2 ((tot_sort_ids).flip h1 e))
  have e1:S.toArray.size=S.length:=sI;rw[e1]at f;refine f.mono ?_;rintro e w' ⟨rfl,n,os,rfl⟩;have e2:(S.toArray.toList.mergeSort λx y=>!(ltOf cmpId y x))=L:=mergeSort_ris tot_sort_ids hr hp;rw[e2];obtain⟨h1,h2⟩:=own_sorted (enc:=idC) oM idC_size d n L k.symm os;exact⟨rfl,h1,h2.mono (by simp[blk])⟩
theorem clone_ids(w:World)(A:Option Addr)(n cap:Nat)(R:List Id32)(h:TagsIn w A n R)(hn:n<=1000000)(hA:A=none->cap=0) :
  Calls prog 178 #[.slice A n cap] w λe w'=>∃A' cap',e=.returned (.slice A' n cap')/\Own w' w.heap.size 23 32 A' n cap' (R.map idC)/\Below w.heap.size w w':=by
 have D:∀(w:World) (a:Option Addr) (n c n' c':Nat),(binOp .eql 26 (.slice a n c) (.slice none n' c') ).run prog w=.ok (.bool a.isNone) w:=λw a n c n' c'=>Lib.run_eql_slice_nil w _ _ a n c n' c' underlying26;have j:R.length=n:=by simpa using h.1
 cases A with
 | none =>
  have E:n=0:=by
   rcases Nat.eq_zero_or_pos n with e | e
   ·exact e
   ·obtain⟨g,o,e',_⟩:=h.2 e;cases e'
  subst E;have hR:R = []:=eq_nil_of_length_eq_zero j;subst hR;clear h j;go_enter func178,ntmps178
  (go_wp2_with fail);go_ret;exact⟨none,0,rfl,Own.nil _ _ _ _,Below.refl _ _⟩
 | some a =>
  have B:Below w.heap.size w (w.alloc (.cells #[] 23)):=bA;have f:=Own.empty w w.heap.size 23 32 lR;have t:SlR (w.alloc (.cells #[] 23)) (some a) n 32 (R.map idC):=SlR.below h B;have m:∀r∈R.map idC,∀u∈r.toList,u.oneCell'=true:=by
   intro r hr;obtain⟨x,_,rfl⟩:=mem_map.1 hr;exact idC_one x
  clear j;go_enter func178,ntmps178
  go_wp2_with (at_builtin;refine L_appends einfoId rfl f rfl t hA m oM oM sI ?_;intro A2 s w2 d y k)
  simp only[Nat.zero_add,nil_append]at d;have F:Below w.heap.size w w2:=B.trans (y.below sI (by simp[blk]));clear f t y k h;(go_wp2_with fail);go_ret;exact⟨A2,s,sI,d,F⟩
theorem compact_ids(w:World)(A:Option Addr)(n cap:Nat)(R:List Id32)(h:TagsIn w A n R)(hr:Ris cmpId R)(hn:n<=1000000) :
  Calls prog 179 #[.slice A n cap] w λe w'=>e=.returned (.slice A n cap)/\Below w.heap.size w w':=by
 have s:R.length=n:=h.len;have d:=dH s;clear s;go_enter func179,ntmps179
 by_cases h2:n<2
 ·(go_wp2_with fail);go_ret;exact⟨rfl,Below.refl _ _⟩
 ·(go_wp2_with fail);go_loopw [3] (λi wr=>∃k:Nat,1<=k/\k<=n/\i=.int .i64 k/\Below w.heap.size w wr) (λi _=>n-(intOf i).toNat)
  case atStart=>exact⟨1,lR,oM,rfl,Below.refl _ _⟩
  case round =>
   obtain⟨k,G,hk,rfl,hb⟩:=hrel;by_cases r:k<n
   ·obtain⟨q,o,rfl,g⟩:=TagsIn.get (SlR.below h hb) r (by rw[d.out];exact r);obtain⟨q',o',e',f⟩:=TagsIn.get (SlR.below h hb) (i:=k-1) oM (by rw[d.out];omega);injection e' with e'
    injection e' with e1 e2
    subst e1;subst e2;have m:R[k]'(by rw[d.out];exact r)≠R[k-1]'(by rw[d.out];omega):=λe=>by
     have:=ris_get hr (i:=k-1) (j:=k) oM (by rw[d.out];exact r);rw[e,cmpId_self]at this;omega
    obtain⟨x,hx⟩:=eX (R[k]'(by rw[d.out];exact r))
    obtain⟨y,hy⟩:=eX (R[k-1]'(by rw[d.out];omega))
    rw[hx]at g m;rw[hy]at f m;have E:(x==y)=false:=by rw[beq_eq_false_iff_ne];exact m
    have B:((k:Int)-1)=((k-1:Nat):Int):=oM;obtain⟨k1,t⟩:=eX (k-1)
    rw[t]at f B;have D:k1<n:=oM;have F:IntKind.i64.wrap (k1:Int)=(k1:Int):=IntWalk.i64_in _ oM;have H:=dH t;clear hx hy m t;go_upto_region 6 with fail
    refine lX wr ?_;intro m hS;have b1:=sub_row g;have b2:=sub_row f;refine lZ ?_;refine wpLx_nil ?_;intro hS;clear m hS b1 b2 g f;(go_wp2_with fail);go_roundw
    case rel=>exact⟨k+1,oM,oM,by go_num,hb.drew⟩
    case measure=>exact sZ
   ·(go_wp2_with fail);go_ret;exact⟨rfl,hb⟩
theorem ident_set(w:World)(A:Option Addr)(n cap:Nat)(S L:List Id32)(h:TagsIn w A n S)(hp:S.Perm L)(hr:Ris cmpId L)(hn:n<=1000000)(hA:A=none->cap=0) :
  Calls prog 115 #[.slice A n cap] w λe w'=>∃A' cap',e=.returned (.slice A' L.length cap')/\Own w' w.heap.size 23 32 A' L.length cap' (L.map idC)/\Below w.heap.size w w':=by
 have k:L.length=n:=by rw[<-hp.length_eq];exact h.len
 have c1:=clone_ids w A n cap S h hn hA;go_enter func115,ntmps115
 (go_wp2_with fail);refine c1.mono ?_;rintro e w1 ⟨A1,g,rfl,f,r⟩;have c2:=sort_ids w1 w.heap.size A1 n g S L f hp hr oM;clear c1;(go_wp2_with fail);refine c2.mono ?_;rintro e w2 ⟨rfl,d,t⟩;have B:Below w.heap.size w w2:=r.trans (t.below r.size (λx hx=>(f.at_base hx).1));have c3:=compact_ids w2 A1 n g L d.slr hr hn;clear c2;(go_wp2_with fail);refine c3.mono ?_;rintro e w3 ⟨rfl,m⟩;have j:=d.below m;have y:=bel2 B m;have s:=dH k;clear c3 k;(go_wp2_with fail);go_ret;exact⟨A1,g,by rw[s.out];rfl,by rw[s.out];exact j,y⟩
end

section
section
variable {P:Program} {T E:TypeId} {k bytes:Nat}
theorem zeroCells_one(hz:0<z.size)(h1:∀u∈z.toList,u.oneCell'=true):∀u∈(Builtin.zeroCells z n).toList,u.oneCell'=true:=by
 intro u hu;unfold Builtin.zeroCells at hu;simp only[Array.toList_map,mem_map]at hu;obtain⟨i,_,rfl⟩:=hu;have hi:i % z.size<z.size:=Nat.mod_lt _ hz;rw[getElem!_pos z _ hi];exact h1 _ sI
theorem own_clear(I:ElemInfo P T E k bytes){z:Value}(hz:(P.info? E).bind (·.zero)=some z)(a0:∀u∈z.cells.toList,u.oneCell'=true){B g cap m:Nat}(h:Own w B E k (some ⟨g,0,none⟩) n cap L)(hm:m<=n)(ty:TypeId) :
  ∃A2 c2,(∀w0:World,(slS T (.slice (some ⟨g,0,none⟩) n cap) (some (.int .i64 m)) none none).run P w0=.ok (.slice A2 (n-m) c2) w0) /\
   ∃w',(Builtin.clear_ #[T] ty #[.slice A2 (n-m) c2]).run P w=.ok (.tuple #[]) w'/\Own w' B E k (some ⟨g,0,none⟩) m cap (L.take m)/\Keep [g] w w':=by
 have hA:=h.cap_le;have F:∀w0:World,(slS T (.slice (some ⟨g,0,none⟩) n cap) (some (.int .i64 m)) none none).run P w0=.ok (.slice (if cap=m then some ⟨g,0,none⟩ else some ⟨g,m*k,none⟩) (n-m) (cap-m)) w0:=by
  intro w0;rw[run_slS I];unfold Instr.slice Instr.sliceBounds;simp only[Sem.run_bind,run_underlying I.und,Result.andThen_ok,Sem.run_pure,run_bound w0 m n hm,I.sizeOf_run w0,Option.isSome_none,Bool.false_eq_true,if_false];congr 3
  show some ((⟨g,0,none⟩:Addr).add (m*k))=_;unfold Addr.add;split <;> simp_all
 refine⟨_,_,F,?_⟩;have N:=h;have a5:=flat_len L k h.size;have hL:=h.len;have b2:=h.size;obtain⟨⟨h1,h2⟩,_,hs⟩:=h;rcases h2 with⟨h2,_⟩ | ⟨g',c,cur,hv,hb,hg,hnc,hcm,hcsz,htake⟩
 ·cases h2
 injection hv with t _ hc
 injection t with t
 injection t with t
 subst t;subst hc;have a4:m*k<=n*k:=Nat.mul_le_mul_right k hm;have b3:n*k<=cur.size:=by rw[hcsz];exact Nat.mul_le_mul_right k hnc
 have a1:(L.take m).flatMap Array.toList=(L.flatMap Array.toList).take (m*k):=by
  apply ext_getElem?;intro j;have O:(L.take m).length=m:=sO;have a6:=flat_len (L.take m) k (λc hc=>hs c (mem_of_mem_take hc));rw[O]at a6;by_cases hj:j<m*k
  ·rw[getElem?_take,if_pos hj];have R:=I.pos;have hi:j / k<m:=Nat.div_lt_of_lt_mul (by rw[Nat.mul_comm];exact hj);have hr:j % k<k:=Nat.mod_lt _ R;have he:j=j / k*k+j % k:=by rw[Nat.mul_comm];exact(Nat.div_add_mod j k).symm
   rw[he,flat_get (L.take m) k (λc hc=>hs c (mem_of_mem_take hc)) (j / k) (j % k) (by rw[O];exact hi) hr,flat_get L k hs (j / k) (j % k) oM hr];congr 1
   rw[getElem_take]
  ·rw[getElem?_eq_none oM,getElem?_eq_none sO]
 have s:∀w' f,w'.heap[g]?=some (.cells f E (0,0))->f.size=cap*k->f.toList.take (m*k)=cur.toList.take (m*k)->Own w' B E k (some ⟨g,0,none⟩) m cap (L.take m):=by
  intro w' f a8 G D;refine⟨⟨?_,.inr ⟨g,cap,f,rfl,hb,a8,oM,hcm,G,?_⟩⟩,sO,λc hc=>hs c (mem_of_mem_take hc)⟩
  ·rw[flat_len _ k (λc hc=>hs c (mem_of_mem_take hc)),length_take,hL,Nat.min_eq_left hm]
  ·rw[D,a1,<-htake,take_take,Nat.min_eq_left a4]
 by_cases a3:m=n
 ·subst a3;refine⟨w,?_,s w cur hg hcsz rfl,(Keep.refl _ _)⟩;rw[Nat.sub_self];obtain⟨A2,b1⟩:∃A2,(if cap=m then(some ⟨g,0,none⟩:Option Addr)else some ⟨g,m*k,none⟩)=A2:=⟨_,rfl⟩
  rw[b1];cases A2 <;> simp[Builtin.clear_,run_underlying I.und]
 ·have H:¬cap=m:=oM;rw[if_neg H];obtain⟨X,z',r,M,a7,b4,A⟩:=I.info;have Y:z'=z:=by
   rw[r]at hz;have:X.zero=some z:=hz;rw[M]at this;injection this
  subst Y;have R:=I.pos;have y:=run_storeCells_at P g (m*k) E (Builtin.zeroCells z'.cells (n-m)).toList 0 cur w hg (by
   simp only[Nat.add_zero,Array.length_toList,size_zeroCells,A];have:m*k+(n-m)*k=n*k:=by rw[<-Nat.add_mul];congr 1;omega
   omega) (zeroCells_one oM a0)
  simp only[Nat.add_zero,Array.length_toList,size_zeroCells,A]at y;have a2:m*k+(n-m)*k=n*k:=by rw[<-Nat.add_mul];congr 1;omega
  have U:(Builtin.zeroCells z'.cells (n-m)).toList.length=(n-m)*k:=by rw[Array.length_toList,size_zeroCells,A]
  have V:cur.toList.length=cap*k:=by rw[Array.length_toList];exact hcsz
  obtain⟨NC,J⟩:=eX ((cur.toList.take (m*k)++(Builtin.zeroCells z'.cells (n-m)).toList++cur.toList.drop (m*k+(n-m)*k)).toArray)
  rw[J]at y;have b0:NC.size=cap*k:=by
   rw[<-J];simp only[size_toArray,length_append,length_take,length_drop,U,V];omega
  have a9:NC.toList.take (m*k)=cur.toList.take (m*k):=by
   rw[<-J];show List.take (m*k) (cur.toList.take (m*k)++(Builtin.zeroCells z'.cells (n-m)).toList++cur.toList.drop (m*k+(n-m)*k))=_;rw[append_assoc,take_append_of_le_length (by rw[length_take,V];omega),take_take,Nat.min_self]
  refine⟨w.setRow g NC,?_,s _ _ (setRow_heap w g cur NC E (0,0) hg) b0 a9,⟨rfl,rfl,rfl,by simp[setRow],λx _ hx=>setRow_other w g x _ (by simpa using hx)⟩⟩;obtain⟨d,hd⟩:∃d,n-m=d+1:=⟨n-m-1,oM⟩
  rw[hd]at y |-;have Z:(zeroValue E).run P w=.ok z' w:=by simp[zeroValue,typeInfo,r,M]
  simp[Builtin.clear_,run_underlying I.und,Z,y]
end
end

section
open Go.RowKit Go.Sort Go.Shelf
instance:Inhabited Pair:=⟨pair0⟩
theorem Own.hi_at{P:Program}{T E:TypeId}{bytes:Nat}(I:ElemInfo P T E k bytes){B g cap:Nat}(h:Own w B E k (some ⟨g,0,none⟩) n cap L){m:Nat}(hm:m<n)(w0:World) :
  (slS T (.slice (some ⟨g,0,none⟩) n cap) (some (.int .i64 m)) none none).run P w0=.ok (.slice (some ⟨g,m*k,none⟩) (n-m) (cap-m)) w0:=by
 have hA:=h.cap_le;rw[run_slS I];unfold Instr.slice Instr.sliceBounds;simp only[Sem.run_bind,run_underlying I.und,Result.andThen_ok,Sem.run_pure,run_bound w0 m n (Nat.le_of_lt hm),I.sizeOf_run w0,Option.isSome_none,Bool.false_eq_true,if_false];rw[if_neg oM];congr 2
 show some ((⟨g,0,none⟩:Addr).add (m*k))=_;unfold Addr.add;split <;> simp_all
end


inductive VSt where
 | t (n:Int)
 | b (L G:List BRow)
 | l (L:List LRow)
 | m (X:List MRow) (O:List Id32)
 | s (N:List NodeV) (G:List Id32)
def StAt(w:World)(O M:List Nat)(v:Value):VSt->Prop
 | .t n=>∃g,v=.iface 245 (.pointer (some ⟨g,0,none⟩))/\TallyAt w g n/\O = [g]
 | .b L G=>∃g bl bg,v=.iface 248 (.pointer (some ⟨g,0,none⟩))/\BagAt w g bl bg L G/\O = [g,bl,bg]
 | .l L=>∃g b,v=.iface 251 (.pointer (some ⟨g,0,none⟩))/\LastAt w g b L/\O = [g,b]
 | .m X Ov=>∃g bl bo,v=.iface 254 (.pointer (some ⟨g,0,none⟩))/\MultiAt w g bl bo X Ov/\O = [g,bl,bo]
 | .s N G=>∃g bn bb bg,v=.iface 257 (.pointer (some ⟨g,0,none⟩))/\SeqAt w M g bn bb bg N G/\O = [g,bn,bb,bg]
def VSt.kind:VSt->Int
 | .t _=>1
 | .b ..=>2
 | .l _=>3
 | .m ..=>4
 | .s ..=>5
def VSt.len:VSt->Nat
 | .t _=>0
 | .b L _=>L.length
 | .l L=>L.length
 | .m X _=>X.length
 | .s N _=>N.length
def doS(m:MarkV)(o:OpV):VSt->VSt
 | .t n=>.t (wrap64 (n+o.n))
 | .b L G=>if o.k=2 then .b (addB L G ⟨m.id,o.val⟩) G else .b (remL L o.val o.refs) (remG G o.val o.refs)
 | .l L=>.l (setL L o.key ⟨o.val,o.n,m.id⟩)
 | .m X Ov=>.m (setX X Ov ⟨m.id,o.key,o.val⟩ o.refs) (putO Ov o.refs)
 | .s N G=>if o.k=6 then .s (addN N ⟨m.id,m.h,o.ref,o.val⟩) G else .s N (insC cmpId G o.ref)
theorem doS_b2(m:MarkV)(o:OpV)(L G:List BRow)(h:o.k=2):doS m o (.b L G)=.b (addB L G ⟨m.id,o.val⟩) G:=if_pos h
theorem doS_b3(m:MarkV)(o:OpV)(L G:List BRow)(h:¬o.k=2):doS m o (.b L G)=.b (remL L o.val o.refs) (remG G o.val o.refs):=if_neg h
theorem doS_s6(m:MarkV)(o:OpV)(N:List NodeV)(G:List Id32)(h:o.k=6):doS m o (.s N G)=.s (addN N ⟨m.id,m.h,o.ref,o.val⟩) G:=if_pos h
theorem doS_s7(m:MarkV)(o:OpV)(N:List NodeV)(G:List Id32)(h:¬o.k=6):doS m o (.s N G)=.s N (insC cmpId G o.ref):=if_neg h
theorem doS_kind(m:MarkV)(o:OpV)(s:VSt):(doS m o s).kind=s.kind:=by
 cases s <;> simp only[doS] <;> (try split) <;> rfl
theorem remL_len(v:ByteArray):∀(T:List Id32) (L:List BRow),(remL L v T).length<=L.length
 | [],L=>lR
 | t :: T,L=>Nat.le_trans (remL_len v T _) (length_filter_le _ _)
theorem doS_len(m:MarkV)(o:OpV)(s:VSt):(doS m o s).len<=s.len+1:=by
 cases s with
 | t n=>exact zL
 | b L G =>
  by_cases h:o.k=2
  ·rw[doS_b2 m o L G h];show(addB L G ⟨m.id,o.val⟩).length<=L.length+1;unfold addB;have:=insC_length (c:=cmpRow) L ⟨m.id,o.val⟩
   repeat' split
   all_goals omega
  ·rw[doS_b3 m o L G h];show(remL L o.val o.refs).length<=L.length+1;have:=remL_len o.val o.refs L;omega
 | l L=>exact setL_length _ _ _
 | m X Ov =>
  show(setX X Ov ⟨m.id,o.key,o.val⟩ o.refs).length<=X.length+1;unfold setX livR;exact Nat.le_trans (length_filter_le _ _) (insC_length (c:=cmpMR) X _)
 | s N G =>
  by_cases h:o.k=6
  ·rw[doS_s6 m o N G h];show(addN N ⟨m.id,m.h,o.ref,o.val⟩).length<=N.length+1;unfold addN;repeat' split
   all_goals simp
  ·rw[doS_s7 m o N G h];exact Nat.le_succ N.length
theorem StAt.kept{w w':World}{O M S:List Nat}{v:Value}{s:VSt}(h:StAt w O M v s)(k:Keep S w w')(hO:∀x∈O,x∉S)(hS:∀x∈S,x∈M\/w.heap.size<=x):StAt w' O M v s:=by
 cases s with
 | t n=>obtain⟨g,e,h1,rfl⟩:=h;exact⟨g,e,h1.kept k (hO g sI),rfl⟩
 | b L G=>obtain⟨g,bl,bg,e,h1,rfl⟩:=h;exact⟨g,bl,bg,e,h1.kept k (hO g sI) (hO bl sI) (hO bg sI),rfl⟩
 | l L=>obtain⟨g,b,e,h1,rfl⟩:=h;exact⟨g,b,e,h1.kept k (hO g sI) (hO b sI),rfl⟩
 | m X Ov=>obtain⟨g,bl,bo,e,h1,rfl⟩:=h;exact⟨g,bl,bo,e,h1.kept k (hO g sI) (hO bl sI) (hO bo sI),rfl⟩
 | s N G=>obtain⟨g,bn,bb,bg,e,h1,rfl⟩:=h;exact⟨g,bn,bb,bg,e,h1.kept k hS (hO g sI) (hO bn sI) (hO bb sI) (hO bg sI),rfl⟩
theorem StAt.below{w':World}{O M:List Nat}{v:Value}{s:VSt}(h:StAt w O M v s)(k:Below w.heap.size w w'):StAt w' O M v s:=h.kept (Keep.of_below k) sI sI
structure OpFit(s:VSt)(o:OpV):Prop where
 kind:belongs o.k=s.kind
 key:o.key.size<=16
 val:o.val.size<=16
 refs:o.refs.length<=8
 lo:-2147483648<=o.n
 hi:o.n<2147483648
theorem vdoes(m:MarkV)(o:OpV)(A:Option Addr)(c:Nat)(w:World)(g:Nat)(t:ByteArray)(b:Nat)(I:List Id32)(v:Value)(O M:List Nat)(s:VSt)(h:ViewAt w g t b I v)(hs:StAt w O M v s)(hM:∀x∈M,x<w.heap.size)(ho:OpFit s o)(hA:TagsIn w A o.refs.length o.refs)(hl:s.len<=1000) :
  Calls prog 238 #[.pointer (some ⟨g,0,none⟩),.agg (markVC m),.agg (opC o A c)] w λe w'=>e=.returned (.tuple #[])/\StAt w' O M v (doS m o s)/\Keep O w w':=by
 cases s with
 | t n =>
  obtain⟨gt,rfl,h1,rfl⟩:=hs;refine(vdoes_t m o A c w g gt t b I n h h1 ho.lo ho.hi).mono ?_;rintro e w' ⟨rfl,h2,hk⟩;exact⟨rfl,⟨gt,rfl,h2,rfl⟩,hk⟩
 | b L G =>
  obtain⟨gt,bl,bg,rfl,h1,rfl⟩:=hs;by_cases h2:o.k=2
  ·refine(vdoes_b2 m o A c w g gt bl bg t b I L G h h1 h2 ho.val).mono ?_;rintro e w' ⟨rfl,h3,hk⟩;refine⟨rfl,?_,hk.mono sI⟩;rw[doS_b2 m o L G h2];exact⟨gt,bl,bg,rfl,h3,rfl⟩
  ·refine(vdoes_b3 m o A c w g gt bl bg t b I L G h h1 (by simpa using h2) ho.val hA ho.refs).mono ?_;rintro e w' ⟨rfl,h3,hk⟩;refine⟨rfl,?_,hk.mono (by intro x hx;simp at hx |-;omega)⟩;rw[doS_b3 m o L G h2];exact⟨gt,bl,bg,rfl,h3,rfl⟩
 | l L =>
  obtain⟨gt,bl,rfl,h1,rfl⟩:=hs;refine(vdoes_l m o A c w g gt bl t b I L h h1 ho.key ho.val).mono ?_;rintro e w' ⟨rfl,h3,hk⟩;exact⟨rfl,⟨gt,bl,rfl,h3,rfl⟩,hk.mono sI⟩
 | m X Ov =>
  obtain⟨gt,bl,bo,rfl,h1,rfl⟩:=hs;refine(vdoes_m m o A c w g gt bl bo t b I X Ov h h1 ho.key ho.val hA ho.refs (by have:X.length<=1000:=hl;omega)).mono ?_;rintro e w' ⟨rfl,h3,hk⟩;exact⟨rfl,⟨gt,bl,bo,rfl,h3,rfl⟩,hk.mono (by intro x hx;simp at hx |-;omega)⟩
 | s N G =>
  obtain⟨gt,bn,bb,bg,rfl,h1,rfl⟩:=hs;by_cases h2:o.k=6
  ·refine(vdoes_s6 m o A c w g gt bn bb bg t b I M N G h h1 hM h2 ho.val (by have:N.length<=1000:=hl;omega)).mono ?_;rintro e w' ⟨rfl,h3,hk⟩;refine⟨rfl,?_,hk.mono (by intro x hx;simp at hx |-;omega)⟩;rw[doS_s6 m o N G h2];exact⟨gt,bn,bb,bg,rfl,h3,rfl⟩
  ·refine(vdoes_s7 m o A c w g gt bn bb bg t b I M N G h h1 (by simpa using h2)).mono ?_;rintro e w' ⟨rfl,h3,hk⟩;refine⟨rfl,?_,hk.mono (by intro x hx;simp at hx |-;omega)⟩;rw[doS_s7 m o N G h2];exact⟨gt,bn,bb,bg,rfl,h3,rfl⟩

def VSt.new(k:Int):VSt:=if k=1 then .t 0 else if k=2 then .b [] []else if k=3 then .l []else if k=4 then .m [] []else .s [] []
theorem kindB_range(t:ByteArray):kindB t=0\/kindB t=1\/kindB t=2\/kindB t=3\/kindB t=4\/kindB t=5:=by
 unfold kindB kindC
 repeat' split
 all_goals simp
theorem opO_lo(l:List UInt8)(h:opE l=0):-2147483648<=(opO l).n:=by
 have hn:=opO_ok l h;have hk:1<=numV 1 l 0/\numV 1 l 0<=7:=by
  unfold opE at h;split at h
  ·contradiction
  split at h
  ·cases h
  ·omega
 have h2:=num_take (numV 1 l 0) (rawL 1 l 0) 0 hk.1 hk.2;have e:(takeO (numV 1 l 0) (rawL 1 l 0) 0).o=opO l:=rfl;rw[e,decide_eq_true hn.2.2.2.2.2.2.2]at h2;unfold numO at h2;simp only[Bool.and_eq_true,decide_eq_true_eq]at h2;exact h2.2.2
def foldS(t:ByteArray)(m:MarkV)(s:VSt):VSt:=if fits t m then doS m (opO m.body.data.toList) s else s
theorem foldS_kind(t:ByteArray)(m:MarkV)(s:VSt):(foldS t m s).kind=s.kind:=by
 unfold foldS;split
 ·exact doS_kind _ _ _
 ·rfl
theorem foldS_len(t:ByteArray)(m:MarkV)(s:VSt):(foldS t m s).len<=s.len+1:=by
 unfold foldS;split
 ·exact doS_len _ _ _
 ·omega


theorem idB_lt(d:Id32)(h:k<32):idB d k=((d.l[k]'(by rw[d.h];exact h)).toNat:Int):=by
 unfold idB;rw[getD_eq_getElem?_getD,getElem?_eq_getElem (by rw[d.h];exact h)];rfl
theorem drop_id(d:Id32)(h:k<32):d.l.drop k=d.l[k]'(by rw[d.h];exact h) :: d.l.drop (k+1):=drop_eq_getElem_cons (by rw[d.h];exact h)
theorem cmpB_cons(u v:UInt8)(l m:List UInt8):cmpB (u :: l) (v :: m)=if u<v then -1 else if v<u then 1 else cmpB l m:=rfl
theorem rcompare(a b:Id32)(w:World):Calls prog 228 #[.agg (idC a),.agg (idC b)] w λe w'=>e=.returned (.int .i64 (cmpId a b))/\Below w.heap.size w w':=by
 go_enter func228,ntmps228
 (go_wp2_with fail);have t:Hid (∀k,k<32->((w.alloc (.cells (idC a) 23)).alloc (.cells (idC b) 23)).cell? ⟨w.heap.size,k,none⟩=some (.int .u8 (idB a k))):=λk hk=>(by simp[go_sem,hk]);have s:Hid (∀k,k<32->((w.alloc (.cells (idC a) 23)).alloc (.cells (idC b) 23)).cell? ⟨w.heap.size+1,k,none⟩=some (.int .u8 (idB b k))):=λk hk=>(by simp[go_sem,hk]);have hB:Below w.heap.size w ((w.alloc (.cells (idC a) 23)).alloc (.cells (idC b) 23)):=(bA).alloc sI _;generalize (w.alloc (.cells (idC a) 23)).alloc (.cells (idC b) 23)=W at *;go_loopw [5] (λi wr=>∃k:Nat,k<=32/\i=.int .i64 k/\Hid (cmpB (a.l.drop k) (b.l.drop k)=cmpId a b)/\Below W.heap.size W wr) (λi _=>32-(intOf i).toNat)
 case atStart=>exact⟨0,oM,rfl,rfl,Below.refl _ _⟩
 case round =>
  obtain⟨k,hk,rfl,hd,hb⟩:=hrel;by_cases d:k<32
  ·have ca:=(hb.cell (p:=⟨w.heap.size,k,none⟩) (block_lt_of_cell? W _ (t.out k d))).trans (t.out k d);have cb:=(hb.cell (p:=⟨w.heap.size+1,k,none⟩) (block_lt_of_cell? W _ (s.out k d))).trans (s.out k d);have j:cmpId a b=if idB a k<idB b k then -1 else if idB b k<idB a k then 1 else cmpB (a.l.drop (k+1)) (b.l.drop (k+1)):=by
    rw[<-hd.out,drop_id a d,drop_id b d,idB_lt a d,idB_lt b d,cmpB_cons];simp only[UInt8.lt_iff_toNat_lt,Int.ofNat_lt]
   obtain⟨x,hx⟩:=eX (idB a k)
   obtain⟨y,hy⟩:=eX (idB b k)
   rw[hx,hy]at j;rw[hx]at ca;rw[hy]at cb;have r:=dH j;clear j hx hy;go_upto_region 4 with fail
   refine lX wr ?_;intro f hS;have b1:=sub_cell ca;have b2:=sub_cell cb;refine lZ ?_;refine wpLx_nil ?_;intro hS;have m:Below W.heap.size W wr.drew:=hb.drew;clear f hS b1 b2;by_cases h1:x<y
   ·(go_wp2_with fail);go_ret;exact⟨ret_int (by rw[r.out,if_pos oM]),hB.trans (m.mono hB.size)⟩
   ·go_upto_region 6 with fail
    refine lX wr.drew ?_;intro f hS;have b1:=sub_cell (W:=wr.drew) ca;have b2:=sub_cell (W:=wr.drew) cb;refine lZ ?_;refine wpLx_nil ?_;intro hS;clear f hS b1 b2;by_cases h2:y<x
    ·(go_wp2_with fail);go_ret;exact⟨ret_int (by rw[r.out,if_neg oM,if_pos oM]),hB.trans (m.drew.mono hB.size)⟩
    ·(go_wp2_with fail);go_roundw
     case rel=>exact⟨k+1,oM,by go_num,(show cmpB _ _=_ by rw[r.out,if_neg oM,if_neg oM]),m.drew⟩
     case measure=>exact sZ
  ·have g:k=32:=oM;subst g;(go_wp2_with fail);go_ret;have h0:=hd.out;rw[drop_eq_nil_of_le (by rw[a.h];omega),drop_eq_nil_of_le (by rw[b.h];omega)]at h0;exact⟨ret_int (by rw[<-h0];rfl),hB.trans (hb.mono hB.size)⟩
structure Row where
 key:ByteArray
 val:ByteArray
 n:Int
 id:Id32
theorem Row_ext{x y:Row}(h:x.key=y.key/\x.val=y.val/\x.n=y.n/\x.id=y.id):x=y:=by cases x;cases y;simp_all
instance:DecidableEq Row:=λx y=>if h:x.key=y.key/\x.val=y.val/\x.n=y.n/\x.id=y.id then isTrue (Row_ext h)else isFalse (λe=>h (by subst e;simp))
theorem id_string{q o c:Nat}{d:Id32}(h:rowAt w q o 32=some (idC d)):(convert 103 9 (.slice (some ⟨q,o,none⟩) 32 c)).run prog w=.ok (.string ⟨d.l.toArray⟩) w:=by
 have:=run_convert_bytes_back (P:=prog) w 103 9 5 ⟨q,o,none⟩ c d.l underlying103 underlying5 underlying9 (λj hj=>by
  have f:(⟨q,o,none⟩:Addr).add j=⟨q,o+j,none⟩:=by unfold Addr.add;split <;> simp_all
  have hd:=d.h;rw[f,rowAt_cell h oM];simp[idC,byteC,hj])
 rwa [d.h]at this
def rowLB(p:LRow):List UInt8:=beL 1 p.1.size++(p.1.data.toList++(beL 1 p.2.val.size++(p.2.val.data.toList++(beL 4 p.2.n.toNat++p.2.id.l))))
def putLB(L:List LRow):List UInt8:=beL 4 L.length++L.flatMap rowLB
def rowS(x:Row):Setting:=⟨x.val,x.n,x.id⟩
def rowL(x:Row):LRow:=(x.key,rowS x)
theorem rhas6(w:World)(A:Option Addr)(n cap:Nat)(R:List Id32)(d:Id32)(h:TagsIn w A n R)(hn:n<=9223372036854775807) :
  Calls prog 227 #[.slice A n cap,.agg (idC d)] w λe w'=>e=.returned (.bool (decide (d∈R)))/\Below w.heap.size w w':=by
 have m:=h.len;have hB:Below w.heap.size w (w.alloc (.cells (idC d) 23)):=bA;have hd0:rowAt (w.alloc (.cells (idC d) 23)) w.heap.size 0 32=some (idC d):=by simp[go_sem]
 have f:=dH m;clear m;go_enter func227,ntmps227
 (go_wp2_with fail);generalize w.alloc (.cells (idC d) 23)=W at *;go_loopw [5] (λi wr=>∃k:Nat,k<=n/\i=.int .i64 k/\Hid (d∉R.take k)/\Below W.heap.size W wr) (λi _=>n-(intOf i).toNat)
 case atStart=>exact⟨0,zL,rfl,(sI:d∉R.take 0),Below.refl _ _⟩
 case round =>
  obtain⟨k,hk,rfl,y,hb⟩:=hrel;by_cases j:k<n
  ·obtain⟨q,o,rfl,hr⟩:=TagsIn.get (SlR.below (SlR.below h hB) hb) j (by rw[f.out];exact j);have B:rowAt wr w.heap.size 0 32=some (idC d):=(rowAt_of_block (hb.block _ (rowAt_lt hd0)) _ _).trans hd0;have s:R.take (k+1)=R.take k ++ [R[k]'(by rw[f.out];exact j)]:=by rw[take_add_one,getElem?_eq_getElem (by rw[f.out];exact j)];rfl
   have g:R[k]'(by rw[f.out];exact j)∈R:=getElem_mem _;obtain⟨x,hx⟩:=eX (R[k]'(by rw[f.out];exact j))
   rw[hx]at hr s g;have E:=dH s;have Hm:=dH g;clear hx s g;go_upto_region 4 with fail
   refine lX wr ?_;intro D hS;have b1:=sub_row hr;have b2:=sub_row B;refine lZ ?_;refine wpLx_nil ?_;intro hS;clear D hS b1 b2 hr B;go_wp2_with fail
   ·have he:(x==d)=true:=by assumption
    have e:x=d:=by simpa using he
    have F:Hid (decide (d∈R)=true):=decide_eq_true (by rw[<-e];exact Hm.out);clear e;go_ret;exact⟨ret_bool (by rw[F.out]),hB.trans (hb.drew.mono hB.size)⟩
   ·have he:(x==d)=false:=by assumption
    have e:¬x=d:=by simpa using he
    have t:Hid (d∉R.take (k+1)):=by
     show _;rw[E.out,mem_append,mem_singleton];rintro(h1 | h1)
     ·exact y.out h1
     ·exact e h1.symm
    clear e;go_roundw
    case rel=>exact⟨k+1,oM,by go_num,t,hb.drew⟩
    case measure=>exact sZ
  ·have r:d∉R:=by
    have:=y.out
    rwa [take_of_length_le (by rw[f.out];omega)]at this
   have Hn:Hid (decide (d∈R)=false):=decide_eq_false r;clear r;(go_wp2_with fail);go_ret;exact⟨ret_bool (by rw[Hn.out]),hB.trans (hb.mono hB.size)⟩



structure RV where
 tal:Int
 adds:List BRow
 gone:List BRow
 last:List Row
 mL:List MRow
 mO:List Id32
 sL:List NodeV
 sG:List Id32
structure RNode where
 id:Id32
 h:Int
 ref:Id32
 val:ByteArray
theorem RNode_ext{x y:RNode}(h:x.id=y.id/\x.h=y.h/\x.ref=y.ref/\x.val=y.val):x=y:=by cases x;cases y;simp_all
instance:DecidableEq RNode:=λx y=>if h:x.id=y.id/\x.h=y.h/\x.ref=y.ref/\x.val=y.val then isTrue (RNode_ext h)else isFalse (λe=>h (by subst e;simp))
instance:Inhabited NodeV:=⟨⟨id0,0,id0,⟨#[]⟩⟩⟩
theorem flatMap_len{α β:Type}(f:α->List β)(k:Nat):∀l:List α,(∀a∈l,(f a).length<=k)->(l.flatMap f).length<=l.length*k
 | [],_=>by simp
 | a :: l,h=>by
  have h1:=h a sI;have h2:=flatMap_len f k l (λb hb=>h b (by simp[hb]));simp only[flatMap_cons,length_append,length_cons,Nat.add_mul];omega
section
open Go.RowKit Go.Sort Go.Shelf
def rowMB(x:MRow):List UInt8:=x.id.l++(beL 1 x.key.size++(x.key.data.toList++(beL 1 x.val.size++x.val.data.toList)))
def idsB(O:List Id32):List UInt8:=beL 4 O.length++O.flatMap Id32.l
def putMB(X:List MRow)(O:List Id32):List UInt8:=beL 4 X.length++X.flatMap rowMB++idsB O
theorem rowMB_len(x:MRow):(rowMB x).length=34+x.key.size+x.val.size:=by
 have e:x.val.data.toList.length=x.val.size:=Array.length_toList;have e2:x.key.data.toList.length=x.key.size:=Array.length_toList;simp only[rowMB,length_append,beL_length,x.id.h,e,e2];omega
end
def sortN(N:List NodeV):List NodeV:=sortC cmpM N
def nodeB(n:NodeV):List UInt8:=n.id.l++(beL 4 n.h.toNat++(n.ref.l++(beL 1 n.val.size++n.val.data.toList)))
def putSB(N:List NodeV)(G:List Id32):List UInt8:=beL 4 (sortN N).length++(sortN N).flatMap nodeB++idsB G
theorem nodeB_len(n:NodeV):(nodeB n).length=69+n.val.size:=by
 have e:n.val.data.toList.length=n.val.size:=Array.length_toList;simp only[nodeB,length_append,beL_length,n.id.h,n.ref.h,e];omega

@[go_sem ↓] theorem slId_rw(x:Value)(lo hi mx:Option Value):Instr.sliceAt 26 x lo hi mx=slS 26 x lo hi mx:=rfl
@[go_sem] theorem bsIdN_run(w:World):(bsS 26 0 #[]).run prog w=.ok (.slice (some ⟨w.heap.size,0,none⟩) 0 0) (w.alloc (.cells #[] 23)):=run_bsS0 einfoId w
abbrev IdsW(w:World)(A:Option Addr)(n cap:Nat)(R:List Id32):Prop:=SlW w A n cap 32 (R.map idC)
theorem rwith(w:World)(A:Option Addr)(n cap:Nat)(O:List Id32)(d:Id32)(h:IdsW w A n cap O)(hn:n<=1000000)(d3:Ris cmpId O) :
  Calls prog 168 #[.slice A n cap,.agg (idC d)] w λe w'=>∃A' cap',e=.returned (.slice A' (insC cmpId O d).length cap')/\IdsW w' A' (insC cmpId O d).length cap' (insC cmpId O d)/\(∀x∈blk A',x∈blk A\/w.heap.size<=x)/\Below w.heap.size w w':=by
 have b9:O.length=n:=by simpa using h.len
 have hB:Below w.heap.size w (w.alloc (.cells (idC d) 23)):=bA;have hd0:rowAt (w.alloc (.cells (idC d) 23)) w.heap.size 0 32=some (idC d):=by simp[go_sem]
 have h0:=h.below hB;have c1:=rhas6 (w.alloc (.cells (idC d) 23)) A n cap O d h0.rd oM;have t:=dH b9;clear b9;by_cases b0:d∈O
 ·rw[decide_eq_true b0]at c1;have X:=insC_old totId d3 b0;have Y:=dH X;clear X b0;go_enter func168,ntmps168
  (go_wp2_with fail);refine c1.mono ?_;rintro e w1 ⟨rfl,a5⟩;have h1:=h0.below a5;have d1:=bel2 hB a5;clear c1;(go_wp2_with fail);go_ret;refine⟨A,cap,by rw[Y.out,t.out];rfl,by rw[Y.out,t.out];exact h1,λx hx=>.inl hx,d1⟩
 ·rw[decide_eq_false b0]at c1;have f1:=dH b0;clear b0;go_enter func168,ntmps168
  go_upto_region 1 with fail
  obtain⟨gx,e2⟩:=eX w.heap.size
  have c8:=dH e2;rw[e2]at hd0 hB |-;obtain⟨W0,e7⟩:=eR (w.alloc (.cells (idC d) 23))
  rw[<-e7]at h0 hd0 hB c1 |-;clear e7 e2;(go_wp2_with fail);refine c1.mono ?_;rintro e w1 ⟨rfl,a5⟩;have h1:=h0.below a5;have d1:Below gx w w1:=hB.trans (a5.mono (by have:=hB.size;have:=c8.out;omega));have a9:rowAt w1 gx 0 32=some (idC d):=(rowAt_of_block (a5.block gx (rowAt_lt hd0)) _ _).trans hd0;clear c1 hd0 a5 hB h0;(go_wp2_with fail);go_loopw [5] (λj wj=>∃m:Nat,m<=n/\j=.int .i64 m/\Hid (∀i (hi:i<O.length),i<m->cmpId O[i] d<0)/\Below w1.heap.size w1 wj) (λj _=>n-(intOf j).toNat)
  case atStart=>exact⟨0,zL,rfl,(show ∀i (hi:i<O.length),i<0->_ from λi _ h=>absurd h oM),Below.refl _ _⟩
  case round =>
   obtain⟨m,V,rfl,a4,b3⟩:=hrel;have d0:rowAt wr gx 0 32=some (idC d):=(rowAt_of_block (b3.block gx (rowAt_lt a9)) _ _).trans a9;have a1:=h1.below b3;by_cases I:m<n
   ·obtain⟨q,o,rfl,d4⟩:=TagsIn.get a1.rd I (by rw[t.out];exact I);have a3:O[m]'(by rw[t.out];exact I)∈O:=getElem_mem _;obtain⟨y,hy⟩:=eX (O[m]'(by rw[t.out];exact I))
    rw[hy]at d4 a3;have Hy:=dH hy;have e5:=dH a3;clear hy a3;have c2:=rcompare y d wr.drew;obtain⟨c,hc⟩:=eX (cmpId y d)
    rw[hc]at c2;have Hc:=dH hc;clear hc;go_upto_region 4 with fail
    refine lX wr ?_;intro d5 hS;have b1:=sub_row d0;have b2:=sub_row d4;refine lZ ?_;refine lC (c2) ?_;clear hS;intro w' hS;refine lZ ?_;refine wpLx_nil ?_;intro hS;have e8:Below wr.heap.size wr w':=hS;have R:=bel2 b3 e8;clear b1 b2 d5 hS c2;by_cases f0:c<0
    ·(go_wp2_with fail);go_roundw
     case rel =>
      refine⟨m+1,oM,by go_num,(show ∀i (hi:i<O.length),i<m+1->cmpId O[i] d<0 from λi hi f2=>?_),R⟩;by_cases e:i=m
      ·subst e;rw[Hy.out,Hc.out];exact f0
      ·exact a4.out i hi oM
     case measure=>exact sZ
    ·have X:=insC_at (c:=cmpId) O d m (by rw[t.out];exact V) a4.out (λe6=>by
      rw[Hy.out,Hc.out];have h1:c≠0:=λe=>f1.out (by rw[<-(totId.zero _ _).1 (Hc.out.trans e)];exact e5.out);omega)
     have Y:=dH X;have J:=h1.below R;have T:rowAt w' gx 0 32=some (idC d):=(rowAt_of_block (R.block gx (rowAt_lt a9)) _ _).trans a9;have b4:Below gx w w':=d1.trans (R.mono (oH (rowAt_lt a9)));clear X d4 d0 b3 R e8 a1;obtain⟨W,rfl⟩:∃W,W=w':=⟨w',rfl⟩
     obtain⟨A,e9⟩:=eX (some ⟨q,o,none⟩:Option Addr)
     rw[e9]at J |-;clear e9;have a6:Below W.heap.size W (W.alloc (.cells #[] 23)):=bA;have F:=Own.empty W W.heap.size 23 32 lR;have d6:∀w0:World,(slS 26 (.slice A n cap) none (some (.int .i64 m)) none).run prog w0=.ok (.slice A m cap) w0:=λw0=>SlW.lo einfoId J V w0;obtain⟨Ah,ch,e0,c0,e1⟩:=J.hi (P:=prog) einfoId (m:=m) V;have L:SlR (W.alloc (.cells #[] 23)) A m 32 ((O.map idC).take m):=(J.rd.below a6).take_ V;have c3:=J.nil;have D:∀r∈(O.map idC).take m,∀u∈r.toList,u.oneCell'=true:=λr hr=>(by obtain⟨y',_,rfl⟩:=mem_map.1 (mem_of_mem_take hr);exact idC_one _);have k:∀r∈(O.map idC).drop m,∀u∈r.toList,u.oneCell'=true:=λr hr=>(by obtain⟨y',_,rfl⟩:=mem_map.1 (mem_of_mem_drop hr);exact idC_one _);go_upto_region 7 with(at_builtin;refine L_appends einfoId rfl F rfl L c3 D oM oM sI ?_;intro A2 e4 w2 g d9 b7)
     simp only[Nat.zero_add,nil_append]at g;have U:Below W.heap.size W w2:=a6.trans (d9.below sI (by simp[blk]));have a2:rowAt w2 gx (0) 32=some (idC d):=(rowAt_of_block (U.block gx (rowAt_lt T)) _ _).trans T;have a7:Below w2.heap.size w2 (w2.alloc (.cells (idC d) 23)):=bA;have E:=g.below a7;have B:rowAt (w2.alloc (.cells (idC d) 23)) w2.heap.size 0 32=some (idC d):=by simp[go_sem]
     have a0:=U.size;go_upto_region 8 with(at_builtin;refine L_append einfoId rfl E rfl B (idC_one _) oM oM sO ?_;intro A4 e3 w4 s d8 b6)
     have H:Below W.heap.size W w4:=(U.trans (a7.mono a0)).trans (d8.below sO (λx hx=>(g.at_base hx).1));have b8:=c0 w4 (J.rd.below H);have d2:=H.size;clear E B a7 F a6 L a2 d6;go_upto_region 9 with(at_builtin;refine L_appends einfoId rfl s rfl b8 e1 k oM oM oM ?_;intro A5 a8 w5 f d7 b5)
     have Z:Below W.heap.size W w5:=H.trans (d7.below oM (λx hx=>(s.at_base hx).1));have c4:(O.map idC).take m ++ [idC d]++(O.map idC).drop m=(O.take m++d :: O.drop m).map idC:=by simp[map_take,map_drop]
     rw[c4]at f;clear s g c4 b8 e0 c0 D k c3;have c6:(O.take m++d :: O.drop m).length=m+1+(n-m):=by simp[t.out];omega
     have c5:(insC cmpId O d).length=m+1+(n-m):=by rw[Y.out,c6]
     rw[<-Y.out]at f;have c9:=dH c5;have c7:=b4.trans (Z.mono (oH (rowAt_lt T)));have G:∀x∈blk A5,w.heap.size<=x:=λx hx=>(by have h1:=(f.at_base hx).1;have h2:=b4.size;have h3:=c8.out;omega);have HB:=dH c7;have N:=dH G;have M:=dH f;clear c6 c5 c7 G f;(go_wp2_with fail);go_ret;exact⟨A5,a8,by rw[c9.out];rfl,by rw[c9.out];exact M.out.slw,λx hx=>.inr (N.out x hx),by rw[c8.out];exact HB.out⟩
   ·have hd:decide (m<n)=false:=by simpa using I
    have X:=insC_at (c:=cmpId) O d m (by rw[t.out];exact V) a4.out (λe6=>absurd (by rw[<-t.out];exact e6) I);have Y:=dH X;clear X;go_upto_region 4 with fail
    refine lX wr ?_;intro d5 hS;refine lQ ?_;intro K hK;refine hK _ _ ?_;clear hK K;refine lZ ?_;refine wpLx_nil ?_;intro hS;have R:=b3.drew;have J:=h1.below R;have T:rowAt wr.drew gx 0 32=some (idC d):=d0;have b4:Below gx w wr.drew:=d1.trans (R.mono (oH (rowAt_lt a9)));clear d5 hS R d0 b3 I hd a1;obtain⟨W,hW⟩:=eX wr.drew
    rw[hW]at J b4 T |-;clear hW;have a6:Below W.heap.size W (W.alloc (.cells #[] 23)):=bA;have F:=Own.empty W W.heap.size 23 32 lR;have d6:∀w0:World,(slS 26 (.slice A n cap) none (some (.int .i64 m)) none).run prog w0=.ok (.slice A m cap) w0:=λw0=>SlW.lo einfoId J V w0;obtain⟨Ah,ch,e0,c0,e1⟩:=J.hi (P:=prog) einfoId (m:=m) V;have L:SlR (W.alloc (.cells #[] 23)) A m 32 ((O.map idC).take m):=(J.rd.below a6).take_ V;have c3:=J.nil;have D:∀r∈(O.map idC).take m,∀u∈r.toList,u.oneCell'=true:=λr hr=>(by obtain⟨y',_,rfl⟩:=mem_map.1 (mem_of_mem_take hr);exact idC_one _);have k:∀r∈(O.map idC).drop m,∀u∈r.toList,u.oneCell'=true:=λr hr=>(by obtain⟨y',_,rfl⟩:=mem_map.1 (mem_of_mem_drop hr);exact idC_one _);go_upto_region 7 with(at_builtin;refine L_appends einfoId rfl F rfl L c3 D oM oM sI ?_;intro A2 e4 w2 g d9 b7)
    simp only[Nat.zero_add,nil_append]at g;have U:Below W.heap.size W w2:=a6.trans (d9.below sI (by simp[blk]));have a2:rowAt w2 gx (0) 32=some (idC d):=(rowAt_of_block (U.block gx (rowAt_lt T)) _ _).trans T;have a7:Below w2.heap.size w2 (w2.alloc (.cells (idC d) 23)):=bA;have E:=g.below a7;have B:rowAt (w2.alloc (.cells (idC d) 23)) w2.heap.size 0 32=some (idC d):=by simp[go_sem]
    have a0:=U.size;go_upto_region 8 with(at_builtin;refine L_append einfoId rfl E rfl B (idC_one _) oM oM sO ?_;intro A4 e3 w4 s d8 b6)
    have H:Below W.heap.size W w4:=(U.trans (a7.mono a0)).trans (d8.below sO (λx hx=>(g.at_base hx).1));have b8:=c0 w4 (J.rd.below H);have d2:=H.size;clear E B a7 F a6 L a2 d6;go_upto_region 9 with(at_builtin;refine L_appends einfoId rfl s rfl b8 e1 k oM oM oM ?_;intro A5 a8 w5 f d7 b5)
    have Z:Below W.heap.size W w5:=H.trans (d7.below oM (λx hx=>(s.at_base hx).1));have c4:(O.map idC).take m ++ [idC d]++(O.map idC).drop m=(O.take m++d :: O.drop m).map idC:=by simp[map_take,map_drop]
    rw[c4]at f;clear s g c4 b8 e0 c0 D k c3;have c6:(O.take m++d :: O.drop m).length=m+1+(n-m):=by simp[t.out];omega
    have c5:(insC cmpId O d).length=m+1+(n-m):=by rw[Y.out,c6]
    rw[<-Y.out]at f;have c9:=dH c5;have c7:=b4.trans (Z.mono (oH (rowAt_lt T)));have G:∀x∈blk A5,w.heap.size<=x:=λx hx=>(by have h1:=(f.at_base hx).1;have h2:=b4.size;have h3:=c8.out;omega);have HB:=dH c7;have N:=dH G;have M:=dH f;clear c6 c5 c7 G f;(go_wp2_with fail);go_ret;exact⟨A5,a8,by rw[c9.out];rfl,by rw[c9.out];exact M.out.slw,λx hx=>.inr (N.out x hx),by rw[c8.out];exact HB.out⟩
theorem rset(w:World)(A:Option Addr)(n cap:Nat)(R:List Id32)(h:TagsIn w A n R)(hn:n<=1000000) :
  Calls prog 97 #[.slice A n cap] w λe w'=>∃A' cap',e=.returned (.slice A' (sortC cmpId R).length cap')/\IdsW w' A' (sortC cmpId R).length cap' (sortC cmpId R)/\(∀x∈blk A',w.heap.size<=x)/\Below w.heap.size w w':=by
 have s:=h.len;have f:=dH s;clear s;go_enter func97,ntmps97
 (go_wp2_with fail);go_loopw [3,4] (λout i wr=>∃(k:Nat) (A1:Option Addr) (n1 g:Nat) (O:List Id32),k<=n/\i=.int .i64 k/\out=.slice A1 n1 g/\Hid (O=sortC cmpId (R.take k))/\IdsW wr A1 n1 g O/\(∀x∈blk A1,w.heap.size<=x)/\Below w.heap.size w wr) (λ_ i _=>n-(intOf i).toNat)
 case atStart=>exact⟨0,none,0,0,[],zL,rfl,rfl,rfl,SlW.none_,by simp[blk],Below.refl _ _⟩
 case round =>
  obtain⟨k,A1,n1,g,O,hk,rfl,rfl,hO,B,H,hb⟩:=hrel;have G:O.length=n1:=by simpa using B.len
  by_cases r:k<n
  ·obtain⟨q,o,rfl,hr⟩:=TagsIn.get (SlR.below h hb) r (by rw[f.out];exact r);have t:sortC cmpId (R.take (k+1))=insC cmpId O (R[k]'(by rw[f.out];exact r)):=by
    rw[take_add_one,getElem?_eq_getElem (by rw[f.out];exact r),Option.toList_some,sortC_snoc,hO.out]
   have F:n1<=1000000:=by have:=sortC_length (c:=cmpId) (R.take k);rw[<-hO.out]at this;simp at this;have:=f.out;omega
   have m:Ris cmpId O:=by rw[hO.out];exact ris_sortC totId _
   obtain⟨d,hd⟩:=eX (R[k]'(by rw[f.out];exact r))
   rw[hd]at hr t;have M:=dH t;have N:=dH F;have E:=dH m;clear hd t G F m;have c1:=rwith wr A1 n1 g O d B N.out E.out;(go_wp2_with fail);refine c1.mono ?_;rintro e w1 ⟨A2,D,rfl,y,j,L⟩;have J:=hb.trans (L.mono hb.size);have T:=hb.size;clear c1;(go_wp2_with fail);go_roundw
   case rel=>exact⟨k+1,A2,_,D,_,oM,by go_num,rfl,(show _=_ from M.out.symm),y,λx hx=>(j x hx).elim (H x) (λh=>oM),J⟩
   case measure=>exact sZ
  ·have e:R.take k=R:=take_of_length_le (by rw[f.out];omega);have I:=hO.out;rw[e]at I;subst I;subst G;clear hO e;(go_wp2_with fail);go_ret;exact⟨A1,g,rfl,B,H,hb⟩







section
def RV.len(x:RV):Nat:=x.adds.length+x.gone.length+x.last.length+x.mL.length+x.mO.length+x.sL.length+x.sG.length
end



section
structure OfS where
 n:Int
 key:ByteArray
 val:ByteArray
 ref:Id32
 refs:List Id32
 l:List UInt8
 e:Int
def OfS.op(k:Nat)(s:OfS):OpR:=⟨⟨k,s.n,s.key,s.val,s.ref,s.refs⟩,s.l,s.e⟩
end
theorem rsame_ids(w:World)(A B:Option Addr)(n m cap cap':Nat)(X Y:List Id32)(hx:TagsIn w A n X)(hy:TagsIn w B m Y)(hn:n<=1000000)(hm:m<=1000000) :
  Calls prog 96 #[.slice A n cap,.slice B m cap'] w λe w'=>e=.returned (.bool (decide (X=Y)))/\Below w.heap.size w w':=by
 have s:=hx.len;have r:=hy.len;have j:=dH s;have g:=dH r;by_cases G:n=m
 ·subst G;clear s r;go_enter func96,ntmps96
  (go_wp2_with fail);go_loopw [5] (λi wr=>∃k:Nat,k<=n/\i=.int .i64 k/\Hid (X.take k=Y.take k)/\Below w.heap.size w wr) (λi _=>n-(intOf i).toNat)
  case atStart=>exact⟨0,zL,rfl,rfl,Below.refl _ _⟩
  case round =>
   obtain⟨k,hk,rfl,H,hb⟩:=hrel;by_cases d:k<n
   ·obtain⟨q,o,rfl,hr⟩:=TagsIn.get (SlR.below hx hb) d (by rw[j.out];exact d);obtain⟨q2,o2,rfl,F⟩:=TagsIn.get (SlR.below hy hb) d (by rw[g.out];exact d);have hX:X.take (k+1)=X.take k ++ [X[k]'(by rw[j.out];exact d)]:=by rw[take_add_one,getElem?_eq_getElem (by rw[j.out];exact d)];rfl
    have hY:Y.take (k+1)=Y.take k ++ [Y[k]'(by rw[g.out];exact d)]:=by rw[take_add_one,getElem?_eq_getElem (by rw[g.out];exact d)];rfl
    obtain⟨x,D⟩:=eX (X[k]'(by rw[j.out];exact d))
    obtain⟨y,t⟩:=eX (Y[k]'(by rw[g.out];exact d))
    rw[D]at hr hX;rw[t]at F hY;have HX:=dH hX;have HY:=dH hY;clear hX hY;have O:=dH D;have N:=dH t;clear D t;go_upto_region 6 with fail
    refine lX wr ?_;intro f hS;have b1:=sub_row hr;have b2:=sub_row F;refine lZ ?_;refine wpLx_nil ?_;intro hS;clear f hS b1 b2 hr F;have I:Below w.heap.size w wr.drew:=hb.drew;cases hpe:(x==y)with
    | true =>
     have e:=beq_iff_eq.1 hpe;have E:=dH e;clear e;(go_wp2_with fail);go_roundw
     case rel=>exact⟨k+1,oM,by go_num,(show X.take (k+1)=Y.take (k+1) by rw[HX.out,HY.out,H.out,E.out]),I⟩
     case measure=>exact sZ
    | false =>
     have f:X≠Y:=by
      intro e;subst e;have:x=y:=O.out.symm.trans N.out;rw[beq_iff_eq.2 this]at hpe;cases hpe
     have hd:=dH (decide_eq_false f);clear f;(go_wp2_with fail);go_ret;exact⟨ret_bool (by rw[hd.out]),I⟩
   ·have M:k=n:=oM;have e:X=Y:=by
     have:=H.out
     rwa [take_of_length_le (by rw[j.out];omega),take_of_length_le (by rw[g.out];omega)]at this
    have E:=dH (decide_eq_true e);clear e M;(go_wp2_with fail);go_ret;exact⟨ret_bool (by rw[E.out]),hb⟩
 ·have f:X≠Y:=by intro e;subst e;exact G (s.symm.trans r)
  have hd:=dH (decide_eq_false f);have L:(n==m)=false:=by simpa using G
  have J:((n:Int)==(m:Int))=false:=by rw[beq_eq_false_iff_ne];omega
  clear s r f;go_enter func96,ntmps96
  (go_wp2_with fail);go_ret;exact⟨ret_bool (by rw[hd.out]),Below.refl _ _⟩
theorem ris_sort(R:List Id32):decide (R=sortC cmpId R)=risI R:=by
 rw[Bool.eq_iff_iff,decide_eq_true_eq,risI_ok];exact⟨λh=>by rw[h];exact ris_sortC totId R,λh=>(sortC_ris totId h).symm⟩
theorem ris6(w:World)(A:Option Addr)(n cap:Nat)(R:List Id32)(h:TagsIn w A n R)(hn:n<=1000000) :
  Calls prog 48 #[.slice A n cap] w λe w'=>e=.returned (.bool (risI R))/\Below w.heap.size w w':=by
 have d:=h.len;have f:=sortC_length (c:=cmpId) R;rw[d]at f;have c1:=rset w A n cap R h hn;have c2:=λw1 (hb:Below w.heap.size w w1) A' cap' (hs:IdsW w1 A' (sortC cmpId R).length cap' (sortC cmpId R))=>rsame_ids w1 A A' n (sortC cmpId R).length cap cap' R (sortC cmpId R) (SlR.below h hb) hs.rd hn oM;have Hs:=dH (ris_sort R);clear d f;go_enter func48,ntmps48
 (go_wp2_with fail);refine c1.mono ?_;rintro e w1 ⟨A',cap',rfl,hs,_,g⟩;(go_wp2_with fail);refine(c2 w1 g A' cap' hs).mono ?_;rintro e w2 ⟨rfl,j⟩;(go_wp2_with fail);go_ret;exact⟨ret_bool (by rw[Hs.out]),bel2 g j⟩

theorem emptyS:(⟨#[]⟩:ByteArray).size=0:=rfl






def rowB(x:BRow):List UInt8:=x.tag.l++(beL 1 x.val.size++x.val.data.toList)
def rowsB(L:List BRow):List UInt8:=beL 4 L.length++L.flatMap rowB
def putB(L G:List BRow):List UInt8:=rowsB L++rowsB G
theorem rowB_len(x:BRow):(rowB x).length=33+x.val.size:=by
 have e:x.val.data.toList.length=x.val.size:=Array.length_toList;simp[rowB,beL_length,x.tag.h];omega
def VSt.ris:VSt->Prop
 | .s _ G=>Ris cmpId G
 | _=>True




















structure NNode where
 id:Id32
 node:SNode
def nNodeC(x:NNode):Array Value:=idC x.id++sNodeC x.node
theorem NNode_ext{x y:NNode}(h:x.id=y.id/\x.node=y.node):x=y:=by cases x;cases y;simp_all
instance:DecidableEq NNode:=λx y=>if h:x.id=y.id/\x.node=y.node then isTrue (NNode_ext h)else isFalse (λe=>h (by subst e;simp))
@[go_sem ↓] theorem loadNNode_rw(a:Addr):loadVar 346 a=ldS 346 a:=rfl
@[go_sem ↓] theorem storeNNode_rw(a:Addr)(v:Value):storeVar 346 a v=stS 346 a v:=rfl
@[go_sem ↓] theorem buildNNode_rw(parts:Array (Nat×Value)):Instr.build 346 parts=bdS 346 parts:=rfl
@[go_sem ↓] theorem bsNN_rw(n:Nat)(parts:Array (Nat×Value)):Instr.buildSlice 340 n parts=bsS 340 n parts:=rfl
def nP:RowP NodeV :=
 ⟨λl e=>⟨idOf (rawV 32 l e),((numV 4 (rawL 32 l e) (rawE 32 l e):Nat):Int),idOf (rawV 32 (rawL 4 (rawL 32 l e) (rawE 32 l e)) (rawE 4 (rawL 32 l e) (rawE 32 l e))),txV (rawL 32 (rawL 4 (rawL 32 l e) (rawE 32 l e)) (rawE 4 (rawL 32 l e) (rawE 32 l e))) (rawE 32 (rawL 4 (rawL 32 l e) (rawE 32 l e)) (rawE 4 (rawL 32 l e) (rawE 32 l e)))⟩,
  λl e=>txL (rawL 32 (rawL 4 (rawL 32 l e) (rawE 32 l e)) (rawE 4 (rawL 32 l e) (rawE 32 l e))) (rawE 32 (rawL 4 (rawL 32 l e) (rawE 32 l e)) (rawE 4 (rawL 32 l e) (rawE 32 l e))),
  λl e=>txE (rawL 32 (rawL 4 (rawL 32 l e) (rawE 32 l e)) (rawE 4 (rawL 32 l e) (rawE 32 l e))) (rawE 32 (rawL 4 (rawL 32 l e) (rawE 32 l e)) (rawE 4 (rawL 32 l e) (rawE 32 l e))),nodeB,
  λx=>0<=x.h/\x.h<4294967296/\x.val.size<=255⟩
theorem nP_eq{l:List UInt8}{l1 l2 l3:List UInt8}{e1 e2 e3:Int}(h1:rawL 32 l e=l1)(k1:rawE 32 l e=e1)(h2:rawL 4 l1 e1=l2)(k2:rawE 4 l1 e1=e2)(h3:rawL 32 l2 e2=l3)(k3:rawE 32 l2 e2=e3) :
  nP.one l e=⟨idOf (rawV 32 l e),((numV 4 l1 e1:Nat):Int),idOf (rawV 32 l2 e2),txV l3 e3⟩/\nP.oL l e=txL l3 e3/\nP.oE l e=txE l3 e3:=by
 subst h1;subst k1;subst h2;subst k2;subst h3;subst k3;exact⟨rfl,rfl,rfl⟩
theorem nLaw:RowLaw nP where
 split l e h:=by
  obtain⟨h1,h2⟩:=tx_split (show txE _ _=0 from h);obtain⟨h3,h4⟩:=id_split h1;obtain⟨h5,h6⟩:=num_split h3;obtain⟨h7,h8⟩:=id_split h5;refine⟨h7,?_⟩;obtain⟨a1,a2,a3⟩:=nP_eq (l:=l) (e:=e) rfl rfl rfl rfl rfl rfl;rw[a1,a2];show nodeB _++_=l;unfold nodeB;simp only[append_assoc,Int.toNat_natCast];rw[h2,h4,h6,h8]
 back x t hx:=by
  obtain⟨d,h,r,v⟩:=x;obtain⟨g,f,hv⟩:=hx;simp only at g f hv;obtain⟨m,rfl⟩:∃m:Nat,h=m:=⟨h.toNat,oM⟩
  have e0:nP.put ⟨d,m,r,v⟩++t=d.l++(beL 4 m++(r.l++(beL 1 v.size++(v.data.toList++t)))):=by show nodeB _++t=_;simp[nodeB]
  rw[e0];obtain⟨a1,a2,a3⟩:=id_back (d:=d) (beL 4 m++(r.l++(beL 1 v.size++(v.data.toList++t))));obtain⟨b1,b2,b3⟩:=num_put (M:=4) (n:=m) oM (r.l++(beL 1 v.size++(v.data.toList++t)));obtain⟨c1,c2,c3⟩:=id_back (d:=r) (beL 1 v.size++(v.data.toList++t));obtain⟨d1,d2,d3⟩:=tx_put (s:=v) oM t;obtain⟨f1,f2,f3⟩:=nP_eq a2 a3 b2 b3 c2 c3;rw[f1,f2,f3,a1,b1,c1,d1,d2,d3];exact⟨rfl,rfl,rfl⟩
 some_ x:=by show 1<=(nodeB x).length;rw[nodeB_len];omega
def partSA(l:List UInt8):RdsG NodeV:=readG nP l 0
def partSG(l:List UInt8):RdsG Id32:=readG idP (partSA l).l (partSA l).e
@[go_sem] theorem nnode_g65(d:Id32)(h:Int)(r:Id32)(v:ByteArray):(nNodeC ⟨d,⟨h,r,v⟩⟩)[65]?=some (.string v):=by
 have e:nNodeC ⟨d,⟨h,r,v⟩⟩=(idC d ++ #[Value.int .i64 h]++idC r) ++ #[Value.string v]:=by simp[nNodeC,sNodeC]
 rw[e];have hs:(idC d ++ #[Value.int .i64 h]++idC r).size=65:=sI;rw[Array.getElem?_append,if_neg oM,hs];rfl
def mP:RowP MRow :=
 ⟨λl e=>⟨idOf (rawV 32 l e),txV (rawL 32 l e) (rawE 32 l e),txV (txL (rawL 32 l e) (rawE 32 l e)) (txE (rawL 32 l e) (rawE 32 l e))⟩,
  λl e=>txL (txL (rawL 32 l e) (rawE 32 l e)) (txE (rawL 32 l e) (rawE 32 l e)),
  λl e=>txE (txL (rawL 32 l e) (rawE 32 l e)) (txE (rawL 32 l e) (rawE 32 l e)),rowMB,λx=>x.key.size<=255/\x.val.size<=255⟩
theorem mLaw:RowLaw mP where
 split l e h:=by
  obtain⟨h1,h2⟩:=tx_split (show txE (txL (rawL 32 l e) (rawE 32 l e)) (txE (rawL 32 l e) (rawE 32 l e))=0 from h);obtain⟨h3,h4⟩:=tx_split h1;obtain⟨h5,h6⟩:=id_split h3;refine⟨h5,?_⟩;show rowMB _++_=l;unfold rowMB;simp only[append_assoc];show(idOf (rawV 32 l e)).l++(beL 1 (txV (rawL 32 l e) (rawE 32 l e)).size++((txV (rawL 32 l e) (rawE 32 l e)).data.toList++(beL 1 (txV (txL (rawL 32 l e) (rawE 32 l e)) (txE (rawL 32 l e) (rawE 32 l e))).size++((txV (txL (rawL 32 l e) (rawE 32 l e)) (txE (rawL 32 l e) (rawE 32 l e))).data.toList++txL (txL (rawL 32 l e) (rawE 32 l e)) (txE (rawL 32 l e) (rawE 32 l e))))))=l;rw[h2,h4,h6]
 back x t hx:=by
  obtain⟨d,k,v⟩:=x;obtain⟨hk,hv⟩:=hx;have e0:rowMB ⟨d,k,v⟩++t=d.l++(beL 1 k.size++(k.data.toList++(beL 1 v.size++(v.data.toList++t)))):=by simp[rowMB]
  show(⟨idOf (rawV 32 (rowMB ⟨d,k,v⟩++t) 0),txV (rawL 32 (rowMB ⟨d,k,v⟩++t) 0) (rawE 32 (rowMB ⟨d,k,v⟩++t) 0),txV (txL (rawL 32 (rowMB ⟨d,k,v⟩++t) 0) (rawE 32 (rowMB ⟨d,k,v⟩++t) 0)) (txE (rawL 32 (rowMB ⟨d,k,v⟩++t) 0) (rawE 32 (rowMB ⟨d,k,v⟩++t) 0))⟩:MRow)=_/\txL (txL (rawL 32 (rowMB ⟨d,k,v⟩++t) 0) (rawE 32 (rowMB ⟨d,k,v⟩++t) 0)) (txE (rawL 32 (rowMB ⟨d,k,v⟩++t) 0) (rawE 32 (rowMB ⟨d,k,v⟩++t) 0))=_/\txE (txL (rawL 32 (rowMB ⟨d,k,v⟩++t) 0) (rawE 32 (rowMB ⟨d,k,v⟩++t) 0)) (txE (rawL 32 (rowMB ⟨d,k,v⟩++t) 0) (rawE 32 (rowMB ⟨d,k,v⟩++t) 0))=0;rw[e0];obtain⟨a1,a2,a3⟩:=id_back (d:=d) (beL 1 k.size++(k.data.toList++(beL 1 v.size++(v.data.toList++t))));obtain⟨b1,b2,b3⟩:=tx_put (s:=k) (by simp at hk;omega) (beL 1 v.size++(v.data.toList++t));obtain⟨c1,c2,c3⟩:=tx_put (s:=v) (by simp at hv;omega) t;rw[a1,a2,a3,b1,b2,b3,c1,c2,c3];exact⟨rfl,rfl,rfl⟩
 some_ x:=by show 1<=(rowMB x).length;rw[rowMB_len];omega
def partMA(l:List UInt8):RdsG MRow:=readG mP l 0
def partMG(l:List UInt8):RdsG Id32:=readG idP (partMA l).l (partMA l).e
def LongM(R:List MRow):Prop:=∃x∈R,¬msmall x
def GoodM(l:List UInt8):Prop:=endE (partMG l).l (partMG l).e=0/\risI (partMG l).rows=true/\Ris cmpMR (partMA l).rows/\∀x∈(partMA l).rows,x.id∉(partMG l).rows
def LoadM(l:List UInt8)(e:Int):Prop :=
 ((partMG l).e≠0/\e=(partMG l).e)\/((partMG l).e=0/\LongM (partMA l).rows/\e=3)\/((partMG l).e=0/\¬LongM (partMA l).rows/\((GoodM l/\e=0)\/(¬GoodM l/\e=4)))
def GoodS(l:List UInt8):Prop:=(partSG l).e=0/\(partSG l).l = []/\risI (partSG l).rows=true/\Ris cmpM (partSA l).rows/\(∀x∈(partSA l).rows,nodeE x=0)/\OneId (partSA l).rows
theorem goodS_put{l:List UInt8}(h:GoodS l):putSB (partSA l).rows (partSG l).rows=l:=by
 obtain⟨h1,h2,h3,h4,_⟩:=h;obtain⟨h5,h6⟩:=readG_split idLaw (show(readG idP (partSA l).l (partSA l).e).e=0 from h1);obtain⟨_,h7⟩:=readG_split nLaw (show(readG nP l 0).e=0 from h5);have h8:putG idP (partSG l).rows++(partSG l).l=(partSA l).l:=h6;rw[h2,append_nil]at h8;have h9:putG nP (partSA l).rows++(partSA l).l=l:=h7;rw[<-h8]at h9;unfold putSB;have e:sortN (partSA l).rows=(partSA l).rows:=sortC_ris totM h4;rw[e];exact h9
def chkAll:List NodeV->Int
 | []=>0
 | x :: R=>if nodeE x≠0 then nodeE x else chkAll R
theorem chkAll_zero:∀ {R:List NodeV},chkAll R=0↔∀x∈R,nodeE x=0
 | []=>by simp[chkAll]
 | x :: R=>by
  unfold chkAll;by_cases h:nodeE x=0
  ·rw[if_neg oM,chkAll_zero];simp[h]
  ·rw[if_pos h];simp[h]
def risNB:List NodeV->Bool
 | []=>true
 | [_]=>true
 | a :: b :: R=>decide (cmpId a.id b.id<0)&&risNB (b :: R)
theorem risNB_pair:∀ {R:List NodeV},risNB R=true↔R.Pairwise λa b=>cmpId a.id b.id<0
 | []=>by simp[risNB]
 | [a]=>by simp[risNB]
 | a :: b :: R=>by
  unfold risNB;rw[Bool.and_eq_true,risNB_pair,decide_eq_true_eq];constructor
  ·rintro⟨h1,h2⟩;refine pairwise_cons.2 ⟨λx hx=>?_,h2⟩;rcases mem_cons.1 hx with rfl | hx
   ·exact h1
   ·exact cmpId_trans _ _ _ h1 ((pairwise_cons.1 h2).1 x hx)
  ·intro h;obtain⟨h1,h2⟩:=pairwise_cons.1 h;exact⟨h1 b sI,h2⟩
theorem risNB_good{R:List NodeV}(h:risNB R=true):Ris cmpM R/\OneId R:=by
 rw[risNB_pair]at h;refine⟨Pairwise.imp (fun {a b} h=>?_) h,?_⟩
 ·unfold cmpM orC;rw[if_neg oM];exact h
 ·intro a ha b hb e;obtain⟨i,hi,rfl⟩:=getElem_of_mem ha;obtain⟨j,hj,rfl⟩:=getElem_of_mem hb;rcases Nat.lt_trichotomy i j with d | d | d
  ·have:=pairwise_iff_getElem.1 h i j hi hj d;rw[e,(cmpId_zero _ _).2 rfl]at this;omega
  ·subst d;rfl
  ·have:=pairwise_iff_getElem.1 h j i hj hi d;rw[<-e,(cmpId_zero _ _).2 rfl]at this;omega
def errS(l:List UInt8):Int :=
 if(partSG l).e≠0 then(partSG l).e else if chkAll (partSA l).rows≠0 then chkAll (partSA l).rows
 else if(endE (partSG l).l 0=0/\risI (partSG l).rows=true)/\risNB (partSA l).rows=true then 0 else 4
theorem endE_nil{l:List UInt8}(h:endE l 0=0):l = []:=by
 unfold endE at h;cases l with
 | nil=>rfl
 | cons a l=>simp at h
theorem errS_good{l:List UInt8}(h:errS l=0):GoodS l:=by
 unfold errS at h;by_cases h1:(partSG l).e=0
 ·rw[if_neg oM]at h;by_cases h2:chkAll (partSA l).rows=0
  ·rw[if_neg oM]at h;split at h
   ·rename_i h3
    obtain⟨h5,h6⟩:=risNB_good h3.2;exact⟨h1,endE_nil h3.1.1,h3.1.2,h5,chkAll_zero.1 h2,h6⟩
   ·cases h
  ·rw[if_pos h2]at h;exact absurd h h2
 ·rw[if_pos h1]at h;exact absurd h h1
def numT(l:List UInt8):Int:=wrap64 ((numV 4 l 0:Int)*4294967296+numV 4 (rawL 4 l 0) (rawE 4 l 0))
def loadT(l:List UInt8):Int:=endE (rawL 4 (rawL 4 l 0) (rawE 4 l 0)) (rawE 4 (rawL 4 l 0) (rawE 4 l 0))
structure BRds where
 rows:List BRow
 l:List UInt8
 e:Int
def oneB(l:List UInt8)(e:Int):BRow:=⟨idOf (rawV 32 l e),txV (rawL 32 l e) (rawE 32 l e)⟩
def oneL(l:List UInt8)(e:Int):List UInt8:=txL (rawL 32 l e) (rawE 32 l e)
def oneE(l:List UInt8)(e:Int):Int:=txE (rawL 32 l e) (rawE 32 l e)
def stepB(s:BRds):BRds:=⟨s.rows ++ [oneB s.l s.e],oneL s.l s.e,oneE s.l s.e⟩
def loopB:Nat->BRds->BRds
 | 0,s=>s
 | k+1,s=>if s.e=0 then loopB k (stepB s)else s
def readB(l:List UInt8)(e:Int):BRds:=loopB (numV 4 l e) ⟨[],rawL 4 l e,rawE 4 l e⟩
theorem loopB_stop(k:Nat)(s:BRds)(h:s.e≠0):loopB k s=s:=by
 cases k with
 | zero=>rfl
 | succ k=>unfold loopB;rw[if_neg h]
theorem loopB_step(k:Nat)(s:BRds)(h:s.e=0):loopB (k+1) s=loopB k (stepB s):=by rw[loopB,if_pos h]
def longB(R:List BRow):Bool:=R.any λx=>decide (16<x.val.size)
def risB:List BRow->Bool
 | []=>true
 | [_]=>true
 | x :: y :: l=>decide (cmpRow x y<0)&&risB (y :: l)
def bothB(A G:List BRow):Bool:=A.any λx=>decide (x∈G)
def partA(l:List UInt8):BRds:=readB l 0
def partG(l:List UInt8):BRds:=readB (partA l).l (partA l).e
def loadB(l:List UInt8):Int :=
 if(partG l).e≠0 then(partG l).e
 else if longB (partA l).rows=true\/longB (partG l).rows=true then 3
 else if endE (partG l).l (partG l).e≠0\/risB (partA l).rows=false\/risB (partG l).rows=false then 4
 else if bothB (partA l).rows (partG l).rows=true then 4 else 0
theorem longB_false{R:List BRow}:longB R=false↔∀x∈R,small x:=by
 unfold longB small;rw[any_eq_false];constructor
 ·intro h x hx;have:=h x hx;simp at this;exact this
 ·intro h x hx;have:=h x hx;simpa using this
theorem risB_ok:∀(R:List BRow),risB R=true↔Ris cmpRow R
 | []=>by simp[risB,Ris]
 | [x]=>by simp[risB,Ris]
 | x :: y :: R=>by
  have ih:=risB_ok (y :: R);unfold risB;rw[Bool.and_eq_true,ih,decide_eq_true_eq,ris_cons (x:=x)];constructor
  ·rintro⟨h1,h2⟩;refine⟨λz hz=>?_,h2⟩;rcases mem_cons.1 hz with e | hz
   ·rw[e];exact h1
   ·exact totRow.trans _ _ _ h1 ((ris_cons.1 h2).1 z hz)
  ·rintro⟨h1,h2⟩;exact⟨h1 y sI,h2⟩
theorem bothB_false{A G:List BRow}:bothB A G=false↔∀x∈A,x∉G:=by
 unfold bothB;rw[any_eq_false];constructor
 ·intro h x hx;have:=h x hx;simpa using this
 ·intro h x hx;have:=h x hx;simpa using this
theorem one_split{l:List UInt8}(h:oneE l e=0):e=0/\rowB (oneB l e)++oneL l e=l:=by
 obtain⟨h1,h2⟩:=tx_split h;obtain⟨h3,h4,h5⟩:=raw_split h1;refine⟨h3,?_⟩;have e1:(idOf (rawV 32 l e)).l=rawV 32 l e:=by unfold idOf;rw[dif_pos h5]
 unfold rowB oneB oneL;simp only[e1,append_assoc];rw[h2,h4]
theorem loop_split:∀(k:Nat) (s:BRds),(loopB k s).e=0->∃X:List BRow,X.length=k/\(loopB k s).rows=s.rows++X/\X.flatMap rowB++(loopB k s).l=s.l/\s.e=0
 | 0,s,h=>⟨[],rfl,by simp[loopB],by simp[loopB],h⟩
 | k+1,s,h=>by
  by_cases he:s.e=0
  ·rw[loopB_step k s he]at h |-;obtain⟨X,h1,h2,h3,h0⟩:=loop_split k (stepB s) h;obtain⟨_,h5⟩:=one_split (show oneE s.l s.e=0 from h0);refine⟨oneB s.l s.e :: X,by simp[h1],by rw[h2];simp[stepB],?_,he⟩;rw[flatMap_cons,append_assoc,h3];exact h5
  ·rw[loopB_stop _ _ he]at h;exact absurd h he
theorem read_split{l:List UInt8}(h:(readB l e).e=0):e=0/\rowsB (readB l e).rows++(readB l e).l=l:=by
 obtain⟨X,h1,h2,h3,h4⟩:=loop_split _ _ h;obtain⟨h6,h5⟩:=num_split (show rawE 4 l e=0 from h4);refine⟨h6,?_⟩;unfold readB;rw[h2];unfold rowsB;simp only[nil_append,append_assoc];rw[h1,h3,h5]
theorem load_parts{l:List UInt8}(h:loadB l=0):(partG l).e=0/\(∀x∈(partA l).rows,small x)/\(∀x∈(partG l).rows,small x)/\(partG l).l = []/\Ris cmpRow (partA l).rows/\Ris cmpRow (partG l).rows/\∀x∈(partA l).rows,x∉(partG l).rows:=by
 unfold loadB at h;split at h
 ·exact absurd h (by assumption)
 ·rename_i h1
  have d:(partG l).e=0:=oM;split at h
  ·cases h
  ·rename_i h2
   simp only[not_or,Bool.not_eq_true]at h2;split at h
   ·cases h
   ·rename_i h3
    simp only[not_or,Bool.not_eq_false,ne_eq,Classical.not_not]at h3;split at h
    ·cases h
    ·rename_i h4
     refine⟨d,longB_false.1 h2.1,longB_false.1 h2.2,?_,(risB_ok _).1 h3.2.1,(risB_ok _).1 h3.2.2,bothB_false.1 (by simpa using h4)⟩;have h5:=h3.1;unfold endE at h5;rw[if_pos d]at h5;split at h5
     ·assumption
     ·cases h5
theorem load_put{l:List UInt8}(h:loadB l=0):putB (partA l).rows (partG l).rows=l:=by
 obtain⟨h1,_,_,h4,_⟩:=load_parts h;obtain⟨h2,h3⟩:=read_split (show(readB (partA l).l (partA l).e).e=0 from h1);obtain⟨_,h5⟩:=read_split (show(readB l 0).e=0 from h2);have d:rowsB (partG l).rows++(partG l).l=(partA l).l:=h3;rw[h4,append_nil]at d;unfold putB;rw[d];exact h5





structure Rds where
 rows:List Row
 l:List UInt8
 e:Int
def oneRow(l:List UInt8)(e:Int):Row:=⟨txV l e,txV (txL l e) (txE l e),(numV 4 (txL (txL l e) (txE l e)) (txE (txL l e) (txE l e)):Int),
 idOf (rawV 32 (rawL 4 (txL (txL l e) (txE l e)) (txE (txL l e) (txE l e))) (rawE 4 (txL (txL l e) (txE l e)) (txE (txL l e) (txE l e))))⟩
def oneL_l(l:List UInt8)(e:Int):List UInt8:=rawL 32 (rawL 4 (txL (txL l e) (txE l e)) (txE (txL l e) (txE l e))) (rawE 4 (txL (txL l e) (txE l e)) (txE (txL l e) (txE l e)))
def oneE_l(l:List UInt8)(e:Int):Int:=rawE 32 (rawL 4 (txL (txL l e) (txE l e)) (txE (txL l e) (txE l e))) (rawE 4 (txL (txL l e) (txE l e)) (txE (txL l e) (txE l e)))
def stepRds(s:Rds):Rds:=⟨s.rows ++ [oneRow s.l s.e],oneL_l s.l s.e,oneE_l s.l s.e⟩
def loopRds:Nat->Rds->Rds
 | 0,s=>s
 | k+1,s=>if s.e=0 then loopRds k (stepRds s)else s
def readRds(l:List UInt8):Rds:=loopRds (numV 4 l 0) ⟨[],rawL 4 l 0,rawE 4 l 0⟩
theorem loopRds_stop(k:Nat)(s:Rds)(h:s.e≠0):loopRds k s=s:=by
 cases k with
 | zero=>rfl
 | succ k=>unfold loopRds;rw[if_neg h]
theorem loopRds_step(k:Nat)(s:Rds)(h:s.e=0):loopRds (k+1) s=loopRds k (stepRds s):=by rw[loopRds,if_pos h]
def firstE:List Row->Int
 | []=>0
 | x :: l=>if checkE x.key (rowS x)=0 then firstE l else checkE x.key (rowS x)
def risingB:List Row->Bool
 | []=>true
 | [_]=>true
 | x :: y :: l=>bltS x.key y.key&&risingB (y :: l)
def loadE(l:List UInt8):Int :=
 if(readRds l).e≠0 then(readRds l).e
 else if firstE (readRds l).rows≠0 then firstE (readRds l).rows
 else if risingB (readRds l).rows=false then 4
 else if(readRds l).l = []then 0 else 4

structure Nm where
 key:ByteArray
 set:Setting
theorem Nm_ext{x y:Nm}(h:x.key=y.key/\x.set=y.set):x=y:=by cases x;cases y;simp_all
instance:DecidableEq Nm:=λx y=>if h:x.key=y.key/\x.set=y.set then isTrue (Nm_ext h)else isFalse (λe=>h (by subst e;simp))
@[go_sem ↓] theorem loadNm_rw(a:Addr):loadVar 325 a=ldS 325 a:=rfl
@[go_sem ↓] theorem storeNm_rw(a:Addr)(v:Value):storeVar 325 a v=stS 325 a v:=rfl
@[go_sem ↓] theorem buildNm_rw(parts:Array (Nat×Value)):Instr.build 325 parts=bdS 325 parts:=rfl
@[go_sem ↓] theorem bsNm_rw(n:Nat)(parts:Array (Nat×Value)):Instr.buildSlice 320 n parts=bsS 320 n parts:=rfl
theorem one_split_l{l:List UInt8}(h:oneE_l l e=0):e=0/\rowLB (rowL (oneRow l e))++oneL_l l e=l:=by
 obtain⟨h1,h2,h3⟩:=raw_split (show rawE _ _ _=0 from h);obtain⟨h4,h5⟩:=num_split h1;obtain⟨h6,h7⟩:=tx_split h4;obtain⟨h8,h9⟩:=tx_split h6;refine⟨h8,?_⟩;have e1:(idOf (rawV 32 (rawL 4 (txL (txL l e) (txE l e)) (txE (txL l e) (txE l e))) (rawE 4 (txL (txL l e) (txE l e)) (txE (txL l e) (txE l e))))).l=rawV 32 (rawL 4 (txL (txL l e) (txE l e)) (txE (txL l e) (txE l e))) (rawE 4 (txL (txL l e) (txE l e)) (txE (txL l e) (txE l e))):=by
  unfold idOf;rw[dif_pos h3]
 unfold rowLB rowL oneRow rowS oneL_l;simp only[Int.toNat_natCast,e1,append_assoc];rw[h2,h5,h7,h9]
theorem loop_split_l:∀(k:Nat) (s:Rds),(loopRds k s).e=0->∃X:List Row,X.length=k/\(loopRds k s).rows=s.rows++X/\(X.map rowL).flatMap rowLB++(loopRds k s).l=s.l
 | 0,s,_=>⟨[],rfl,by simp[loopRds],by simp[loopRds]⟩
 | k+1,s,h=>by
  by_cases he:s.e=0
  ·rw[loopRds_step k s he]at h |-;obtain⟨X,h1,h2,h3⟩:=loop_split_l k (stepRds s) h;have h4:oneE_l s.l s.e=0:=by
    by_cases hc:(stepRds s).e=0
    ·exact hc
    ·rw[loopRds_stop k _ hc]at h;exact h
   obtain⟨_,h5⟩:=one_split_l h4;refine⟨oneRow s.l s.e :: X,by simp[h1],by rw[h2];simp[stepRds],?_⟩;rw[map_cons,flatMap_cons,append_assoc,h3];exact h5
  ·rw[loopRds_stop _ _ he]at h;exact absurd h he
theorem read_split_l{l:List UInt8}(h:(readRds l).e=0):putLB ((readRds l).rows.map rowL)++(readRds l).l=l:=by
 obtain⟨X,h1,h2,h3⟩:=loop_split_l _ _ h;have hE:rawE 4 l 0=0:=by
  by_cases hc:rawE 4 l 0=0
  ·exact hc
  ·have h':=h;unfold readRds at h';rw[loopRds_stop _ _ (show(Rds.mk [] (rawL 4 l 0) (rawE 4 l 0)).e≠0 from hc)]at h';exact h'
 obtain⟨_,h5⟩:=num_split hE;unfold readRds;rw[h2];unfold putLB;simp only[nil_append,length_map,append_assoc];rw[h1,h3,h5]
theorem load_parts_l{l:List UInt8}(h:loadE l=0):(readRds l).e=0/\firstE (readRds l).rows=0/\risingB (readRds l).rows=true/\(readRds l).l = []:=by
 unfold loadE at h;split at h
 ·exact absurd h (by assumption)
 ·rename_i h1
  split at h
  ·exact absurd h (by assumption)
  ·rename_i h2
   split at h
   ·cases h
   ·rename_i h3
    split at h
    ·rename_i h4
     exact⟨oM,oM,by simpa using h3,h4⟩
    ·cases h
theorem load_put_l{l:List UInt8}(h:loadE l=0):putLB ((readRds l).rows.map rowL)=l:=by
 obtain⟨h1,_,_,h4⟩:=load_parts_l h;have:=read_split_l h1
 rwa [h4,append_nil]at this


def ErrK(k:Int)(l:List UInt8)(E:Int):Prop :=
 if k=1 then E=loadT l else if k=2 then E=loadB l else if k=3 then E=loadE l else if k=4 then LoadM l E else E=errS l
def stL(k:Int)(l:List UInt8):VSt :=
 if k=1 then .t (numT l)else if k=2 then .b (partA l).rows (partG l).rows else if k=3 then .l ((readRds l).rows.map rowL)else if k=4 then .m (partMA l).rows (partMG l).rows else .s (partSA l).rows (partSG l).rows

def VErrIn(k:Int)(I:List Id32)(l:List UInt8)(e E:Int):Prop :=
 if e≠0 then E=e else if risI I=false then E=4 else ErrK k l E
section
structure HdX where
 id:Id32
 h:HdV
structure Pay where
 c:Id32
 body:ByteArray
 pin:Bool
structure VwX where
 t:ByteArray
 I:List Id32
 s:VSt
structure StX where
 q:Int
 D:List HdX
 O:List Id32
 S:List Pay
 V:List VwX
section
variable (D:List HdX)
def hdOf(i:Id32):Option HdV:=(D.find? λx=>decide (x.id=i)).map (·.h)
def idsX:List Id32:=D.map (·.id)
def htX(i:Id32):Int:=match hdOf D i with | some h=>h.ht | none=>0
def unkX(ps:List Id32):List Id32:=ps.filter λp=>decide (p∉idsX D)
def topX(ps:List Id32):Int:=ps.foldl (λm p=>max m (min (htX D p) 1073741824)) 0+1
def verX(h:HdV):Int:=if hdE h≠0 then hdE h else if unkX D h.ps≠[]then 11 else if topX D h.ps≠h.ht then 12 else 0
def ordX(f:Id32->Int)(a b:Id32):Int:=orC (cmpI (f a) (f b)) (cmpId a b)
def insX(x:HdX):List HdX:=D.takeWhile (λy=>aheadB y.h.ht y.id x.h.ht x.id)++x :: D.dropWhile (λy=>aheadB y.h.ht y.id x.h.ht x.id)
def addX(h:HdV):List HdX:=if verX D h=0/\hdI h∉idsX D then insX D ⟨hdI h,h⟩ else D
def tpsX(t:ByteArray):List Id32:=(D.filter λx=>decide (x.h.tp=t)).map (·.id)
def cmsX(c:Id32):List Id32:=(D.filter λx=>decide (x.h.cm=c)).map (·.id)
def parX:List Id32:=D.flatMap λx=>x.h.ps
end
section
variable (S:List Pay)
def payX(c:Id32):Option Pay:=S.find? λp=>decide (p.c=c)
def bytesX:Nat:=(S.map λp=>p.body.size).sum
def pinnedX:Nat:=((S.filter (·.pin)).map λp=>p.body.size).sum
def bodyE(b:ByteArray):Int:=if b.size=0 then 4 else if 512<b.size then 3 else 0
def putE(q:Int)(b:ByteArray):Int:=if bodyE b≠0 then bodyE b else if shaI b.data.toList∈S.map (·.c)then 0 else if q-bytesX S<b.size then 14 else 0
def putX(q:Int)(b:ByteArray):List Pay:=if putE S q b=0/\shaI b.data.toList∉S.map (·.c)then S ++ [⟨shaI b.data.toList,b,false⟩]else S
def pinX(c:Id32):List Pay:=S.map λp=>if p.c=c then { p with pin:=true } else p
def dropX(c:Id32):List Pay:=S.filter λp=>decide (p.c≠c)
end
def paidX(D:List HdX)(S:List Pay)(i:Id32):Option ByteArray :=
 match hdOf D i with
 | none=>none
 | some h=>match payX S h.cm with
  | none=>none
  | some p=>if(p.body.size:Int)=h.sz then some p.body else none
def foldV(m:MarkV)(v:VwX):VwX:=if m.id∈v.I then v else⟨v.t,m.id :: v.I,foldS v.t m v.s⟩
def foldI(D:List HdX)(S:List Pay)(v:VwX)(i:Id32):VwX :=
 match hdOf D i,paidX D S i with
 | some h,some b=>if v.t=h.tp then foldV ⟨i,h.ht,b⟩ v else v
 | _,_=>v
def hasT(V:List VwX)(t:ByteArray):Bool:=V.any λv=>decide (v.t=t)
theorem hasT_iff{V:List VwX}:hasT V t=true↔t∈V.map (·.t):=by unfold hasT;simp
section
variable (X:StX)
def foldsX(L:List Id32):StX:={ X with V:=X.V.map λv=>L.foldl (foldI X.D X.S) v }
def mineX(c:Id32):Bool:=(cmsX X.D c).any λi=>decide (i∈X.O)
def headX(h:HdV)(own:Bool):StX :=
 if verX X.D h≠0 then X
 else if own then foldsX ⟨X.q,addX X.D h,hdI h :: X.O,pinX X.S h.cm,X.V⟩ [hdI h]
 else foldsX ⟨X.q,addX X.D h,X.O,X.S,X.V⟩ [hdI h]
def paySX(b:ByteArray):StX :=
 if putE X.S X.q b≠0 then X
 else if mineX X (shaI b.data.toList)then foldsX ⟨X.q,X.D,X.O,pinX (putX X.S X.q b) (shaI b.data.toList),X.V⟩ (cmsX X.D (shaI b.data.toList))
 else foldsX ⟨X.q,X.D,X.O,putX X.S X.q b,X.V⟩ (cmsX X.D (shaI b.data.toList))
def evictE(c:Id32):Int:=if c∈X.S.map (·.c)then(if mineX X c then 1 else 0)else 7
def evictX(c:Id32):StX:=if evictE X c=0 then⟨X.q,X.D,X.O,dropX X.S c,X.V⟩ else X
def mayE(t:ByteArray):Int:=if hasT X.V t=true then 15 else if 8<=X.V.length then 6 else 0
def subX(v:VwX):StX:=foldsX ⟨X.q,X.D,X.O,X.S,X.V ++ [v]⟩ (tpsX X.D v.t)
def unsubE(t:ByteArray):Int:=if hasT X.V t=true then 0 else 15
def unsubX(t:ByteArray):StX:=⟨X.q,X.D,X.O,X.S,X.V.filter λv=>decide (v.t≠t)⟩
end
structure EntX where
 k:Int
 t:ByteArray
 b:ByteArray
 c:Id32
def entE(e:EntX):Int :=
 if e.k<1\/7<e.k then 10
 else if(e.k<5/\e.t.size≠0)\/(e.k≠4/\e.c≠id0)\/(4<=e.k/\e.k<=6/\e.b.size≠0)then 4
 else if 5<=e.k/\checkB e.t≠0 then 9
 else if e.k<=3/\e.b.size=0 then 4
 else if(e.k<=2/\256<e.b.size)\/(e.k=3/\512<e.b.size)\/(e.k=7/\1048512<e.b.size)then 3 else 0
def AppS(X:StX)(e:EntX)(E:Int)(Y:StX):Prop :=
 if entE e≠0 then E=entE e/\Y=X
 else if e.k<=2 then
  if hofE e.b.data.toList≠0 then E=hofE e.b.data.toList/\Y=X
  else E=verX X.D (hofH e.b.data.toList)/\Y=headX X (hofH e.b.data.toList) (decide (e.k=1))
 else if e.k=3 then E=putE X.S X.q e.b/\Y=paySX X e.b
 else if e.k=4 then E=evictE X e.c/\Y=evictX X e.c
 else if e.k=6 then E=unsubE X e.t/\Y=unsubX X e.t
 else if mayE X e.t≠0 then E=mayE X e.t/\Y=X
 else if e.k=5 then E=0/\Y=subX X ⟨e.t,[],VSt.new (kindB e.t)⟩
 else ∃I l er E0,readG idP e.b.data.toList 0=⟨I,l,er⟩/\VErrIn (kindB e.t) I l er E0 /\
  if E0≠0 then E=E0/\Y=X
  else if(I.any λi=>decide (i∉tpsX X.D e.t))=true then E=7/\Y=X
  else E=0/\Y=subX X ⟨e.t,I,stL (kindB e.t) l⟩
end
section
theorem totX(f:Id32->Int):TotC (ordX f) :=
 (TotC.pair totI totId).of (λa:Id32=>(f a,a)) (λx y h=>by simp only[Prod.mk.injEq]at h;exact h.2) (λ_ _=>rfl)
theorem aheadB_ord(f:Id32->Int)(a b:Id32):aheadB (f a) a (f b) b=decide (ordX f a b<0):=by
 unfold aheadB ordX orC cmpI;by_cases e:f a=f b
 ·rw[if_pos e,if_pos (by rw[if_neg oM,if_neg oM])]
 ·rw[if_neg e,if_neg (by(repeat' split) <;> omega)];by_cases h1:f a<f b
  ·rw[if_pos h1];simp[h1]
  ·rw[if_neg h1,if_pos oM];simp[h1]
section
variable {D:List HdX} {x:HdX} {i:Id32} {h:HdV}
theorem hdOf_mem(hn:(idsX D).Nodup)(hx:x∈D):hdOf D x.id=some x.h:=by
 unfold hdOf idsX at *;induction D with
 | nil=>cases hx
 | cons y D ih =>
  rw[map_cons,nodup_cons]at hn;rw[find?_cons];rcases mem_cons.1 hx with e | hx
  ·subst e;rw[decide_eq_true rfl];rfl
  ·rw[decide_eq_false (λe:y.id=x.id=>hn.1 (by rw[e];exact mem_map_of_mem (f:=(·.id)) hx))];exact ih hn.2 hx
theorem hdOf_some(e:hdOf D i=some h):∃x∈D,x.id=i/\x.h=h:=by
 unfold hdOf at e;obtain⟨x,hx,rfl⟩:=Option.map_eq_some_iff.1 e;exact⟨x,mem_of_find?_eq_some hx,by simpa using find?_some hx,rfl⟩
theorem hdOf_none:hdOf D i=none↔i∉idsX D:=by
 unfold hdOf idsX;rw[Option.map_eq_none_iff,find?_eq_none];simp only[mem_map,not_exists,not_and,decide_eq_true_eq]
theorem htX_mem(hn:(idsX D).Nodup)(hx:x∈D):htX D x.id=x.h.ht:=by unfold htX;rw[hdOf_mem hn hx]
theorem span_insX(D:List HdX)(x:HdX):(insX D x).Perm (x :: D):=by
 unfold insX;refine perm_middle.trans ?_;rw[takeWhile_append_dropWhile]
theorem mem_insX{z:HdX}:z∈insX D x↔z=x\/z∈D:=by rw[(span_insX D x).mem_iff,mem_cons]
theorem ids_insX:(idsX (insX D x)).Perm (x.id :: idsX D):=(span_insX D x).map _
def RisX(D:List HdX):Prop:=Ris (λa b:HdX=>orC (cmpI a.h.ht b.h.ht) (cmpId a.id b.id)) D
theorem risX_ids(hn:(idsX D).Nodup)(hr:RisX D):Ris (ordX (htX D)) (idsX D):=by
 unfold RisX Ris idsX at *;rw[pairwise_map];refine hr.imp_of_mem fun {a b} ha hb hab=>?_;unfold ordX;rw[htX_mem hn ha,htX_mem hn hb];exact hab
theorem cmpHI_trans{a b d:HdX}(h1:orC (cmpI a.h.ht b.h.ht) (cmpId a.id b.id)<0)(h2:orC (cmpI b.h.ht d.h.ht) (cmpId b.id d.id)<0):orC (cmpI a.h.ht d.h.ht) (cmpId a.id d.id)<0 :=
 (TotC.pair totI totId).trans (a.h.ht,a.id) (b.h.ht,b.id) (d.h.ht,d.id) h1 h2
theorem aheadB_hi(a:Int)(x:Id32)(b:Int)(y:Id32):aheadB a x b y=decide (orC (cmpI a b) (cmpId x y)<0):=by
 unfold aheadB orC cmpI;by_cases e:a=b
 ·rw[if_pos e,if_pos (by rw[if_neg oM,if_neg oM])]
 ·rw[if_neg e,if_neg (by(repeat' split) <;> omega)];by_cases h1:a<b
  ·rw[if_pos h1];simp[h1]
  ·rw[if_neg h1,if_pos oM];simp[h1]
theorem insX_ris(hr:RisX D)(hx:x.id∉idsX D):RisX (insX D x):=by
 unfold RisX Ris insX at *;induction D with
 | nil=>simp
 | cons y D ih =>
  have hy:=pairwise_cons.1 hr;have d:y.id≠x.id/\x.id∉idsX D:=by
   unfold idsX at hx |-;rw[map_cons,mem_cons,not_or]at hx;exact⟨λe=>hx.1 e.symm,hx.2⟩
  rw[takeWhile_cons,dropWhile_cons];by_cases h1:orC (cmpI y.h.ht x.h.ht) (cmpId y.id x.id)<0
  ·rw[if_pos (by rw[aheadB_hi];exact decide_eq_true h1),if_pos (by rw[aheadB_hi];exact decide_eq_true h1)];rw[cons_append,pairwise_cons];refine⟨λz hz=>?_,ih hy.2 d.2⟩;have:z∈insX D x:=hz;rcases mem_insX.1 this with e | hz
   ·rw[e];exact h1
   ·exact hy.1 z hz
  ·rw[if_neg (by rw[aheadB_hi];simpa using h1),if_neg (by rw[aheadB_hi];simpa using h1)];have h2:orC (cmpI x.h.ht y.h.ht) (cmpId x.id y.id)<0:=(TotC.pair totI totId).flip (a:=(y.h.ht,y.id)) (b:=(x.h.ht,x.id)) h1 (λe=>d.1 (congrArg Prod.snd e));refine pairwise_cons.2 ⟨λz hz=>?_,hr⟩;rcases mem_cons.1 hz with e | hz
   ·rw[e];exact h2
   ·exact cmpHI_trans h2 (hy.1 z hz)
theorem tpsX_mem{i:Id32}:i∈tpsX D t↔∃x∈D,x.h.tp=t/\x.id=i:=by
 unfold tpsX;simp only[mem_map,mem_filter,decide_eq_true_eq,and_assoc]
theorem cmsX_mem{c:Id32}{i:Id32}:i∈cmsX D c↔∃x∈D,x.h.cm=c/\x.id=i:=by
 unfold cmsX;simp only[mem_map,mem_filter,decide_eq_true_eq,and_assoc]
theorem tpsX_len(t:ByteArray):(tpsX D t).length<=D.length:=by unfold tpsX;rw[length_map];exact length_filter_le _ _
theorem cmsX_len(c:Id32):(cmsX D c).length<=D.length:=by unfold cmsX;rw[length_map];exact length_filter_le _ _
end
section
variable {S:List Pay} {c:Id32}
theorem payX_some{p:Pay}(e:payX S c=some p):p∈S/\p.c=c:=⟨mem_of_find?_eq_some e,by simpa using find?_some e⟩
theorem payX_none:payX S c=none↔c∉S.map (·.c):=by
 unfold payX;rw[find?_eq_none];simp only[mem_map,not_exists,not_and,decide_eq_true_eq]
theorem payX_mem{p:Pay}(hn:(S.map (·.c)).Nodup)(hp:p∈S):payX S p.c=some p:=by
 unfold payX;induction S with
 | nil=>cases hp
 | cons y S ih =>
  rw[map_cons,nodup_cons]at hn;rw[find?_cons];rcases mem_cons.1 hp with e | hp
  ·subst e;rw[decide_eq_true rfl]
  ·rw[decide_eq_false (λe:y.c=p.c=>hn.1 (by rw[e];exact mem_map_of_mem (f:=(·.c)) hp))];exact ih hn.2 hp
theorem pinX_cs(S:List Pay)(c:Id32):(pinX S c).map (·.c)=S.map (·.c):=by
 unfold pinX;rw[map_map];apply map_congr_left;intro p _;show(if _ then _ else _:Pay).c=_;split <;> rfl
theorem pinX_bytes(S:List Pay)(c:Id32):bytesX (pinX S c)=bytesX S:=by
 unfold bytesX pinX;rw[map_map];congr 1;apply map_congr_left;intro p _;show(if _ then _ else _:Pay).body.size=_;split <;> rfl
theorem pinX_pay(S:List Pay)(c d:Id32):(payX (pinX S c) d).map (·.body)=(payX S d).map (·.body):=by
 unfold payX pinX;rw[find?_map,Option.map_map];have e:((λp:Pay=>decide (p.c=d)) ∘ λp=>if p.c=c then { p with pin:=true } else p)=λp=>decide (p.c=d):=by
  funext p;show decide ((if _ then _ else _:Pay).c=d)=_;split <;> rfl
 rw[e];cases S.find? _ with
 | none=>rfl
 | some p=>show some (if _ then _ else _:Pay).body=_;split <;> rfl
theorem pinned_le(S:List Pay):pinnedX S<=bytesX S:=by
 unfold pinnedX bytesX;induction S with
 | nil=>simp
 | cons p S ih =>
  rw[filter_cons];split
  ·simp only[map_cons,sum_cons];omega
  ·simp only[map_cons,sum_cons];omega
theorem drop_bytes(S:List Pay)(c:Id32):bytesX (dropX S c)<=bytesX S:=by
 unfold dropX bytesX;induction S with
 | nil=>simp
 | cons p S ih =>
  rw[filter_cons];split
  ·simp only[map_cons,sum_cons];omega
  ·simp only[map_cons,sum_cons];omega
theorem bytesX_put(S:List Pay)(p:Pay):bytesX (S ++ [p])=bytesX S+p.body.size:=by unfold bytesX;simp
end
end
theorem flat_ge{α:Type}(f:α->List UInt8)(k:Nat)(L:List α)(h:∀x∈L,k<=(f x).length):L.length*k<=(L.flatMap f).length:=by
 induction L with
 | nil=>simp
 | cons a L ih =>
  rw[flatMap_cons,length_append,length_cons,Nat.add_mul];have h1:=h a sI;have h2:=ih λx hx=>h x (by simp[hx]);omega
theorem loadM_back{l:List UInt8}(h:LoadM l 0):putMB (partMA l).rows (partMG l).rows=l/\GoodM l/\¬LongM (partMA l).rows:=by
 rcases h with⟨h1,h2⟩ | ⟨_,_,h2⟩ | ⟨h1,h2,⟨h3,_⟩ | ⟨_,h4⟩⟩
 ·exact absurd h2.symm h1
 ·exact absurd h2 (by decide)
 ·refine⟨?_,h3,h2⟩;have h4:=h3.1;rw[h1]at h4;have h5:=endE_nil h4;obtain⟨h6,h7⟩:=readG_split idLaw (show(readG idP (partMA l).l (partMA l).e).e=0 from h1);obtain⟨_,h8⟩:=readG_split mLaw (show(readG mP l 0).e=0 from h6);have f:putG idP (partMG l).rows++(partMG l).l=(partMA l).l:=h7;have d:putG mP (partMA l).rows++(partMA l).l=l:=h8;rw[h5,append_nil]at f;rw[<-f]at d;exact d
 ·exact absurd h4 (by decide)
theorem stL_kind(k:Int)(l:List UInt8)(hk:1<=k/\k<=5):(stL k l).kind=k:=by
 have h5:k=1\/k=2\/k=3\/k=4\/k=5:=oM;rcases h5 with rfl | rfl | rfl | rfl | rfl <;> rfl
theorem stL_len{k:Int}{l:List UInt8}(hk:1<=k/\k<=5)(h0:ErrK k l 0)(hl:l.length<=3000):(stL k l).len<=100:=by
 have h5:k=1\/k=2\/k=3\/k=4\/k=5:=oM;rcases h5 with rfl | rfl | rfl | rfl | rfl
 ·exact zL
 ·have d:=load_put (l:=l) (Eq.symm h0);have n1:=flat_ge rowB 33 (partA l).rows λx _=>(by rw[rowB_len];omega);have n3:(rowsB (partA l).rows++rowsB (partG l).rows).length=l.length:=congrArg List.length d;unfold rowsB at n3;simp only[length_append,beL_length]at n3;show(partA l).rows.length<=100;omega
 ·have d:=load_put_l (l:=l) (Eq.symm h0);have n1:=flat_ge rowLB 32 ((readRds l).rows.map rowL) λx hx=>by
   unfold rowLB;simp only[length_append,beL_length,x.2.id.h];omega
  have n3:(putLB ((readRds l).rows.map rowL)).length=l.length:=congrArg List.length d;unfold putLB at n3;simp only[length_append,beL_length,length_map]at n3 n1;show((readRds l).rows.map rowL).length<=100;rw[length_map];omega
 ·obtain⟨d,_,_⟩:=loadM_back h0;have n1:=flat_ge rowMB 33 (partMA l).rows λx _=>(by rw[rowMB_len];omega);have n3:(putMB (partMA l).rows (partMG l).rows).length=l.length:=congrArg List.length d;unfold putMB idsB at n3;simp only[length_append,beL_length]at n3;show(partMA l).rows.length<=100;omega
 ·have hg:=errS_good (l:=l) (Eq.symm h0);have d:=goodS_put hg;obtain⟨_,_,g1,g2,g3,g4⟩:=hg;have f:sortN (partSA l).rows=(partSA l).rows:=sortC_ris totM g2;have n1:=flat_ge nodeB 33 (partSA l).rows λx _=>(by rw[nodeB_len];omega);have n3:(putSB (partSA l).rows (partSG l).rows).length=l.length:=congrArg List.length d;unfold putSB idsB at n3;rw[f]at n3;simp only[length_append,beL_length]at n3;show(partSA l).rows.length<=100;omega
end Go.Proofs.YtplpiicfkbpkaaaGreatDoor
