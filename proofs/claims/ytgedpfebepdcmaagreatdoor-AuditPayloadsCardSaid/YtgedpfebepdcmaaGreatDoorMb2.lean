/- Part 2 of the texts that lead to this claim: the walks of the functions and the plain law, in order. -/
import Derived.Test.YtgedpfebepdcmaaGreatDoorMb1
import Derived.Maps.AppendAt
import Derived.Deep.Slices
import Derived.RowKit
import Derived.ProofKit
import Derived.OpenShut
import Derived.Lib.AppendStr
import Derived.Laws.BytesString
import Derived.Lib.BufferRead
import Derived.Defers
import Derived.IntWalk
import Derived.Lib.BufferWrite
import Derived.Lib.LaidTab
namespace Go.Proofs.YtgedpfebepdcmaaGreatDoor
open Go.RowKit
set_option maxRecDepth 100000
set_option maxHeartbeats 8000000
section
open Go.RowKit
def SlR (w:World) (A:Option Addr) (n k:Nat) (L:List (Array Value)):Prop :=
  L.length=n/\(0<n->∃g o,A=some ⟨g,o,none⟩/\∀i (h:i<L.length),z9 w g (o+i*k) k=some L[i])
def blk (A:Option Addr):List Nat:=(A.map (·.block)).toList
structure Own (w:World) (B:Nat) (E:TypeId) (k:Nat) (A:Option Addr) (n cap:Nat) (L:List (Array Value)):Prop where
  row:w.ownsRow B E k (.slice A n cap) n (L.flatMap Array.toList)
  len:L.length=n
  size:∀c∈L,c.size=k
section
variable {w w':World} {A:Option Addr} {n k B cap:Nat} {E:TypeId} {L:List (Array Value)}
theorem SlR.at_ (h:SlR w A n k L) {i:Nat} (hi:i<n):∃g o,A=some ⟨g,o,none⟩/\z9 w g (o+i*k) k=some (L[i]'(by rw[h.1];exact hi)):=by
  obtain⟨g,o,e,hc⟩:=h.2 (by omega);exact⟨g,o,e,hc i (by rw[h.1];exact hi)⟩
theorem SlR.old (h:SlR w A n k L) {g o:Nat} (e:A=some ⟨g,o,none⟩) (hn:0<n):g<w.heap.size:=by
  obtain⟨g',o',e',hr⟩:=h.at_ hn;rw[e]at e';injection e' with e';injection e' with e1 e2
  subst e1;exact zI hr
theorem SlR.nil_:SlR w none 0 k []:=⟨rfl,fun h=>absurd h (by omega)⟩
theorem SlR.kept {S:List Nat} (h:SlR w A n k L) (hk:z4 S w w') (hn:∀x∈blk A,x∉S):SlR w' A n k L :=
  ⟨h.1,fun h0=>by
    obtain⟨g,o,e,hc⟩:=h.2 h0;refine⟨g,o,e,fun i hi=>?_⟩;rw[hk.row (zI (hc i hi)) (hn g (by simp[blk,e])) _ _];exact hc i hi⟩
theorem SlR.below (h:SlR w A n k L) (hb:Below w.heap.size w w'):SlR w' A n k L:=h.kept (z4.of_below hb) (by simp)
theorem wJ:∀(L:List (Array Value)) (k:Nat),(∀c∈L,c.size=k)->∀(i j:Nat) (hi:i<L.length),j<k->(L.flatMap Array.toList)[i*k+j]? = (L[i])[j]?
  | c :: L,k,hs,0,j,_,hj=>by
    have hc:=hs c (by simp);simp only[List.flatMap_cons,Nat.zero_mul,Nat.zero_add,List.getElem_cons_zero];rw[List.getElem?_append_left (by simp;omega)]
    simp
  | c :: L,k,hs,i+1,j,hi,hj=>by
    have hc:=hs c (by simp);have hl:c.toList.length=k:=by simp[hc]
    simp only[List.flatMap_cons,List.getElem_cons_succ];rw[List.getElem?_append_right (by rw[hl,Nat.add_mul];omega),hl];have e:(i+1)*k+j-k=i*k+j:=by rw[Nat.add_mul];omega
    rw[e];exact wJ L k (fun c h=>hs c (by simp[h])) i j (by simpa using hi) hj
theorem kJ:∀(L:List (Array Value)) (k:Nat),(∀c∈L,c.size=k)->(L.flatMap Array.toList).length=L.length*k
  | [],_,_=>by simp
  | c :: L,k,hs=>by
    have hc:=hs c (by simp);simp only[List.flatMap_cons,List.length_append,List.length_cons];rw[kJ L k (fun c h=>hs c (by simp[h])),Nat.add_mul];simp[hc];omega
theorem Own.nil (w:World) (B:Nat) (E:TypeId) (k:Nat):Own w B E k none 0 0 []:=⟨World.ownsRow_nil w B E k,rfl,by simp⟩
theorem Own.kept {S:List Nat} (h:Own w B E k A n cap L) (hk:z4 S w w') (hn:∀x∈blk A,x∉S):Own w' B E k A n cap L:=by
  obtain⟨⟨h1,h2⟩,hl,hs⟩:=h;refine⟨⟨h1,?_⟩,hl,hs⟩;rcases h2 with h2 | ⟨g,c,cur,hv,hb,hg,rest⟩
  · exact .inl h2
  · refine .inr ⟨g,c,cur,hv,hb,?_,rest⟩;have hA:A=some ⟨g,0,none⟩:=by injection hv
    have hlt:g<w.heap.size:=(Array.getElem?_eq_some_iff.1 hg).1;rw[hk.block g hlt (hn g (by simp[blk,hA]))];exact hg
theorem Own.below (h:Own w B E k A n cap L) (hb:Below w.heap.size w w'):Own w' B E k A n cap L:=h.kept (z4.of_below hb) (by simp)
theorem Own.mono (h:Own w B E k A n cap L) {B':Nat} (hB:B'<=B):Own w B' E k A n cap L:=by
  obtain⟨⟨h1,h2⟩,hl,hs⟩:=h;refine⟨⟨h1,?_⟩,hl,hs⟩;rcases h2 with h2 | ⟨g,c,cur,hv,hb,rest⟩
  · exact .inl h2
  · exact .inr ⟨g,c,cur,hv,by omega,rest⟩
theorem Own.at_base (h:Own w B E k A n cap L) {x:Nat} (hx:x∈blk A):B<=x/\x<w.heap.size:=by
  obtain⟨⟨h1,h2⟩,hl,hs⟩:=h;rcases h2 with⟨h2,_⟩ | ⟨g,c,cur,hv,hb,hg,rest⟩
  · have hA:A=none:=by injection h2
    subst hA;simp[blk]at hx
  · have hA:A=some ⟨g,0,none⟩:=by injection hv
    subst hA;have:x=g:=by simpa[blk]using hx
    subst this;exact⟨hb,(Array.getElem?_eq_some_iff.1 hg).1⟩
theorem Own.addr (h:Own w B E k A n cap L):A=none\/∃g,A=some ⟨g,0,none⟩:=by
  obtain⟨⟨h1,h2⟩,hl,hs⟩:=h;rcases h2 with⟨h2,_⟩ | ⟨g,c,cur,hv,_⟩
  · left;injection h2
  · right;exact⟨g,by injection hv⟩
theorem Own.slr (h:Own w B E k A n cap L):SlR w A n k L:=by
  have hlen:=kJ L k h.size;obtain⟨⟨h1,h2⟩,hl,hs⟩:=h;refine⟨hl,fun h0=>?_⟩;rcases h2 with⟨_,h2⟩ | ⟨g,c,cur,hv,hb,hg,hnc,hcm,hcs,htake⟩
  · omega
  · have hA:A=some ⟨g,0,none⟩:=by injection hv
    refine⟨g,0,hA,fun i hi=>?_⟩;have hle:i*k+k<=n*k:=by
      have:(i+1)*k<=n*k:=Nat.mul_le_mul_right k (by omega);rw[Nat.add_mul]at this;omega
    have hle2:n*k<=cur.size:=by rw[hcs];exact Nat.mul_le_mul_right k hnc
    unfold z9;rw[hg];simp only[Nat.zero_add];rw[if_pos (by omega)];congr 1
    apply Array.ext';rw[Array.toList_extract];apply List.ext_getElem?;intro j;by_cases hj:j<k
    · have e1:=wJ L k hs i j hi hj;rw[<-htake,List.getElem?_take,if_pos (by omega)]at e1;simp only[List.extract_eq_take_drop,List.getElem?_take,List.getElem?_drop];rw[if_pos (by omega),e1]
      simp
    · have hsz:=hs L[i] (List.getElem_mem hi);rw[List.getElem?_eq_none (by simp;omega),List.getElem?_eq_none (by simp;omega)]
end
structure yY (P:Program) (T E:TypeId) (k bytes:Nat):Prop where
  und:P.underlying T=some (.slice E)
  info:∃i z,P.info? E=some i/\i.zero=some z/\i.size=k/\i.bytes=bytes/\z.cells.size=k
  pos:0<k
theorem yY.of {P:Program} {T E:TypeId} {k bytes:Nat} {z:Value} (und:P.underlying T=some (.slice E)) (hz:(P.info? E).bind (·.zero)=some z) (hs:(P.info? E).map (·.size)=some k) (hb:(P.info? E).map (·.bytes)=some bytes) (hzs:z.cells.size=k) (pos:0<k) :
    yY P T E k bytes:=by
  cases hi:P.info? E with
  | none=>rw[hi]at hz;cases hz
  | some i =>
    rw[hi]at hz hs hb;exact⟨und,⟨i,z,hi,hz,by simpa using hs,by simpa using hb,hzs⟩,pos⟩
theorem wZ {P:Program} {T E:TypeId} {k bytes:Nat} (I:yY P T E k bytes) {w:World} {B:Nat} {A:Option Addr} {n cap:Nat} {L:List (Array Value)} (hown:Own w B E k A n cap L)
    {q o c:Nat} {cs:Array Value} (hrow:z9 w q o k=some cs) (hone:∀u∈cs.toList,u.oneCell'=true) (hbytes:(n+1)*bytes<=140737488355328) (hn:n+1<=9223372036854775807) (hB:B<=w.heap.size) (ty:TypeId) :
    ∃A' cap' w',(Builtin.append_ #[T,T] ty #[.slice A n cap,.slice (some ⟨q,o,none⟩) 1 c]).run P w = .ok (.slice A' (n+1) cap') w'/\Own w' B E k A' (n+1) cap' (L ++ [cs])/\z4 (blk A) w w'/\(∀x∈blk A',x∈blk A\/w.heap.size<=x):=by
  obtain⟨i,z,hi,hz,hsz,hby,hzs⟩:=I.info;have hcs:=mM hrow;obtain⟨v',w',hrun,hown',hg,_,hblk⟩:=run_append_own_at (P:=P) w B T ty E i z k bytes I.und hi hz hsz hby hzs I.pos (.slice A n cap) n _ hown.row ⟨q,o,none⟩ 1 c cs.toList (by simp[hcs])
    (fun j u hu=>by
      have hj:j<k:=by
        have:=(List.getElem?_eq_some_iff.1 hu).1;simp at this;omega
      have hadd:(⟨q,o,none⟩:Addr).add j=⟨q,o+j,none⟩:=by unfold Addr.add;split <;> simp_all
      rw[hadd,z8 hrow hj];simpa using hu) hone (by simp only[maxLen];omega) hbytes hB
  have hform:∃A' cap',v' = .slice A' (n+1) cap':=by
    rcases hown'.2 with⟨_,h0⟩ | ⟨g,c',cur,hv,_⟩
    · omega
    · exact⟨_,_,hv⟩
  obtain⟨A',cap',rfl⟩:=hform;have hb:(Value.slice A n cap).ownBlock=(A.map (·.block)):=by cases A <;> rfl
  have hb':(Value.slice A' (n+1) cap').ownBlock=(A'.map (·.block)):=by cases A' <;> rfl
  refine⟨A',cap',w',hrun,⟨by simpa using hown',by simp[hown.len],fun c' hc'=>?_⟩,?_,?_⟩
  · rcases List.mem_append.1 hc' with h | h
    · exact hown.size c' h
    · simp at h;subst h;exact hcs
  · have:=z4.grown hg
    rwa [hb]at this
  · intro x hx;rw[hb,hb']at hblk;rcases hblk with e | e
    · left;unfold blk at hx |-;rw[e]at hx;exact hx
    · right
      unfold blk at hx;rw[e]at hx;have:x=w.heap.size:=by simpa using hx
      omega
theorem bJ {P:Program} {w:World} (ρ:Operand->Value) {dst:Option Tmp} {s x:Operand} {ats:Array TypeId} {ty:TypeId} {pos:String} {after:Array Edge} {guard:Option (Nat×Bool)} {v u r:Value} {w':World} (hs:ρ s=v) (hx:ρ x=u)
    (h:(Builtin.append_ ats ty #[v,u]).run P w = .ok r w') :
    (execOp ρ { dst:=dst,op:=.call { callee:=.builtin .append,args:=#[s,x],argTypes:=ats },type:=ty,pos:=pos,after:=after,guard:=guard }).run P w = .ok (.value r) w':=by
  rw[BigFrame.execOp_builtin,BigFrame.builtin_append];have e:(#[s,x].map ρ:Array Value) = #[v,u]:=by simp[hs,hx]
  rw[e,Sem.run_bind,h];rfl
theorem sE {P:Program} {ops:Array Oper} {Q:Exit->Act->World->Prop} {a:Act} {w:World} {rest:List Oper} {dst:Option Tmp} {s x:Operand} {ats:Array TypeId} {ty:TypeId} {pos:String} {after:Array Edge} {v u r:Value} {w':World} (hs:a.eval s=v) (hx:a.eval x=u)
    (hr:(Builtin.append_ ats ty #[v,u]).run P w = .ok r w') (h:wpList P ops Q rest (a.put dst r) w') :
    wpList P ops Q ({ dst:=dst,op:=.call { callee:=.builtin .append,args:=#[s,x],argTypes:=ats },type:=ty,pos:=pos,after:=after,guard:=none } :: rest) a w:=by
  refine wpList_plain rfl fun K hK=>?_;unfold Oper.wp;rw[bJ a.eval hs hx hr];exact hK _ _ h
theorem rQ {P:Program} {ops:Array Oper} {S:World->Prop} {cv fb:Bool} {Q:Act->World->Prop} {a:Act} {w:World} {rest:List Oper} {dst:Option Tmp} {s x:Operand} {ats:Array TypeId} {ty:TypeId} {pos:String} {after:Array Edge} {v u r:Value} {w':World} (hs:a.eval s=v) (hx:a.eval x=u)
    (hr:(Builtin.append_ ats ty #[v,u]).run P w = .ok r w') (hS':S w') (h:nF P ops S cv fb Q rest (a.put dst r) w') :
    nF P ops S cv fb Q ({ dst:=dst,op:=.call { callee:=.builtin .append,args:=#[s,x],argTypes:=ats },type:=ty,pos:=pos,after:=after,guard:=none } :: rest) a w:=by
  refine⟨?_⟩;unfold iW;rw[if_pos (by rfl),if_pos (by rfl)];intro _;rw[bJ a.eval hs hx hr];exact⟨.inl hS',h.out⟩
theorem yX {P:Program} {ops:Array Oper} {Q:Exit->Act->World->Prop} {a:Act} {w:World} {rest:List Oper} {dst:Option Tmp} {s x:Operand} {ty:TypeId} {pos:String} {after:Array Edge} {T E:TypeId} {k bytes:Nat} (I:yY P T E k bytes)
    {B:Nat} {A:Option Addr} {n cap:Nat} {L:List (Array Value)} (hs:a.eval s = .slice A n cap) (hown:Own w B E k A n cap L)
    {q o c:Nat} {cs:Array Value} (hx:a.eval x = .slice (some ⟨q,o,none⟩) 1 c) (hrow:z9 w q o k=some cs) (hone:∀u∈cs.toList,u.oneCell'=true) (hbytes:(n+1)*bytes<=140737488355328) (hn:n+1<=9223372036854775807) (hB:B<=w.heap.size)
    (h:∀A' cap' w',Own w' B E k A' (n+1) cap' (L ++ [cs])->z4 (blk A) w w'->(∀x∈blk A',x∈blk A\/w.heap.size<=x)->wpList P ops Q rest (a.put dst (.slice A' (n+1) cap')) w') :
    wpList P ops Q ({ dst:=dst,op:=.call { callee:=.builtin .append,args:=#[s,x],argTypes:=#[T,T] },type:=ty,pos:=pos,after:=after,guard:=none } :: rest) a w:=by
  obtain⟨A',cap',w',hrun,h1,h2,h3⟩:=wZ I hown (c:=c) hrow hone hbytes hn hB ty;refine wpList_plain rfl fun K hK=>?_;unfold Oper.wp;rw[bJ a.eval hs hx hrun];exact hK _ _ (h A' cap' w' h1 h2 h3)
theorem wN {P:Program} {ops:Array Oper} {S:World->Prop} {cv fb:Bool} {Q:Act->World->Prop} {a:Act} {w:World} {rest:List Oper} {dst:Option Tmp} {s x:Operand} {ty:TypeId} {pos:String} {after:Array Edge} {T E:TypeId} {k bytes:Nat} (I:yY P T E k bytes)
    {B:Nat} {A:Option Addr} {n cap:Nat} {L:List (Array Value)} (hs:a.eval s = .slice A n cap) (hown:Own w B E k A n cap L)
    {q o c:Nat} {cs:Array Value} (hx:a.eval x = .slice (some ⟨q,o,none⟩) 1 c) (hrow:z9 w q o k=some cs) (hone:∀u∈cs.toList,u.oneCell'=true) (hbytes:(n+1)*bytes<=140737488355328) (hn:n+1<=9223372036854775807) (hB:B<=w.heap.size)
    (h:∀A' cap' w',Own w' B E k A' (n+1) cap' (L ++ [cs])->z4 (blk A) w w'->(∀x∈blk A',x∈blk A\/w.heap.size<=x)->S w'/\nF P ops S cv fb Q rest (a.put dst (.slice A' (n+1) cap')) w') :
    nF P ops S cv fb Q ({ dst:=dst,op:=.call { callee:=.builtin .append,args:=#[s,x],argTypes:=#[T,T] },type:=ty,pos:=pos,after:=after,guard:=none } :: rest) a w:=by
  obtain⟨A',cap',w',hrun,h1,h2,h3⟩:=wZ I hown (c:=c) hrow hone hbytes hn hB ty;obtain⟨k1,k2⟩:=h A' cap' w' h1 h2 h3;exact rQ hs hx hrun k1 k2
def bsS (T:TypeId) (n:Nat) (parts:Array (Nat×Value)):Sem Value:=Instr.buildSlice T n parts
theorem k8 {P:Program} {T E:TypeId} {k bytes:Nat} (I:yY P T E k bytes) (hk:k<=16777216) (w:World) (cs:Array Value) (hcs:cs.size=k) :
    (bsS T 1 #[(0,.agg cs)]).run P w = .ok (.slice (some ⟨w.heap.size,0,none⟩) 1 1) (w.alloc (.cells cs E)):=by
  obtain⟨i,z,hi,hz,hsz,hby,hzs⟩:=I.info;have hpos:=I.pos;unfold bsS Instr.buildSlice;have hf:Instr.fill (fun i=>some (i*k,k)) (Array.map (fun x=>z.cells[x % z.cells.size]!) (Array.range (1*k))) [(0,Value.agg cs)]=some cs:=by
    have e:Array.map (fun x=>z.cells[x % z.cells.size]!) (Array.range (1*k))=(#[]:Array Value)++Array.map (fun x=>z.cells[x % z.cells.size]!) (Array.range (1*k)) ++ #[]:=by simp
    rw[e,xD (off:=0) (size:=k) (by simp) rfl (by simp) (by simp[Value.cells,hcs])];simp[Instr.fill,Value.cells]
  have hne:¬(1*k>16777216):=by omega
  have hn0:¬(1*k=0):=by omega
  simp only[Sem.run_bind,run_underlying I.und,Result.andThen_ok,sizeOf,typeInfo,hi,hsz];simp[hi,hz,zeroValue,typeInfo,hsz,Nat.not_lt.2 (show k<=16777216 from hk),Nat.pos_iff_ne_zero.1 hpos,hf,newRow];rw[Nat.one_mul]at hf;rw[hf];rfl
end
section
open Go.RowKit Go.WideShapes
section
variable {P:Program} {w:World}
def lE (P:Program) (w:World) (T:TypeId) {α:Type} (e:α->Array Value) (ok:α->Prop):Prop :=
  ∀ {H:Type} (enc:TypeId×Value->H) (base:Nat) (spare:Nat->Bool) (held:Bool) (fuel:Nat) (cs:List Value) (x:DataW H×List MemPlace),
    DataW.trod enc P w base spare held fuel T cs=some x->∃a,cs=(e a).toList/\ok a
theorem gC {T:TypeId} (u:P.underlying T=some .string):lE P w T (fun s:ByteArray=>#[.string s]) (fun s=>s.size<=maxLen):=by
  intro H enc base spare held fuel cs x h;obtain⟨s,rfl,_,hs⟩:=DataW.trod_string u h;exact⟨s,rfl,hs⟩
theorem pV {T:TypeId} {k:IntKind} (u:P.underlying T=some (.int k)):lE P w T (fun n:Int=>#[.int k n]) (fun n=>(Lit.int k n).wf=true):=by
  intro H enc base spare held fuel cs x h;obtain⟨n,rfl,_,hs⟩:=DataW.trod_int u h;exact⟨n,rfl,hs⟩
theorem vV {U:TypeId} {fs:Array Field} {α:Type} {e:α->Array Value} {ok:α->Prop} {H:Type} {enc:TypeId×Value->H} {base:Nat} {spare:Nat->Bool} {held:Bool} {n:Nat} {cs:List Value} {xs:List (DataW H×List MemPlace)}
    (hlen:xs.length=fs.size) (hel:∀(i:Nat) (f:Field),fs[i]? = some f->DataW.trod enc P w base spare held n f.type ((cs.drop f.offset).take (P.cellsOf f.type))=xs[i]?)
    (o:lE P w U e ok) (i off k:Nat) (f:Field) (hf:fs[i]? = some f) (ht:f.type=U) (ho:f.offset=off) (hk:P.cellsOf U=k):∃a,(cs.drop off).take k=(e a).toList/\ok a:=by
  have h:=hel i f hf;rw[ht,ho,hk]at h;have hi:i<xs.length:=by rw[hlen];exact(Array.getElem?_eq_some_iff.1 hf).1
  rw[List.getElem?_eq_getElem hi]at h;exact o _ _ _ _ _ _ _ h
theorem fO {cs:List Value} {o k:Nat}:cs.drop o=(cs.drop o).take k++cs.drop (o+k):=by
  rw[<-List.drop_drop,List.take_append_drop]
theorem tC {g o k:Nat} {cs:List Value} {base:Nat} (h:w.cells? base ⟨g,o,none⟩ k=some cs) (hk:0<k):z9 w g o k=some cs.toArray:=by
  unfold World.cells? at h;split at h
  · have hlen:cs.length=k:=by simpa using mapM_some_length h
    have hget:∀i,i<k->w.cell? ⟨g,o+i,none⟩=cs[i]?:=by
      intro i hi;have:=mapM_some_get h i i (by simp[hi]);rw[<-this];congr 1
      unfold Addr.add;split
      · rename_i e;subst e;rfl
      · rfl
    have h0:=hget (k-1) (by omega);rw[List.getElem?_eq_getElem (by omega)]at h0;unfold z9;cases hb:w.heap[g]? with
    | none=>simp[World.cell?,hb]at h0
    | some b =>
      cases b with
      | cells c t f =>
        have h1:∀i,i<k->c[o+i]? = cs[i]?:=by
          intro i hi;have:=hget i hi;simpa[World.cell?,hb]using this
        have hle:o+k<=c.size:=by
          have h2:=h1 (k-1) (by omega);rw[List.getElem?_eq_getElem (by omega)]at h2;have:=(Array.getElem?_eq_some_iff.1 h2).1;omega
        simp only;rw[if_pos hle];congr 1
        apply Array.ext';apply List.ext_getElem?;intro i;by_cases hi:i<k
        · have:=h1 i hi;simp only[Array.toList_extract,List.extract_eq_take_drop,List.getElem?_take,List.getElem?_drop];rw[if_pos (by omega)];simpa using this
        · rw[List.getElem?_eq_none (by simp;omega),List.getElem?_eq_none (by simp;omega)]
      | _=>simp[World.cell?,hb]at h0
  · cases h
theorem pW {H:Type} {enc:TypeId×Value->H} {base:Nat} {spare:Nat->Bool} {held:Bool} {T E:TypeId} {α:Type} {e:α->Array Value} {ok:α->Prop} {k b0:Nat} {r:Reach} {v:Value} {d:DataW H} {p:List MemPlace} (u:P.underlying T=some (.slice E)) (o:lE P w E e ok)
    (hk:P.cellsOf E=k) (hk0:0<k) (hval:Value.okWide P w r b0 T v) (h:DataW.Trod enc P w base spare held T v d p) :
    ∃(A:Option Addr) (n cap:Nat) (R:List α),v = .slice A n cap/\SlR w A n k (R.map e)/\R.length=n/\(∀a∈R,ok a)/\n<=maxLen/\((n=0/\d = .nil)\/∃el sp,d = .slice el sp/\el.length=n):=by
  obtain⟨A,n,cap,rfl⟩:=okWide_slice u hval;obtain⟨fuel,hf⟩:=h;rcases Go.Deep.open_slice u hf with⟨h0,hx⟩ | ⟨a,len,cap',m,f,D,Pl,hcs,hb,hlc,hcm,hm,hx,hel⟩
  · have e0:(Value.slice A n cap).cells.toList = [Value.slice A n cap]:=rfl;rw[e0]at h0;injection h0 with h0 _
    injection h0 with h1 h2 h3
    subst h1;subst h2;subst h3;exact⟨none,0,0,[],rfl,⟨rfl,fun h=>absurd h (by omega)⟩,rfl,fun _ h=>absurd h (by simp),Nat.zero_le _,.inl ⟨rfl,(Prod.mk.inj hx).1⟩⟩
  · have e0:(Value.slice A n cap).cells.toList = [Value.slice A n cap]:=rfl;rw[e0]at hcs;injection hcs with h0 _
    injection h0 with h1 h2 h3
    subst h1;subst h2;subst h3;have hnm:n<=m:=by rw[hm];split <;> omega
    have hall:∀i,i<n->∃x:α,w.cells? base (a.add (i*k)) k=some (e x).toList/\ok x:=by
      intro i hi;obtain⟨cs',h1,h2⟩:=hel i (by omega);rw[hk]at h1;obtain⟨x,rfl,hx⟩:=o _ _ _ _ _ _ _ h2;exact⟨x,h1,hx⟩
    clear hel;by_cases hn:n=0
    · subst hn;exact⟨some a,0,cap,[],rfl,⟨rfl,fun h=>absurd h (by omega)⟩,rfl,fun _ h=>absurd h (by simp),Nat.zero_le _,.inr ⟨_,_,(Prod.mk.inj hx).1,by simp⟩⟩
    · obtain⟨x0,hx0,_⟩:=hall 0 (by omega)
      haveI:Inhabited α:=⟨x0⟩
      obtain⟨R,hR⟩:=Go.Deep.choose_lt hall;have hsp:a.spot=none:=by
        unfold World.cells? at hx0;split at hx0
        · have:=mapM_some_get hx0 0 0 (by simp[hk0]);have hlen:(e x0).toList.length=k:=by simpa using mapM_some_length hx0
          rw[List.getElem?_eq_getElem (by omega)]at this;have:=World.cell?_spot this;simpa[Addr.add]using this
        · cases hx0
      obtain⟨g,o',sp⟩:=a;simp only at hsp;subst hsp;refine⟨_,n,cap,(List.range n).map R,rfl,⟨by simp,fun _=>⟨g,o',rfl,?_⟩⟩,by simp,?_,by omega,.inr ⟨_,_,(Prod.mk.inj hx).1,by simp⟩⟩
      · intro i hi;have hi':i<n:=by simpa using hi
        have h1:=(hR i hi').1;have e1:(⟨g,o',none⟩:Addr).add (i*k)=⟨g,o'+i*k,none⟩:=by
          unfold Addr.add;split
          · rename_i e;rw[e];rfl
          · rfl
        rw[e1]at h1;rw[tC h1 hk0]
        simp
      · intro x hx;obtain⟨i,hi,rfl⟩:=List.mem_map.1 hx;exact(hR i (List.mem_range.1 hi)).2
end
theorem kq {P:Program} {w:World} {H:Type} {enc:TypeId×Value->H} {base:Nat} {spare:Nat->Bool} {held:Bool} {T:TypeId} {α:Type} {e:α->Array Value} {ok:α->Prop} {b0:Nat} {r:Reach} {v:Value} {d:DataW H} {p:List MemPlace} {ds:TypeDesc} (u:P.underlying T=some ds)
    (hds:(match ds with | .struct _ | .array _ _=>true | _=>false)=true) (o:lE P w T e ok) (hval:Value.okWide P w r b0 T v) (h:DataW.Trod enc P w base spare held T v d p):∃a,v = .agg (e a)/\ok a:=by
  have hv:∃cs,v = .agg cs:=by
    simp only[Value.okWide,u]at hval;cases ds <;> simp_all
    all_goals exact⟨_,hval.choose_spec.1⟩
  obtain⟨cs,rfl⟩:=hv;obtain⟨fuel,hf⟩:=h;obtain⟨a,ha,hok⟩:=o _ _ _ _ _ _ _ hf;refine⟨a,?_,hok⟩;congr 1
  apply Array.ext';exact ha
theorem B6 {w:World}:lE Tryz.prog w 24 idC (fun _=>True):=by
  intro H enc base spare held fuel cs x h;obtain⟨xs,m,rfl,_,hlen,hxl,hel⟩:=DataW.trod_array Tryz.underlying24 h;have hc:Tryz.prog.cellsOf 24=32:=by kernel_rfl
  have hb:Tryz.prog.cellsOf 5=1:=by kernel_rfl
  rw[hc]at hlen;have hall:∀i,i<32->∃n:Int,cs[i]? = some (.int .u8 n)/\0<=n/\n<=255:=by
    intro i hi;have h1:=hel i hi;rw[List.getElem?_eq_getElem (by omega)]at h1;obtain⟨n,hn,_,hw⟩:=DataW.trod_int Tryz.underlying5 h1;rw[hb,Nat.mul_one]at hn;have h2:=congrArg (fun l=>l[0]?) hn;simp[List.getElem?_take,List.getElem?_drop]at h2;have hw':0<=n/\n<=255:=by simpa[Lit.wf,IntKind.min,IntKind.max,IntKind.signed,IntKind.bits]using hw
    exact⟨n,h2,hw'⟩
  obtain⟨f,hf⟩:=Go.Deep.choose_lt hall;refine⟨⟨(List.range 32).map fun i=>UInt8.ofNat (f i).toNat,by simp⟩,?_,trivial⟩;apply List.ext_getElem?;intro i;by_cases hi:i<32
  · obtain⟨h1,h2,h3⟩:=hf i hi;rw[h1];simp[idC,yW,hi];have:(f i).toNat % 256=(f i).toNat:=Nat.mod_eq_of_lt (by omega);omega
  · rw[List.getElem?_eq_none (by omega),List.getElem?_eq_none (by simp;omega)]
end
section
open Go.RowKit Go.WideShapes
structure zG where
  id:zJ
  h:Int
  body:ByteArray
def zL (x:zG):Array Value:=idC x.id ++ #[.int .i64 x.h] ++ #[.string x.body]
@[simp] theorem fS (x:zG):(zL x).size=34:=by simp[zL]
@[go_sem] theorem jM (x:zG):(zL x).extract 0 32=idC x.id:=by
  have h:zL x=((#[]:Array Value))++idC x.id++(#[.int .i64 x.h] ++ #[.string x.body]):=by first | (simp[zL,Array.append_assoc];done) | (apply Array.ext';simp[zL];done)
  rw[h];exact fM _ _ _ _ _ (by simp) (by simp)
@[go_sem] theorem vI (x:zG):(zL x)[32]? = some (.int .i64 x.h):=by first | (simp[zL,Array.getElem?_append];done) | (rw[show zL x=(idC x.id) ++ #[.int .i64 x.h]++(#[.string x.body])from by apply Array.ext';simp[zL]];exact xS _ _ _ _ (by simp))
@[go_sem] theorem mY (x:zG):(zL x)[33]? = some (.string x.body):=by first | (simp[zL,Array.getElem?_append];done) | (rw[show zL x=(idC x.id ++ #[.int .i64 x.h]) ++ #[.string x.body]++((#[]:Array Value))from by apply Array.ext';simp[zL]];exact xS _ _ _ _ (by simp))
@[go_sem] theorem markVC_all (x:zG):(zL x).extract 0 34=zL x:=by have:=Array.extract_size (xs:=zL x);rwa [fS]at this
theorem mX (x:zG):∀u∈(zL x).toList,u.oneCell'=true:=by
  intro u hu;simp only[zL,Array.toList_append,List.mem_append]at hu;rcases hu with(hu | hu) | hu
  · exact qJ _ u hu
  · simp at hu;subst hu;rfl
  · simp at hu;subst hu;rfl
def r7:zG:=⟨id0,0,⟨#[]⟩⟩
theorem jh {x y:zG} (h:x.id=y.id/\x.h=y.h/\x.body=y.body):x=y:=by cases x;cases y;simp_all
instance:DecidableEq zG:=fun x y=>if h:x.id=y.id/\x.h=y.h/\x.body=y.body then isTrue (jh h)else isFalse (fun e=>h (by subst e;simp))
theorem ZE:(Tryz.prog.info? 45).map (·.size)=some 34:=by kernel_rfl
@[go_sem ↓] theorem zeroMarkV_run (w:World):(zeroValue 45).run Tryz.prog w = .ok (.agg (zL r7)) w:=by
  have h:(Tryz.prog.info? 45).bind (·.zero)=some (.agg (zL r7)):=by kernel_rfl
  cases hi:Tryz.prog.info? 45 with
  | none=>rw[hi]at h;cases h
  | some i =>
    rw[hi]at h;have hz:i.zero=some (.agg (zL r7)):=h;simp[zeroValue,typeInfo,hi,hz]
@[go_sem ↓] theorem loadMarkV_rw (a:Addr):loadVar 45 a=ldS 45 a:=rfl
@[go_sem ↓] theorem storeMarkV_rw (a:Addr) (v:Value):storeVar 45 a v=stS 45 a v:=rfl
@[go_sem] theorem loadMarkV_run (w:World) (g o:Nat):(ldS 45 ⟨g,o,none⟩).run Tryz.prog w=match z9 w g o 34 with | some cs=>.ok (.agg cs) w | none=>(loadVar 45 ⟨g,o,none⟩).run Tryz.prog w :=
  vD Tryz.underlying45 rfl ZE w g o
@[go_sem] theorem jw (w:World) (g:Nat) (hg:g=w.heap.size) (z:Array Value) (hz:z.size=34) (x:zG) (e:TypeId):(stS 45 ⟨g,0,none⟩ (.agg (zL x))).run Tryz.prog (w.alloc (.cells z e)) = .ok () (w.alloc (.cells (zL x) e)) :=
  hg ▸ qB ZE w z (zL x) hz (fS x) (mX x)
@[go_sem ↓] theorem buildMarkV_rw (parts:Array (Nat×Value)):Instr.build 45 parts=bdS 45 parts:=rfl
def markVOk (x:zG):Prop:=True/\(Lit.int .i64 x.h).wf=true/\x.body.size<=maxLen
theorem VJ {w:World}:lE Tryz.prog w 45 zL markVOk:=by
  intro H enc base spare held fuel cs x h;obtain⟨xs,n,rfl,_,hlen,hxl,hel⟩:=DataW.trod_struct Tryz.underlying45 h;have hc:Tryz.prog.cellsOf 45=34:=by kernel_rfl
  rw[hc]at hlen;obtain⟨a0,h0,k0⟩:=vV hxl hel (B6) 0 0 32 _ rfl rfl rfl (by kernel_rfl);have e0:cs.drop 0=(cs.drop 0).take 32++cs.drop 32:=fO;obtain⟨a1,h1,k1⟩:=vV hxl hel (pV Tryz.underlying3) 1 32 1 _ rfl rfl rfl (by kernel_rfl);have e1:cs.drop 32=(cs.drop 32).take 1++cs.drop 33:=fO;obtain⟨a2,h2,k2⟩:=vV hxl hel (gC Tryz.underlying9) 2 33 1 _ rfl rfl rfl (by kernel_rfl);have e2:cs.drop 33=(cs.drop 33).take 1++cs.drop 34:=fO;have en:cs.drop 34 = []:=List.drop_eq_nil_of_le (by omega);refine⟨⟨a0,a1,a2⟩,e0.trans ?_,k0,k1,k2⟩;rw[h0,e1,h1,e2,h2,en];simp[zL]
abbrev idV (x:zJ):Value:=.agg (idC x)
abbrev VN (_:zJ):Prop:=True
abbrev lF (w:World) (b:Nat) (L:List zJ):Prop:=qQ w b idV VN L
theorem BS (w:World):(zeroValue 4).run Tryz.prog w = .ok (.bool false) w:=by kernel_rfl
section
variable {w:World} {b:Nat} {X:List zJ} {x:zJ}
theorem ihit (h:lF w b X) (hx:x∈X):(Instr.lookup 176 (.map (some b)) (.agg (idC x)) false).run Tryz.prog w = .ok (.bool true) w:=qQ.hit (kv:=idV) (ok:=VN) h p6 Tryz.underlying176 trivial hx
theorem imiss (h:lF w b X) (hx:x∉X):(Instr.lookup 176 (.map (some b)) (.agg (idC x)) false).run Tryz.prog w = .ok (.bool false) w:=qQ.miss (kv:=idV) (ok:=VN) h p6 Tryz.underlying176 BS trivial hx
theorem iput (h:lF w b X):∃w',(Instr.mapUpdate 176 (.map (some b)) (.agg (idC x)) (.bool true)).run Tryz.prog w = .ok () w'/\lF w' b (x :: X)/\z4 [b] w w':=qQ.put h p6 Tryz.underlying176 trivial
end
section
variable {w w':World} {g:Nat} {t:ByteArray} {b:Nat} {I:List zJ} {sv:Value}
end
end
theorem yI {P:Program} {fn:Func} {p q:Tmp} {ty:TypeId} (h:fn.results = #[.cell p ty,.tmp q]) (tmps:Array Value) (w:World) (g:Nat) (t:TypeId) (cs:Array Value) (fr:Nat×Nat) (d:TypeDesc)
    (hp:tmps.getD p undef = .pointer (some ⟨g,0,none⟩)) (hg:w.heap[g]? = some (.cells cs t fr))
    (hu:P.underlying ty=some d) (hd:(match d with | .struct _ | .array _ _=>true | _=>false)=true) (hi:(P.info? ty).map (·.size)=some cs.size) :
    (results fn tmps).run P w = .ok (.tuple #[.agg cs,tmps.getD q undef]) w:=by
  have hp':tmps[p]?.getD undef = .pointer (some ⟨g,0,none⟩):=by simpa using hp
  simp[results,h,hp',asAddr,run_loadVar_row w g t ty cs fr d hg hu hd hi]
def b9 (c:UInt8):Array Value:=#[yW c]
def yU (bs:List UInt8):List (Array Value):=bs.map b9
theorem l8 (bs:List UInt8):(yU bs).flatMap Array.toList=bs.map yW:=by
  induction bs with
  | nil=>rfl
  | cons b bs ih=>simp only[yU,List.map_cons,List.flatMap_cons]at ih |-;rw[ih];rfl
theorem XF (s:ByteArray):Go.Lib.strCells s=s.data.toList.map yW:=rfl
theorem iL {P:Program} {T U E:TypeId} {i:TypeInfo} (ht:P.underlying T=some (.slice E)) (hu:P.underlying U=some .string) (hi:P.info? E=some i) (hz:i.zero=some (.int .u8 0)) (hsize:i.size=1) (hby:i.bytes=1)
    {w:World} {B:Nat} {A:Option Addr} {n cap:Nat} {bs:List UInt8} (hown:Own w B E 1 A n cap (yU bs)) (s:ByteArray) (hbytes:n+s.size<=140737488355328) (hB:B<=w.heap.size) (ty:TypeId) :
    ∃A' cap' w',(Builtin.append_ #[T,U] ty #[.slice A n cap,.string s]).run P w = .ok (.slice A' (n+s.size) cap') w'/\Own w' B E 1 A' (n+s.size) cap' (yU (bs++s.data.toList))/\z4 (blk A) w w'/\(∀x∈blk A',x∈blk A\/w.heap.size<=x):=by
  have hrow:=hown.row;rw[l8]at hrow;have hml:n+s.size<=maxLen:=by simp only[maxLen];omega
  obtain⟨v',w',hr,h2,h3,h4⟩:=Go.Lib.run_append_own_string (P:=P) w B T U ty E i ht hu hi hz hsize hby _ n _ hrow s hml hbytes hB;have hform:∃A' cap',v' = .slice A' (n+s.size) cap':=by
    rcases h2.2 with⟨h0,h00⟩ | ⟨g,c',cur,hv,_⟩
    · exact⟨none,0,by rw[h0,h00]⟩
    · exact⟨_,_,hv⟩
  obtain⟨A',cap',rfl⟩:=hform;have hb:(Value.slice A n cap).ownBlock=(A.map (·.block)):=by cases A <;> rfl
  have hk:=z4.grown h3;rw[hb]at hk;refine⟨A',cap',w',hr,⟨?_,?_,?_⟩,hk,?_⟩
  · rw[l8,List.map_append];rw[XF]at h2;exact h2
  · have:=hown.len;simp only[yU,List.length_map,List.length_append]at this |-;rw[this];rfl
  · intro c hc;simp only[yU,List.mem_map]at hc;obtain⟨b,_,rfl⟩:=hc;rfl
  · rcases hrow.2 with⟨h0,h00⟩ | ⟨g,c,cur,hv,hbg,hg,hnc,hcm,hcs,htake⟩
    · intro x hx;right
      have hr1:w.ownsRow w.heap.size E 1 (.slice A n cap) n (bs.map yW):=⟨hrow.1,.inl ⟨h0,h00⟩⟩
      obtain⟨v2,w2,hr2,g2,_,_⟩:=Go.Lib.run_append_own_string (P:=P) w w.heap.size T U ty E i ht hu hi hz hsize hby _ n _ hr1 s hml hbytes (Nat.le_refl _);rw[hr]at hr2;injection hr2 with e1 e2
      subst e1;subst e2;rcases g2.2 with⟨k0,_⟩ | ⟨g,c',cur,hv,hbg,_⟩
      · injection k0 with k0;subst k0;simp[blk]at hx
      · injection hv with hv;subst hv
        have:x=g:=by simpa[blk]using hx
        omega
    · injection hv with hA hc1 hc2
      subst hA;subst hc2;by_cases hroom:n+s.size<=cap
      · have hcs':cur.size=cap:=by simpa using hcs
        have hr2:=Go.Lib.run_append_room_string (P:=P) w T U ty E i ht hu hi hsize g n cap cur hg s hroom (by omega);rw[hr]at hr2;injection hr2 with e1 e2
        injection e1 with e1
        subst e1;intro x hx;exact .inl hx
      · have hxl:(bs.map yW).length=n:=by simpa using hrow.1
        have holds:∀j u,(bs.map yW)[j]? = some u->w.cell? ((⟨g,0,none⟩:Addr).add j)=some u:=hrow.cells (g:=g) rfl;have hr2:=Go.Lib.run_append_grow_string (P:=P) w T U ty E i (.int .u8 0) ht hu hi hz ⟨g,0,none⟩ n cap _ (by rw[hsize];simpa using hxl) holds s (by omega) (by omega) (by rw[hby];exact growslice_fits (by omega) (by omega));rw[hr]at hr2;injection hr2 with e1 e2
        injection e1 with e1
        subst e1;intro x hx;right
        have:x=w.heap.size:=by simpa[blk]using hx
        omega
theorem X0 {P:Program} {ops:Array Oper} {Q:Exit->Act->World->Prop} {a:Act} {w:World} {rest:List Oper} {dst:Option Tmp} {sl x:Operand} {ty:TypeId} {pos:String} {after:Array Edge} {T U E:TypeId} {i:TypeInfo} (ht:P.underlying T=some (.slice E)) (hu:P.underlying U=some .string) (hi:P.info? E=some i) (hz:i.zero=some (.int .u8 0)) (hsize:i.size=1) (hby:i.bytes=1)
    {B:Nat} {A:Option Addr} {n cap:Nat} {bs:List UInt8} {s:ByteArray} (hs:a.eval sl = .slice A n cap) (hown:Own w B E 1 A n cap (yU bs)) (hx:a.eval x = .string s) (hbytes:n+s.size<=140737488355328) (hB:B<=w.heap.size)
    (h:∀A' cap' w',Own w' B E 1 A' (n+s.size) cap' (yU (bs++s.data.toList))->z4 (blk A) w w'->(∀x∈blk A',x∈blk A\/w.heap.size<=x)->wpList P ops Q rest (a.put dst (.slice A' (n+s.size) cap')) w') :
    wpList P ops Q ({ dst:=dst,op:=.call { callee:=.builtin .append,args:=#[sl,x],argTypes:=#[T,U] },type:=ty,pos:=pos,after:=after,guard:=none } :: rest) a w:=by
  obtain⟨A',cap',w',hr,h1,h2,h3⟩:=iL ht hu hi hz hsize hby hown s hbytes hB ty;exact sE hs hx hr (h A' cap' w' h1 h2 h3)
structure Wr where
  b:Value
  bad:Int
  made:Bool
def wrC (x:Wr):Array Value:=#[x.b] ++ #[.int .i64 x.bad] ++ #[.bool x.made]
@[simp] theorem wrC_size (x:Wr):(wrC x).size=3:=by simp[wrC]
@[go_sem] theorem wrC_g0 (x:Wr):(wrC x)[0]? = some (x.b):=by first | (simp[wrC,Array.getElem?_append];done) | (rw[show wrC x=((#[]:Array Value)) ++ #[x.b]++(#[.int .i64 x.bad] ++ #[.bool x.made])from by apply Array.ext';simp[wrC]];exact xS _ _ _ _ (by simp))
@[go_sem] theorem wrC_gg0 (x:Wr) (h:0<(wrC x).size):(wrC x)[0]'h=x.b:=Option.some.inj ((Array.getElem?_eq_getElem h).symm.trans (wrC_g0 x))
@[go_sem] theorem wrC_g1 (x:Wr):(wrC x)[1]? = some (.int .i64 x.bad):=by first | (simp[wrC,Array.getElem?_append];done) | (rw[show wrC x=(#[x.b]) ++ #[.int .i64 x.bad]++(#[.bool x.made])from by apply Array.ext';simp[wrC]];exact xS _ _ _ _ (by simp))
@[go_sem] theorem wrC_gg1 (x:Wr) (h:1<(wrC x).size):(wrC x)[1]'h = .int .i64 x.bad:=Option.some.inj ((Array.getElem?_eq_getElem h).symm.trans (wrC_g1 x))
@[go_sem] theorem wrC_g2 (x:Wr):(wrC x)[2]? = some (.bool x.made):=by first | (simp[wrC,Array.getElem?_append];done) | (rw[show wrC x=(#[x.b] ++ #[.int .i64 x.bad]) ++ #[.bool x.made]++((#[]:Array Value))from by apply Array.ext';simp[wrC]];exact xS _ _ _ _ (by simp))
@[go_sem] theorem wrC_gg2 (x:Wr) (h:2<(wrC x).size):(wrC x)[2]'h = .bool x.made:=Option.some.inj ((Array.getElem?_eq_getElem h).symm.trans (wrC_g2 x))
def wr0:Wr:=⟨(.slice none 0 0),0,false⟩
@[go_sem ↓] theorem JL (w:World):(zeroValue 225).run Tryz.prog w = .ok (.agg (wrC wr0)) w:=by
  have h:(Tryz.prog.info? 225).bind (·.zero)=some (.agg (wrC wr0)):=by kernel_rfl
  cases hi:Tryz.prog.info? 225 with
  | none=>rw[hi]at h;cases h
  | some i =>
    rw[hi]at h;have hz:i.zero=some (.agg (wrC wr0)):=h;simp[zeroValue,typeInfo,hi,hz]
@[go_sem ↓] theorem loadWr_rw (a:Addr):loadVar 225 a=ldS 225 a:=rfl
@[go_sem ↓] theorem storeWr_rw (a:Addr) (v:Value):storeVar 225 a v=stS 225 a v:=rfl
theorem fieldsWr:Tryz.prog.underlying 225=some (.struct (Tryz.prog.fieldsOf 225)):=by kernel_rfl
theorem kb (w:World):((Tryz.prog.fieldsOf 225).mapM fun (f:Field)=>do pure (f.offset,<-sizeOf f.type)).run Tryz.prog w = .ok #[(0,1),(1,1),(2,1)] w:=by kernel_rfl
@[go_sem ↓] theorem buildWr_rw (parts:Array (Nat×Value)):Instr.build 225 parts=bdS 225 parts:=rfl
@[go_sem] theorem buildWr_2 (a2:Bool) (w:World):(bdS 225 #[(2,.bool a2)]).run Tryz.prog w = .ok (.agg (wrC ⟨(.slice none 0 0),0,a2⟩)) w:=by
  refine vB w fieldsWr _ (JL w) _ (kb w) [(2,.bool a2)] _ ?_;rw[show wrC wr0=(#[(.slice none 0 0)]++(#[.int .i64 0])) ++ #[.bool false]++(#[]:Array Value)from by first | (simp[wrC,wr0,Array.append_assoc];done) | (apply Array.ext';simp[wrC,wr0])];rw[xD (off:=2) (size:=1) rfl (by simp) (by simp) (by simp[Value.cells])];first | (simp[Instr.fill,wrC,Array.append_assoc,Value.cells];done) | (simp only[Instr.fill,wrC];congr 1;apply Array.ext';simp[Value.cells];done) | (simp only[Instr.fill,wrC];congr 1;done) | (simp only[Instr.fill,wrC];done)
theorem jZ:yY Tryz.prog 89 5 1 1 :=
  .of (z:=.int .u8 0) Tryz.underlying89 (by kernel_rfl) (by kernel_rfl) (by kernel_rfl) rfl (by omega)
theorem J3:∃i,Tryz.prog.info? 5=some i/\i.zero=some (.int .u8 0)/\i.size=1/\i.bytes=1:=by
  have hz:(Tryz.prog.info? 5).bind (·.zero)=some (.int .u8 0):=by kernel_rfl
  have hs:(Tryz.prog.info? 5).map (·.size)=some 1:=by kernel_rfl
  have hb:(Tryz.prog.info? 5).map (·.bytes)=some 1:=by kernel_rfl
  cases hi:Tryz.prog.info? 5 with
  | none=>rw[hi]at hz;cases hz
  | some i =>
    rw[hi]at hz hs hb;exact⟨i,rfl,hz,by simpa using hs,by simpa using hb⟩
structure wM (w:World) (B g:Nat) (A:Option Addr) (cap:Nat) (bs:List UInt8):Prop where
  heap:w.heap[g]? = some (.cells (wrC ⟨.slice A bs.length cap,0,true⟩) 225 (0,0))
  own:Own w B 5 1 A bs.length cap (yU bs)
  ne:g∉blk A
  base:B<=w.heap.size
theorem wM.lt {w:World} {B g:Nat} {A:Option Addr} {cap:Nat} {bs:List UInt8} (h:wM w B g A cap bs):g<w.heap.size:=(Array.getElem?_eq_some_iff.1 h.heap).1
theorem wM.cell {w:World} {B g:Nat} {A:Option Addr} {cap:Nat} {bs:List UInt8} (h:wM w B g A cap bs) :
    w.cell? ⟨g,0,none⟩=some (.slice A bs.length cap)/\w.cell? ⟨g,1,none⟩=some (.int .i64 0)/\w.cell? ⟨g,2,none⟩=some (.bool true):=by
  refine⟨?_,?_,?_⟩ <;> rw[cell_of_row w g _ _ _ _ h.heap] <;> simp[go_sem]
theorem wM.kept {w w':World} {B g:Nat} {A:Option Addr} {cap:Nat} {bs:List UInt8} {S:List Nat} (h:wM w B g A cap bs) (k:z4 S w w') (hg:g∉S) (hn:∀x∈blk A,x∉S):wM w' B g A cap bs :=
  ⟨(k.block g h.lt hg).trans h.heap,h.own.kept k hn,h.ne,Nat.le_trans h.base k.size⟩
theorem wM.below {w w':World} {B g:Nat} {A:Option Addr} {cap:Nat} {bs:List UInt8} (h:wM w B g A cap bs) (k:Below w.heap.size w w'):wM w' B g A cap bs:=h.kept (z4.of_below k) (by simp) (by simp)
def mH (w:World) (B g:Nat) (A:Option Addr) (bs:List UInt8) (w':World):Prop :=
  ∃A' cap',wM w' B g A' cap' bs/\z4 (g :: blk A) w w'/\∀x∈blk A',x∈blk A\/w.heap.size<=x
theorem wnew (w:World):Calls Tryz.prog 103 #[] w fun e w'=>e = .returned (.pointer (some ⟨w.heap.size,0,none⟩))/\wM w' (w.heap.size+1) w.heap.size none 0 []/\Below w.heap.size w w':=by
  go_enter Tryz.func103,Tryz.ntmps103
  (go_wp2_with fail);go_ret;refine⟨rfl,⟨heap_alloc_new w _,Own.nil _ _ _ _,by simp[blk],by simp⟩,(Below.refl _ _).alloc (Nat.le_refl _) _⟩
theorem jj (w:World) (g:Nat) (h:w.cell? ⟨g,2,none⟩=some (.bool true)):Calls Tryz.prog 141 #[.pointer (some ⟨g,0,none⟩)] w fun e w'=>e = .returned (.bool false)/\w=w':=by
  go_enter Tryz.func141,Tryz.ntmps141
  (go_wp2_with fail);go_ret;exact⟨rfl,rfl⟩
theorem zE {w:World} {g:Nat} {c:Array Value} {T:TypeId} {fr:Nat×Nat} (h:w.heap[g]? = some (.cells c T fr)) (j:Nat) (u:Value):(w.setCell ⟨g,j,none⟩ u).heap[g]? = some (.cells (c.setIfInBounds j u) T fr):=by
  obtain⟨hlt,hg⟩:=Array.getElem?_eq_some_iff.1 h;show(w.heap.modify g _)[g]? = _;rw[Array.getElem?_modify];simp[h]
theorem X4 {w w1:World} {B g:Nat} {A A':Option Addr} {cap cap':Nat} {bs bs':List UInt8} (h:wM w B g A cap bs) (hk:z4 (blk A) w w1) (hown:Own w1 B 5 1 A' bs'.length cap' (yU bs')) (hsub:∀x∈blk A',x∈blk A\/w.heap.size<=x) :
    mH w B g A bs' (w1.setCell ⟨g,0,none⟩ (.slice A' bs'.length cap')):=by
  have hg:w1.heap[g]? = some (.cells (wrC ⟨.slice A bs.length cap,0,true⟩) 225 (0,0)):=(hk.block g h.lt h.ne).trans h.heap;have hne:g∉blk A':=yy h.ne h.lt hsub;have hs:z4 [g] w1 (w1.setCell ⟨g,0,none⟩ (.slice A' bs'.length cap')):=z4.setCell w1 ⟨g,0,none⟩ _;refine⟨A',cap',⟨?_,hown.kept hs (fun x hx e=>hne (by simp at e;rw[<-e];exact hx)),hne,?_⟩,?_,hsub⟩
  · rw[zE hg];simp[wrC]
  · have h1:=hk.size;have h2:=hs.size;have h3:=h.base;omega
  · exact z4.trans (hk.mono (S':=g :: blk A) (fun x hx=>.inl (by simp[hx]))) hs (fun x hx=>.inl (by simp at hx;simp[hx]))
theorem sV {w w1:World} {B g:Nat} {A:Option Addr} {cap:Nat} {bs:List UInt8} (h:wM w B g A cap bs) (hk:z4 (blk A) w w1) :
    (∀j,w1.frozen? ⟨g,j,none⟩=false)/\w1.cell? ⟨g,0,none⟩=some (.slice A bs.length cap)/\w1.cell? ⟨g,1,none⟩=some (.int .i64 0):=by
  have hg:w1.heap[g]? = some (.cells (wrC ⟨.slice A bs.length cap,0,true⟩) 225 (0,0)):=(hk.block g h.lt h.ne).trans h.heap;refine⟨fun j=>by simp[World.frozen?,hg],?_,?_⟩ <;> rw[cell_of_row w1 g _ _ _ _ hg] <;> simp[go_sem]
theorem wraw (w:World) (B g:Nat) (A:Option Addr) (cap:Nat) (bs:List UInt8) (h:wM w B g A cap bs) (s:ByteArray) (hs:bs.length+s.size<=1000000000) :
    Calls Tryz.prog 105 #[.pointer (some ⟨g,0,none⟩),.string s] w fun e w'=>e = .returned (.pointer (some ⟨g,0,none⟩))/\mH w B g A (bs++s.data.toList) w':=by
  obtain⟨c0,c1,c2⟩:=h.cell;go_enter Tryz.func105,Tryz.ntmps105
  (go_wp2_with fail);refine(jj _ _ c2).mono ?_;rintro e w' ⟨rfl,rfl⟩;obtain⟨i,i1,i2,i3,i4⟩:=J3;have hown:=h.own;have hb:=h.base;go_wp2_with (at_builtin;refine X0 Tryz.underlying89 Tryz.underlying9 i1 i2 i3 i4 rfl hown rfl (by omega) hb ?_;intro A' cap' w' hown' hk hsub;obtain⟨f0,d0,_⟩:=sV h hk;have f0:=f0 0)
  go_ret;have e:(bs++s.data.toList).length=bs.length+s.size:=by rw[List.length_append];rfl
  have hw:=X4 h hk (bs':=bs++s.data.toList) (cap':=cap') (by rw[e];exact hown') hsub;rw[e]at hw;exact⟨rfl,hw⟩
theorem wfail_d (g e:Nat) (u:FrameMode) (w:World) (hb:w.cell? ⟨g,1,none⟩=some (.int .i64 0)) (he:w.cell? ⟨e,0,none⟩=some (.int .i64 0)) (hz:w.frozen? ⟨g,1,none⟩=false) :
    CallsD Tryz.prog 142 #[.pointer (some ⟨g,0,none⟩),.pointer (some ⟨e,0,none⟩)] u w fun en u' w'=>u'=u/\(en = .returned (.tuple #[])/\w'=w.setCell ⟨g,1,none⟩ (.int .i64 0)):=by
  go_enter_d Tryz.func142,Tryz.ntmps142
  go_wp2
  go_end0;exact⟨rfl,rfl⟩
theorem obits (n:Int) (w:World) (hn:n=1\/n=2\/n=4):Calls Tryz.prog 143 #[.int .i64 n] w fun e w'=>e = .returned (.int .i64 (8*n))/\w=w':=by
  rcases hn with rfl | rfl | rfl
  · go_enter Tryz.func143,Tryz.ntmps143
    (go_wp2_with fail);go_ret;exact⟨rfl,rfl⟩
  · go_enter Tryz.func143,Tryz.ntmps143
    (go_wp2_with fail);go_ret;exact⟨rfl,rfl⟩
  · go_enter Tryz.func143,Tryz.ntmps143
    (go_wp2_with fail);go_ret;exact⟨rfl,rfl⟩
def beL:Nat->Nat->List UInt8
  | 0,_=>[]
  | m+1,n=>UInt8.ofNat (n / 256 ^ m) :: beL m n
theorem vL:∀m n,(beL m n).length=m
  | 0,_=>rfl
  | m+1,n=>by simp[beL,vL m n]
theorem j7 {w w1 w2:World} {B g:Nat} {A A1:Option Addr} {cap1:Nat} {bs1 bs2:List UInt8} (h1:wM w1 B g A1 cap1 bs1) (hk:z4 (g :: blk A) w w1) (hsub:∀x∈blk A1,x∈blk A\/w.heap.size<=x) (h:mH w1 B g A1 bs2 w2):mH w B g A bs2 w2:=by
  obtain⟨A2,cap2,h2,hk2,hsub2⟩:=h;refine⟨A2,cap2,h2,z4.trans hk hk2 (fun x hx=>?_),fun x hx=>?_⟩
  · rcases List.mem_cons.1 hx with rfl | hx
    · left;simp
    · rcases hsub x hx with h | h
      · left;simp[h]
      · right;exact h
  · rcases hsub2 x hx with h | h
    · exact hsub x h
    · right;have:=hk.size;omega
theorem wr_bad {w:World} {B g:Nat} {A:Option Addr} {cap:Nat} {bs:List UInt8} (h:wM w B g A cap bs):mH w B g A bs (w.setCell ⟨g,1,none⟩ (.int .i64 0)):=by
  have hs:z4 [g] w (w.setCell ⟨g,1,none⟩ (.int .i64 0)):=z4.setCell w ⟨g,1,none⟩ _;refine⟨A,cap,⟨?_,h.own.kept hs (fun x hx e=>h.ne (by simp at e;rw[<-e];exact hx)),h.ne,Nat.le_trans h.base hs.size⟩,hs.mono (fun x hx=>.inl (by simp at hx;simp[hx])),fun x hx=>.inl hx⟩;rw[zE h.heap];simp[wrC]
theorem BU (w:World) (B g:Nat) (A:Option Addr) (cap:Nat) (bs:List UInt8) (h:wM w B g A cap bs) (n M:Nat) (hM:M=1\/M=2\/M=4) (hn:n<256 ^ M) (hs:bs.length+M<=1000000000) :
    Calls Tryz.prog 104 #[.pointer (some ⟨g,0,none⟩),.int .i64 n,.int .i64 M] w fun e w'=>e = .returned (.pointer (some ⟨g,0,none⟩))/\mH w B g A (bs++beL M n) w':=by
  obtain⟨c0,c1,c2⟩:=h.cell;have hp:(256:Nat) ^ M=2 ^ (8*M):=by rw[show(256:Nat)=2 ^ 8 from rfl,<-Nat.pow_mul]
  have hsh:((n:Int) / 2 ^ (8*M) != 0)=false:=by
    have h1:n / 2 ^ (8*M)=0:=Nat.div_eq_of_lt (by rw[<-hp];exact hn);have h2:((n / 2 ^ (8*M):Nat):Int)=(n:Int) / 2 ^ (8*M):=by simp
    rw[<-h2,h1];rfl
  have hbw:Below w.heap.size w (w.alloc (.cells #[.int .i64 0] 81)):=(Below.refl _ _).alloc (Nat.le_refl _) _;have hw1:=h.below hbw;have hA:∀x∈blk A,x<w.heap.size:=fun x hx=>(h.own.at_base hx).2;have hgl:=h.lt;have hz:(8*(M:Int)==0)=false:=by rw[beq_eq_false_iff_ne];omega
  go_enter_defers Tryz.func104,Tryz.ntmps104
  (go_wp2_with fail);refine(jj _ _ c2).mono ?_;rintro e w' ⟨rfl,rfl⟩;(go_wp2_with fail);refine(obits M _ (by omega)).mono ?_;rintro e w' ⟨rfl,rfl⟩;(go_wp2_with fail);have he0:(w.alloc (.cells #[.int .i64 0] 81)).cell? ⟨w.heap.size,0,none⟩=some (.int .i64 0):=by simp[go_sem]
  clear hsh hbw c0 c1 c2 hn;generalize hW:w.alloc (.cells #[.int .i64 0] 81)=W at *;go_loopw [8] (fun kv wr=>∃(j:Nat) (pre:List UInt8),j<=M/\pre.length+j=M/\kv = .int .i64 (8*(j:Int))/\Hid (pre++beL j n=beL M n)/\mH W B g A (bs++pre) wr) (fun kv _=>(intOf kv).toNat)
  case atStart=>exact⟨M,[],Nat.le_refl _,by simp,rfl,rfl,A,cap,by simpa using hw1,z4.refl _ _,fun x hx=>.inl hx⟩
  case round =>
    obtain⟨j,pre,hj,hpl,rfl,hpre,A1,cap1,hwr,hk,hsub⟩:=hrel;have Hsub:=Lib.hid hsub;by_cases hj0:j=0
    · subst hj0;have he1:wr.cell? ⟨w.heap.size,0,none⟩=some (.int .i64 0):=(hk.cell (p:=⟨w.heap.size,0,none⟩) (by rw[<-hW];simp) (by
        simp only[List.mem_cons,not_or];exact⟨by omega,fun hx=>by have:=hA _ hx;omega⟩)).trans he0
      obtain⟨f1,_,d1⟩:=sV hwr (z4.refl _ _);have f1:=f1 1;have hpe:pre=beL M n:=by have:=hpre.out;simpa[beL]using this
      subst hpe;(go_wp2_with fail);refine leaves_cons (f:=142) (args:=#[.pointer (some ⟨g,0,none⟩),.pointer (some ⟨w.heap.size,0,none⟩)]) (by simp) (by simp[go_sem]) ?_;refine(wfail_d g w.heap.size .returning _ d1 he1 f1).mono ?_;rintro e u' w'' ⟨rfl,rfl,rfl⟩;refine⟨_,results_tmp rfl _ _ _,rfl,?_⟩;have h0:z4 [] w W:=by rw[<-hW];exact z4.alloc _ _
      exact j7 hw1 (h0.mono (by simp)) (fun x hx=>.inl hx) (j7 hwr hk Hsub.out (wr_bad hwr))
    · obtain⟨j,rfl⟩:∃j',j=j'+1:=⟨j-1,by omega⟩
      have e8:8*((j:Int)+1)-8=((8*j:Nat):Int):=by omega
      obtain⟨c0,_,_⟩:=hwr.cell;have hwlt:=hwr.lt;obtain⟨c,hc⟩:∃c,UInt8.ofNat (n / 256 ^ j)=c:=⟨_,rfl⟩
      have eb:IntKind.u8.wrap ((n:Int) / 2 ^ (8*(j:Int)).toNat)=((c.toNat:Nat):Int):=by
        rw[<-hc];have h1:(8*(j:Int)).toNat=8*j:=by omega
        have h2:(256:Nat) ^ j=2 ^ (8*j):=by rw[show(256:Nat)=2 ^ 8 from rfl,<-Nat.pow_mul]
        have h3:((n / 2 ^ (8*j):Nat):Int)=(n:Int) / 2 ^ (8*j):=by simp
        rw[h1,<-h3,h2];simp[IntKind.wrap,IntKind.signed,IntKind.bits]
      go_upto_region 8 with fail
      refine xB (Kp (blk A1) wr) false (by kernel_rfl) (by kernel_rfl) (by kernel_rfl) (by kernel_rfl) (zW (blk A1) wr) ?_;have hne:=xA (blk A1) wr;have hS:=zW (blk A1) wr;have b1:=zM c0 hwr.ne;repeat(refine z6 ?_ ?_;(focus(simp only[z3];done));intro K hK;go_simp;refine hK _ ?_;clear hK K)
      refine zH ?_ ?_ ?_;(focus(exact hS));(focus(simp only[z3];done));intro K hK;go_simp;refine zZ (z4.trans (z4.trans (z4.refl (blk A1) wr) (z4.alloc wr _) (by simp)) (z4.drew _) (by simp)) (fun hS2=>?_);refine hK _ _ ?_;clear hK K;have hk0:z4 [] wr (wr.alloc (.cells #[.int .u8 c.toNat] 5)).drew:=z4.trans (z4.alloc wr _) (z4.drew _) (by simp);have hownr:=hwr.own.kept hk0 (by simp);have hrow2:z9 (wr.alloc (.cells #[.int .u8 c.toNat] 5)).drew wr.heap.size 0 1=some (b9 c):=by simp[go_sem,b9,yW]
      have hlen0:(bs++pre).length=bs.length+pre.length:=List.length_append;rw[hlen0]at hownr;have hB1:=hwr.base;refine wN jZ rfl hownr rfl hrow2 (by simp[b9,yW];rfl) (by omega) (by omega) (by simp;omega) ?_;intro A2 cap2 w2 hown2 hk2 hsub2;have hk3:z4 (blk A1) wr w2:=z4.trans (hk0.mono (S':=blk A1) (by simp)) hk2 (fun x hx=>.inl hx);refine zZ hk3 (fun hS3=>?_);repeat(refine z6 ?_ ?_;(focus(simp only[z3];done));intro K hK;go_simp;refine hK _ ?_;clear hK K)
      obtain⟨f0,d0,_⟩:=sV hwr hk3;have f0:=f0 0;refine jS ?_ ?_;(focus(simp only[z3];done));intro K hK;go_simp;refine hK _ _ ?_;clear hK K;have hl2:(bs++(pre ++ [c])).length=bs.length+pre.length+1:=by simp[Nat.add_assoc]
      have hst:=X4 hwr hk3 (bs':=bs++(pre ++ [c])) (A':=A2) (cap':=cap2) (by rw[hl2,<-List.append_assoc];simpa[yU]using hown2) (fun x hx=>by
        rcases hsub2 x hx with h | h
        · exact .inl h
        · right;simp at h;omega)
      rw[hl2]at hst;have hst2:=j7 hwr hk Hsub.out hst;have Hst:=Lib.hid hst2;clear hst hst2 hS hS2 hS3 b1 hne f0 d0;(go_wp2_with fail);go_roundw
      case rel=>exact⟨j,pre ++ [c],by omega,by simp;omega,by go_num,(show(pre ++ [c])++beL j n=beL M n by rw[<-hpre.out];simp[beL,hc]),Hst.out⟩
      case measure=>simp[intOf];omega
theorem VE {w:World} {B:Nat} {A:Option Addr} {n cap:Nat} {bs:List UInt8} (h:Own w B 5 1 A n cap (yU bs)) (hn:n=bs.length) :
    (convert 89 9 (.slice A n cap)).run Tryz.prog w = .ok (.string ⟨bs.toArray⟩) w:=by
  subst hn;rcases h.addr with rfl | ⟨g,rfl⟩
  · have h0:bs = []:=by
      rcases h.row.2 with⟨_,h0⟩ | ⟨g,c,cur,hv,_⟩
      · exact List.eq_nil_of_length_eq_zero h0
      · cases hv
    subst h0;exact Go.Lib.run_convert_nil_bytes w _ _ _ _ Tryz.underlying89 Tryz.underlying5 Tryz.underlying9
  · refine run_convert_bytes_back w _ _ _ _ _ _ Tryz.underlying89 Tryz.underlying5 Tryz.underlying9 (fun j hj=>?_);have hrow:=h.row;rw[l8]at hrow;have:=hrow.cells (g:=g) rfl j (yW bs[j]) (by simp[hj]);exact this
theorem wdone (w:World) (B g:Nat) (A:Option Addr) (cap:Nat) (bs:List UInt8) (h:wM w B g A cap bs) :
    Calls Tryz.prog 106 #[.pointer (some ⟨g,0,none⟩)] w fun e w'=>e = .returned (.tuple #[.string ⟨bs.toArray⟩,.int .i64 0])/\w=w':=by
  obtain⟨c0,c1,c2⟩:=h.cell;have hs:=VE h.own rfl;go_enter Tryz.func106,Tryz.ntmps106
  (go_wp2_with fail);refine(jj _ _ c2).mono ?_;rintro e w' ⟨rfl,rfl⟩;(go_wp2_with fail);go_ret2;exact⟨rfl,rfl⟩
structure Rd where
  s:ByteArray
  p:Int
  bad:Int
  made:Bool
def rdC (x:Rd):Array Value:=#[.string x.s] ++ #[.int .i64 x.p] ++ #[.int .i64 x.bad] ++ #[.bool x.made]
@[simp] theorem rdC_size (x:Rd):(rdC x).size=4:=by simp[rdC]
@[go_sem] theorem rdC_g0 (x:Rd):(rdC x)[0]? = some (.string x.s):=by first | (simp[rdC,Array.getElem?_append];done) | (rw[show rdC x=((#[]:Array Value)) ++ #[.string x.s]++(#[.int .i64 x.p] ++ #[.int .i64 x.bad] ++ #[.bool x.made])from by apply Array.ext';simp[rdC]];exact xS _ _ _ _ (by simp))
@[go_sem] theorem rdC_gg0 (x:Rd) (h:0<(rdC x).size):(rdC x)[0]'h = .string x.s:=Option.some.inj ((Array.getElem?_eq_getElem h).symm.trans (rdC_g0 x))
@[go_sem] theorem rdC_g1 (x:Rd):(rdC x)[1]? = some (.int .i64 x.p):=by first | (simp[rdC,Array.getElem?_append];done) | (rw[show rdC x=(#[.string x.s]) ++ #[.int .i64 x.p]++(#[.int .i64 x.bad] ++ #[.bool x.made])from by apply Array.ext';simp[rdC]];exact xS _ _ _ _ (by simp))
@[go_sem] theorem rdC_gg1 (x:Rd) (h:1<(rdC x).size):(rdC x)[1]'h = .int .i64 x.p:=Option.some.inj ((Array.getElem?_eq_getElem h).symm.trans (rdC_g1 x))
@[go_sem] theorem rdC_g2 (x:Rd):(rdC x)[2]? = some (.int .i64 x.bad):=by first | (simp[rdC,Array.getElem?_append];done) | (rw[show rdC x=(#[.string x.s] ++ #[.int .i64 x.p]) ++ #[.int .i64 x.bad]++(#[.bool x.made])from by apply Array.ext';simp[rdC]];exact xS _ _ _ _ (by simp))
@[go_sem] theorem rdC_gg2 (x:Rd) (h:2<(rdC x).size):(rdC x)[2]'h = .int .i64 x.bad:=Option.some.inj ((Array.getElem?_eq_getElem h).symm.trans (rdC_g2 x))
@[go_sem] theorem rdC_g3 (x:Rd):(rdC x)[3]? = some (.bool x.made):=by first | (simp[rdC,Array.getElem?_append];done) | (rw[show rdC x=(#[.string x.s] ++ #[.int .i64 x.p] ++ #[.int .i64 x.bad]) ++ #[.bool x.made]++((#[]:Array Value))from by apply Array.ext';simp[rdC]];exact xS _ _ _ _ (by simp))
@[go_sem] theorem rdC_gg3 (x:Rd) (h:3<(rdC x).size):(rdC x)[3]'h = .bool x.made:=Option.some.inj ((Array.getElem?_eq_getElem h).symm.trans (rdC_g3 x))
def rd0:Rd:=⟨⟨#[]⟩,0,0,false⟩
theorem Rd_ext {x y:Rd} (h:x.s=y.s/\x.p=y.p/\x.bad=y.bad/\x.made=y.made):x=y:=by cases x;cases y;simp_all
instance:DecidableEq Rd:=fun x y=>if h:x.s=y.s/\x.p=y.p/\x.bad=y.bad/\x.made=y.made then isTrue (Rd_ext h)else isFalse (fun e=>h (by subst e;simp))
@[go_sem ↓] theorem JN (w:World):(zeroValue 232).run Tryz.prog w = .ok (.agg (rdC rd0)) w:=by
  have h:(Tryz.prog.info? 232).bind (·.zero)=some (.agg (rdC rd0)):=by kernel_rfl
  cases hi:Tryz.prog.info? 232 with
  | none=>rw[hi]at h;cases h
  | some i =>
    rw[hi]at h;have hz:i.zero=some (.agg (rdC rd0)):=h;simp[zeroValue,typeInfo,hi,hz]
@[go_sem ↓] theorem loadRd_rw (a:Addr):loadVar 232 a=ldS 232 a:=rfl
@[go_sem ↓] theorem storeRd_rw (a:Addr) (v:Value):storeVar 232 a v=stS 232 a v:=rfl
theorem fieldsRd:Tryz.prog.underlying 232=some (.struct (Tryz.prog.fieldsOf 232)):=by kernel_rfl
theorem ke (w:World):((Tryz.prog.fieldsOf 232).mapM fun (f:Field)=>do pure (f.offset,<-sizeOf f.type)).run Tryz.prog w = .ok #[(0,1),(1,1),(2,1),(3,1)] w:=by kernel_rfl
@[go_sem ↓] theorem buildRd_rw (parts:Array (Nat×Value)):Instr.build 232 parts=bdS 232 parts:=rfl
@[go_sem] theorem buildRd_0_3 (a0:ByteArray) (a3:Bool) (w:World):(bdS 232 #[(0,.string a0),(3,.bool a3)]).run Tryz.prog w = .ok (.agg (rdC ⟨a0,0,0,a3⟩)) w:=by
  refine vB w fieldsRd _ (JN w) _ (ke w) [(0,.string a0),(3,.bool a3)] _ ?_;rw[show rdC rd0=(#[]:Array Value) ++ #[.string ⟨#[]⟩]++(#[.int .i64 0]++(#[.int .i64 0]++(#[.bool false])))from by first | (simp[rdC,rd0,Array.append_assoc];done) | (apply Array.ext';simp[rdC,rd0])];rw[xD (off:=0) (size:=1) rfl (by simp) (by simp) (by simp[Value.cells])];rw[show(#[]:Array Value)++(Value.string a0).cells++(#[.int .i64 0]++(#[.int .i64 0]++(#[.bool false])))=(#[.string a0]++(#[.int .i64 0]++(#[.int .i64 0]))) ++ #[.bool false]++(#[]:Array Value)from by first | (simp[Value.cells,Array.append_assoc];done) | (apply Array.ext';simp[Value.cells];done) | (apply Array.ext';simp only[Array.toList_append];simp[Value.cells])];rw[xD (off:=3) (size:=1) rfl (by simp) (by simp) (by simp[Value.cells])];first | (simp[Instr.fill,rdC,Array.append_assoc,Value.cells];done) | (simp only[Instr.fill,rdC];congr 1;apply Array.ext';simp[Value.cells];done) | (simp only[Instr.fill,rdC];congr 1;done) | (simp only[Instr.fill,rdC];done)
def mkB (l:List UInt8):ByteArray:=⟨l.toArray⟩
def jL (n:Nat) (l:List UInt8) (e:Int):List UInt8:=if e=0/\n<=l.length then l.take n else[]
def yS (n:Nat) (l:List UInt8) (e:Int):List UInt8:=if e=0/\n<=l.length then l.drop n else l
def xF (n:Nat) (l:List UInt8) (e:Int):Int:=if e=0 then(if n<=l.length then 0 else 2)else e
def beN (l:List UInt8):Nat:=l.foldl (fun n c=>256*n+c.toNat) 0
def d7 (l:List UInt8) (e:Int):Int:=if e=0 then(if l = []then 0 else 4)else e
theorem J7 (l:List UInt8) (c:UInt8):beN (l ++ [c])=256*beN l+c.toNat:=by simp[beN]
theorem QQ:∀(l:List UInt8) (a:Nat),l.foldl (fun n c=>256*n+c.toNat) a<(a+1)*256 ^ l.length
  | [],a=>by simp
  | c :: l,a=>by
    have h:=QQ l (256*a+c.toNat);have hc:=c.toNat_lt;simp only[List.foldl_cons,List.length_cons];refine Nat.lt_of_lt_of_le h ?_;rw[Nat.pow_succ,Nat.mul_comm (256 ^ l.length) 256,<-Nat.mul_assoc];refine Nat.mul_le_mul_right _ ?_;omega
theorem KF (l:List UInt8):beN l<256 ^ l.length:=by have:=QQ l 0;simpa[beN]using this
theorem dE (n:Nat) (l:List UInt8) (e:Int):(jL n l e).length<=n:=by unfold jL;split <;> simp;omega
def jQ (w:World) (g:Nat) (l:List UInt8) (e:Int):Prop :=
  ∃(s:ByteArray) (a:Nat),a<=s.size/\s.size<=9223372036854775807/\w.heap[g]? = some (.cells (rdC ⟨s,a,e,true⟩) 232 (0,0))/\l=s.data.toList.drop a
theorem jQ.lt {w:World} {g:Nat} {l:List UInt8} {e:Int} (h:jQ w g l e):g<w.heap.size:=by
  obtain⟨s,a,_,_,hg,_⟩:=h;exact(Array.getElem?_eq_some_iff.1 hg).1
theorem jQ.kept {w w':World} {g:Nat} {l:List UInt8} {e:Int} {S:List Nat} (h:jQ w g l e) (k:z4 S w w') (hg:g∉S):jQ w' g l e:=by
  have hl:=h.lt;obtain⟨s,a,h1,h2,h3,h4⟩:=h;exact⟨s,a,h1,h2,(k.block g hl hg).trans h3,h4⟩
theorem jQ.below {w w':World} {g:Nat} {l:List UInt8} {e:Int} (h:jQ w g l e) (k:Below w.heap.size w w'):jQ w' g l e:=h.kept (z4.of_below k) (by simp)
theorem rd_open (s:ByteArray) (w:World) (hs:s.size<=9223372036854775807):Calls Tryz.prog 120 #[.string s] w fun e w'=>e = .returned (.pointer (some ⟨w.heap.size,0,none⟩))/\jQ w' w.heap.size s.data.toList 0/\Below w.heap.size w w':=by
  go_enter Tryz.func120,Tryz.ntmps120
  (go_wp2_with fail);go_ret;exact⟨rfl,⟨s,0,Nat.zero_le _,hs,heap_alloc_new w _,by simp⟩,(Below.refl _ _).alloc (Nat.le_refl _) _⟩
theorem nM {w:World} {g:Nat} {s:ByteArray} {a:Nat} {e:Int} (h:w.heap[g]? = some (.cells (rdC ⟨s,a,e,true⟩) 232 (0,0))) :
    w.cell? ⟨g,0,none⟩=some (.string s)/\w.cell? ⟨g,1,none⟩=some (.int .i64 a)/\w.cell? ⟨g,2,none⟩=some (.int .i64 e)/\w.cell? ⟨g,3,none⟩=some (.bool true)/\(∀j,w.frozen? ⟨g,j,none⟩=false):=by
  refine⟨?_,?_,?_,?_,fun j=>by simp[World.frozen?,h]⟩ <;> rw[cell_of_row w g _ _ _ _ h] <;> simp[go_sem]
theorem B0 (w:World) (g:Nat) (h:w.cell? ⟨g,3,none⟩=some (.bool true)):Calls Tryz.prog 151 #[.pointer (some ⟨g,0,none⟩)] w fun e w'=>e = .returned (.bool false)/\w=w':=by
  go_enter Tryz.func151,Tryz.ntmps151
  (go_wp2_with fail);go_ret;exact⟨rfl,rfl⟩
theorem tD (w:World) (g:Nat) (e:Int) (h:w.cell? ⟨g,3,none⟩=some (.bool true)) (h2:w.cell? ⟨g,2,none⟩=some (.int .i64 e)):Calls Tryz.prog 149 #[.pointer (some ⟨g,0,none⟩)] w fun en w'=>en = .returned (.bool (!(e==0)))/\w=w':=by
  go_enter Tryz.func149,Tryz.ntmps149
  (go_wp2_with fail);refine(B0 _ _ h).mono ?_;rintro en w' ⟨rfl,rfl⟩;(go_wp2_with fail);go_ret;refine⟨zS ?_,rfl⟩;first | rfl | simp
theorem mQ (w:World) (g:Nat) (l:List UInt8) (e:Int) (h:jQ w g l e):Calls Tryz.prog 122 #[.pointer (some ⟨g,0,none⟩)] w fun en w'=>en = .returned (.int .i64 e)/\w=w':=by
  obtain⟨s,a,_,_,hg,_⟩:=h;obtain⟨_,_,c2,c3,_⟩:=nM hg;go_enter Tryz.func122,Tryz.ntmps122
  (go_wp2_with fail);refine(B0 _ _ c3).mono ?_;rintro en w' ⟨rfl,rfl⟩;(go_wp2_with fail);go_ret;exact⟨rfl,rfl⟩
def nC (w:World) (g:Nat) (l:List UInt8) (e:Int) (w':World):Prop:=jQ w' g l e/\z4 [g] w w'
theorem wR (w:World) (g n:Nat) (l:List UInt8) (e:Int) (h:jQ w g l e) (hn:n<=9223372036854775807) :
    Calls Tryz.prog 150 #[.pointer (some ⟨g,0,none⟩),.int .i64 n] w fun en w'=>en = .returned (.string (mkB (jL n l e)))/\nC w g (yS n l e) (xF n l e) w':=by
  have h0:=h;obtain⟨s,a,ha,hs,hg,hl⟩:=h;obtain⟨c0,c1,c2,c3,hf⟩:=nM hg;have f1:=hf 1;have f2:=hf 2;have hll:l.length=s.size-a:=by rw[hl,List.length_drop];rfl
  clear hf;cases he:(e==0)with
  | false =>
    have he':e≠0:=by simpa using he
    have e1:jL n l e = []:=by unfold jL;rw[if_neg (fun hh=>he' hh.1)]
    have e2:yS n l e=l:=by unfold yS;rw[if_neg (fun hh=>he' hh.1)]
    have e3:xF n l e=e:=by unfold xF;rw[if_neg he']
    have E1:=Lib.hid e1;have E2:=Lib.hid e2;have E3:=Lib.hid e3;have H0:=Lib.hid h0;clear e1 e2 e3 hl hll h0 he';go_enter Tryz.func150,Tryz.ntmps150
    (go_wp2_with fail);refine(tD _ _ e c3 c2).mono ?_;rintro en w' ⟨rfl,rfl⟩;(go_wp2_with fail);go_ret;exact⟨lK (by rw[E1.out];rfl),by rw[E2.out,E3.out];exact⟨H0.out,z4.refl _ _⟩⟩
  | true =>
    obtain rfl:e=0:=by simpa using he
    clear he;by_cases hns:n<=l.length
    · have e1:jL n l 0=l.take n:=by unfold jL;rw[if_pos ⟨rfl,hns⟩]
      have e2:yS n l 0=l.drop n:=by unfold yS;rw[if_pos ⟨rfl,hns⟩]
      have e3:xF n l 0=0:=by unfold xF;rw[if_pos rfl,if_pos hns]
      have E1:=Lib.hid e1;have E2:=Lib.hid e2;have E3:=Lib.hid e3;have hlt:¬(s.size:Int)-a<n:=by omega
      have han:a+n<=s.size:=by omega
      have Hl:=Lib.hid hl;have Hg:=Lib.hid hg;clear e1 e2 e3 hl hll h0 hns hg;have hlt1:decide ((s.size:Int)-a<n)=false:=by simpa using hlt
      have w1:IntKind.i64.wrap ((s.size:Int)-a)=(s.size:Int)-a:=IntWalk.i64_in _ (by omega);have hn0:decide ((n:Int)<0)=false:=by simp
      clear hlt;go_enter Tryz.func150,Tryz.ntmps150
      (go_wp2_with fail);refine(tD _ _ 0 c3 c2).mono ?_;rintro en w' ⟨rfl,rfl⟩;go_upto_region 6 with fail
      refine zA (Bel w) false (by kernel_rfl) (by kernel_rfl) (by kernel_rfl) (zC w) ?_;have hne:=zQ w;have hS:=zC w;have b1:=zP c0;have b2:=zP c1;repeat(refine z6 ?_ ?_;(focus(simp only[z3];done));intro K hK;go_simp;refine hK _ ?_;clear hK K)
      refine zK ?_;intro hS;clear hne hS b1 b2 w1;go_upto_region 10 with fail
      have d0:(w.setCell ⟨g,1,none⟩ (.int .i64 ((a:Int)+n))).drew.cell? ⟨g,0,none⟩=some (.string s):=by go_simp
      have d1:(w.setCell ⟨g,1,none⟩ (.int .i64 ((a:Int)+n))).drew.cell? ⟨g,1,none⟩=some (.int .i64 ((a:Int)+n)):=by go_simp
      have hge:(w.setCell ⟨g,1,none⟩ (.int .i64 ((a:Int)+n))).drew.heap[g]? = some (.cells (rdC ⟨s,(a+n:Nat),0,true⟩) 232 (0,0)):=by
        show(w.setCell ⟨g,1,none⟩ (.int .i64 ((a:Int)+n))).heap[g]? = _;rw[zE Hg.out];simp[rdC]
      have hke:z4 [g] w (w.setCell ⟨g,1,none⟩ (.int .i64 ((a:Int)+n))).drew:=z4.trans (z4.setCell w ⟨g,1,none⟩ _) (z4.drew _) (by simp);have w2:IntKind.i64.wrap ((a:Int)+n-n)=a:=by rw[show(a:Int)+n-n=a by omega];exact IntWalk.i64_in _ (by omega)
      have w3:IntKind.i64.wrap (a:Int)=a:=IntWalk.i64_in _ (by omega);have hex:s.extract a (a+n)=mkB (l.take n):=by
        rw[Hl.out];apply ByteArray.ext;apply Array.toList_inj.mp;rw[ByteArray.data_extract,Array.toList_extract];simp[mkB,List.extract_eq_take_drop]
      have Hex:=Lib.hid hex;clear hex c0 c1 c2 c3 f1 f2;have k1:(0:Int)<=(a:Int)+n:=by omega
      have k2:(a:Int)+n<=s.size:=by omega
      have k3:(a:Int)<=(a:Int)+n:=by omega
      have k4:((a:Int)+n).toNat=a+n:=by omega
      generalize (w.setCell ⟨g,1,none⟩ (.int .i64 ((a:Int)+n))).drew=W at *;refine zA (Bel W) false (by kernel_rfl) (by kernel_rfl) (by kernel_rfl) (zC W) ?_;have hne:=zQ W;have hS:=zC W;have b1:=zP d0;have b2:=zP d1;repeat(refine z6 ?_ ?_;(focus(simp only[z3];done));intro K hK;go_simp;refine hK _ ?_;clear hK K)
      refine zK ?_;intro hS;clear k1 k2 k3 k4 w2 w3;(go_wp2_with fail);go_ret;refine⟨lK (by rw[E1.out];exact Hex.out),?_⟩;rw[E2.out,E3.out];exact⟨⟨s,a+n,han,hs,hge,by rw[Hl.out,List.drop_drop]⟩,z4.trans hke (z4.drew _) (by simp)⟩
    · have e1:jL n l 0 = []:=by unfold jL;rw[if_neg (fun hh=>hns hh.2)]
      have e2:yS n l 0=l:=by unfold yS;rw[if_neg (fun hh=>hns hh.2)]
      have e3:xF n l 0=2:=by unfold xF;rw[if_pos rfl,if_neg hns]
      have E1:=Lib.hid e1;have E2:=Lib.hid e2;have E3:=Lib.hid e3;have hlt1:decide ((s.size:Int)-a<n)=true:=by simp;omega
      have Hl:=Lib.hid hl;have Hg:=Lib.hid hg;clear e1 e2 e3 hl hll h0 hns hg;have w1:IntKind.i64.wrap ((s.size:Int)-a)=(s.size:Int)-a:=IntWalk.i64_in _ (by omega);have hn0:decide ((n:Int)<0)=false:=by simp
      go_enter Tryz.func150,Tryz.ntmps150
      (go_wp2_with fail);refine(tD _ _ 0 c3 c2).mono ?_;rintro en w' ⟨rfl,rfl⟩;go_upto_region 6 with fail
      refine zA (Bel w) false (by kernel_rfl) (by kernel_rfl) (by kernel_rfl) (zC w) ?_;have hne:=zQ w;have hS:=zC w;have b1:=zP c0;have b2:=zP c1;repeat(refine z6 ?_ ?_;(focus(simp only[z3];done));intro K hK;go_simp;refine hK _ ?_;clear hK K)
      refine zK ?_;intro hS;clear hne hS b1 b2 w1;(go_wp2_with fail);go_ret;refine⟨lK (by rw[E1.out];rfl),?_⟩;rw[E2.out,E3.out];refine⟨⟨s,a,ha,hs,?_,Hl.out⟩,z4.trans (z4.setCell w ⟨g,2,none⟩ _) (z4.drew _) (by simp)⟩;show(w.setCell ⟨g,2,none⟩ _).heap[g]? = _;rw[zE Hg.out];simp[rdC]
theorem rd_end (w:World) (g:Nat) (l:List UInt8) (e:Int) (h:jQ w g l e):Calls Tryz.prog 125 #[.pointer (some ⟨g,0,none⟩)] w fun en w'=>en = .returned (.int .i64 (d7 l e))/\Below w.heap.size w w':=by
  have h0:=h;obtain⟨s,a,ha,hs,hg,hl⟩:=h;obtain⟨c0,c1,c2,c3,_⟩:=nM hg;have hll:l.length=s.size-a:=by rw[hl,List.length_drop];rfl
  cases he:(e==0)with
  | false =>
    have he':e≠0:=by simpa using he
    have e1:d7 l e=e:=by unfold d7;rw[if_neg he']
    have E1:=Lib.hid e1;have heb:(e != 0)=true:=by simpa using he'
    clear e1 hl hll he';go_enter Tryz.func125,Tryz.ntmps125
    (go_wp2_with fail);refine(mQ _ _ _ _ h0).mono ?_;rintro en w' ⟨rfl,rfl⟩;go_upto_region 2 with fail
    refine zA (Bel w) false (by kernel_rfl) (by kernel_rfl) (by kernel_rfl) (zC w) ?_;have hne:=zQ w;have hS:=zC w;repeat(refine z6 ?_ ?_;(focus(simp only[z3];done));intro K hK;go_simp;refine hK _ ?_;clear hK K)
    refine zK ?_;intro hS;(go_wp2_with fail);go_ret;exact⟨yB (by rw[E1.out]),(Below.refl _ _).drew⟩
  | true =>
    obtain rfl:e=0:=by simpa using he
    clear he;by_cases hz:a=s.size
    · have hl0:l = []:=List.eq_nil_of_length_eq_zero (by omega);have e1:d7 l 0=0:=by unfold d7;rw[if_pos rfl,if_pos hl0]
      have E1:=Lib.hid e1;have hzz:((a:Int)==(s.size:Int))=true:=by rw[beq_iff_eq,hz]
      clear e1 hl hll hl0 hz;go_enter Tryz.func125,Tryz.ntmps125
      (go_wp2_with fail);refine(mQ _ _ _ _ h0).mono ?_;rintro en w' ⟨rfl,rfl⟩;go_upto_region 2 with fail
      refine zA (Bel w) false (by kernel_rfl) (by kernel_rfl) (by kernel_rfl) (zC w) ?_;have hne:=zQ w;have hS:=zC w;have b1:=zP c0;have b2:=zP c1;repeat(refine z6 ?_ ?_;(focus(simp only[z3];done));intro K hK;go_simp;refine hK _ ?_;clear hK K)
      refine zK ?_;intro hS;(go_wp2_with fail);go_ret;exact⟨yB (by rw[E1.out]),(Below.refl _ _).drew⟩
    · have hl0:l≠[]:=by intro hh;rw[hh]at hll;simp at hll;omega
      have e1:d7 l 0=4:=by unfold d7;rw[if_pos rfl,if_neg hl0]
      have E1:=Lib.hid e1;have hzz:((a:Int)==(s.size:Int))=false:=by rw[beq_eq_false_iff_ne];omega
      clear e1 hl hll hl0 hz;go_enter Tryz.func125,Tryz.ntmps125
      (go_wp2_with fail);refine(mQ _ _ _ _ h0).mono ?_;rintro en w' ⟨rfl,rfl⟩;go_upto_region 2 with fail
      refine zA (Bel w) false (by kernel_rfl) (by kernel_rfl) (by kernel_rfl) (zC w) ?_;have hne:=zQ w;have hS:=zC w;have b1:=zP c0;have b2:=zP c1;repeat(refine z6 ?_ ?_;(focus(simp only[z3];done));intro K hK;go_simp;refine hK _ ?_;clear hK K)
      refine zK ?_;intro hS;(go_wp2_with fail);go_ret;exact⟨yB (by rw[E1.out]),(Below.refl _ _).drew⟩
theorem rK (w:World) (e:TypeId) (s:ByteArray):Below w.heap.size w (Lib.bytesWorld w e s) :=
  ⟨rfl,rfl,rfl,by rw[Lib.bytesWorld_size];omega,fun k hk=>Lib.bytesWorld_at_old w e s k hk⟩
theorem fR (l:List UInt8):(mkB l).size=l.length:=by show l.toArray.size=_;simp
theorem bits_or8 (b x:Nat) (hb:b<16777216) (hx:x<256):bits BinOp.or IntKind.i64 ((b:Int)*256) (x:Int)=((256*b+x:Nat):Int):=by
  have h1:(BitVec.ofInt 64 ((b:Int)*256)).toNat=256*b:=by
    rw[BitVec.toNat_ofInt];have:((b:Int)*256) % ((2 ^ 64:Nat):Int)=((256*b:Nat):Int):=by omega
    rw[this];exact Int.toNat_natCast _
  have h2:(BitVec.ofInt 64 (x:Int)).toNat=x:=by
    rw[BitVec.toNat_ofInt];have:(x:Int) % ((2 ^ 64:Nat):Int)=(x:Int):=by omega
    rw[this];simp
  have h3:(BitVec.ofInt 64 ((b:Int)*256) ||| BitVec.ofInt 64 (x:Int)).toNat=256*b+x:=by
    rw[BitVec.toNat_or,h1,h2];have:=Nat.two_pow_add_eq_or_of_lt (i:=8) (b:=x) (by omega) b;rw[show(2:Nat) ^ 8=256 from rfl]at this;exact this.symm
  show IntKind.i64.wrap (((BitVec.ofInt 64 ((b:Int)*256) ||| BitVec.ofInt 64 (x:Int)).toNat:Nat):Int)=_;rw[h3];exact IntWalk.i64_in _ (by omega)
def xO (M:Nat) (l:List UInt8) (e:Int):Nat:=beN (jL M l e)
theorem vy (w:World) (g M:Nat) (l:List UInt8) (e:Int) (h:jQ w g l e) (hM:M=1\/M=4) :
    Calls Tryz.prog 121 #[.pointer (some ⟨g,0,none⟩),.int .i64 M] w fun en w'=>en = .returned (.int .i64 (xO M l e))/\nC w g (yS M l e) (xF M l e) w':=by
  have h0:=h;obtain⟨s,a,ha,hs,hg,hl⟩:=h;obtain⟨_,_,c2,c3,_⟩:=nM hg;have Hh:=Lib.hid h0;clear hl hg ha hs h0;cases he:(e==0)with
  | false =>
    have he':e≠0:=by simpa using he
    have e1:xO M l e=0:=by unfold xO jL;rw[if_neg (fun hh=>he' hh.1)];rfl
    have e2:yS M l e=l:=by unfold yS;rw[if_neg (fun hh=>he' hh.1)]
    have e3:xF M l e=e:=by unfold xF;rw[if_neg he']
    have E1:=Lib.hid e1;have E2:=Lib.hid e2;have E3:=Lib.hid e3;clear e1 e2 e3 he';go_enter Tryz.func121,Tryz.ntmps121
    (go_wp2_with fail);refine(tD _ _ e c3 c2).mono ?_;rintro en w' ⟨rfl,rfl⟩;(go_wp2_with fail);go_ret;exact⟨yB (by rw[E1.out];rfl),by rw[E2.out,E3.out];exact⟨Hh.out,z4.refl _ _⟩⟩
  | true =>
    obtain rfl:e=0:=by simpa using he
    clear he;have hM4:M<=4:=by omega
    have hMb:((8*(M:Int))==0)=false:=by rw[beq_eq_false_iff_ne];omega
    have hMo:(M:Int)=1\/(M:Int)=2\/(M:Int)=4:=by omega
    have HMo:=Lib.hid hMo;obtain⟨v,hv⟩:∃v,jL M l 0=v:=⟨_,rfl⟩
    have hvl:v.length<=4:=by have:=dE M l 0;rw[hv]at this;omega
    have hnv:Hid (xO M l 0=beN v):=by show _=_;unfold xO;rw[hv]
    have Hv:=Lib.hid hv;clear hM hMo hv;go_enter Tryz.func121,Tryz.ntmps121
    (go_wp2_with fail);refine(tD _ _ 0 c3 c2).mono ?_;rintro en w' ⟨rfl,rfl⟩;(go_wp2_with fail);refine(obits M _ HMo.out).mono ?_;rintro e w' ⟨rfl,rfl⟩;clear c2 c3;(go_wp2_with fail);refine(wR _ g M l 0 Hh.out (by omega)).mono ?_;rintro e w1 ⟨rfl,hst⟩;rw[Hv.out];have hcv:=Lib.run_convert_string_bytes (P:=Tryz.prog) w1 9 89 5 (mkB v) Tryz.underlying9 Tryz.underlying89 Tryz.underlying5;have hbw:=rK w1 5 (mkB v);have hcell:Hid (∀j (hj:j<v.length),(Lib.bytesWorld w1 5 (mkB v)).cell? ⟨w1.heap.size,j,none⟩=some (.int .u8 (v[j]).toNat)):=fun j hj=>by
      have:=Lib.bytesWorld_cell w1 5 (mkB v) j (by rw[fR];exact hj);rw[this];simp[mkB,List.getD,hj]
    rw[fR]at hcv;obtain⟨W,hW⟩:∃W,Lib.bytesWorld w1 5 (mkB v)=W:=⟨_,rfl⟩
    rw[hW]at hcv hbw hcell;have hst2:nC w g (yS M l 0) (xF M l 0) W:=⟨hst.1.below hbw,z4.trans hst.2 (z4.of_below hbw) (by simp)⟩
    have Hst:=Lib.hid hst2;clear hW hbw hst hst2;go_wp2_with fail
    go_loop [5,21] (fun n i=>∃k:Nat,k<=v.length/\i = .int .i64 k/\n = .int .i64 (beN (v.take k))) (fun _ i=>v.length-(intOf i).toNat)
    case atStart=>exact⟨0,Nat.zero_le _,rfl,rfl⟩
    case round =>
      obtain⟨k,hk,rfl,rfl⟩:=hrel;by_cases hlt:k<v.length
      · have hc:=hcell.out k hlt;have htk:v.take (k+1)=v.take k ++ [v[k]]:=by rw[List.take_add_one,List.getElem?_eq_getElem hlt];rfl
        have hsn:=J7 (v.take k) v[k];rw[<-htk]at hsn;have hbd:=KF (v.take k);have hkl:(v.take k).length<=3:=by simp;omega
        have hbd2:beN (v.take k)<16777216:=Nat.lt_of_lt_of_le hbd (by have:=Nat.pow_le_pow_right (show 0<256 by omega) hkl;simpa using this);have hcb:=(v[k]).toNat_lt;have Hsn:=Lib.hid hsn;clear htk hsn hbd hkl;obtain⟨x,hx⟩:∃x,(v[k]).toNat=x:=⟨_,rfl⟩
        obtain⟨b,hb⟩:∃b,beN (v.take k)=b:=⟨_,rfl⟩
        rw[hx]at hc hcb;rw[hb]at hbd2 |-;go_wp2_with fail
        go_round
        case rel=>exact⟨k+1,by omega,by go_num,by rw[bits_or8 b x (by omega) (by omega),Hsn.out,hb,hx]⟩
        case measure=>simp[intOf];omega
      · have hkv:k=v.length:=by omega
        have e2:v.take k=v:=List.take_of_length_le (by omega);rw[e2];clear e2 hkv;(go_wp2_with fail);go_ret;exact⟨yB (by rw[hnv.out]),Hst.out⟩
structure Rr where
  s:ByteArray
  e:Int
def rrC (x:Rr):Array Value:=#[.string x.s] ++ #[.int .i64 x.e]
@[simp] theorem rrC_size (x:Rr):(rrC x).size=2:=by simp[rrC]
@[go_sem] theorem rrC_g0 (x:Rr):(rrC x)[0]? = some (.string x.s):=by first | (simp[rrC,Array.getElem?_append];done) | (rw[show rrC x=((#[]:Array Value)) ++ #[.string x.s]++(#[.int .i64 x.e])from by apply Array.ext';simp[rrC]];exact xS _ _ _ _ (by simp))
@[go_sem] theorem rrC_gg0 (x:Rr) (h:0<(rrC x).size):(rrC x)[0]'h = .string x.s:=Option.some.inj ((Array.getElem?_eq_getElem h).symm.trans (rrC_g0 x))
@[go_sem] theorem rrC_g1 (x:Rr):(rrC x)[1]? = some (.int .i64 x.e):=by first | (simp[rrC,Array.getElem?_append];done) | (rw[show rrC x=(#[.string x.s]) ++ #[.int .i64 x.e]++((#[]:Array Value))from by apply Array.ext';simp[rrC]];exact xS _ _ _ _ (by simp))
@[go_sem] theorem rrC_gg1 (x:Rr) (h:1<(rrC x).size):(rrC x)[1]'h = .int .i64 x.e:=Option.some.inj ((Array.getElem?_eq_getElem h).symm.trans (rrC_g1 x))
def rr0:Rr:=⟨⟨#[]⟩,0⟩
theorem Rr_ext {x y:Rr} (h:x.s=y.s/\x.e=y.e):x=y:=by cases x;cases y;simp_all
instance:DecidableEq Rr:=fun x y=>if h:x.s=y.s/\x.e=y.e then isTrue (Rr_ext h)else isFalse (fun e=>h (by subst e;simp))
@[go_sem ↓] theorem JM (w:World):(zeroValue 133).run Tryz.prog w = .ok (.agg (rrC rr0)) w:=by
  have h:(Tryz.prog.info? 133).bind (·.zero)=some (.agg (rrC rr0)):=by kernel_rfl
  cases hi:Tryz.prog.info? 133 with
  | none=>rw[hi]at h;cases h
  | some i =>
    rw[hi]at h;have hz:i.zero=some (.agg (rrC rr0)):=h;simp[zeroValue,typeInfo,hi,hz]
@[go_sem ↓] theorem loadRr_rw (a:Addr):loadVar 133 a=ldS 133 a:=rfl
@[go_sem ↓] theorem storeRr_rw (a:Addr) (v:Value):storeVar 133 a v=stS 133 a v:=rfl
theorem fieldsRr:Tryz.prog.underlying 133=some (.struct (Tryz.prog.fieldsOf 133)):=by kernel_rfl
theorem kd (w:World):((Tryz.prog.fieldsOf 133).mapM fun (f:Field)=>do pure (f.offset,<-sizeOf f.type)).run Tryz.prog w = .ok #[(0,1),(1,1)] w:=by kernel_rfl
@[go_sem ↓] theorem buildRr_rw (parts:Array (Nat×Value)):Instr.build 133 parts=bdS 133 parts:=rfl
@[go_sem] theorem buildRr_0 (a0:ByteArray) (w:World):(bdS 133 #[(0,.string a0)]).run Tryz.prog w = .ok (.agg (rrC ⟨a0,0⟩)) w:=by
  refine vB w fieldsRr _ (JM w) _ (kd w) [(0,.string a0)] _ ?_;rw[show rrC rr0=(#[]:Array Value) ++ #[.string ⟨#[]⟩]++(#[.int .i64 0])from by first | (simp[rrC,rr0,Array.append_assoc];done) | (apply Array.ext';simp[rrC,rr0])];rw[xD (off:=0) (size:=1) rfl (by simp) (by simp) (by simp[Value.cells])];first | (simp[Instr.fill,rrC,Array.append_assoc,Value.cells];done) | (simp only[Instr.fill,rrC];congr 1;apply Array.ext';simp[Value.cells];done) | (simp only[Instr.fill,rrC];congr 1;done) | (simp only[Instr.fill,rrC];done)
def d9 (w:World) (g:Nat) (l:List UInt8) (e:Int):Prop :=
  l.length<=9223372036854775807/\w.heap[g]? = some (.cells (rrC ⟨mkB l,e⟩) 133 (0,0))
theorem d9.lt {w:World} {g:Nat} {l:List UInt8} {e:Int} (h:d9 w g l e):g<w.heap.size:=(Array.getElem?_eq_some_iff.1 h.2).1
theorem d9.kept {w w':World} {g:Nat} {l:List UInt8} {e:Int} {S:List Nat} (h:d9 w g l e) (k:z4 S w w') (hg:g∉S):d9 w' g l e:=⟨h.1,(k.block g h.lt hg).trans h.2⟩
theorem d9.below {w w':World} {g:Nat} {l:List UInt8} {e:Int} (h:d9 w g l e) (k:Below w.heap.size w w'):d9 w' g l e:=h.kept (z4.of_below k) (by simp)
theorem nJ {w:World} {g:Nat} {l:List UInt8} {e:Int} (h:d9 w g l e) :
    w.cell? ⟨g,0,none⟩=some (.string (mkB l))/\w.cell? ⟨g,1,none⟩=some (.int .i64 e)/\(∀j,w.frozen? ⟨g,j,none⟩=false):=by
  refine⟨?_,?_,fun j=>by simp[World.frozen?,h.2]⟩ <;> rw[cell_of_row w g _ _ _ _ h.2] <;> simp[go_sem]
def KK (w:World) (g:Nat) (l:List UInt8) (e:Int) (w':World):Prop:=d9 w' g l e/\z4 [g] w w'
theorem mkB_take (l:List UInt8) (n:Nat) (h:n<=l.length):(mkB l).extract 0 n=mkB (l.take n):=by
  apply ByteArray.ext;apply Array.toList_inj.mp;rw[ByteArray.data_extract,Array.toList_extract];simp[mkB,List.extract_eq_take_drop]
theorem mkB_drop (l:List UInt8) (n:Nat):(mkB l).extract n l.length=mkB (l.drop n):=by
  apply ByteArray.ext;apply Array.toList_inj.mp;rw[ByteArray.data_extract,Array.toList_extract];simp[mkB,List.extract_eq_take_drop,List.take_of_length_le]
theorem Y3 (w:World) (g n:Nat) (l:List UInt8) (e:Int) (h:d9 w g l e) (hn:n<=9223372036854775807) :
    Calls Tryz.prog 70 #[.pointer (some ⟨g,0,none⟩),.int .i64 n] w fun en w'=>en = .returned (.string (mkB (jL n l e)))/\KK w g (yS n l e) (xF n l e) w':=by
  have h0:=h;obtain⟨c0,c1,hf⟩:=nJ h;obtain⟨hl,hg⟩:=h;have f0:=hf 0;have f1:=hf 1;have hms:=fR l;clear hf;cases he:(e==0)with
  | false =>
    have he':e≠0:=by simpa using he
    have heb:(e != 0)=true:=by simpa using he'
    have e1:jL n l e = []:=by unfold jL;rw[if_neg (fun hh=>he' hh.1)]
    have e2:yS n l e=l:=by unfold yS;rw[if_neg (fun hh=>he' hh.1)]
    have e3:xF n l e=e:=by unfold xF;rw[if_neg he']
    have E1:=Lib.hid e1;have E2:=Lib.hid e2;have E3:=Lib.hid e3;have H0:=Lib.hid h0;clear e1 e2 e3 h0 he' hg;go_enter Tryz.func70,Tryz.ntmps70
    (go_wp2_with fail);go_ret;exact⟨lK (by rw[E1.out];rfl),by rw[E2.out,E3.out];exact⟨H0.out,z4.refl _ _⟩⟩
  | true =>
    obtain rfl:e=0:=by simpa using he
    clear he;have hn0:decide ((n:Int)<0)=false:=by simp
    by_cases hns:n<=l.length
    · have e1:jL n l 0=l.take n:=by unfold jL;rw[if_pos ⟨rfl,hns⟩]
      have e2:yS n l 0=l.drop n:=by unfold yS;rw[if_pos ⟨rfl,hns⟩]
      have e3:xF n l 0=0:=by unfold xF;rw[if_pos rfl,if_pos hns]
      have E1:=Lib.hid e1;have E2:=Lib.hid e2;have E3:=Lib.hid e3;have hm1:=mkB_take l n hns;have hm2:=mkB_drop l n;have hlt1:decide (l.length<n)=false:=by simpa using hns
      have hdl:(l.drop n).length<=9223372036854775807:=by rw[List.length_drop];omega
      have Hg:=Lib.hid hg;have Hd:=Lib.hid hdl;clear e1 e2 e3 h0 hg hdl;go_enter Tryz.func70,Tryz.ntmps70
      (go_wp2_with fail);go_ret;refine⟨lK (by rw[E1.out]),?_⟩;rw[E2.out,E3.out];refine⟨⟨Hd.out,?_⟩,z4.setCell w ⟨g,0,none⟩ _⟩;rw[zE Hg.out];simp[rrC]
    · have e1:jL n l 0 = []:=by unfold jL;rw[if_neg (fun hh=>hns hh.2)]
      have e2:yS n l 0=l:=by unfold yS;rw[if_neg (fun hh=>hns hh.2)]
      have e3:xF n l 0=2:=by unfold xF;rw[if_pos rfl,if_neg hns]
      have E1:=Lib.hid e1;have E2:=Lib.hid e2;have E3:=Lib.hid e3;have hlt1:decide (l.length<n)=true:=by simpa using hns
      have Hg:=Lib.hid hg;clear e1 e2 e3 h0 hg hns;go_enter Tryz.func70,Tryz.ntmps70
      (go_wp2_with fail);go_ret;refine⟨lK (by rw[E1.out];rfl),?_⟩;rw[E2.out,E3.out];refine⟨⟨hl,?_⟩,z4.setCell w ⟨g,1,none⟩ _⟩;rw[zE Hg.out];simp[rrC]
theorem rr_end (w:World) (g:Nat) (l:List UInt8) (e:Int) (h:d9 w g l e):Calls Tryz.prog 72 #[.pointer (some ⟨g,0,none⟩)] w fun en w'=>en = .returned (.int .i64 (d7 l e))/\Below w.heap.size w w':=by
  obtain⟨c0,c1,hf⟩:=nJ h;have hms:=fR l;cases he:(e==0)with
  | false =>
    have he':e≠0:=by simpa using he
    have heb:(e != 0)=true:=by simpa using he'
    have e1:d7 l e=e:=by unfold d7;rw[if_neg he']
    have E1:=Lib.hid e1;clear e1 he';go_enter Tryz.func72,Tryz.ntmps72
    (go_wp2_with fail);go_ret;exact⟨yB (by rw[E1.out]),Below.refl _ _⟩
  | true =>
    obtain rfl:e=0:=by simpa using he
    clear he;by_cases hz:l = []
    · subst hz;go_enter Tryz.func72,Tryz.ntmps72
      (go_wp2_with fail);go_ret;exact⟨rfl,Below.refl _ _⟩
    · have e1:d7 l 0=4:=by unfold d7;rw[if_pos rfl,if_neg hz]
      have E1:=Lib.hid e1;have hlp:0<l.length:=List.length_pos_iff.2 hz;clear e1 hz;go_enter Tryz.func72,Tryz.ntmps72
      (go_wp2_with fail);go_ret;exact⟨yB (by rw[E1.out]),Below.refl _ _⟩
theorem cI (w:World) (g M:Nat) (l:List UInt8) (e:Int) (h:d9 w g l e) (hM:M=1\/M=4) :
    Calls Tryz.prog 68 #[.pointer (some ⟨g,0,none⟩),.int .i64 M] w fun en w'=>en = .returned (.int .i64 (xO M l e))/\KK w g (yS M l e) (xF M l e) w':=by
  obtain⟨c0,c1,hf⟩:=nJ h;have hM4:M<=4:=by omega
  obtain⟨v,hv⟩:∃v,jL M l e=v:=⟨_,rfl⟩
  have hvl:v.length<=4:=by have:=dE M l e;rw[hv]at this;omega
  have hnv:Hid (xO M l e=beN v):=by show _=_;unfold xO;rw[hv]
  have hms:=fR v;have Hv:=Lib.hid hv;have cr:=Y3 w g M l e h (by omega);rw[hv]at cr;clear hv h;obtain⟨b,heb⟩:∃b,(e==0)=b:=⟨_,rfl⟩
  rcases hM with rfl | rfl <;> cases b
  all_goals
    go_enter Tryz.func68,Tryz.ntmps68
    (go_wp2_with fail);refine cr.mono ?_;rintro en w1 ⟨rfl,hst⟩;have Hst:=Lib.hid hst;clear hst cr c0 c1 hf heb;go_wp2_with fail
    go_loop [6,7] (fun n i=>∃k:Nat,k<=v.length/\i = .int .i64 k/\n = .int .i64 (beN (v.take k))) (fun _ i=>v.length-(intOf i).toNat)
    case atStart=>exact⟨0,Nat.zero_le _,rfl,rfl⟩
    case round =>
      obtain⟨k,hk,rfl,rfl⟩:=hrel;by_cases hlt:k<v.length
      · have htk:v.take (k+1)=v.take k ++ [v[k]]:=by rw[List.take_add_one,List.getElem?_eq_getElem hlt];rfl
        have hsn:=J7 (v.take k) v[k];rw[<-htk]at hsn;have hbd:=KF (v.take k);have hkl:(v.take k).length<=3:=by simp;omega
        have hbd2:beN (v.take k)<16777216:=Nat.lt_of_lt_of_le hbd (by have:=Nat.pow_le_pow_right (show 0<256 by omega) hkl;simpa using this);have hkm:k<(mkB v).size:=by rw[hms];exact hlt
        have hge:(mkB v)[k]'hkm=v[k]'hlt:=rfl;obtain⟨y,hy⟩:∃y,v[k]'hlt=y:=⟨_,rfl⟩
        rw[hy]at hsn hge;have hcb:y.toNat<256:=y.toNat_lt;have Hsn:=Lib.hid hsn;clear htk hsn hbd hkl hy;obtain⟨c,hb⟩:∃c,beN (v.take k)=c:=⟨_,rfl⟩
        rw[hb]at hbd2 |-;have Hb:=Lib.hid hb;clear hb;go_wp2_with fail
        go_round
        case rel=>exact⟨k+1,by omega,by go_num,by rw[Hsn.out,Hb.out];go_num⟩
        case measure=>simp[intOf];omega
      · have hkv:k=v.length:=by omega
        have e2:v.take k=v:=List.take_of_length_le (by omega);rw[e2];clear e2 hkv;(go_wp2_with fail);go_ret;exact⟨yB (by rw[hnv.out]),Hst.out⟩
def kS (v:List UInt8):zJ:=if h:v.length=32 then⟨v,h⟩ else id0
def idA (v:List UInt8) (k:Nat):Array Value:=((v.take k).map yW++List.replicate (32-k) (Value.int .u8 0)).toArray
theorem eU (v:List UInt8):idA v 0=idC id0:=by unfold idA;simp[idC];rfl
theorem QL (v:List UInt8) (k:Nat) (hk:k<=v.length) (h32:k<=32):(idA v k).size=32:=by unfold idA;simp;omega
theorem BG (v:List UInt8) (k:Nat) (hk:k<v.length) (h32:k<32):(idA v k).setIfInBounds k (.int .u8 (v[k]).toNat)=idA v (k+1):=by
  unfold idA;apply Array.ext';rw[Array.toList_setIfInBounds];have e:v.take (k+1)=v.take k ++ [v[k]]:=by rw[List.take_add_one,List.getElem?_eq_getElem hk];rfl
  have e2:32-k=(32-(k+1))+1:=by omega
  have e3:((v.take k).map yW).length=k:=by simp;omega
  rw[e,e2,List.replicate_succ,List.set_append_right _ _ (by rw[e3];exact Nat.le_refl _),e3,Nat.sub_self,List.map_append];simp[yW]
theorem QM (v:List UInt8) (h:v.length=32\/v = []):idA v v.length=idC (kS v):=by
  rcases h with h | h
  · unfold idA kS;rw[dif_pos h,List.take_length,h];simp[idC]
  · subst h;rw[show([]:List UInt8).length=0 from rfl,eU];rfl
theorem B2 (l:List UInt8) (e:Int):(jL 32 l e).length=32\/jL 32 l e = []:=by
  unfold jL;split
  · left;rename_i h;rw[List.length_take];omega
  · exact .inr rfl
theorem yA {P:Program} {t:TypeId} {k:Nat} (hi:(P.info? t).map (·.size)=some k) (w:World) (g:Nat) (z cs:Array Value) (e:TypeId) (h:w.heap[g]? = some (.cells z e (0,0))) (hz:z.size=k) (hc:cs.size=k) (h1:∀u∈cs.toList,u.oneCell'=true) :
    (stS t ⟨g,0,none⟩ (.agg cs)).run P w = .ok () (w.setRow g cs):=by
  unfold stS storeVar;cases hinfo:P.info? t with
  | none=>rw[hinfo]at hi;cases hi
  | some i =>
    rw[hinfo]at hi;have hk:i.size=k:=by simpa using hi
    have hst:=run_storeCells_at P g 0 e cs.toList 0 z w h (by simp;omega) h1;have hE:(z.toList.take (0+0)++cs.toList++z.toList.drop (0+0+cs.toList.length)).toArray=cs:=by
      rw[List.drop_of_length_le (by simp;omega)]
      simp
    rw[hE]at hst;simp[Value.cells,sizeOf,typeInfo,hinfo,hk,hc];exact hst
theorem rr_id (w:World) (g:Nat) (l:List UInt8) (e:Int) (h:d9 w g l e) :
    Calls Tryz.prog 71 #[.pointer (some ⟨g,0,none⟩)] w fun en w'=>en = .returned (.agg (idC (kS (jL 32 l e))))/\KK w g (yS 32 l e) (xF 32 l e) w':=by
  have h32:=B2 l e;obtain⟨v,hv⟩:∃v,jL 32 l e=v:=⟨_,rfl⟩
  have hb0:Below w.heap.size w ((w.alloc (.cells (idC id0) 24)).alloc (.cells (idC id0) 24)):=((Below.refl _ _).alloc (Nat.le_refl _) _).alloc (by simp) _;have hg2:((w.alloc (.cells (idC id0) 24)).alloc (.cells (idC id0) 24)).heap[w.heap.size]? = some (.cells (idC id0) 24 (0,0)):=by
    rw[Below.heap_alloc _ _ _ (by simp)];exact heap_alloc_new w _
  have hg3:((w.alloc (.cells (idC id0) 24)).alloc (.cells (idC id0) 24)).heap[w.heap.size+1]? = some (.cells (idC id0) 24 (0,0)):=by
    have:=heap_alloc_new (w.alloc (.cells (idC id0) 24)) (.cells (idC id0) 24);simpa using this
  have hgl:=h.lt;have cr:=Y3 _ g 32 l e (h.below hb0) (by omega);have hsz0:((w.alloc (.cells (idC id0) 24)).alloc (.cells (idC id0) 24)).heap.size=w.heap.size+2:=by simp
  rw[hv]at cr h32 |-;have Hv:=Lib.hid hv;have Hsz0:=Lib.hid hsz0;clear hv hsz0;go_enter Tryz.func71,Tryz.ntmps71
  (go_wp2_with fail);generalize (w.alloc (.cells (idC id0) 24)).alloc (.cells (idC id0) 24)=W at *;refine cr.mono ?_;rintro en w1 ⟨rfl,hrr,hk1⟩;have hs1:w.heap.size+2<=w1.heap.size:=by have:=hk1.size;have:=Hsz0.out;omega
  have hg2':=(hk1.block w.heap.size (by have:=Hsz0.out;omega) (by simp;omega)).trans hg2;have hg3':=(hk1.block (w.heap.size+1) (by have:=Hsz0.out;omega) (by simp;omega)).trans hg3;have hms:=fR v;have hv32:v.length<=32:=by rcases h32 with h | h <;> simp[h]
  have H32:=Lib.hid h32;have Hg2:=Lib.hid hg2';have Hg3:=Lib.hid hg3';have Hk1:=Lib.hid (z4.trans ((z4.of_below hb0).mono (S':=[g]) (by simp)) hk1 (fun x hx=>.inl hx));have Hrr:=Lib.hid hrr;clear h32 hg2 hg3 hg2' hg3' cr hk1 hb0 hrr h;(go_wp2_with fail);go_loopw [5] (fun i wr=>∃k:Nat,k<=v.length/\i = .int .i64 k/\Hid (wr.heap[w.heap.size+1]? = some (.cells (idA v k) 24 (0,0)))/\z4 [w.heap.size+1] w1 wr) (fun i _=>32-(intOf i).toNat)
  case atStart=>exact⟨0,Nat.zero_le _,rfl,(show _=_ by rw[eU];exact Hg3.out),z4.refl _ _⟩
  case round =>
    obtain⟨k,hk,rfl,hc,hkp⟩:=hrel;by_cases hlt:k<v.length
    · have hsz:=QL v k hk (by omega);have hst:=BG v k hlt (by omega);have hck:wr.cell? ⟨w.heap.size+1,k,none⟩=some ((idA v k)[k]'(by rw[hsz];omega)):=by
        rw[cell_of_row wr _ k _ _ _ hc.out,Array.getElem?_eq_getElem]
      have hfz:wr.frozen? ⟨w.heap.size+1,k,none⟩=false:=by simp[World.frozen?,hc.out]
      have hkm:k<(mkB v).size:=by rw[hms];exact hlt
      have hge:(mkB v)[k]'hkm=v[k]'hlt:=rfl;obtain⟨y,hy⟩:∃y,v[k]'hlt=y:=⟨_,rfl⟩
      rw[hy]at hge hst;obtain⟨z,hz⟩:∃z,(idA v k)[k]'(by rw[hsz];omega)=z:=⟨_,rfl⟩
      rw[hz]at hck;have Hst:=Lib.hid hst;clear hy hst hsz hz;have hk32:k<32:=by omega
      (go_wp2_with fail);go_roundw
      case rel=>exact⟨k+1,by omega,by go_num,(show _=_ by rw[zE hc.out,Hst.out]),z4.trans hkp (z4.setCell wr ⟨w.heap.size+1,k,none⟩ _) (by simp)⟩
      case measure=>simp[intOf];omega
    · have hkv:k=v.length:=by omega
      have hfull:=QM v H32.out;have hc':=hc.out;rw[hkv,hfull]at hc';have hrow:z9 wr (w.heap.size+1) 0 32=some (idC (kS v)):=by unfold z9;rw[hc'];simp[go_sem]
      have hg2:=(hkp.block w.heap.size (by omega) (by simp)).trans Hg2.out;have hsto:=yA (P:=Tryz.prog) kI wr w.heap.size (idC id0) (idC (kS v)) _ hg2 (by simp) (by simp) (qJ _);have hrow2:z9 (wr.setRow w.heap.size (idC (kS v))) w.heap.size 0 32=some (idC (kS v)):=by
        unfold z9;rw[setRow_heap wr w.heap.size _ _ _ _ hg2];simp[go_sem]
      have hkf:z4 [w.heap.size] wr (wr.setRow w.heap.size (idC (kS v))):=⟨rfl,rfl,rfl,by simp[World.setRow],fun x _ hx=>setRow_other wr w.heap.size x _ (by simpa using hx)⟩
      have hkz:=z4.trans (hkp.mono (S':=[w.heap.size,w.heap.size+1]) (by simp)) (hkf.mono (S':=[w.heap.size,w.heap.size+1]) (by simp)) (fun x hx=>.inl hx);have Hkz:=Lib.hid hkz;have Hfin:=Lib.hid (setRow_heap wr w.heap.size _ (idC (kS v)) _ _ hg2);clear hkf hkz hg2 hc' hc hfull hkv;(go_wp2_with fail);have hr:=Hrr.out.kept Hkz.out (by simp;omega);have hkk:=z4.trans Hk1.out Hkz.out (fun x hx=>.inr (by simp at hx;omega));exact bodyPost_ret (results_cell_row Tryz.results71 _ _ w.heap.size 24 (idC (kS v)) (0,0) _ rfl Hfin.out Tryz.underlying24 rfl (by rw[vT];exact kI)) rfl ⟨rfl,hr,hkk⟩
def txV (l:List UInt8) (e:Int):ByteArray:=mkB (jL (xO 1 l e) (yS 1 l e) (xF 1 l e))
def txL (l:List UInt8) (e:Int):List UInt8:=yS (xO 1 l e) (yS 1 l e) (xF 1 l e)
def txE (l:List UInt8) (e:Int):Int:=xF (xO 1 l e) (yS 1 l e) (xF 1 l e)
theorem jI (M:Nat) (l:List UInt8) (e:Int):xO M l e<256 ^ M:=by
  unfold xO;exact Nat.lt_of_lt_of_le (KF _) (Nat.pow_le_pow_right (by omega) (dE M l e))
theorem jo (l:List UInt8) (e:Int):(txV l e).size<=255:=by
  unfold txV;rw[fR];have:=dE (xO 1 l e) (yS 1 l e) (xF 1 l e);have:=jI 1 l e;omega
structure OpV where
  k:Nat
  n:Int
  key:ByteArray
  val:ByteArray
  ref:zJ
  refs:List zJ
def opZero:OpV:=⟨0,0,⟨#[]⟩,⟨#[]⟩,id0,[]⟩
structure iQ where
  ids:List zJ
  l:List UInt8
  e:Int
def idStep (s:iQ):iQ:=⟨s.ids ++ [kS (jL 32 s.l s.e)],yS 32 s.l s.e,xF 32 s.l s.e⟩
def kB:Nat->iQ->iQ
  | 0,s=>s
  | k+1,s=>kB k (idStep s)
theorem eT:∀(k:Nat) (s:iQ),(kB k s).ids.length=s.ids.length+k
  | 0,s=>rfl
  | k+1,s=>by unfold kB;rw[eT k];simp[idStep];omega
def bY (l:List UInt8) (e:Int):iQ:=kB (xO 1 l e) ⟨[],yS 1 l e,xF 1 l e⟩
theorem aV (l:List UInt8) (e:Int):(bY l e).ids.length<=255:=by
  unfold bY;rw[eT];have:=jI 1 l e;simp only[List.length_nil];omega
structure OpR where
  o:OpV
  l:List UInt8
  e:Int
def yT:Nat->List UInt8->Int->OpR
  | 1,l,e=>⟨⟨1,(xO 4 l e:Int)-2147483648,⟨#[]⟩,⟨#[]⟩,id0,[]⟩,yS 4 l e,xF 4 l e⟩
  | 2,l,e=>⟨⟨2,0,⟨#[]⟩,txV l e,id0,[]⟩,txL l e,txE l e⟩
  | 3,l,e=>⟨⟨3,0,⟨#[]⟩,txV l e,id0,(bY (txL l e) (txE l e)).ids⟩,(bY (txL l e) (txE l e)).l,(bY (txL l e) (txE l e)).e⟩
  | 4,l,e=>⟨⟨4,(xO 4 (txL (txL l e) (txE l e)) (txE (txL l e) (txE l e)):Int),txV l e,txV (txL l e) (txE l e),id0,[]⟩,yS 4 (txL (txL l e) (txE l e)) (txE (txL l e) (txE l e)),xF 4 (txL (txL l e) (txE l e)) (txE (txL l e) (txE l e))⟩
  | 5,l,e=>⟨⟨5,0,txV l e,txV (txL l e) (txE l e),id0,(bY (txL (txL l e) (txE l e)) (txE (txL l e) (txE l e))).ids⟩,(bY (txL (txL l e) (txE l e)) (txE (txL l e) (txE l e))).l,(bY (txL (txL l e) (txE l e)) (txE (txL l e) (txE l e))).e⟩
  | 6,l,e=>⟨⟨6,0,⟨#[]⟩,txV (yS 32 l e) (xF 32 l e),kS (jL 32 l e),[]⟩,txL (yS 32 l e) (xF 32 l e),txE (yS 32 l e) (xF 32 l e)⟩
  | 7,l,e=>⟨⟨7,0,⟨#[]⟩,⟨#[]⟩,kS (jL 32 l e),[]⟩,yS 32 l e,xF 32 l e⟩
  | _,l,e=>⟨opZero,l,e⟩
def bN:List zJ->Bool
  | []=>true
  | [_]=>true
  | x :: y :: l=>decide (zO x y<0)&&bN (y :: l)
def qr (o:OpV):Int :=
  if 16<o.key.size\/16<o.val.size then 3
  else if 2147483648<=o.n then 5
  else if 8<o.refs.length then 6
  else if bN o.refs=false then 4 else 0
def opE (l:List UInt8):Int :=
  if xF 1 l 0≠0 then xF 1 l 0
  else if xO 1 l 0=0\/7<xO 1 l 0 then 10
  else if d7 (yT (xO 1 l 0) (yS 1 l 0) 0).l (yT (xO 1 l 0) (yS 1 l 0) 0).e≠0 then d7 (yT (xO 1 l 0) (yS 1 l 0) 0).l (yT (xO 1 l 0) (yS 1 l 0) 0).e
  else qr (yT (xO 1 l 0) (yS 1 l 0) 0).o
def opO (l:List UInt8):OpV:=(yT (xO 1 l 0) (yS 1 l 0) 0).o
def k7 (k:Nat):Int:=if k=1 then 1 else if k=2\/k=3 then 2 else if k=4 then 3 else if k=5 then 4 else if k=6\/k=7 then 5 else 0
theorem KX:∀(R:List zJ),bN R=true↔Ris zO R
  | []=>by simp[bN,Ris]
  | [x]=>by simp[bN,Ris]
  | x :: y :: R=>by
    have ih:=KX (y :: R);unfold bN;rw[Bool.and_eq_true,ih,decide_eq_true_eq,fP (x:=x)];constructor
    · rintro⟨h1,h2⟩;refine⟨fun z hz=>?_,h2⟩;rcases List.mem_cons.1 hz with e | hz
      · rw[e];exact h1
      · exact qP.trans _ _ _ h1 ((fP.1 h2).1 z hz)
    · rintro⟨h1,h2⟩;exact⟨h1 y (by simp),h2⟩
theorem KZ (w:World) (g:Nat) (l:List UInt8) (e:Int) (h:jQ w g l e) :
    Calls Tryz.prog 121 #[.pointer (some ⟨g,0,none⟩),.int .i64 4] w fun en w'=>en = .returned (.int .i64 (xO 4 l e))/\nC w g (yS 4 l e) (xF 4 l e) w':=vy w g 4 l e h (.inr rfl)
theorem fK (w:World) (g:Nat) (l:List UInt8) (e:Int) (h:jQ w g l e) :
    Calls Tryz.prog 121 #[.pointer (some ⟨g,0,none⟩),.int .i64 1] w fun en w'=>en = .returned (.int .i64 (xO 1 l e))/\nC w g (yS 1 l e) (xF 1 l e) w':=vy w g 1 l e h (.inl rfl)
theorem vx (w:World) (g:Nat) (l:List UInt8) (e:Int) (h:jQ w g l e) :
    Calls Tryz.prog 150 #[.pointer (some ⟨g,0,none⟩),.int .i64 32] w fun en w'=>en = .returned (.string (mkB (jL 32 l e)))/\nC w g (yS 32 l e) (xF 32 l e) w':=wR w g 32 l e h (by omega)
theorem z4.narrow {S T:List Nat} {w w':World} (h:z4 S w w') (hs:∀x∈S,x∈T\/w.heap.size<=x):z4 T w w' :=
  ⟨h.os,h.tape,h.output,h.size,fun k hk hx=>h.block k hk (fun hm=>by rcases hs k hm with h1 | h1;exact hx h1;omega)⟩
theorem idC_over (d d':zJ):((idC d).toList.take (0+0)++(idC d').toList++(idC d).toList.drop (0+0+(idC d').toList.length)).toArray=idC d':=by
  apply Array.ext';have h1:(idC d').toList.length=32:=by simp
  have h2:(idC d).toList.length=32:=by simp
  rw[h1];simp[List.drop_eq_nil_of_le,h2]
theorem copy_idb {w:World} {g:Nat} (b:List UInt8) (hb:b.length=32\/b = []) (ty:TypeId) (c:Nat) (h:w.heap[g]? = some (.cells (idC id0) 24 (0,0))) :
    ∃w' m,(Builtin.copy_ #[89,9] ty #[.slice (some ⟨g,0,none⟩) 32 c,.string (mkB b)]).run Tryz.prog w = .ok m w'/\w'.heap[g]? = some (.cells (idC (kS b)) 24 (0,0))/\z4 [g] w w':=by
  rcases hb with hb | hb
  · have hs:(mkB b).size=32:=by rw[fR,hb]
    have h1:=Go.Lib.run_copy_row_string (P:=Tryz.prog) w 89 9 ty 5 g 0 32 c (mkB b) _ _ Tryz.underlying89 (by kernel_rfl) h (by omega) (by rw[hs];simp);refine⟨_,_,h1,?_,⟨rfl,rfl,rfl,by simp[World.setRow],fun x _ hx=>setRow_other w g x _ (by simpa using hx)⟩⟩;rw[setRow_heap w g _ _ _ _ h];have e3:=idC_over id0 (kS b);have e:(kS b).l=b:=by unfold kS;rw[dif_pos hb]
    have e2:(idC (kS b)).toList=Go.Lib.byteCells (mkB b).data.toList:=by unfold idC;rw[e];rfl
    rw[e2]at e3;have e4:(Go.Lib.byteCells (mkB b).data.toList).length=32:=by rw[<-e2];simp
    rw[e4]at e3;rw[hs];simp only[Nat.add_zero]at e3;rw[<-e3]
  · subst hb;have h1:=Go.Lib.run_copy_empty_string (P:=Tryz.prog) w 89 9 ty 5 (some ⟨g,0,none⟩) 32 c (mkB []) Tryz.underlying89 (by kernel_rfl) rfl;exact⟨_,_,h1,h,z4.refl _ _⟩
theorem B7 (w:World) (g:Nat) (l:List UInt8) (e:Int) (h:jQ w g l e) :
    Calls Tryz.prog 152 #[.pointer (some ⟨g,0,none⟩)] w fun en w'=>en = .returned (.agg (idC (kS (jL 32 l e))))/\nC w g (yS 32 l e) (xF 32 l e) w':=by
  have hb0:Below w.heap.size w ((w.alloc (.cells (idC id0) 24)).alloc (.cells (idC id0) 24)):=((Below.refl _ _).alloc (Nat.le_refl _) _).alloc (by simp) _;have hg2:((w.alloc (.cells (idC id0) 24)).alloc (.cells (idC id0) 24)).heap[w.heap.size]? = some (.cells (idC id0) 24 (0,0)):=by
    rw[Below.heap_alloc _ _ _ (by simp)];exact heap_alloc_new w _
  have hg3:((w.alloc (.cells (idC id0) 24)).alloc (.cells (idC id0) 24)).heap[w.heap.size+1]? = some (.cells (idC id0) 24 (0,0)):=by
    have:=heap_alloc_new (w.alloc (.cells (idC id0) 24)) (.cells (idC id0) 24);simpa using this
  have hgl:=h.lt;have hr0:=h.below hb0;have hsz0:((w.alloc (.cells (idC id0) 24)).alloc (.cells (idC id0) 24)).heap.size=w.heap.size+2:=by simp
  have Hsz0:=Lib.hid hsz0;clear hsz0 h;go_enter Tryz.func152,Tryz.ntmps152
  go_upto_region 2 with fail
  obtain⟨ga,hga⟩:∃ga,w.heap.size=ga:=⟨_,rfl⟩
  have Hga:=Lib.hid hga;obtain⟨W,hW⟩:∃W,W=((w.alloc (.cells (idC id0) 24)).alloc (.cells (idC id0) 24)):=⟨_,rfl⟩
  rw[<-hW]at hb0 hg2 hg3 hr0 Hsz0 |-;rw[hga]at hg2 hg3 hgl |-;clear hW;have hgal:ga+1<W.heap.size:=(Array.getElem?_eq_some_iff.1 hg3).1;have c1:=vx W.drew g l e (hr0.kept (z4.drew W) (by simp));refine zA (Kp [g,ga+1] W) false (by kernel_rfl) (by kernel_rfl) (by kernel_rfl) (zW [g,ga+1] W) ?_;have hne:=xA [g,ga+1] W;have hS:=zW [g,ga+1] W;repeat(refine z6 ?_ ?_;(focus(simp only[z3];done));intro K hK;go_simp;refine hK _ ?_;clear hK K)
  refine zH ?_ ?_ ?_;(focus(exact hS));(focus(simp only[z3];done));intro K hK;go_simp;refine c1.mono ?_;rintro en w1 ⟨rfl,hr1,hk1⟩;replace hS:=wW hS hk1 (by simp);have hg31:w1.heap[ga+1]? = _:=(hk1.block (ga+1) (by show _<W.drew.heap.size;exact hgal) (by simp;omega)).trans hg3;refine⟨_,rfl,hS,hK _ _ ?_⟩;clear hK K c1;obtain⟨w2,m2,hcp,hg32,hk2⟩:=copy_idb (jL 32 l e) (B2 _ _) 3 32 hg31;refine zH ?_ ?_ ?_;(focus(exact hS));(focus(simp only[z3];done));intro K hK;go_simp;refine zZ (wW hS hk2 (by simp)) (fun hS2=>?_);refine hK _ _ ?_;clear hK K;refine zK ?_;intro hS;have hkk:z4 [g,ga+1] W w2:=hS2;have hr2:=hr1.kept hk2 (by simp;omega);have hg22:=(hkk.block ga (by omega) (by simp;omega)).trans hg2;clear hcp hS hS2 hne hk1 hk2 hr1 hr0 hg31;obtain⟨d,hd⟩:∃d,kS (jL 32 l e)=d:=⟨_,rfl⟩
  rw[hd]at hg32;have Hd:=Lib.hid hd;clear hd;have hrow:z9 w2 (ga+1) 0 32=some (idC d):=by unfold z9;rw[hg32];simp[go_sem]
  have hsto:=yA (P:=Tryz.prog) kI w2 ga (idC id0) (idC d) _ hg22 (by simp) (by simp) (qJ _);have hkf:z4 [ga] w2 (w2.setRow ga (idC d)):=⟨rfl,rfl,rfl,by simp[World.setRow],fun x _ hx=>setRow_other w2 ga x _ (by simpa using hx)⟩
  have Hfin:=Lib.hid (setRow_heap w2 ga _ (idC d) _ _ hg22);have hr3:=hr2.kept hkf (by simp;omega);have hkw:z4 [g,ga,ga+1] w (w2.setRow ga (idC d)):=z4.trans (z4.trans ((z4.of_below hb0).mono (S':=[g,ga,ga+1]) (by simp)) (hkk.mono (S':=[g,ga,ga+1]) (by simp)) (fun x hx=>.inl hx)) (hkf.mono (S':=[g,ga,ga+1]) (by simp)) (fun x hx=>.inl hx);have hkz:z4 [g] w (w2.setRow ga (idC d)):=hkw.narrow (fun x hx=>by have:=Hga.out;simp at hx |-;omega);have Hr3:=Lib.hid hr3;have Hkz:=Lib.hid hkz;clear hr3 hr2 hkw hkz hkf hg22 hg32 hb0 hkk;(go_wp2_with fail);exact bodyPost_ret (results_cell_row Tryz.results152 _ _ ga 24 (idC d) (0,0) _ rfl Hfin.out Tryz.underlying24 rfl (by rw[vT];exact kI)) rfl ⟨by rw[Hd.out],Hr3.out,Hkz.out⟩
def kC (k:Nat):Nat:=[0,1,4,20,7,22,12,8].getD k 0
def yZ (w:World):Prop:=∀k,k<8->w.cell? ⟨2,k,none⟩=some (.int .i64 (kC k))
theorem yZ.below {w w':World} (h:yZ w) (hb:Below w.heap.size w w'):yZ w':=fun k hk=>(hb.cell (p:=⟨2,k,none⟩) (World.block_lt_of_cell? w _ (h k hk))).trans (h k hk)
theorem yZ.lt {w:World} (h:yZ w):2<w.heap.size:=World.block_lt_of_cell? w _ (h 0 (by omega))
theorem yZ.kept {w w':World} {S:List Nat} (h:yZ w) (k:z4 S w w') (h0:2∉S):yZ w':=fun i hi=>(k.cell (p:=⟨2,i,none⟩) h.lt h0).trans (h i hi)
theorem g5 (k:Nat) (w:World) (hp:yZ w) (hk:k<=9223372036854775807):Calls Tryz.prog 123 #[.int .i64 k] w fun e w'=>e = .returned (.int .i64 (kC k))/\w=w':=by
  by_cases h8:k<8
  · have hc:=hp k h8;obtain⟨v,hv⟩:∃v:Nat,kC k=v:=⟨_,rfl⟩
    rw[hv]at hc;have Hv:=Lib.hid hv;clear hv;go_enter Tryz.func123,Tryz.ntmps123
    (go_wp2_with fail);go_ret;exact⟨yB (by rw[Hv.out]),rfl⟩
  · have hv:kC k=0:=by unfold kC;simp[List.getD,List.getElem?_eq_none (show[0,1,4,20,7,22,12,8].length<=k by simp;omega)]
    have Hv:=Lib.hid hv;clear hv;go_enter Tryz.func123,Tryz.ntmps123
    (go_wp2_with fail);go_ret;exact⟨yB (by rw[Hv.out];rfl),rfl⟩
section
open Go.RowKit
theorem QS:∀(L:List (Array Value)) (k:Nat),(∀c∈L,c.size=k)->∀(i:Nat) (cs:Array Value),i<L.length ->
    (L.set i cs).flatMap Array.toList=(L.flatMap Array.toList).take (i*k)++cs.toList++(L.flatMap Array.toList).drop (i*k+k)
  | c :: L,k,hs,0,cs,_=>by
    have hc:c.toList.length=k:=by simpa using hs c (by simp)
    simp only[List.set_cons_zero,List.flatMap_cons,Nat.zero_mul,List.take_zero,List.nil_append,Nat.zero_add];rw[<-hc,List.drop_left]
  | c :: L,k,hs,i+1,cs,hi=>by
    have hc:c.toList.length=k:=by simpa using hs c (by simp)
    have ih:=QS L k (fun c h=>hs c (by simp[h])) i cs (by simpa using hi);simp only[List.set_cons_succ,List.flatMap_cons];rw[ih];have e1:(i+1)*k=c.toList.length+i*k:=by rw[hc,Nat.add_mul];omega
    rw[e1,List.take_append,List.drop_append];have t1:c.toList.take (c.toList.length+i*k)=c.toList:=List.take_of_length_le (by omega);have t2:c.toList.drop (c.toList.length+i*k+k) = []:=List.drop_eq_nil_of_le (by omega);rw[t1,t2];have n1:c.toList.length+i*k-c.toList.length=i*k:=by omega
    have n2:c.toList.length+i*k+k-c.toList.length=i*k+k:=by omega
    rw[n1,n2]
    simp
theorem flat_div {L:List (Array Value)} {k:Nat} (hk:0<k) (hs:∀c∈L,c.size=k) {j:Nat} {u:Value} (h:(L.flatMap Array.toList)[j]? = some u) :
    ∃i r,∃(hi:i<L.length),r<k/\j=i*k+r/\(L[i])[r]? = some u:=by
  have hlen:=kJ L k hs;have hj:j<L.length*k:=by
    have:=(List.getElem?_eq_some_iff.1 h).1;omega
  have hi:j / k<L.length:=Nat.div_lt_of_lt_mul (by rw[Nat.mul_comm];exact hj);have hr:j % k<k:=Nat.mod_lt _ hk;have he:j=j / k*k+j % k:=by rw[Nat.mul_comm];exact(Nat.div_add_mod j k).symm
  refine⟨j / k,j % k,hi,hr,he,?_⟩;rw[<-wJ L k hs (j / k) (j % k) hi hr,<-he,h]
section
variable {P:Program} {T E:TypeId} {k bytes:Nat}
theorem sD (I:yY P T E k bytes) {w:World} {B:Nat} {A:Option Addr} {n cap:Nat} {L:List (Array Value)} (hown:Own w B E k A n cap L)
    {A2:Option Addr} {m c:Nat} {R:List (Array Value)} (hsrc:SlR w A2 m k R) (hform:A2=none->c=0) (hone:∀r∈R,∀u∈r.toList,u.oneCell'=true) (hbytes:(n+m)*bytes<=140737488355328) (hn:n+m<=9223372036854775807) (hB:B<=w.heap.size) (ty:TypeId) :
    ∃A' cap' w',(Builtin.append_ #[T,T] ty #[.slice A n cap,.slice A2 m c]).run P w = .ok (.slice A' (n+m) cap') w'/\Own w' B E k A' (n+m) cap' (L++R)/\z4 (blk A) w w'/\(∀x∈blk A',x∈blk A\/w.heap.size<=x):=by
  obtain⟨i,z,hi,hz,hsz,hby,hzs⟩:=I.info;have hsize:∀r∈R,r.size=k:=by
    intro r hr;obtain⟨j,hj,rfl⟩:=List.mem_iff_getElem.1 hr;obtain⟨g,o,_,hc⟩:=hsrc.at_ (i:=j) (by have:=hsrc.1;omega);exact mM hc
  cases A2 with
  | none =>
    have hm:m=0:=by
      rcases Nat.eq_zero_or_pos m with h | h
      · exact h
      · obtain⟨g,o,e,_⟩:=hsrc.2 h;cases e
    subst hm;have hR:R = []:=List.eq_nil_of_length_eq_zero hsrc.1;subst hR;have hc:=hform rfl;subst hc;exact⟨A,cap,w,run_append_owned_none (P:=P) w B T ty E i k I.und hi _ _ _ hown.row,by simpa using hown,z4.refl _ _,fun x hx=>.inl hx⟩
  | some a =>
    obtain⟨v',w',hrun,hown',hg,_,hblk⟩:=run_append_own_at (P:=P) w B T ty E i z k bytes I.und hi hz hsz hby hzs I.pos (.slice A n cap) n _ hown.row a m c (R.flatMap Array.toList) (by rw[kJ R k hsize,hsrc.1])
      (fun j u hu=>by
        obtain⟨x,r,hx,hr,rfl,hcell⟩:=flat_div I.pos hsize hu;obtain⟨g,o,e,hrow⟩:=hsrc.at_ (i:=x) (by have:=hsrc.1;omega);injection e with e;subst e
        have hadd:(⟨g,o,none⟩:Addr).add (x*k+r)=⟨g,o+(x*k+r),none⟩:=by unfold Addr.add;split <;> simp_all
        rw[hadd,<-Nat.add_assoc,z8 hrow hr];exact hcell)
      (fun u hu=>by
        obtain⟨r,hr,hu⟩:=List.mem_flatMap.1 hu;exact hone r hr u hu) (by simp only[maxLen];omega) hbytes hB
    have hform:∃A' cap',v' = .slice A' (n+m) cap':=by
      rcases hown'.2 with⟨h0,h00⟩ | ⟨g,c',cur,hv,_⟩
      · exact⟨none,0,by rw[h0,h00]⟩
      · exact⟨_,_,hv⟩
    obtain⟨A',cap',rfl⟩:=hform;have hb:(Value.slice A n cap).ownBlock=(A.map (·.block)):=by cases A <;> rfl
    have hb':(Value.slice A' (n+m) cap').ownBlock=(A'.map (·.block)):=by cases A' <;> rfl
    refine⟨A',cap',w',hrun,⟨by rw[List.flatMap_append];exact hown',by simp[hown.len,hsrc.1],fun c' hc'=>?_⟩,?_,?_⟩
    · rcases List.mem_append.1 hc' with h | h
      · exact hown.size c' h
      · exact hsize c' h
    · have:=z4.grown hg
      rwa [hb]at this
    · intro x hx;rw[hb,hb']at hblk;rcases hblk with e | e
      · left;unfold blk at hx |-;rw[e]at hx;exact hx
      · right
        unfold blk at hx;rw[e]at hx;have:x=w.heap.size:=by simpa using hx
        omega
theorem pU (I:yY P T E k bytes) {w:World} {B:Nat} {g n cap:Nat} {L:List (Array Value)} (hown:Own w B E k (some ⟨g,0,none⟩) n cap L) {i:Nat} (hi:i<n) {cs:Array Value} (hcs:cs.size=k) (hone:∀u∈cs.toList,u.oneCell'=true) :
    ∃w',(stS E ⟨g,i*k,none⟩ (.agg cs)).run P w = .ok () w'/\Own w' B E k (some ⟨g,0,none⟩) n cap (L.set i cs)/\z4 [g] w w':=by
  obtain⟨inf,z,hinf,hz,hsz,hby,hzs⟩:=I.info;have hlen:=kJ L k hown.size;have hL:=hown.len;obtain⟨⟨h1,h2⟩,_,hs⟩:=hown;rcases h2 with⟨h2,_⟩ | ⟨g',c,cur,hv,hb,hg,hnc,hcm,hcsz,htake⟩
  · cases h2
  · injection hv with hA _ hc
    injection hA with hA
    injection hA with hA
    subst hA;subst hc;have hle:i*k+k<=n*k:=by
      have:(i+1)*k<=n*k:=Nat.mul_le_mul_right k (by omega);rw[Nat.add_mul]at this;omega
    have hle2:n*k<=cur.size:=by rw[hcsz];exact Nat.mul_le_mul_right k hnc
    have hst:=run_storeCells_at P g (i*k) E cs.toList 0 cur w hg (by simp;omega) hone;simp only[Nat.add_zero,Array.length_toList,hcs]at hst;have hset:(w.setRow g (cur.toList.take (i*k)++cs.toList++cur.toList.drop (i*k+k)).toArray).heap[g]? = some (.cells (cur.toList.take (i*k)++cs.toList++cur.toList.drop (i*k+k)).toArray E (0,0)):=setRow_heap w g cur _ E _ hg;refine⟨_,?_,⟨⟨?_,.inr ⟨g,cap,_,rfl,hb,hset,hnc,hcm,?_,?_⟩⟩,by simp[hL],?_⟩,⟨rfl,rfl,rfl,by simp[World.setRow],fun x _ hx=>setRow_other w g x _ (by simpa using hx)⟩⟩
    · unfold stS storeVar;simp[Value.cells,sizeOf,typeInfo,hinf,hsz,hcs];simpa using hst
    · rw[kJ _ k (fun c hc=>by
        rcases List.mem_or_eq_of_mem_set hc with h | h
        · exact hs c h
        · rw[h];exact hcs),List.length_set,hL]
    · simp;omega
    · rw[QS L k hs i cs (by omega),<-htake];have hcl:cs.toList.length=k:=by simpa using hcs
      have hcur:n*k<=cur.toList.length:=by simpa using hle2
      generalize cur.toList=X at *;generalize cs.toList=Y at *;apply List.ext_getElem?;intro j;simp only[List.getElem?_take,List.getElem?_append,List.length_append,List.length_take,List.getElem?_drop];have m1:min (i*k) X.length=i*k:=by omega
      have m2:min (i*k) (min (n*k) X.length)=i*k:=by omega
      simp only[m1,m2,hcl];by_cases c1:j<i*k
      · have c2:j<i*k+k:=by omega
        have c3:j<n*k:=by omega
        simp[c1,c2,c3]
      · by_cases c2:j<i*k+k
        · have c3:j<n*k:=by omega
          simp[c1,c2,c3]
        · have e:i*k+k+(j-(i*k+k))=j:=by omega
          simp[c1,c2,e]
    · intro c hc;rcases List.mem_or_eq_of_mem_set hc with h | h
      · exact hs c h
      · rw[h];exact hcs
end
theorem gK {P:Program} {T E:TypeId} {k bytes:Nat} (I:yY P T E k bytes) (w:World):(bsS T 0 #[]).run P w = .ok (.slice (some ⟨w.heap.size,0,none⟩) 0 0) (w.alloc (.cells #[] E)):=by
  obtain⟨i,z,hi,hz,hsz,hby,hzs⟩:=I.info;unfold bsS Instr.buildSlice;simp only[Sem.run_bind,run_underlying I.und,Result.andThen_ok,sizeOf,typeInfo,hi,hsz];simp[hi,hz,zeroValue,typeInfo,hsz,Instr.fill,newRow];have e:Array.range 0 = #[]:=rfl;rw[e];simp
theorem Own.empty (w:World) (B:Nat) (E:TypeId) (k:Nat) (hB:B<=w.heap.size):Own (w.alloc (.cells #[] E)) B E k (some ⟨w.heap.size,0,none⟩) 0 0 [] :=
  ⟨⟨by simp,.inr ⟨w.heap.size,0,#[],rfl,hB,heap_alloc_new w _,Nat.le_refl _,Nat.zero_le _,by simp,by simp⟩⟩,rfl,by simp⟩
theorem Own.cap_le {w:World} {B:Nat} {E:TypeId} {k:Nat} {A:Option Addr} {n cap:Nat} {L:List (Array Value)} (h:Own w B E k A n cap L):n<=cap/\(A=none->n=0/\cap=0):=by
  rcases h.row.2 with⟨h1,h2⟩ | ⟨g,c,cur,hv,_,_,hnc,_⟩
  · injection h1 with e1 e2 e3
    subst e1;subst e2;subst e3;exact⟨Nat.le_refl _,fun _=>⟨rfl,rfl⟩⟩
  · injection hv with e1 e2 e3
    subst e1;subst e3;exact⟨hnc,fun e=>by cases e⟩
theorem SlR.take_ {w:World} {A:Option Addr} {n k:Nat} {L:List (Array Value)} (h:SlR w A n k L) {m:Nat} (hm:m<=n):SlR w A m k (L.take m) :=
  ⟨by rw[List.length_take,h.1];omega,fun h0=>by
    obtain⟨g,o,e,hc⟩:=h.2 (by omega);refine⟨g,o,e,fun i hi=>?_⟩;have hi':i<L.length:=by simp at hi;omega
    rw[hc i hi'];simp⟩
theorem SlR.drop_ {w:World} {g o n k:Nat} {L:List (Array Value)} (h:SlR w (some ⟨g,o,none⟩) n k L) {m:Nat} (hm:m<=n):SlR w (some ⟨g,o+m*k,none⟩) (n-m) k (L.drop m) :=
  ⟨by rw[List.length_drop,h.1],fun h0=>by
    obtain⟨g',o',e,hc⟩:=h.2 (by omega);injection e with e;injection e with e1 e2
    subst e1;subst e2;refine⟨g,o+m*k,rfl,fun i hi=>?_⟩;have hi':m+i<L.length:=by simp at hi;omega
    have:=hc (m+i) hi';rw[Nat.add_mul,<-Nat.add_assoc]at this;rw[this];simp⟩
theorem yD {P:Program} {ops:Array Oper} {Q:Exit->Act->World->Prop} {a:Act} {w:World} {rest:List Oper} {dst:Option Tmp} {s x:Operand} {ty:TypeId} {pos:String} {after:Array Edge} {T E:TypeId} {k bytes:Nat} (I:yY P T E k bytes)
    {B:Nat} {A:Option Addr} {n cap:Nat} {L:List (Array Value)} (hs:a.eval s = .slice A n cap) (hown:Own w B E k A n cap L)
    {A2:Option Addr} {m c:Nat} {R:List (Array Value)} (hx:a.eval x = .slice A2 m c) (hsrc:SlR w A2 m k R) (hform:A2=none->c=0) (hone:∀r∈R,∀u∈r.toList,u.oneCell'=true) (hbytes:(n+m)*bytes<=140737488355328) (hn:n+m<=9223372036854775807) (hB:B<=w.heap.size)
    (h:∀A' cap' w',Own w' B E k A' (n+m) cap' (L++R)->z4 (blk A) w w'->(∀x∈blk A',x∈blk A\/w.heap.size<=x)->wpList P ops Q rest (a.put dst (.slice A' (n+m) cap')) w') :
    wpList P ops Q ({ dst:=dst,op:=.call { callee:=.builtin .append,args:=#[s,x],argTypes:=#[T,T] },type:=ty,pos:=pos,after:=after,guard:=none } :: rest) a w:=by
  obtain⟨A',cap',w',hrun,h1,h2,h3⟩:=sD I hown hsrc hform hone hbytes hn hB ty;refine wpList_plain rfl fun K hK=>?_;unfold Oper.wp;rw[bJ a.eval hs hx hrun];exact hK _ _ (h A' cap' w' h1 h2 h3)
end
end Go.Proofs.YtgedpfebepdcmaaGreatDoor
