/- Part 6 of the texts that lead to this claim: the walks of the functions and the plain law, in order. -/
import Derived.Test.YtgedpfebepdcmaaGreatDoorMb5
import Derived.Laws.StructEq
import Derived.Laws.Bits64b
namespace Go.Proofs.YtgedpfebepdcmaaGreatDoor
open Go.RowKit
set_option maxRecDepth 100000
set_option maxHeartbeats 8000000
theorem idB_lt (d:zJ) {k:Nat} (h:k<32):idB d k=((d.l[k]'(by rw[d.h];exact h)).toNat:Int):=by
  unfold idB;rw[List.getD_eq_getElem?_getD,List.getElem?_eq_getElem (by rw[d.h];exact h)];rfl
theorem BK (d:zJ) {k:Nat} (h:k<32):d.l.drop k=d.l[k]'(by rw[d.h];exact h) :: d.l.drop (k+1):=List.drop_eq_getElem_cons (by rw[d.h];exact h)
theorem qq (u v:UInt8) (l m:List UInt8):kT (u :: l) (v :: m)=if u<v then -1 else if v<u then 1 else kT l m:=rfl
theorem wE (a b:zJ) (w:World):Calls Tryz.prog 67 #[.agg (idC a),.agg (idC b)] w fun e w'=>e = .returned (.int .i64 (zO a b))/\Below w.heap.size w w':=by
  go_enter Tryz.func67,Tryz.ntmps67
  (go_wp2_with fail);have hca:Hid (∀k,k<32->((w.alloc (.cells (idC a) 24)).alloc (.cells (idC b) 24)).cell? ⟨w.heap.size,k,none⟩=some (.int .u8 (idB a k))):=fun k hk=>(by simp[go_sem,hk]);have hcb:Hid (∀k,k<32->((w.alloc (.cells (idC a) 24)).alloc (.cells (idC b) 24)).cell? ⟨w.heap.size+1,k,none⟩=some (.int .u8 (idB b k))):=fun k hk=>(by simp[go_sem,hk]);have hB:Below w.heap.size w ((w.alloc (.cells (idC a) 24)).alloc (.cells (idC b) 24)):=((Below.refl _ _).alloc (Nat.le_refl _) _).alloc (by simp) _;generalize (w.alloc (.cells (idC a) 24)).alloc (.cells (idC b) 24)=W at *;go_loopw [5] (fun i wr=>∃k:Nat,k<=32/\i = .int .i64 k/\Hid (kT (a.l.drop k) (b.l.drop k)=zO a b)/\Below W.heap.size W wr) (fun i _=>32-(intOf i).toNat)
  case atStart=>exact⟨0,by omega,rfl,rfl,Below.refl _ _⟩
  case round =>
    obtain⟨k,hk,rfl,hd,hb⟩:=hrel;by_cases hlt:k<32
    · have ca:=(hb.cell (p:=⟨w.heap.size,k,none⟩) (World.block_lt_of_cell? W _ (hca.out k hlt))).trans (hca.out k hlt);have cb:=(hb.cell (p:=⟨w.heap.size+1,k,none⟩) (World.block_lt_of_cell? W _ (hcb.out k hlt))).trans (hcb.out k hlt);have hdr:zO a b=if idB a k<idB b k then -1 else if idB b k<idB a k then 1 else kT (a.l.drop (k+1)) (b.l.drop (k+1)):=by
        rw[<-hd.out,BK a hlt,BK b hlt,idB_lt a hlt,idB_lt b hlt,qq];simp only[UInt8.lt_iff_toNat_lt,Int.ofNat_lt]
      obtain⟨x,hx⟩:∃x,idB a k=x:=⟨_,rfl⟩
      obtain⟨y,hy⟩:∃y,idB b k=y:=⟨_,rfl⟩
      rw[hx,hy]at hdr;rw[hx]at ca;rw[hy]at cb;have Hdr:=Lib.hid hdr;clear hdr hx hy;go_upto_region 4 with fail
      refine zA (Bel wr) false (by kernel_rfl) (by kernel_rfl) (by kernel_rfl) (zC wr) ?_;have hne:=zQ wr;have hS:=zC wr;have b1:=zP ca;have b2:=zP cb;repeat(refine z6 ?_ ?_;(focus(simp only[z3];done));intro K hK;go_simp;refine hK _ ?_;clear hK K)
      refine zK ?_;intro hS;have hb1:Below W.heap.size W wr.drew:=hb.drew;clear hne hS b1 b2;by_cases h1:x<y
      · (go_wp2_with fail);go_ret;exact⟨yB (by rw[Hdr.out,if_pos (by omega)]),hB.trans (hb1.mono hB.size)⟩
      · go_upto_region 6 with fail
        refine zA (Bel wr.drew) false (by kernel_rfl) (by kernel_rfl) (by kernel_rfl) (zC wr.drew) ?_;have hne:=zQ wr.drew;have hS:=zC wr.drew;have b1:=zP (W:=wr.drew) ca;have b2:=zP (W:=wr.drew) cb;repeat(refine z6 ?_ ?_;(focus(simp only[z3];done));intro K hK;go_simp;refine hK _ ?_;clear hK K)
        refine zK ?_;intro hS;clear hne hS b1 b2;by_cases h2:y<x
        · (go_wp2_with fail);go_ret;exact⟨yB (by rw[Hdr.out,if_neg (by omega),if_pos (by omega)]),hB.trans (hb1.drew.mono hB.size)⟩
        · (go_wp2_with fail);go_roundw
          case rel=>exact⟨k+1,by omega,by go_num,(show kT _ _=_ by rw[Hdr.out,if_neg (by omega),if_neg (by omega)]),hb1.drew⟩
          case measure=>simp[intOf];omega
    · have hk32:k=32:=by omega
      subst hk32;(go_wp2_with fail);go_ret;have h0:=hd.out;rw[List.drop_eq_nil_of_le (by rw[a.h];omega),List.drop_eq_nil_of_le (by rw[b.h];omega)]at h0;exact⟨yB (by rw[<-h0];rfl),hB.trans (hb.mono hB.size)⟩
structure Row where
  key:ByteArray
  val:ByteArray
  n:Int
  id:zJ
def yH (x:Row):Array Value:=#[.string x.key] ++ #[.string x.val] ++ #[.int .i64 x.n]++idC x.id
@[simp] theorem lJ (x:Row):(yH x).size=35:=by simp[yH]
@[go_sem] theorem rowC_g0 (x:Row):(yH x)[0]? = some (.string x.key):=by first | (simp[yH,Array.getElem?_append];done) | (rw[show yH x=((#[]:Array Value)) ++ #[.string x.key]++(#[.string x.val] ++ #[.int .i64 x.n]++idC x.id)from by apply Array.ext';simp[yH]];exact xS _ _ _ _ (by simp))
@[go_sem] theorem Y7 (x:Row):(yH x)[1]? = some (.string x.val):=by first | (simp[yH,Array.getElem?_append];done) | (rw[show yH x=(#[.string x.key]) ++ #[.string x.val]++(#[.int .i64 x.n]++idC x.id)from by apply Array.ext';simp[yH]];exact xS _ _ _ _ (by simp))
@[go_sem] theorem Y6 (x:Row):(yH x)[2]? = some (.int .i64 x.n):=by first | (simp[yH,Array.getElem?_append];done) | (rw[show yH x=(#[.string x.key] ++ #[.string x.val]) ++ #[.int .i64 x.n]++(idC x.id)from by apply Array.ext';simp[yH]];exact xS _ _ _ _ (by simp))
@[go_sem] theorem Y8 (x:Row):(yH x).extract 3 35=idC x.id:=by
  have h:yH x=(#[.string x.key] ++ #[.string x.val] ++ #[.int .i64 x.n])++idC x.id++((#[]:Array Value)):=by first | (simp[yH,Array.append_assoc];done) | (apply Array.ext';simp[yH];done)
  rw[h];exact fM _ _ _ _ _ (by simp) (by simp)
@[go_sem] theorem rowC_all (x:Row):(yH x).extract 0 35=yH x:=by have:=Array.extract_size (xs:=yH x);rwa [lJ]at this
theorem jK (x:Row):∀u∈(yH x).toList,u.oneCell'=true:=by
  intro u hu;simp only[yH,Array.toList_append,List.mem_append]at hu;rcases hu with((hu | hu) | hu) | hu
  · simp at hu;subst hu;rfl
  · simp at hu;subst hu;rfl
  · simp at hu;subst hu;rfl
  · exact qJ _ u hu
def V1:Row:=⟨⟨#[]⟩,⟨#[]⟩,0,id0⟩
theorem Row_ext {x y:Row} (h:x.key=y.key/\x.val=y.val/\x.n=y.n/\x.id=y.id):x=y:=by cases x;cases y;simp_all
instance:DecidableEq Row:=fun x y=>if h:x.key=y.key/\x.val=y.val/\x.n=y.n/\x.id=y.id then isTrue (Row_ext h)else isFalse (fun e=>h (by subst e;simp))
theorem infoRow:(Tryz.prog.info? 140).map (·.size)=some 35:=by kernel_rfl
@[go_sem ↓] theorem X1 (w:World):(zeroValue 140).run Tryz.prog w = .ok (.agg (yH V1)) w:=by
  have h:(Tryz.prog.info? 140).bind (·.zero)=some (.agg (yH V1)):=by kernel_rfl
  cases hi:Tryz.prog.info? 140 with
  | none=>rw[hi]at h;cases h
  | some i =>
    rw[hi]at h;have hz:i.zero=some (.agg (yH V1)):=h;simp[zeroValue,typeInfo,hi,hz]
@[go_sem ↓] theorem loadRow_rw (a:Addr):loadVar 140 a=ldS 140 a:=rfl
@[go_sem ↓] theorem storeRow_rw (a:Addr) (v:Value):storeVar 140 a v=stS 140 a v:=rfl
@[go_sem] theorem loadRow_run (w:World) (g o:Nat):(ldS 140 ⟨g,o,none⟩).run Tryz.prog w=match z9 w g o 35 with | some cs=>.ok (.agg cs) w | none=>(loadVar 140 ⟨g,o,none⟩).run Tryz.prog w :=
  vD Tryz.underlying140 rfl infoRow w g o
theorem qh:Tryz.prog.underlying 140=some (.struct (Tryz.prog.fieldsOf 140)):=by kernel_rfl
theorem yh (w:World):((Tryz.prog.fieldsOf 140).mapM fun (f:Field)=>do pure (f.offset,<-sizeOf f.type)).run Tryz.prog w = .ok #[(0,1),(1,1),(2,1),(3,32)] w:=by kernel_rfl
@[go_sem ↓] theorem buildRow_rw (parts:Array (Nat×Value)):Instr.build 140 parts=bdS 140 parts:=rfl
def rowOk (x:Row):Prop:=x.key.size<=maxLen/\x.val.size<=maxLen/\(Lit.int .i64 x.n).wf=true/\True
@[go_sem] theorem buildRow (a0:ByteArray) (a1:ByteArray) (a2:Int) (a3:zJ) (w:World):(bdS 140 #[(0,.string a0),(1,.string a1),(2,.int .i64 a2),(3,.agg (idC a3))]).run Tryz.prog w = .ok (.agg (yH ⟨a0,a1,a2,a3⟩)) w:=by
  refine vB w qh _ (X1 w) _ (yh w) [(0,.string a0),(1,.string a1),(2,.int .i64 a2),(3,.agg (idC a3))] _ ?_;rw[show yH V1=(#[]:Array Value) ++ #[.string ⟨#[]⟩]++(#[.string ⟨#[]⟩]++(#[.int .i64 0]++(idC id0)))from by first | (simp[yH,V1,Array.append_assoc];done) | (apply Array.ext';simp[yH,V1])];rw[xD (off:=0) (size:=1) rfl (by simp) (by simp) (by simp[Value.cells])];rw[show(#[]:Array Value)++(Value.string a0).cells++(#[.string ⟨#[]⟩]++(#[.int .i64 0]++(idC id0)))=(#[.string a0]) ++ #[.string ⟨#[]⟩]++(#[.int .i64 0]++(idC id0))from by first | (simp[Value.cells,Array.append_assoc];done) | (apply Array.ext';simp[Value.cells];done) | (apply Array.ext';simp only[Array.toList_append];simp[Value.cells])];rw[xD (off:=1) (size:=1) rfl (by simp) (by simp) (by simp[Value.cells])];rw[show(#[.string a0])++(Value.string a1).cells++(#[.int .i64 0]++(idC id0))=(#[.string a0]++(#[.string a1])) ++ #[.int .i64 0]++(idC id0)from by first | (simp[Value.cells,Array.append_assoc];done) | (apply Array.ext';simp[Value.cells];done) | (apply Array.ext';simp only[Array.toList_append];simp[Value.cells])];rw[xD (off:=2) (size:=1) rfl (by simp) (by simp) (by simp[Value.cells])];rw[show(#[.string a0]++(#[.string a1]))++(Value.int .i64 a2).cells++(idC id0)=(#[.string a0]++(#[.string a1]++(#[.int .i64 a2])))++idC id0++(#[]:Array Value)from by first | (simp[Value.cells,Array.append_assoc];done) | (apply Array.ext';simp[Value.cells];done) | (apply Array.ext';simp only[Array.toList_append];simp[Value.cells])];rw[xD (off:=3) (size:=32) rfl (by simp) (by simp) (by simp[Value.cells])];first | (simp[Instr.fill,yH,Array.append_assoc,Value.cells];done) | (simp only[Instr.fill,yH];congr 1;apply Array.ext';simp[Value.cells];done) | (simp only[Instr.fill,yH];congr 1;done) | (simp only[Instr.fill,yH];done)
abbrev kP (w:World) (A:Option Addr) (n:Nat) (R:List Row):Prop:=SlR w A n 35 (R.map yH)
theorem kP.get {w:World} {A:Option Addr} {n:Nat} {R:List Row} (h:kP w A n R) {i:Nat} (hi:i<n) (hR:i<R.length) :
    ∃g o,A=some ⟨g,o,none⟩/\z9 w g (o+i*35) 35=some (yH R[i])/\w.cell? ⟨g,o+i*35,none⟩=some (.string (R[i]).key)/\w.cell? ⟨g,o+i*35+1,none⟩=some (.string (R[i]).val) /\
      w.cell? ⟨g,o+i*35+2,none⟩=some (.int .i64 (R[i]).n)/\z9 w g (o+i*35+3) 32=some (idC (R[i]).id):=by
  obtain⟨g,o,e,hr⟩:=h.at_ hi;rw[List.getElem_map]at hr;refine⟨g,o,e,hr,?_,?_,?_,?_⟩
  · have:=z8 hr (j:=0) (by omega)
    rwa [rowC_g0]at this
  · have:=z8 hr (j:=1) (by omega)
    rwa [Y7]at this
  · have:=z8 hr (j:=2) (by omega)
    rwa [Y6]at this
  · have:=zV hr (j:=3) (m:=32) (by omega)
    rwa [Y8]at this
theorem kP.len {w:World} {A:Option Addr} {n:Nat} {R:List Row} (h:kP w A n R):R.length=n:=by simpa using h.1
theorem ZF {w:World} {q o c:Nat} {d:zJ} (h:z9 w q o 32=some (idC d)):(convert 89 9 (.slice (some ⟨q,o,none⟩) 32 c)).run Tryz.prog w = .ok (.string ⟨d.l.toArray⟩) w:=by
  have:=run_convert_bytes_back (P:=Tryz.prog) w 89 9 5 ⟨q,o,none⟩ c d.l Tryz.underlying89 Tryz.underlying5 Tryz.underlying9 (fun j hj=>by
    have hadd:(⟨q,o,none⟩:Addr).add j=⟨q,o+j,none⟩:=by unfold Addr.add;split <;> simp_all
    have hd:=d.h;rw[hadd,z8 h (by omega)];simp[idC,yW,hj])
  rwa [d.h]at this
def rowLB (p:bB):List UInt8:=beL 1 p.1.size++(p.1.data.toList++(beL 1 p.2.val.size++(p.2.val.data.toList++(beL 4 p.2.n.toNat++p.2.id.l))))
def putLB (L:List bB):List UInt8:=beL 4 L.length++L.flatMap rowLB
def cJ (x:Row):xJ:=⟨x.val,x.n,x.id⟩
def gtS (a b:ByteArray):Bool:=!bltS a b && !(a.toList==b.toList)
theorem gtS_cmp (a b:ByteArray):gtS a b=decide (0<xP a b):=by
  have h1:=bA a b;have h2:(a.toList==b.toList)=decide (xP a b=0):=by
    rw[Bool.eq_iff_iff,beq_iff_eq,decide_eq_true_eq,fH,toList_inj]
  unfold gtS;rw[h1,h2,Bool.eq_iff_iff];simp only[Bool.and_eq_true,Bool.not_eq_true',decide_eq_false_iff_not,decide_eq_true_eq];omega
def n5 (a b:Row):Bool:=decide (b.n<a.n)||((a.n==b.n)&&(decide (0<zO a.id b.id)||((zO a.id b.id==0)&&gtS a.val b.val)))
theorem orL3B (i c s:Int):decide (0<orL [i,c,s])=(decide (0<i)||((i==0)&&(decide (0<c)||((c==0)&&decide (0<s))))):=by
  simp only[orL];by_cases h1:i=0
  · subst h1;by_cases h2:c=0
    · subst h2;by_cases h3:s=0 <;> simp[h3]
    · simp[h2]
  · simp[h1]
theorem xu (a b:Row):n5 a b=decide (0<vJ (cJ a) (cJ b)):=by
  have h:vJ (cJ a) (cJ b)=orL [vK a.n b.n,zO a.id b.id,xP a.val b.val]:=rfl;have h1:decide (0<vK a.n b.n)=decide (b.n<a.n):=by
    rw[Bool.eq_iff_iff];simp only[decide_eq_true_eq];unfold vK;repeat' split
    all_goals omega
  have h2:(vK a.n b.n==0)=(a.n==b.n):=by
    rw[Bool.eq_iff_iff];simp only[beq_iff_eq];unfold vK;repeat' split
    all_goals omega
  rw[h,orL3B,h1,h2];unfold n5;rw[gtS_cmp]
theorem rlater (a b:Row) (w:World):Calls Tryz.prog 112 #[.agg (yH a),.agg (yH b)] w fun e w'=>e = .returned (.bool (n5 a b))/\Below w.heap.size w w':=by
  have c1:=wE a.id b.id ((w.alloc (.cells (yH a) 140)).alloc (.cells (yH b) 140));have hB:Below w.heap.size w ((w.alloc (.cells (yH a) 140)).alloc (.cells (yH b) 140)):=((Below.refl _ _).alloc (Nat.le_refl _) _).alloc (by simp) _;have ra:z9 ((w.alloc (.cells (yH a) 140)).alloc (.cells (yH b) 140)) w.heap.size 0 35=some (yH a):=by simp[go_sem]
  have rb:z9 ((w.alloc (.cells (yH a) 140)).alloc (.cells (yH b) 140)) (w.heap.size+1) 0 35=some (yH b):=by simp[go_sem]
  go_enter Tryz.func112,Tryz.ntmps112
  go_upto_region 1 with fail
  generalize (w.alloc (.cells (yH a) 140)).alloc (.cells (yH b) 140)=W at *;have a1:W.cell? ⟨w.heap.size,1,none⟩=some (.string a.val):=by have:=z8 ra (j:=1) (by omega);rwa [Y7]at this
  have a2:W.cell? ⟨w.heap.size,2,none⟩=some (.int .i64 a.n):=by have:=z8 ra (j:=2) (by omega);rwa [Y6]at this
  have a3:z9 W w.heap.size 3 32=some (idC a.id):=by have:=zV ra (j:=3) (m:=32) (by omega);rwa [Y8]at this
  have b1:W.cell? ⟨w.heap.size+1,1,none⟩=some (.string b.val):=by have:=z8 rb (j:=1) (by omega);rwa [Y7]at this
  have b2:W.cell? ⟨w.heap.size+1,2,none⟩=some (.int .i64 b.n):=by have:=z8 rb (j:=2) (by omega);rwa [Y6]at this
  have b3:z9 W (w.heap.size+1) 3 32=some (idC b.id):=by have:=zV rb (j:=3) (m:=32) (by omega);rwa [Y8]at this
  clear ra rb;(go_wp2_with fail);refine c1.mono ?_;rintro e W2 ⟨rfl,hb⟩;have d1:=(hb.cell (p:=⟨w.heap.size,1,none⟩) (World.block_lt_of_cell? W _ a1)).trans a1;have d2:=(hb.cell (p:=⟨w.heap.size,2,none⟩) (World.block_lt_of_cell? W _ a2)).trans a2;have e1:=(hb.cell (p:=⟨w.heap.size+1,1,none⟩) (World.block_lt_of_cell? W _ b1)).trans b1;have e2:=(hb.cell (p:=⟨w.heap.size+1,2,none⟩) (World.block_lt_of_cell? W _ b2)).trans b2;have hB2:=hB.trans (hb.mono hB.size);clear a1 a2 a3 b1 b2 b3 hb hB c1;go_wp2_with fail
  all_goals
    go_ret;refine⟨zS ?_,hB2⟩
    simp_all [n5,gtS,bltS]
def lY:List Row->Row->List Row
  | [],x=>[x]
  | y :: l,x=>if xP y.key x.key<0 then y :: lY l x else if y.key=x.key then(if n5 x y then x :: l else y :: l)else x :: y :: l
def xR (l:List Row):List Row:=l.foldl lY []
def XO (x:Row):bB:=(x.key,cJ x)
theorem QE:∀(l:List Row) (x:Row),(lY l x).map XO=gS (l.map XO) x.key (cJ x)
  | [],_=>rfl
  | y :: l,x=>by
    unfold lY gS;simp only[List.map_cons];have e1:(XO y).1=y.key:=rfl;have e2:(XO y).2=cJ y:=rfl;rw[e1,e2];split
    · rw[List.map_cons,QE l x]
    · split
      · have h:=xu x y;by_cases hl:0<vJ (cJ x) (cJ y)
        · rw[if_pos hl,if_pos (by rw[h];exact decide_eq_true hl)];rename_i he;simp[XO,he]
        · rw[if_neg hl,if_neg (by rw[h];simp[hl])];rfl
      · rfl
theorem YL:∀(l:List Row) (x:Row) (k:Nat),k<=l.length->(∀j (hj:j<l.length),j<k->xP (l[j]).key x.key<0)->(∀hk:k<l.length,¬xP (l[k]).key x.key<0) ->
    lY l x=if h:k<l.length/\(l[k]?).map (·.key)=some x.key then(if n5 x (l[k]'h.1)then l.set k x else l)else l.take k++x :: l.drop k
  | [],x,k,hk,_,_=>by
    have:k=0:=by simpa using hk
    subst this;simp[lY]
  | y :: l,x,0,_,_,h2=>by
    have h:=h2 (by simp);simp only[List.getElem_cons_zero]at h;unfold lY;rw[if_neg h];by_cases he:y.key=x.key
    · rw[if_pos he,dif_pos ⟨by simp,by simp[he]⟩];rfl
    · rw[if_neg he,dif_neg (by simp[he])];rfl
  | y :: l,x,k+1,hk,h1,h2=>by
    have h:=h1 0 (by simp) (by omega);simp only[List.getElem_cons_zero]at h;unfold lY;rw[if_pos h];have ih:=YL l x k (by simpa using hk) (fun j hj hjk=>by have:=h1 (j+1) (by simpa using hj) (by omega);simpa using this) (fun hk'=>by have:=h2 (by simpa using hk');simpa using this);rw[ih];by_cases hc:k<l.length/\(l[k]?).map (·.key)=some x.key
    · rw[dif_pos hc,dif_pos ⟨by simpa using hc.1,by simpa using hc.2⟩];simp only[List.getElem_cons_succ,List.set_cons_succ];split <;> rfl
    · rw[dif_neg hc,dif_neg (fun hh=>hc ⟨by simpa using hh.1,by simpa using hh.2⟩)]
      simp
theorem QF (l:List Row) (x:Row):(lY l x).length<=l.length+1:=by
  induction l with
  | nil=>simp[lY]
  | cons y l ih =>
    unfold lY
    repeat' split
    all_goals simp;try omega
theorem nZ (l:List Row) (x:Row):xR (l ++ [x])=lY (xR l) x:=by simp[xR]
theorem pD:∀(l a:List Row),(l.foldl lY a).length<=a.length+l.length
  | [],a=>by simp
  | x :: l,a=>by
    have h1:=pD l (lY a x);have h2:=QF a x;simp only[List.foldl_cons,List.length_cons];omega
theorem tN (l:List Row):(xR l).length<=l.length:=by have:=pD l [];simpa[xR]using this
theorem XU (w:World) (A:Option Addr) (n cap:Nat) (R:List zJ) (d:zJ) (h:y8 w A n R) (hn:n<=9223372036854775807) :
    Calls Tryz.prog 40 #[.slice A n cap,.agg (idC d)] w fun e w'=>e = .returned (.bool (decide (d∈R)))/\Below w.heap.size w w':=by
  have hlen:=h.len;have hB:Below w.heap.size w (w.alloc (.cells (idC d) 24)):=(Below.refl _ _).alloc (Nat.le_refl _) _;have hd0:z9 (w.alloc (.cells (idC d) 24)) w.heap.size 0 32=some (idC d):=by simp[go_sem]
  have Hlen:=Lib.hid hlen;clear hlen;go_enter Tryz.func40,Tryz.ntmps40
  (go_wp2_with fail);generalize w.alloc (.cells (idC d) 24)=W at *;go_loopw [5] (fun i wr=>∃k:Nat,k<=n/\i = .int .i64 k/\Hid (d∉R.take k)/\Below W.heap.size W wr) (fun i _=>n-(intOf i).toNat)
  case atStart=>exact⟨0,Nat.zero_le _,rfl,(show d∉R.take 0 by simp),Below.refl _ _⟩
  case round =>
    obtain⟨k,hk,rfl,hno,hb⟩:=hrel;by_cases hlt:k<n
    · obtain⟨q,o,rfl,hr⟩:=y8.get (SlR.below (SlR.below h hB) hb) hlt (by rw[Hlen.out];exact hlt);have hdr:z9 wr w.heap.size 0 32=some (idC d):=(zB (hb.block _ (zI hd0)) _ _).trans hd0;have htk:R.take (k+1)=R.take k ++ [R[k]'(by rw[Hlen.out];exact hlt)]:=by rw[List.take_add_one,List.getElem?_eq_getElem (by rw[Hlen.out];exact hlt)];rfl
      have hmem:R[k]'(by rw[Hlen.out];exact hlt)∈R:=List.getElem_mem _;obtain⟨x,hx⟩:∃x,R[k]'(by rw[Hlen.out];exact hlt)=x:=⟨_,rfl⟩
      rw[hx]at hr htk hmem;have Htk:=Lib.hid htk;have Hm:=Lib.hid hmem;clear hx htk hmem;go_upto_region 4 with fail
      refine zA (Bel wr) false (by kernel_rfl) (by kernel_rfl) (by kernel_rfl) (zC wr) ?_;have hne:=zQ wr;have hS:=zC wr;have b1:=zY hr;have b2:=zY hdr;repeat(refine z6 ?_ ?_;(focus(simp only[z3];done));intro K hK;go_simp;refine hK _ ?_;clear hK K)
      refine zK ?_;intro hS;clear hne hS b1 b2 hr hdr;go_wp2_with fail
      · have he:(x==d)=true:=by assumption
        have e:x=d:=by simpa using he
        have Hin:Hid (decide (d∈R)=true):=decide_eq_true (by rw[<-e];exact Hm.out);clear e;go_ret;exact⟨zS (by rw[Hin.out]),hB.trans (hb.drew.mono hB.size)⟩
      · have he:(x==d)=false:=by assumption
        have e:¬x=d:=by simpa using he
        have hno':Hid (d∉R.take (k+1)):=by
          show _;rw[Htk.out,List.mem_append,List.mem_singleton];rintro(h1 | h1)
          · exact hno.out h1
          · exact e h1.symm
        clear e;go_roundw
        case rel=>exact⟨k+1,by omega,by go_num,hno',hb.drew⟩
        case measure=>simp[intOf];omega
    · have hall:d∉R:=by
        have:=hno.out
        rwa [List.take_of_length_le (by rw[Hlen.out];omega)]at this
      have Hn:Hid (decide (d∈R)=false):=decide_eq_false hall;clear hall;(go_wp2_with fail);go_ret;exact⟨zS (by rw[Hn.out]),hB.trans (hb.mono hB.size)⟩
theorem infoRRow:(Tryz.prog.info? 151).map (·.size)=some 33:=by kernel_rfl
@[go_sem ↓] theorem ZU (w:World):(zeroValue 151).run Tryz.prog w = .ok (.agg (y9 sC)) w:=by
  have h:(Tryz.prog.info? 151).bind (·.zero)=some (.agg (y9 sC)):=by kernel_rfl
  cases hi:Tryz.prog.info? 151 with
  | none=>rw[hi]at h;cases h
  | some i =>
    rw[hi]at h;have hz:i.zero=some (.agg (y9 sC)):=h;simp[zeroValue,typeInfo,hi,hz]
@[go_sem ↓] theorem loadRRow_rw (a:Addr):loadVar 151 a=ldS 151 a:=rfl
@[go_sem ↓] theorem storeRRow_rw (a:Addr) (v:Value):storeVar 151 a v=stS 151 a v:=rfl
@[go_sem] theorem loadRRow_run (w:World) (g o:Nat):(ldS 151 ⟨g,o,none⟩).run Tryz.prog w=match z9 w g o 33 with | some cs=>.ok (.agg cs) w | none=>(loadVar 151 ⟨g,o,none⟩).run Tryz.prog w :=
  vD Tryz.underlying151 rfl infoRRow w g o
theorem i7:Tryz.prog.underlying 151=some (.struct (Tryz.prog.fieldsOf 151)):=by kernel_rfl
theorem VA (w:World):((Tryz.prog.fieldsOf 151).mapM fun (f:Field)=>do pure (f.offset,<-sizeOf f.type)).run Tryz.prog w = .ok #[(0,32),(32,1)] w:=by kernel_rfl
@[go_sem ↓] theorem buildRRow_rw (parts:Array (Nat×Value)):Instr.build 151 parts=bdS 151 parts:=rfl
@[go_sem] theorem buildRRow (a0:zJ) (a1:ByteArray) (w:World):(bdS 151 #[(0,.agg (idC a0)),(1,.string a1)]).run Tryz.prog w = .ok (.agg (y9 ⟨a0,a1⟩)) w:=by
  refine vB w i7 _ (ZU w) _ (VA w) [(0,.agg (idC a0)),(1,.string a1)] _ ?_;rw[show y9 sC=(#[]:Array Value)++idC id0++(#[.string ⟨#[]⟩])from by first | (simp[y9,sC,Array.append_assoc];done) | (apply Array.ext';simp[y9,sC])];rw[xD (off:=0) (size:=32) rfl (by simp) (by simp) (by simp[Value.cells])];rw[show(#[]:Array Value)++(Value.agg (idC a0)).cells++(#[.string ⟨#[]⟩])=(idC a0) ++ #[.string ⟨#[]⟩]++(#[]:Array Value)from by first | (simp[Value.cells,Array.append_assoc];done) | (apply Array.ext';simp[Value.cells];done) | (apply Array.ext';simp only[Array.toList_append];simp[Value.cells])];rw[xD (off:=32) (size:=1) rfl (by simp) (by simp) (by simp[Value.cells])];first | (simp[Instr.fill,y9,Array.append_assoc,Value.cells];done) | (simp only[Instr.fill,y9];congr 1;apply Array.ext';simp[Value.cells];done) | (simp only[Instr.fill,y9];congr 1;done) | (simp only[Instr.fill,y9];done)
theorem xV:yY Tryz.prog 67 151 33 48 :=
  .of (z:=.agg (y9 sC)) Tryz.underlying67 (by kernel_rfl) (by kernel_rfl) (by kernel_rfl) (n9 _) (by omega)
@[go_sem ↓] theorem bsRRow_rw (n:Nat) (parts:Array (Nat×Value)):Instr.buildSlice 67 n parts=bsS 67 n parts:=rfl
@[go_sem] theorem bsRRow_run (w:World) (x:xH):(bsS 67 1 #[(0,.agg (y9 x))]).run Tryz.prog w = .ok (.slice (some ⟨w.heap.size,0,none⟩) 1 1) (w.alloc (.cells (y9 x) 151)) :=
  k8 xV (by omega) w (y9 x) (n9 x)
@[go_sem] theorem bsRRow0_run (w:World):(bsS 67 0 #[]).run Tryz.prog w = .ok (.slice (some ⟨w.heap.size,0,none⟩) 0 0) (w.alloc (.cells #[] 151)):=gK xV w
@[go_sem ↓] theorem slRRow_rw (x:Value) (lo hi mx:Option Value):Instr.sliceAt 67 x lo hi mx=slS 67 x lo hi mx:=rfl
def pR (x y:xH):Bool:=(x.tag==y.tag)&&(x.val.toList==y.val.toList)
theorem zy (x y:xH):pR x y=decide (x=y):=by
  unfold pR;rw[Bool.eq_iff_iff];simp only[Bool.and_eq_true,beq_iff_eq,toList_inj,decide_eq_true_eq];exact⟨fun h=>JK h,fun h=>by subst h;exact⟨rfl,rfl⟩⟩
theorem qk (x y:xH) (w:World):(Op.equalIn 10000 151 (.agg (y9 x)) (.agg (y9 y))).run Tryz.prog w = .ok (pR x y) w:=by
  rw[show(10000:Nat)=9999+1 from rfl,run_equalIn_agg w 9999 151 _ _ i7 (by kernel_rfl)];unfold pR;have e1:=sR 9997 x.tag y.tag w;have e2:=run_equalIn_string (P:=Tryz.prog) w 9998 9 x.val y.val Tryz.underlying9;simp only[Program.fieldsOf,Tryz.underlying151];simp[Op.eqFields,part,asAgg,isAgg,go_sem,Tryz.underlying9,Tryz.underlying24,e1,e2];cases h1:(x.tag==y.tag) <;> cases h2:(x.val.toList==y.val.toList) <;> simp_all
@[go_sem ↓] theorem eqRRow_run (x y:xH) (w:World):(Op.equalIn 10000 151 (.agg (y9 x)) (.agg (y9 y))).run Tryz.prog w = .ok (pR x y) w:=qk x y w
abbrev qX (w:World) (A:Option Addr) (n:Nat) (R:List xH):Prop:=SlR w A n 33 (R.map y9)
theorem qX.len {w:World} {A:Option Addr} {n:Nat} {R:List xH} (h:qX w A n R):R.length=n:=by simpa using h.1
theorem qX.get {w:World} {A:Option Addr} {n:Nat} {R:List xH} (h:qX w A n R) {i:Nat} (hi:i<n) (hR:i<R.length) :
    ∃g o,A=some ⟨g,o,none⟩/\z9 w g (o+i*33) 33=some (y9 R[i])/\z9 w g (o+i*33) 32=some (idC (R[i]).tag)/\w.cell? ⟨g,o+i*33+32,none⟩=some (.string (R[i]).val):=by
  obtain⟨g,o,e,hr⟩:=h.at_ hi;rw[List.getElem_map]at hr;refine⟨g,o,e,hr,?_,?_⟩
  · have:=zV hr (j:=0) (m:=32) (by omega)
    rwa [iK]at this
  · have:=z8 hr (j:=32) (by omega)
    rwa [lV]at this
theorem rin (w:World) (A:Option Addr) (n cap:Nat) (R:List xH) (x:xH) (h:qX w A n R) (hn:n<=9223372036854775807) :
    Calls Tryz.prog 111 #[.slice A n cap,.agg (y9 x)] w fun e w'=>e = .returned (.bool (decide (x∈R)))/\Below w.heap.size w w':=by
  have hlen:=h.len;have hB:Below w.heap.size w (w.alloc (.cells (y9 x) 151)):=(Below.refl _ _).alloc (Nat.le_refl _) _;have hd0:z9 (w.alloc (.cells (y9 x) 151)) w.heap.size 0 33=some (y9 x):=by simp[go_sem]
  have Hlen:=Lib.hid hlen;clear hlen;go_enter Tryz.func111,Tryz.ntmps111
  (go_wp2_with fail);generalize w.alloc (.cells (y9 x) 151)=W at *;go_loopw [5] (fun i wr=>∃k:Nat,k<=n/\i = .int .i64 k/\Hid (x∉R.take k)/\Below W.heap.size W wr) (fun i _=>n-(intOf i).toNat)
  case atStart=>exact⟨0,Nat.zero_le _,rfl,(show x∉R.take 0 by simp),Below.refl _ _⟩
  case round =>
    obtain⟨k,hk,rfl,hno,hb⟩:=hrel;by_cases hlt:k<n
    · obtain⟨q,o,rfl,hr,_,_⟩:=qX.get (SlR.below (SlR.below h hB) hb) hlt (by rw[Hlen.out];exact hlt);have hdr:z9 wr w.heap.size 0 33=some (y9 x):=(zB (hb.block _ (zI hd0)) _ _).trans hd0;have htk:R.take (k+1)=R.take k ++ [R[k]'(by rw[Hlen.out];exact hlt)]:=by rw[List.take_add_one,List.getElem?_eq_getElem (by rw[Hlen.out];exact hlt)];rfl
      have hmem:R[k]'(by rw[Hlen.out];exact hlt)∈R:=List.getElem_mem _;obtain⟨y,hy⟩:∃y,R[k]'(by rw[Hlen.out];exact hlt)=y:=⟨_,rfl⟩
      rw[hy]at hr htk hmem;have Htk:=Lib.hid htk;have Hm:=Lib.hid hmem;clear hy htk hmem;obtain⟨bb,hbb⟩:∃bb,pR y x=bb:=⟨_,rfl⟩
      have hbd:=zy y x;rw[hbb]at hbd;have Hbd:=Lib.hid hbd;clear hbd;go_upto_region 4 with fail
      refine zA (Bel wr) false (by kernel_rfl) (by kernel_rfl) (by kernel_rfl) (zC wr) ?_;have hne:=zQ wr;have hS:=zC wr;have b1:=zY hr;have b2:=zY hdr;repeat(refine z6 ?_ ?_;(focus(simp only[z3];done));intro K hK;go_simp;refine hK _ ?_;clear hK K)
      refine zK ?_;intro hS;clear hne hS b1 b2 hr hdr hbb;cases bb with
      | true =>
        have e:y=x:=by simpa using Hbd.out.symm
        have Hin:Hid (decide (x∈R)=true):=decide_eq_true (by rw[<-e];exact Hm.out);clear e;(go_wp2_with fail);go_ret;exact⟨zS (by rw[Hin.out]),hB.trans (hb.drew.mono hB.size)⟩
      | false =>
        have e:¬y=x:=by simpa using Hbd.out.symm
        have hno':Hid (x∉R.take (k+1)):=by
          show _;rw[Htk.out,List.mem_append,List.mem_singleton];rintro(h1 | h1)
          · exact hno.out h1
          · exact e h1.symm
        clear e;(go_wp2_with fail);go_roundw
        case rel=>exact⟨k+1,by omega,by go_num,hno',hb.drew⟩
        case measure=>simp[intOf];omega
    · have hall:x∉R:=by
        have:=hno.out
        rwa [List.take_of_length_le (by rw[Hlen.out];omega)]at this
      have Hn:Hid (decide (x∈R)=false):=decide_eq_false hall;clear hall;(go_wp2_with fail);go_ret;exact⟨zS (by rw[Hn.out]),hB.trans (hb.mono hB.size)⟩
theorem orC_lt (a b:Int):orC a b<0↔a<0\/(a=0/\b<0):=by
  unfold orC;split <;> omega
theorem rless (x y:xH) (w:World):Calls Tryz.prog 144 #[.agg (y9 x),.agg (y9 y)] w fun e w'=>e = .returned (.bool (decide (x8 x y<0)))/\Below w.heap.size w w':=by
  have hB:Below w.heap.size w ((w.alloc (.cells (y9 x) 151)).alloc (.cells (y9 y) 151)):=((Below.refl _ _).alloc (Nat.le_refl _) _).alloc (by simp) _;have h0:decide (x8 x y<0)=decide (zO x.tag y.tag<0\/(zO x.tag y.tag=0/\xP x.val y.val<0)):=by
    unfold x8;rw[orL2];exact decide_eq_decide.2 (orC_lt _ _)
  have hs:=bA x.val y.val;have ra:z9 ((w.alloc (.cells (y9 x) 151)).alloc (.cells (y9 y) 151)) w.heap.size 0 33=some (y9 x):=by simp[go_sem]
  have rb:z9 ((w.alloc (.cells (y9 x) 151)).alloc (.cells (y9 y) 151)) (w.heap.size+1) 0 33=some (y9 y):=by simp[go_sem]
  have H0:=Lib.hid h0;clear h0;go_enter Tryz.func144,Tryz.ntmps144
  go_upto_region 1 with fail
  generalize (w.alloc (.cells (y9 x) 151)).alloc (.cells (y9 y) 151)=W at *;have a1:z9 W w.heap.size 0 32=some (idC x.tag):=by have:=zV ra (j:=0) (m:=32) (by omega);rwa [iK]at this
  have a2:W.cell? ⟨w.heap.size,32,none⟩=some (.string x.val):=by have:=z8 ra (j:=32) (by omega);rwa [lV,Nat.zero_add]at this
  have a3:z9 W (w.heap.size+1) 0 32=some (idC y.tag):=by have:=zV rb (j:=0) (m:=32) (by omega);rwa [iK]at this
  have a4:W.cell? ⟨w.heap.size+1,32,none⟩=some (.string y.val):=by have:=z8 rb (j:=32) (by omega);rwa [lV,Nat.zero_add]at this
  clear ra rb;have c1:=wE x.tag y.tag W;obtain⟨c,hc⟩:∃c,zO x.tag y.tag=c:=⟨_,rfl⟩
  rw[hc]at c1;obtain⟨sb,hsb⟩:∃sb,Op.bytesLess x.val.toList y.val.toList=sb:=⟨_,rfl⟩
  have hs':sb=decide (xP x.val y.val<0):=hsb.symm.trans hs;have Hc:=Lib.hid hc;have Hs:=Lib.hid hs';clear hc hs hs';(go_wp2_with fail);refine c1.mono ?_;rintro e W2 ⟨rfl,hb⟩;have d2:=(hb.cell (p:=⟨w.heap.size,32,none⟩) (World.block_lt_of_cell? W _ a2)).trans a2;have e2:=(hb.cell (p:=⟨w.heap.size+1,32,none⟩) (World.block_lt_of_cell? W _ a4)).trans a4;have hB2:=hB.trans (hb.mono hB.size);clear a1 a2 a3 a4 hb hB c1;by_cases h1:c<0
  · (go_wp2_with fail);go_ret;exact⟨zS (by rw[H0.out,Hc.out];simp[h1]),hB2⟩
  · by_cases h2:c=0
    · subst h2;cases sb with
      | true =>
        (go_wp2_with fail);go_ret;exact⟨zS (by rw[H0.out,Hc.out];simpa using Hs.out.symm),hB2⟩
      | false =>
        (go_wp2_with fail);go_ret;exact⟨zS (by rw[H0.out,Hc.out];simpa using Hs.out.symm),hB2⟩
    · have h3:(c==0)=false:=by rw[beq_eq_false_iff_ne];exact h2
      have Hd:Hid (decide (c<0\/(c=0/\xP x.val y.val<0))=false):=by
        show _=_;rw[decide_eq_false_iff_not];rintro(h | ⟨h,_⟩)
        · exact h1 h
        · exact h2 h
      clear h2;(go_wp2_with fail);go_ret;exact⟨zS (by rw[H0.out,Hc.out,Hd.out,decide_eq_false_iff_not];omega),hB2⟩
abbrev OwnR (w:World) (B:Nat) (A:Option Addr) (cap:Nat) (R:List xH):Prop:=Own w B 151 33 A R.length cap (R.map y9)
theorem rsorted (w:World) (A:Option Addr) (n cap:Nat) (R:List xH) (h:qX w A n R) (hn:n<=1000000) :
    Calls Tryz.prog 110 #[.slice A n cap] w fun e w'=>∃A' cap',e = .returned (.slice A' (yF x8 R).length cap')/\OwnR w' w.heap.size A' cap' (yF x8 R)/\Below w.heap.size w w':=by
  have hlen:=h.len;go_enter Tryz.func110,Tryz.ntmps110
  (go_wp2_with fail);go_loopw [3,4] (fun out i wr=>∃(k:Nat) (A1:Option Addr) (cap1:Nat),k<=n/\i = .int .i64 k/\out = .slice A1 (yF x8 (R.take k)).length cap1/\OwnR wr w.heap.size A1 cap1 (yF x8 (R.take k))/\Below w.heap.size w wr) (fun _ i _=>n-(intOf i).toNat)
  case atStart=>exact⟨0,none,0,Nat.zero_le _,rfl,rfl,Own.nil _ _ _ _,Below.refl _ _⟩
  case round =>
    obtain⟨k,A1,cap1,hk,rfl,rfl,hown,hb⟩:=hrel;by_cases hlt:k<n
    · obtain⟨q,o,rfl,hr,_,_⟩:=qX.get (SlR.below h hb) hlt (by omega);have htk:yF x8 (R.take (k+1))=xU x8 (yF x8 (R.take k)) R[k]:=by
        rw[List.take_add_one,List.getElem?_eq_getElem (by omega),Option.toList_some,bE]
      have hol:(yF x8 (R.take k)).length<=1000000:=by have:=qF (c:=x8) (R.take k);simp at this;omega
      have hris:=xE bD (R.take k);obtain⟨O,hO⟩:∃O,yF x8 (R.take k)=O:=⟨_,rfl⟩
      obtain⟨x,hx⟩:∃x,R[k]'(by omega)=x:=⟨_,rfl⟩
      rw[hx]at hr htk;rw[hO]at htk hol hown hris |-;have Htk:=Lib.hid htk;clear hx hO htk;obtain⟨WR,rfl⟩:∃WR,WR=wr:=⟨wr,rfl⟩
      have hsl:qX WR A1 O.length O:=hown.slr;have c1:=rin WR A1 O.length cap1 O x hsl (by omega);by_cases hin:x∈O
      · rw[decide_eq_true hin]at c1;have hat:=wH bD hris hin;have Hat:=Lib.hid hat;clear hat hin;(go_wp2_with fail);refine c1.mono ?_;rintro e w1 ⟨rfl,hb1⟩;have hown1:=hown.below hb1;have hbb:=hb.trans (hb1.mono hb.size);clear c1;(go_wp2_with fail);go_roundw
        case rel=>exact⟨k+1,A1,cap1,by omega,by go_num,by rw[Htk.out,Hat.out],by rw[Htk.out,Hat.out];exact hown1,hbb⟩
        case measure=>simp[intOf];omega
      · rw[decide_eq_false hin]at c1;have Hin:=Lib.hid hin;clear hin;(go_wp2_with fail);refine c1.mono ?_;rintro e w1 ⟨rfl,hb1⟩;have hown1:=hown.below hb1;have hbb:=hb.trans (hb1.mono hb.size);have hr1:z9 w1 q (o+k*33) 33=some (y9 x):=(zB (hb1.block q (zI hr)) _ _).trans hr;have hsl1:qX w1 A1 O.length O:=hown1.slr;clear c1 hr hown hb hb1 hsl;(go_wp2_with fail);go_loopw [5] (fun j wj=>∃m:Nat,m<=O.length/\j = .int .i64 m/\Hid (∀i (hi:i<O.length),i<m->x8 O[i] x<0)/\Below w1.heap.size w1 wj) (fun j _=>O.length-(intOf j).toNat)
        case atStart=>exact⟨0,Nat.zero_le _,rfl,(show ∀i (hi:i<O.length),i<0->_ from fun i _ h=>absurd h (by omega)),Below.refl _ _⟩
        case round =>
          obtain⟨m,hmO,rfl,hlow,hbj⟩:=hrel;have hrj:z9 wr q (o+k*33) 33=some (y9 x):=(zB (hbj.block q (zI hr1)) _ _).trans hr1;by_cases hmlt:m<O.length
          · obtain⟨g,og,rfl,hrO,_,_⟩:=qX.get (SlR.below hsl1 hbj) hmlt (by omega);obtain rfl:og=0:=by
              rcases hown1.addr with e | ⟨g',e⟩
              · cases e
              · injection e with e;injection e
            rw[Nat.zero_add]at hrO;have hmem:O[m]∈O:=List.getElem_mem _;obtain⟨y,hy⟩:∃y,O[m]'hmlt=y:=⟨_,rfl⟩
            rw[hy]at hrO hmem;have Hy:=Lib.hid hy;have Hmem:=Lib.hid hmem;clear hy hmem;have c2:=rless y x wr.drew;by_cases hyx:x8 y x<0
            · rw[decide_eq_true hyx]at c2;have Hyx:=Lib.hid hyx;clear hyx;go_upto_region 7 with fail
              refine zA (Bel wr) false (by kernel_rfl) (by kernel_rfl) (by kernel_rfl) (zC wr) ?_;have hne:=zQ wr;have hS:=zC wr;have b1:=zY hrj;have b2:=zY hrO;repeat(refine z6 ?_ ?_;(focus(simp only[z3];done));intro K hK;go_simp;refine hK _ ?_;clear hK K)
              refine zH ?_ ?_ ?_;(focus(exact hS));(focus(simp only[z3];done));intro K hK;go_simp;refine(c2).mono ?_;rintro e w' ⟨rfl,hb⟩;replace hS:=yN hS hb;refine⟨_,rfl,hS,hK _ _ ?_⟩;clear hK K hb;repeat(refine z6 ?_ ?_;(focus(simp only[z3];done));intro K hK;go_simp;refine hK _ ?_;clear hK K)
              refine zK ?_;intro hS;have hS':Below wr.heap.size wr w':=hS;have hbz:=xM hbj hS';clear b1 b2 hne hS c2;(go_wp2_with fail);go_roundw
              case rel =>
                refine⟨m+1,by omega,by go_num,(show ∀i (hi:i<O.length),i<m+1->x8 O[i] x<0 from fun i hi hlt=>?_),hbz⟩;by_cases e:i=m
                · subst e;rw[Hy.out];exact Hyx.out
                · exact hlow.out i hi (by omega)
              case measure=>simp[intOf];omega
            · rw[decide_eq_false hyx]at c2;have hat:=vP (c:=x8) O x m hmO hlow.out (fun hk'=>by
                rw[Hy.out];have h1:x8 y x≠0:=fun e=>Hin.out (by rw[<-(bD.zero _ _).1 e];exact Hmem.out);omega)
              have Hat:=Lib.hid hat;clear hyx hat;go_upto_region 7 with fail
              refine zA (Bel wr) false (by kernel_rfl) (by kernel_rfl) (by kernel_rfl) (zC wr) ?_;have hne:=zQ wr;have hS:=zC wr;have b1:=zY hrj;have b2:=zY hrO;repeat(refine z6 ?_ ?_;(focus(simp only[z3];done));intro K hK;go_simp;refine hK _ ?_;clear hK K)
              refine zH ?_ ?_ ?_;(focus(exact hS));(focus(simp only[z3];done));intro K hK;go_simp;refine(c2).mono ?_;rintro e w' ⟨rfl,hb⟩;replace hS:=yN hS hb;refine⟨_,rfl,hS,hK _ _ ?_⟩;clear hK K hb;repeat(refine z6 ?_ ?_;(focus(simp only[z3];done));intro K hK;go_simp;refine hK _ ?_;clear hK K)
              refine zK ?_;intro hS;have hS':Below wr.heap.size wr w':=hS;have hbz:=xM hbj hS';have hBw:=hbb.trans (hbz.mono hbb.size);have hownw:=hown1.below hbz;have hrw:z9 w' q (o+k*33) 33=some (y9 x):=(zB (hbz.block q (zI hr1)) _ _).trans hr1;clear b1 b2 hne hS c2 hS' hbz hrO hrj hbj;obtain⟨W,rfl⟩:∃W,W=w':=⟨w',rfl⟩
              obtain⟨A1,hA1⟩:∃A1,(some ⟨g,0,none⟩:Option Addr)=A1:=⟨_,rfl⟩
              rw[hA1]at hownw |-;clear hA1;have hown0:=Own.empty W W.heap.size 151 33 (Nat.le_refl _);have hBW:Below W.heap.size W (W.alloc (.cells #[] 151)):=(Below.refl _ _).alloc (Nat.le_refl _) _;have hcapO:=hownw.cap_le;have hlo:∀w0:World,(slS 67 (.slice A1 O.length cap1) none (some (.int .i64 m)) none).run Tryz.prog w0 = .ok (.slice A1 m cap1) w0:=fun w0=>gJ xV w0 A1 O.length cap1 m (by omega);obtain⟨Ah,ch,hhi,hhs,hhf⟩:=hownw.hi (P:=Tryz.prog) xV (m:=m) hmO;have hslo:SlR (W.alloc (.cells #[] 151)) A1 m 33 ((O.map y9).take m):=(hownw.below hBW).slr.take_ hmO;have hf1:A1=none->cap1=0:=fun e=>(hcapO.2 e).2;have hrone:∀r∈(O.map y9).take m,∀u∈r.toList,u.oneCell'=true:=fun r hr=>(by obtain⟨y',_,rfl⟩:=List.mem_map.1 (List.mem_of_mem_take hr);exact vC _);have hrone2:∀r∈(O.map y9).drop m,∀u∈r.toList,u.oneCell'=true:=fun r hr=>(by obtain⟨y',_,rfl⟩:=List.mem_map.1 (List.mem_of_mem_drop hr);exact vC _);go_upto_region 10 with(at_builtin;refine yD xV rfl hown0 rfl hslo hf1 hrone (by omega) (by omega) (by simp) ?_;intro A2 cap2 w2 hown2 hk2 hsub2)
              simp only[Nat.zero_add,List.nil_append]at hown2;have hwW:Below W.heap.size W w2:=hBW.trans (hk2.below (by simp) (by simp[blk]));have hrw2:z9 w2 q (o+k*33) 33=some (y9 x):=(zB (hwW.block q (zI hrw)) _ _).trans hrw;have hB3:Below w2.heap.size w2 (w2.alloc (.cells (y9 x) 151)):=(Below.refl _ _).alloc (Nat.le_refl _) _;have hown3:=hown2.below hB3;have hrow3:z9 (w2.alloc (.cells (y9 x) 151)) w2.heap.size 0 33=some (y9 x):=by simp[go_sem]
              have hsz2:=hwW.size;go_upto_region 11 with(at_builtin;refine yX xV rfl hown3 rfl hrow3 (vC _) (by omega) (by omega) (by simp;omega) ?_;intro A4 cap4 w4 hown4 hk4 hsub4)
              have hwW4:Below W.heap.size W w4:=(hwW.trans (hB3.mono hsz2)).trans (hk4.below (by simp;omega) (fun x hx=>(hown2.at_base hx).1));have hs4:=hhs w4 ((hownw.below hwW4).slr);have hsz4:=hwW4.size;clear hown3 hrow3 hB3 hown0 hBW hslo hrw2 hlo hcapO;go_upto_region 12 with(at_builtin;refine yD xV rfl hown4 rfl hs4 hhf hrone2 (by omega) (by omega) (by omega) ?_;intro A5 cap5 w5 hown5 hk5 hsub5)
              have hwW5:Below W.heap.size W w5:=hwW4.trans (hk5.below (by omega) (fun x hx=>(hown4.at_base hx).1));have hBW5:=hBw.trans (hwW5.mono hBw.size);have hO5:(O.map y9).take m ++ [y9 x]++(O.map y9).drop m=(yF x8 (R.take (k+1))).map y9:=by rw[Htk.out,Hat.out];simp[List.map_take,List.map_drop]
              have hL5:(yF x8 (R.take (k+1))).length=m+1+(O.length-m):=by rw[Htk.out,Hat.out];simp;omega
              rw[hO5]at hown5;have hown6:=hown5.mono hBw.size;have HL:=Lib.hid hL5;clear hown5 hown4 hown2 hO5 hL5 hs4 hhi;(go_wp2_with fail);go_roundw
              case rel=>exact⟨k+1,A5,cap5,by omega,by go_num,(by rw[HL.out]),(show Own _ _ _ _ _ _ _ _ by rw[HL.out];exact hown6),hBW5⟩
              case measure=>simp[intOf];omega
          · have hd:decide (m<O.length)=false:=by simpa using hmlt
            have hat:=vP (c:=x8) O x m hmO hlow.out (fun hk'=>absurd hk' hmlt);have Hat:=Lib.hid hat;clear hat;go_upto_region 7 with fail
            refine zA (Bel wr) false (by kernel_rfl) (by kernel_rfl) (by kernel_rfl) (zC wr) ?_;have hne:=zQ wr;have hS:=zC wr;repeat(refine z6 ?_ ?_;(focus(simp only[z3];done));intro K hK;go_simp;refine hK _ ?_;clear hK K)
            refine zH ?_ ?_ ?_;(focus(exact hS));(focus(simp only[z3];done));intro K hK;go_simp;refine hK _ _ ?_;clear hK K;repeat(refine z6 ?_ ?_;(focus(simp only[z3];done));intro K hK;go_simp;refine hK _ ?_;clear hK K)
            refine zK ?_;intro hS;have hbz:=hbj.drew;have hBw:=hbb.trans (hbz.mono hbb.size);have hownw:=hown1.below hbz;have hrw:z9 wr.drew q (o+k*33) 33=some (y9 x):=hrj;clear hne hS hbz hrj hbj hmlt hd;obtain⟨W,hW⟩:∃W,wr.drew=W:=⟨_,rfl⟩
            rw[hW]at hownw hBw hrw |-;clear hW;have hown0:=Own.empty W W.heap.size 151 33 (Nat.le_refl _);have hBW:Below W.heap.size W (W.alloc (.cells #[] 151)):=(Below.refl _ _).alloc (Nat.le_refl _) _;have hcapO:=hownw.cap_le;have hlo:∀w0:World,(slS 67 (.slice A1 O.length cap1) none (some (.int .i64 m)) none).run Tryz.prog w0 = .ok (.slice A1 m cap1) w0:=fun w0=>gJ xV w0 A1 O.length cap1 m (by omega);obtain⟨Ah,ch,hhi,hhs,hhf⟩:=hownw.hi (P:=Tryz.prog) xV (m:=m) hmO;have hslo:SlR (W.alloc (.cells #[] 151)) A1 m 33 ((O.map y9).take m):=(hownw.below hBW).slr.take_ hmO;have hf1:A1=none->cap1=0:=fun e=>(hcapO.2 e).2;have hrone:∀r∈(O.map y9).take m,∀u∈r.toList,u.oneCell'=true:=fun r hr=>(by obtain⟨y',_,rfl⟩:=List.mem_map.1 (List.mem_of_mem_take hr);exact vC _);have hrone2:∀r∈(O.map y9).drop m,∀u∈r.toList,u.oneCell'=true:=fun r hr=>(by obtain⟨y',_,rfl⟩:=List.mem_map.1 (List.mem_of_mem_drop hr);exact vC _);go_upto_region 10 with(at_builtin;refine yD xV rfl hown0 rfl hslo hf1 hrone (by omega) (by omega) (by simp) ?_;intro A2 cap2 w2 hown2 hk2 hsub2)
            simp only[Nat.zero_add,List.nil_append]at hown2;have hwW:Below W.heap.size W w2:=hBW.trans (hk2.below (by simp) (by simp[blk]));have hrw2:z9 w2 q (o+k*33) 33=some (y9 x):=(zB (hwW.block q (zI hrw)) _ _).trans hrw;have hB3:Below w2.heap.size w2 (w2.alloc (.cells (y9 x) 151)):=(Below.refl _ _).alloc (Nat.le_refl _) _;have hown3:=hown2.below hB3;have hrow3:z9 (w2.alloc (.cells (y9 x) 151)) w2.heap.size 0 33=some (y9 x):=by simp[go_sem]
            have hsz2:=hwW.size;go_upto_region 11 with(at_builtin;refine yX xV rfl hown3 rfl hrow3 (vC _) (by omega) (by omega) (by simp;omega) ?_;intro A4 cap4 w4 hown4 hk4 hsub4)
            have hwW4:Below W.heap.size W w4:=(hwW.trans (hB3.mono hsz2)).trans (hk4.below (by simp;omega) (fun x hx=>(hown2.at_base hx).1));have hs4:=hhs w4 ((hownw.below hwW4).slr);have hsz4:=hwW4.size;clear hown3 hrow3 hB3 hown0 hBW hslo hrw2 hlo hcapO;go_upto_region 12 with(at_builtin;refine yD xV rfl hown4 rfl hs4 hhf hrone2 (by omega) (by omega) (by omega) ?_;intro A5 cap5 w5 hown5 hk5 hsub5)
            have hwW5:Below W.heap.size W w5:=hwW4.trans (hk5.below (by omega) (fun x hx=>(hown4.at_base hx).1));have hBW5:=hBw.trans (hwW5.mono hBw.size);have hO5:(O.map y9).take m ++ [y9 x]++(O.map y9).drop m=(yF x8 (R.take (k+1))).map y9:=by rw[Htk.out,Hat.out];simp[List.map_take,List.map_drop]
            have hL5:(yF x8 (R.take (k+1))).length=m+1+(O.length-m):=by rw[Htk.out,Hat.out];simp;omega
            rw[hO5]at hown5;have hown6:=hown5.mono hBw.size;have HL:=Lib.hid hL5;clear hown5 hown4 hown2 hO5 hL5 hs4 hhi;(go_wp2_with fail);go_roundw
            case rel=>exact⟨k+1,A5,cap5,by omega,by go_num,(by rw[HL.out]),(show Own _ _ _ _ _ _ _ _ by rw[HL.out];exact hown6),hBW5⟩
            case measure=>simp[intOf];omega
    · (go_wp2_with fail);go_ret;have e:k=n:=by omega
      have e2:R.take k=R:=List.take_of_length_le (by omega);refine⟨A1,cap1,?_,(by rw[e2]at hown;exact hown),hb⟩;rw[e2];rfl
section
open Go.RowKit
def RefAt (w:World) (g:Nat) (X G:List xH):Prop :=
  ∃A n cap A' n' cap',w.heap[g]? = some (.cells #[.slice A n cap,.slice A' n' cap'] 69 (0,0))/\qX w A n X/\qX w A' n' G/\(A=none->cap=0)/\(A'=none->cap'=0)/\(∀x∈blk A,g<x)/\(∀x∈blk A',g<x)
section
variable {w w':World} {g:Nat} {X G:List xH}
end
def RefIn (w:World) (g:Nat) (X G:List xH):Prop :=
  ∃A n cap A' n' cap',w.heap[g]? = some (.cells #[.slice A n cap,.slice A' n' cap'] 69 (0,0))/\qX w A n X/\qX w A' n' G
theorem B9 (X:List xH):∀r∈X.map y9,∀u∈r.toList,u.oneCell'=true:=by
  intro r hr;obtain⟨x,_,rfl⟩:=List.mem_map.1 hr;exact vC x
end
def gR (X G:List xH):List xH:=(yF x8 X).filter fun x=>decide (x∉G)
theorem xq (X G:List xH):(gR X G).length<=X.length:=Nat.le_trans (List.length_filter_le _ _) (qF X)
theorem QV {α:Type} (p:α->Bool) (L:List α) (k:Nat) (hk:k<L.length):(L.take (k+1)).filter p=if p L[k]then(L.take k).filter p ++ [L[k]]else(L.take k).filter p:=by
  rw[List.take_add_one,List.getElem?_eq_getElem hk,Option.toList_some,List.filter_append];split
  · rename_i h;rw[List.filter_cons,if_pos h];rfl
  · rename_i h;rw[List.filter_cons,if_neg h];simp
@[go_sem] theorem bsPair0_run (w:World):(bsS 41 0 #[]).run Tryz.prog w = .ok (.slice (some ⟨w.heap.size,0,none⟩) 0 0) (w.alloc (.cells #[] 122)):=gK yL w
def bQ (s:ByteArray):Array Value:=zN (gM s)
theorem lL (s:ByteArray):∀u∈(bQ s).toList,u.oneCell'=true:=xQ _
theorem VV (L:List xH) (k:Nat) (hk:k<L.length):kD (L.take (k+1))=xU xP (kD (L.take k)) (L[k]).val:=by
  unfold kD;rw[List.take_add_one,List.getElem?_eq_getElem hk,Option.toList_some,List.map_append,List.map_cons,List.map_nil,bE]
structure RV where
  tal:Int
  adds:List xH
  gone:List xH
  last:List Row
  mL:List j6
  mO:List zJ
  sL:List zT
  sG:List zJ
def rv0:RV:=⟨0,[],[],[],[],[],[],[]⟩
def Y5 (m:zG):Row:=⟨(oOf m).key,(oOf m).val,(oOf m).n,m.id⟩
def cS (m:zG) (x:RV):RV :=
  if(oOf m).k=1 then { x with tal:=wrap64 (x.tal+(oOf m).n) }
  else if(oOf m).k=2 then { x with adds:=x.adds ++ [⟨m.id,(oOf m).val⟩] }
  else if(oOf m).k=3 then { x with gone:=x.gone++(oOf m).refs.map fun t=>⟨t,(oOf m).val⟩ }
  else if(oOf m).k=4 then { x with last:=x.last ++ [Y5 m] }
  else if(oOf m).k=5 then { x with mL:=x.mL ++ [mK m],mO:=yF zO (x.mO++(oOf m).refs) }
  else if(oOf m).k=6 then { x with sL:=tQ x.sL (jU m) }
  else { x with sG:=xU zO x.sG (oOf m).ref }
def fE (t:ByteArray) (m:zG) (x:RV):RV:=if kE t m then cS m x else x
def aL (x:RV):VSt->Prop
  | .t n=>x.tal=n
  | .b L G=>Ris x8 L/\Ris x8 G/\(∀z,z∈G↔z∈x.gone)/\∀z,z∈L↔z∈x.adds/\z∉x.gone
  | .l L=>L=(xR x.last).map XO/\iO L/\∀r∈x.last,bU r.key (cJ r)=0
  | .m X O=>Ris vN X/\Ris zO O/\O=x.mO/\∀z,z∈X↔z∈x.mL/\z.id∉O
  | .s N G=>Ris zO G/\G=x.sG/\vH x.sL/\∀z,z∈N↔z∈x.sL
theorem rel_new (k:Int):aL rv0 (VSt.new k):=by
  unfold VSt.new;split
  · rfl
  split
  · exact⟨Ris.nil,Ris.nil,by simp[rv0],by simp[rv0]⟩
  split
  · exact⟨rfl,⟨trivial,by simp⟩,by simp[rv0]⟩
  split
  · exact⟨Ris.nil,Ris.nil,rfl,by simp[rv0]⟩
  · exact⟨Ris.nil,rfl,vH.nil,by simp[rv0]⟩
theorem ZQ {k:Nat} (h1:1<=k) (h7:k<=7):k7 k=if k=1 then 1 else if k<=3 then 2 else if k=4 then 3 else if k=5 then 4 else 5:=by
  have:k=1\/k=2\/k=3\/k=4\/k=5\/k=6\/k=7:=by omega
  rcases this with rfl | rfl | rfl | rfl | rfl | rfl | rfl <;> rfl
theorem jp (l:List UInt8) (e:Int):0<=(yT 4 l e).o.n:=by
  show(0:Int)<=((xO 4 _ _:Nat):Int);omega
theorem takeO_k {k:Nat} (l:List UInt8) (e:Int) (h1:1<=k) (h7:k<=7):(yT k l e).o.k=k:=by
  have:k=1\/k=2\/k=3\/k=4\/k=5\/k=6\/k=7:=by omega
  rcases this with rfl | rfl | rfl | rfl | rfl | rfl | rfl <;> rfl
theorem opO_n4 (l:List UInt8) (h:opE l=0) (hk:(opO l).k=4):0<=(opO l).n:=by
  have hr:1<=xO 1 l 0/\xO 1 l 0<=7:=by
    unfold opE at h;split at h
    · contradiction
    split at h
    · cases h
    · omega
  have e:(opO l).k=xO 1 l 0:=takeO_k _ _ hr.1 hr.2;unfold opO;rw[e]at hk;rw[hk];exact jp _ _
theorem rC {m:zG} (h:opE m.body.data.toList=0) (hk:(oOf m).k=4):bU (oOf m).key (vA m)=0:=by
  have ho:=fF _ h;have hn:0<=(oOf m).n:=opO_n4 _ h hk;have h1:(oOf m).key.size<=16:=ho.2.2.2.1;have h2:(oOf m).val.size<=16:=ho.2.2.2.2.1;have h3:(oOf m).n<2147483648:=ho.2.2.2.2.2.2.2;unfold bU vA;dsimp only;rw[if_neg (by omega),if_neg (by omega)]
theorem vu {x:RV} {m:zG} {s:VSt} (h:aL x s) (he:opE m.body.data.toList=0) (hk:k7 (oOf m).k=s.kind):aL (cS m x) (doS m (oOf m) s):=by
  have ho:gL (oOf m)/\1<=(oOf m).k/\(oOf m).k<=7/\(oOf m).key.size<=16/\(oOf m).val.size<=16/\(oOf m).refs.length<=8/\bN (oOf m).refs=true/\(oOf m).n<2147483648:=fF _ he;rw[ZQ ho.2.1 ho.2.2.1]at hk;have h7:=ho.2.2.1;have h1:=ho.2.1;cases s with
  | t n =>
    have hk1:(oOf m).k=1:=by
      have:VSt.kind (.t n)=1:=rfl;rw[this]at hk
      repeat' split at hk
      all_goals first | assumption | (exact absurd hk (by decide))
    unfold cS;rw[if_pos hk1];show wrap64 (x.tal+(oOf m).n)=wrap64 (n+(oOf m).n);have e:x.tal=n:=h;rw[e]
  | b L G =>
    obtain⟨a1,a2,a3,a4⟩:=h;have hk1:(oOf m).k=2\/(oOf m).k=3:=by
      have:VSt.kind (.b L G)=2:=rfl;rw[this]at hk
      repeat' split at hk
      all_goals first | omega | (exact absurd hk (by decide))
    rcases hk1 with hk1 | hk1
    · rw[iC m _ L G hk1];unfold cS;rw[if_neg (by omega),if_pos hk1];refine⟨XT a1,a2,a3,fun z=>?_⟩;rw[Q3 (x:=⟨m.id,(oOf m).val⟩) ho.2.2.2.2.1 a1 (fun y hy hg=>((a4 y).1 hy).2 ((a3 y).1 hg)),a4,a3,List.mem_append,List.mem_singleton];constructor
      · rintro⟨⟨h5,_⟩ | h5,h6⟩
        · exact⟨.inl h5,h6⟩
        · exact⟨.inr h5,h6⟩
      · rintro⟨h5 | h5,h6⟩
        · exact⟨.inl ⟨h5,h6⟩,h6⟩
        · exact⟨.inr h5,h6⟩
    · rw[iB m _ L G (by omega)];unfold cS;rw[if_neg (by omega),if_neg (by omega),if_pos hk1];have hmap:∀z:xH,z∈(oOf m).refs.map (fun t=>(⟨t,(oOf m).val⟩:xH))↔z.val=(oOf m).val/\z.tag∈(oOf m).refs:=fun z=>by
        rw[List.mem_map];constructor
        · rintro⟨t,ht,rfl⟩;exact⟨rfl,ht⟩
        · rintro⟨e1,e2⟩;exact⟨z.tag,e2,by cases z;simp_all⟩
      refine⟨cM a1,cN a2,fun z=>?_,fun z=>?_⟩
      · rw[nR,a3,List.mem_append,hmap]
      · rw[eI,a4,List.mem_append,hmap];constructor
        · rintro⟨⟨h5,h6⟩,h8⟩;exact⟨h5,fun h=>h.elim h6 h8⟩
        · rintro⟨h5,h6⟩;exact⟨⟨h5,fun h=>h6 (.inl h)⟩,fun h=>h6 (.inr h)⟩
  | l L =>
    obtain⟨a1,a2,a3⟩:=h;have hk1:(oOf m).k=4:=by
      have:VSt.kind (.l L)=3:=rfl;rw[this]at hk
      repeat' split at hk
      all_goals first | assumption | (exact absurd hk (by decide))
    have hc:=rC he hk1;unfold cS;rw[if_neg (by omega),if_neg (by omega),if_neg (by omega),if_pos hk1];show iZ L (oOf m).key (vA m)=(xR (x.last ++ [Y5 m])).map XO/\_;refine⟨?_,KT a2 _ _,fun r hr=>?_⟩
    · unfold iZ;rw[if_pos hc,nZ,QE,a1];rfl
    · rcases List.mem_append.1 hr with h5 | h5
      · exact a3 r h5
      · have e:r=Y5 m:=by simpa using h5
        rw[e];exact hc
  | m X O =>
    obtain⟨a1,a2,a3,a4⟩:=h;have hk1:(oOf m).k=5:=by
      have:VSt.kind (.m X O)=4:=rfl;rw[this]at hk
      repeat' split at hk
      all_goals first | assumption | (exact absurd hk (by decide))
    unfold cS;rw[if_neg (by omega),if_neg (by omega),if_neg (by omega),if_neg (by omega),if_pos hk1];have hO:cY O (oOf m).refs=yF zO (x.mO++(oOf m).refs):=jT qP (cW a2) (xE qP _) fun z=>(by rw[nS a2,qI qP,List.mem_append,a3]);refine⟨(vR t9 a1).filter _,cW a2,hO,fun z=>?_⟩;show z∈VT (xU vN X (mK m)) (cY O (oOf m).refs)↔z∈x.mL ++ [mK m]/\_;unfold VT;rw[List.mem_filter,vE t9,a4,List.mem_append,List.mem_singleton];simp only[decide_eq_true_eq];constructor
    · rintro⟨h5 | ⟨h5,_⟩,h6⟩
      · exact⟨.inr h5,h6⟩
      · exact⟨.inl h5,h6⟩
    · rintro⟨h5 | h5,h6⟩
      · exact⟨.inr ⟨h5,fun h=>h6 ((nS a2).2 (.inl h))⟩,h6⟩
      · exact⟨.inl h5,h6⟩
  | s N G =>
    obtain⟨a1,a2,a3,a4⟩:=h;have hk1:(oOf m).k=6\/(oOf m).k=7:=by
      have:VSt.kind (.s N G)=5:=rfl;rw[this]at hk
      repeat' split at hk
      all_goals first | omega | (exact absurd hk (by decide))
    unfold cS;rw[if_neg (by omega),if_neg (by omega),if_neg (by omega),if_neg (by omega),if_neg (by omega)];rcases hk1 with hk1 | hk1
    · rw[iA m _ N G hk1,if_pos hk1];refine⟨a1,a2,a3.ins _,fun z=>?_⟩;show z∈aH N (jU m)↔z∈tQ x.sL (jU m);have hids:(jU m).id∈N.map zT.id↔(jU m).id∈x.sL.map zT.id:=by
        simp only[List.mem_map,a4]
      unfold aH tQ;by_cases hE:g6 (jU m)=0
      · rw[if_pos hE,if_pos hE];by_cases hn:(jU m).id∈N.map zT.id
        · rw[if_pos hn,if_pos (hids.1 hn)];exact a4 z
        · rw[if_neg hn,if_neg (fun h=>hn (hids.2 h)),List.mem_append,List.mem_singleton,vE ZY,a4];exact Or.comm
      · rw[if_neg hE,if_neg hE];exact a4 z
    · rw[i9 m _ N G (by omega),if_neg (by omega)];exact⟨vR qP a1,by rw[a2],a3,a4⟩
theorem V8 {x:RV} {t:ByteArray} {m:zG} {s:VSt} (h:aL x s) (hk:yO t=s.kind):aL (fE t m x) (t7 t m s):=by
  unfold fE t7;by_cases hf:kE t m
  · rw[if_pos hf,if_pos hf];exact vu h hf.1 (hf.2.trans hk)
  · rw[if_neg hf,if_neg hf];exact h
theorem dI {α β:Type} (f:α->List β) (k:Nat):∀l:List α,(∀a∈l,(f a).length<=k)->(l.flatMap f).length<=l.length*k
  | [],_=>by simp
  | a :: l,h=>by
    have h1:=h a (by simp);have h2:=dI f k l (fun b hb=>h b (by simp[hb]));simp only[List.flatMap_cons,List.length_append,List.length_cons,Nat.add_mul];omega
section
open Go.RowKit Go.Sort Go.Shelf
def rowMB (x:j6):List UInt8:=x.id.l++(beL 1 x.key.size++(x.key.data.toList++(beL 1 x.val.size++x.val.data.toList)))
def idsB (O:List zJ):List UInt8:=beL 4 O.length++O.flatMap zJ.l
def putMB (X:List j6) (O:List zJ):List UInt8:=beL 4 X.length++X.flatMap rowMB++idsB O
end
def cG (N:List zT):List zT:=yF pK N
theorem xf {N:List zT} {n:zT}:n∈cG N↔n∈N:=qI ZY
theorem zk {N:List zT} (h:OneId N):Ris zO ((cG N).map zT.id):=by
  have hr:Ris pK (cG N):=xE ZY N;have hN:∀n,n∈cG N->n∈N:=fun n=>xf.1;unfold Ris at hr |-;rw[List.pairwise_map];refine List.Pairwise.imp_of_mem ?_ hr;intro a b ha hb hab;have hne:a.id≠b.id:=fun e=>by
    have:=h a (hN a ha) b (hN b hb) e;subst this;exact ZY.irr a hab
  have h0:zO a.id b.id≠0:=fun e=>hne ((jO _ _).1 e);unfold pK orC at hab;rw[if_neg h0]at hab;exact hab
def nodeB (n:zT):List UInt8:=n.id.l++(beL 4 n.h.toNat++(n.ref.l++(beL 1 n.val.size++n.val.data.toList)))
def putSB (N:List zT) (G:List zJ):List UInt8:=beL 4 (cG N).length++(cG N).flatMap nodeB++idsB G
section
open Go.RowKit
end
def u64N (n:Int):Nat:=(n % 18446744073709551616).toNat
def putTB (n:Int):List UInt8:=beL 4 (u64N n / 4294967296)++beL 4 (u64N n % 4294967296)
def rowB (x:xH):List UInt8:=x.tag.l++(beL 1 x.val.size++x.val.data.toList)
def rowsB (L:List xH):List UInt8:=beL 4 L.length++L.flatMap rowB
def putB (L G:List xH):List UInt8:=rowsB L++rowsB G
abbrev RowsAt (w:World) (A:Option Addr) (n:Nat) (R:List xH):Prop:=SlR w A n 33 (R.map y9)
section
open Go.RowKit Go.Sort Go.Shelf
end
def stB:VSt->List UInt8
  | .t n=>putTB n
  | .b L G=>putB L G
  | .l L=>putLB L
  | .m X O=>putMB X O
  | .s N G=>putSB N G
def putVB (I:List zJ) (s:VSt):List UInt8:=idsB (yF zO I)++stB s
def VSt.big:VSt->Nat
  | .t _=>0
  | .b L G=>L.length+G.length
  | .l L=>L.length
  | .m X O=>X.length+O.length
  | .s N G=>N.length+G.length
def VSt.ris:VSt->Prop
  | .s _ G=>Ris zO G
  | _=>True
theorem doS_big (m:zG) (o:OpV) (s:VSt) (ho:o.refs.length<=8):(doS m o s).big<=s.big+9:=by
  cases s with
  | t n=>exact Nat.zero_le _
  | b L G =>
    by_cases h:o.k=2
    · rw[iC m o L G h];show(aI L G ⟨m.id,o.val⟩).length+G.length<=L.length+G.length+9;unfold aI;have:=jX (c:=x8) L ⟨m.id,o.val⟩
      repeat' split
      all_goals omega
    · rw[iB m o L G h];show(a8 L o.val o.refs).length+(a9 G o.val o.refs).length<=L.length+G.length+9;have h1:=cR o.val o.refs L;have h2:∀(T:List zJ) (G:List xH),(a9 G o.val T).length<=G.length+T.length:=by
        intro T;induction T with
        | nil=>intro G;exact Nat.le_refl _
        | cons x T ih=>intro G;have h3:=ih (xU x8 G ⟨x,o.val⟩);have h4:=jX (c:=x8) G ⟨x,o.val⟩;unfold a9 at h3 |-;simp only[List.foldl_cons,List.length_cons];omega
      have h3:=h2 o.refs G;omega
  | l L=>exact Nat.le_trans (rV _ _ _) (by show L.length+1<=L.length+9;omega)
  | m X Ov =>
    show(zn X Ov ⟨m.id,o.key,o.val⟩ o.refs).length+(cY Ov o.refs).length<=X.length+Ov.length+9;have h1:(zn X Ov ⟨m.id,o.key,o.val⟩ o.refs).length<=X.length+1:=by
      unfold zn VT;exact Nat.le_trans (List.length_filter_le _ _) (jX (c:=vN) X _)
    have h2:∀(T G:List zJ),(cY G T).length<=G.length+T.length:=by
      intro T;induction T with
      | nil=>intro G;exact Nat.le_refl _
      | cons x T ih=>intro G;have h3:=ih (xU zO G x);have h4:=jX (c:=zO) G x;unfold cY at h3 |-;simp only[List.foldl_cons,List.length_cons];omega
    have h3:=h2 o.refs Ov;omega
  | s N G =>
    by_cases h:o.k=6
    · rw[iA m o N G h];show(aH N ⟨m.id,m.h,o.ref,o.val⟩).length+G.length<=N.length+G.length+9;unfold aH;repeat' split
      all_goals simp
      all_goals omega
    · rw[i9 m o N G h];have:=jX (c:=zO) G o.ref;show N.length+(xU zO G o.ref).length<=N.length+G.length+9;omega
theorem qf (t:ByteArray) (m:zG) (s:VSt):(t7 t m s).big<=s.big+9:=by
  unfold t7;split
  · rename_i h;exact doS_big _ _ _ (fF _ h.1).2.2.2.2.2.1
  · omega
theorem doS_ris (m:zG) (o:OpV) (s:VSt) (h:s.ris):(doS m o s).ris:=by
  cases s with
  | s N G =>
    by_cases hk:o.k=6
    · rw[iA m o N G hk];exact h
    · rw[i9 m o N G hk];exact vR qP h
  | b L G =>
    by_cases hk:o.k=2
    · rw[iC m o L G hk];trivial
    · rw[iB m o L G hk];trivial
  | t n=>trivial
  | l L=>trivial
  | m X Ov=>trivial
theorem qd (t:ByteArray) (m:zG) (s:VSt) (h:s.ris):(t7 t m s).ris:=by
  unfold t7;split
  · exact doS_ris _ _ _ h
  · exact h
theorem ZD:(Tryz.prog.info? 143).map (·.size)=some 34:=by kernel_rfl
@[go_sem ↓] theorem iU (w:World):(zeroValue 143).run Tryz.prog w = .ok (.agg (zX rZ)) w:=by
  have h:(Tryz.prog.info? 143).bind (·.zero)=some (.agg (zX rZ)):=by kernel_rfl
  cases hi:Tryz.prog.info? 143 with
  | none=>rw[hi]at h;cases h
  | some i =>
    rw[hi]at h;have hz:i.zero=some (.agg (zX rZ)):=h;simp[zeroValue,typeInfo,hi,hz]
@[go_sem ↓] theorem loadRMRow_rw (a:Addr):loadVar 143 a=ldS 143 a:=rfl
@[go_sem ↓] theorem storeRMRow_rw (a:Addr) (v:Value):storeVar 143 a v=stS 143 a v:=rfl
@[go_sem] theorem loadRMRow_run (w:World) (g o:Nat):(ldS 143 ⟨g,o,none⟩).run Tryz.prog w=match z9 w g o 34 with | some cs=>.ok (.agg cs) w | none=>(loadVar 143 ⟨g,o,none⟩).run Tryz.prog w :=
  vD Tryz.underlying143 rfl ZD w g o
@[go_sem] theorem ju (w:World) (g:Nat) (hg:g=w.heap.size) (z:Array Value) (hz:z.size=34) (x:j6) (e:TypeId):(stS 143 ⟨g,0,none⟩ (.agg (zX x))).run Tryz.prog (w.alloc (.cells z e)) = .ok () (w.alloc (.cells (zX x) e)) :=
  hg ▸ qB ZD w z (zX x) hz (wU x) (vS x)
theorem s9:Tryz.prog.underlying 143=some (.struct (Tryz.prog.fieldsOf 143)):=by kernel_rfl
theorem XZ (w:World):((Tryz.prog.fieldsOf 143).mapM fun (f:Field)=>do pure (f.offset,<-sizeOf f.type)).run Tryz.prog w = .ok #[(0,32),(32,1),(33,1)] w:=by kernel_rfl
@[go_sem ↓] theorem buildRMRow_rw (parts:Array (Nat×Value)):Instr.build 143 parts=bdS 143 parts:=rfl
@[go_sem] theorem buildRMRow (a0:zJ) (a1:ByteArray) (a2:ByteArray) (w:World):(bdS 143 #[(0,.agg (idC a0)),(1,.string a1),(2,.string a2)]).run Tryz.prog w = .ok (.agg (zX ⟨a0,a1,a2⟩)) w:=by
  refine vB w s9 _ (iU w) _ (XZ w) [(0,.agg (idC a0)),(1,.string a1),(2,.string a2)] _ ?_;rw[show zX rZ=(#[]:Array Value)++idC id0++(#[.string ⟨#[]⟩]++(#[.string ⟨#[]⟩]))from by first | (simp[zX,rZ,Array.append_assoc];done) | (apply Array.ext';simp[zX,rZ])];rw[xD (off:=0) (size:=32) rfl (by simp) (by simp) (by simp[Value.cells])];rw[show(#[]:Array Value)++(Value.agg (idC a0)).cells++(#[.string ⟨#[]⟩]++(#[.string ⟨#[]⟩]))=(idC a0) ++ #[.string ⟨#[]⟩]++(#[.string ⟨#[]⟩])from by first | (simp[Value.cells,Array.append_assoc];done) | (apply Array.ext';simp[Value.cells];done) | (apply Array.ext';simp only[Array.toList_append];simp[Value.cells])];rw[xD (off:=32) (size:=1) rfl (by simp) (by simp) (by simp[Value.cells])];rw[show(idC a0)++(Value.string a1).cells++(#[.string ⟨#[]⟩])=(idC a0++(#[.string a1])) ++ #[.string ⟨#[]⟩]++(#[]:Array Value)from by first | (simp[Value.cells,Array.append_assoc];done) | (apply Array.ext';simp[Value.cells];done) | (apply Array.ext';simp only[Array.toList_append];simp[Value.cells])];rw[xD (off:=33) (size:=1) rfl (by simp) (by simp) (by simp[Value.cells])];first | (simp[Instr.fill,zX,Array.append_assoc,Value.cells];done) | (simp only[Instr.fill,zX];congr 1;apply Array.ext';simp[Value.cells];done) | (simp only[Instr.fill,zX];congr 1;done) | (simp only[Instr.fill,zX];done)
theorem v8:yY Tryz.prog 71 143 34 64 :=
  .of (z:=.agg (zX rZ)) Tryz.underlying71 (by kernel_rfl) (by kernel_rfl) (by kernel_rfl) (wU _) (by omega)
@[go_sem ↓] theorem bsRM_rw (n:Nat) (parts:Array (Nat×Value)):Instr.buildSlice 71 n parts=bsS 71 n parts:=rfl
@[go_sem] theorem bsRM_run (w:World) (x:j6):(bsS 71 1 #[(0,.agg (zX x))]).run Tryz.prog w = .ok (.slice (some ⟨w.heap.size,0,none⟩) 1 1) (w.alloc (.cells (zX x) 143)) :=
  k8 v8 (by omega) w (zX x) (wU x)
@[go_sem] theorem bsRM0_run (w:World):(bsS 71 0 #[]).run Tryz.prog w = .ok (.slice (some ⟨w.heap.size,0,none⟩) 0 0) (w.alloc (.cells #[] 143)):=gK v8 w
@[go_sem ↓] theorem slRM_rw (x:Value) (lo hi mx:Option Value):Instr.sliceAt 71 x lo hi mx=slS 71 x lo hi mx:=rfl
def xp (x y:j6):Bool:=(x.id==y.id)&&((x.key.toList==y.key.toList)&&(x.val.toList==y.val.toList))
theorem mEqB_eq (x y:j6):xp x y=decide (x=y):=by
  unfold xp;rw[Bool.eq_iff_iff];simp only[Bool.and_eq_true,beq_iff_eq,toList_inj,decide_eq_true_eq];refine⟨fun h=>?_,fun h=>by subst h;exact⟨rfl,rfl,rfl⟩⟩;cases x;cases y
  obtain⟨h1,h2,h3⟩:=h;dsimp only at h1 h2 h3;subst h1;subst h2;subst h3;rfl
theorem eqRM_in (x y:j6) (w:World):(Op.equalIn 10000 143 (.agg (zX x)) (.agg (zX y))).run Tryz.prog w = .ok (xp x y) w:=by
  rw[show(10000:Nat)=9999+1 from rfl,run_equalIn_agg w 9999 143 _ _ s9 (by kernel_rfl)];unfold xp;have e1:=sR 9997 x.id y.id w;have e2:=run_equalIn_string (P:=Tryz.prog) w 9998 9 x.key y.key Tryz.underlying9;have e3:=run_equalIn_string (P:=Tryz.prog) w 9998 9 x.val y.val Tryz.underlying9;simp only[Program.fieldsOf,Tryz.underlying143];simp[Op.eqFields,part,asAgg,isAgg,go_sem,Tryz.underlying9,Tryz.underlying24,e1,e2,e3];cases h1:(x.id==y.id) <;> cases h2:(x.key.toList==y.key.toList) <;> cases h3:(x.val.toList==y.val.toList) <;> simp_all
@[go_sem ↓] theorem eqRM_run (x y:j6) (w:World):(Op.equalIn 10000 143 (.agg (zX x)) (.agg (zX y))).run Tryz.prog w = .ok (xp x y) w:=eqRM_in x y w
abbrev fN (w:World) (A:Option Addr) (n:Nat) (R:List j6):Prop:=SlR w A n 34 (R.map zX)
theorem fN.len {w:World} {A:Option Addr} {n:Nat} {R:List j6} (h:fN w A n R):R.length=n:=by simpa using h.1
theorem fN.get {w:World} {A:Option Addr} {n:Nat} {R:List j6} (h:fN w A n R) {i:Nat} (hi:i<n) (hR:i<R.length) :
    ∃g o,A=some ⟨g,o,none⟩/\z9 w g (o+i*34) 34=some (zX R[i])/\z9 w g (o+i*34) 32=some (idC (R[i]).id)/\w.cell? ⟨g,o+i*34+32,none⟩=some (.string (R[i]).key)/\w.cell? ⟨g,o+i*34+33,none⟩=some (.string (R[i]).val):=by
  obtain⟨g,o,e,hr⟩:=h.at_ hi;rw[List.getElem_map]at hr;refine⟨g,o,e,hr,?_,?_,?_⟩
  · have:=zV hr (j:=0) (m:=32) (by omega)
    rwa [nY]at this
  · have:=z8 hr (j:=32) (by omega)
    rwa [lP]at this
  · have:=z8 hr (j:=33) (by omega)
    rwa [lO]at this
theorem YE (a b:Int):orC a b<0↔a<0\/(a=0/\b<0):=by
  unfold orC;split <;> omega
theorem cmpMR_lt (x y:j6):vN x y<0↔zO x.id y.id<0\/(zO x.id y.id=0/\(xP x.key y.key<0\/(x.key=y.key/\xP x.val y.val<0))):=by
  unfold vN;rw[orL3,YE,YE,fH]
theorem rmless (x y:j6) (w:World):Calls Tryz.prog 113 #[.agg (zX x),.agg (zX y)] w fun e w'=>e = .returned (.bool (decide (vN x y<0)))/\Below w.heap.size w w':=by
  have hB:Below w.heap.size w ((w.alloc (.cells (zX x) 143)).alloc (.cells (zX y) 143)):=((Below.refl _ _).alloc (Nat.le_refl _) _).alloc (by simp) _;have h0:decide (vN x y<0)=decide (zO x.id y.id<0\/(zO x.id y.id=0/\(xP x.key y.key<0\/(x.key=y.key/\xP x.val y.val<0)))):=decide_eq_decide.2 (cmpMR_lt x y);have hs:=bA x.key y.key;have hs2:=bA x.val y.val;have ra:z9 ((w.alloc (.cells (zX x) 143)).alloc (.cells (zX y) 143)) w.heap.size 0 34=some (zX x):=by simp[go_sem]
  have rb:z9 ((w.alloc (.cells (zX x) 143)).alloc (.cells (zX y) 143)) (w.heap.size+1) 0 34=some (zX y):=by simp[go_sem]
  have H0:=Lib.hid h0;clear h0;go_enter Tryz.func113,Tryz.ntmps113
  go_upto_region 1 with fail
  generalize (w.alloc (.cells (zX x) 143)).alloc (.cells (zX y) 143)=W at *;have a1:z9 W w.heap.size 0 32=some (idC x.id):=by have:=zV ra (j:=0) (m:=32) (by omega);rwa [nY]at this
  have a2:W.cell? ⟨w.heap.size,32,none⟩=some (.string x.key):=by have:=z8 ra (j:=32) (by omega);rwa [lP,Nat.zero_add]at this
  have a5:W.cell? ⟨w.heap.size,33,none⟩=some (.string x.val):=by have:=z8 ra (j:=33) (by omega);rwa [lO,Nat.zero_add]at this
  have a3:z9 W (w.heap.size+1) 0 32=some (idC y.id):=by have:=zV rb (j:=0) (m:=32) (by omega);rwa [nY]at this
  have a4:W.cell? ⟨w.heap.size+1,32,none⟩=some (.string y.key):=by have:=z8 rb (j:=32) (by omega);rwa [lP,Nat.zero_add]at this
  have a6:W.cell? ⟨w.heap.size+1,33,none⟩=some (.string y.val):=by have:=z8 rb (j:=33) (by omega);rwa [lO,Nat.zero_add]at this
  clear ra rb;have c1:=wE x.id y.id W;obtain⟨c,hc⟩:∃c,zO x.id y.id=c:=⟨_,rfl⟩
  rw[hc]at c1;obtain⟨sk,hsk⟩:∃sk,Op.bytesLess x.key.toList y.key.toList=sk:=⟨_,rfl⟩
  obtain⟨sv,hsv⟩:∃sv,Op.bytesLess x.val.toList y.val.toList=sv:=⟨_,rfl⟩
  obtain⟨se,hse⟩:∃se,(x.key.toList==y.key.toList)=se:=⟨_,rfl⟩
  have hk':sk=decide (xP x.key y.key<0):=hsk.symm.trans hs;have hv':sv=decide (xP x.val y.val<0):=hsv.symm.trans hs2;have he':se=decide (x.key=y.key):=by rw[<-hse,Bool.eq_iff_iff,beq_iff_eq,toList_inj,decide_eq_true_eq]
  rw[hc]at H0;have H1:Hid (decide (vN x y<0)=decide (c<0\/(c=0/\(sk=true\/(se=true/\sv=true))))):=by
    show _=_;rw[H0.out,hk',hv',he'];simp only[decide_eq_true_eq]
  clear hc hs hs2 hk' hv' he' H0;(go_wp2_with fail);refine c1.mono ?_;rintro e W2 ⟨rfl,hb⟩;have d2:=(hb.cell (p:=⟨w.heap.size,32,none⟩) (World.block_lt_of_cell? W _ a2)).trans a2;have d3:=(hb.cell (p:=⟨w.heap.size,33,none⟩) (World.block_lt_of_cell? W _ a5)).trans a5;have e2:=(hb.cell (p:=⟨w.heap.size+1,32,none⟩) (World.block_lt_of_cell? W _ a4)).trans a4;have e3:=(hb.cell (p:=⟨w.heap.size+1,33,none⟩) (World.block_lt_of_cell? W _ a6)).trans a6;have hB2:=hB.trans (hb.mono hB.size);clear a1 a2 a3 a4 a5 a6 hb hB c1;by_cases h1:c<0
  · have Hf:Hid (decide (vN x y<0)=true):=(show _=_ by rw[H1.out];simp[h1])
    clear H1;(go_wp2_with fail);go_ret;exact⟨zS (by rw[Hf.out]),hB2⟩
  · by_cases h2:c=0
    · subst h2;cases sk with
      | true =>
        have Hf:Hid (decide (vN x y<0)=true):=(show _=_ by rw[H1.out];simp)
        clear H1;(go_wp2_with fail);go_ret;exact⟨zS (by rw[Hf.out]),hB2⟩
      | false =>
        cases se with
        | true =>
          have Hf:Hid (decide (vN x y<0)=sv):=(show _=_ by rw[H1.out];simp)
          clear H1;cases sv with
          | true =>
            (go_wp2_with fail);go_ret;exact⟨zS (by rw[Hf.out]),hB2⟩
          | false =>
            (go_wp2_with fail);go_ret;exact⟨zS (by rw[Hf.out]),hB2⟩
        | false =>
          have Hf:Hid (decide (vN x y<0)=false):=(show _=_ by rw[H1.out];simp)
          clear H1;(go_wp2_with fail);go_ret;exact⟨zS (by rw[Hf.out]),hB2⟩
    · have h3:(c==0)=false:=by rw[beq_eq_false_iff_ne];exact h2
      have Hf:Hid (decide (vN x y<0)=false):=(show _=_ by rw[H1.out,decide_eq_false_iff_not];rintro(h | ⟨h,_⟩);exact h1 h;exact h2 h)
      clear H1 h2;(go_wp2_with fail);go_ret;exact⟨zS (by rw[Hf.out,decide_eq_false_iff_not];omega),hB2⟩
def RefM (w:World) (g j:Nat) (X:List j6) (G:List zJ):Prop :=
  ∃A n cap A' n' cap',w.cell? ⟨g,j,none⟩=some (.slice A n cap)/\w.cell? ⟨g,j+1,none⟩=some (.slice A' n' cap')/\fN w A n X/\y8 w A' n' G
def lvM (X:List j6) (G:List zJ):List j6:=yF vN (X.filter fun x=>decide (x.id∉G))
theorem lvM_take (X:List j6) (G:List zJ) (k:Nat) (hk:k<X.length):lvM (X.take (k+1)) G=if X[k].id∈G then lvM (X.take k) G else xU vN (lvM (X.take k) G) X[k]:=by
  unfold lvM;rw[List.take_add_one,List.getElem?_eq_getElem hk,Option.toList_some,List.filter_append];by_cases h:X[k].id∈G
  · rw[if_pos h];simp[h]
  · rw[if_neg h];simp only[List.filter_cons,h,not_false_eq_true,decide_true,if_true,List.filter_nil];rw[bE]
theorem BD (X:List j6) (G:List zJ):(lvM X G).length<=X.length:=Nat.le_trans (qF _) (List.length_filter_le _ _)
theorem VL (X:List j6):∀r∈X.map zX,∀u∈r.toList,u.oneCell'=true:=by
  intro r hr;obtain⟨x,_,rfl⟩:=List.mem_map.1 hr;exact vS x
theorem rmlive (w:World) (g:Nat) (X:List j6) (G:List zJ) (h:RefM w g 6 X G) (hX:X.length<=100000) (hG:G.length<=100000) :
    Calls Tryz.prog 81 #[.pointer (some ⟨g,6,none⟩)] w fun e w'=>∃A n cap,e = .returned (.slice A n cap)/\Own w' w.heap.size 143 34 A n cap ((lvM X G).map zX)/\Below w.heap.size w w':=by
  obtain⟨XA,nx,xc,GA,ng,gc,hc0,hc1,hXr,hGr⟩:=h;have hnx:X.length=nx:=hXr.len;have hng:G.length=ng:=by simpa using hGr.len
  have Hnx:=Lib.hid hnx;have hnx1:nx<=100000:=by omega
  have hng1:ng<=100000:=by omega
  clear hnx hng;go_enter Tryz.func81,Tryz.ntmps81
  (go_wp2_with fail);go_loopw [3,4] (fun out i wr=>∃(k:Nat) (A1:Option Addr) (n1 cap1:Nat),k<=nx/\i = .int .i64 k/\out = .slice A1 n1 cap1/\Own wr w.heap.size 143 34 A1 n1 cap1 ((lvM (X.take k) G).map zX)/\Below w.heap.size w wr) (fun _ i _=>nx-(intOf i).toNat)
  case atStart=>exact⟨0,none,0,0,Nat.zero_le _,rfl,rfl,Own.nil _ _ _ _,Below.refl _ _⟩
  case round =>
    obtain⟨k,A1,n,cap1,hk,rfl,rfl,hown,hb⟩:=hrel;have hcr0:=(hb.cell (p:=⟨g,6,none⟩) (World.block_lt_of_cell? w _ hc0)).trans hc0;have hcr1:=(hb.cell (p:=⟨g,7,none⟩) (World.block_lt_of_cell? w _ hc1)).trans hc1;by_cases hlt:k<nx
    · have hltX:k<X.length:=by rw[Hnx.out];exact hlt
      obtain⟨q,o,rfl,hrx0,_⟩:=fN.get (SlR.below hXr hb) hlt hltX;have htk:=lvM_take X G k hltX;have hOl:(lvM (X.take k) G).length=n:=by simpa using hown.len
      have hol:n<=100000:=by have:=BD (X.take k) G;simp at this;omega
      have hris:Ris vN (lvM (X.take k) G):=xE t9 _;obtain⟨O,hO⟩:∃O,lvM (X.take k) G=O:=⟨_,rfl⟩
      obtain⟨x,hx⟩:∃x,X[k]'hltX=x:=⟨_,rfl⟩
      rw[hx]at hrx0 htk;rw[hO]at htk hown hris hOl;have Htk0:=Lib.hid htk;have Hlen:=Lib.hid hOl;have Hris:=Lib.hid hris;clear hx hO htk hOl hris;have hszr:=hb.size;have hbx:Below wr.heap.size wr (wr.alloc (.cells (zX x) 143)):=(Below.refl _ _).alloc (Nat.le_refl _) _;have hown1:=hown.below hbx;have hb1:Below w.heap.size w (wr.alloc (.cells (zX x) 143)):=hb.trans (hbx.mono hszr);have hrx1:z9 (wr.alloc (.cells (zX x) 143)) wr.heap.size 0 34=some (zX x):=by simp[go_sem]
      have hcx1:=(hbx.cell (p:=⟨g,7,none⟩) (World.block_lt_of_cell? wr _ hcr1)).trans hcr1;have hG1:y8 (wr.alloc (.cells (zX x) 143)) GA ng G:=SlR.below hGr hb1;go_upto_region 6 with fail
      obtain⟨gx,hgx⟩:∃gx,wr.heap.size=gx:=⟨_,rfl⟩
      obtain⟨WR,hWR⟩:∃WR,wr.alloc (.cells (zX x) 143)=WR:=⟨_,rfl⟩
      rw[hWR]at hown1 hb1 hrx1 hcx1 hG1 |-;rw[hgx]at hrx1 |-;have hid1:z9 WR gx 0 32=some (idC x.id):=by have:=zV hrx1 (j:=0) (m:=32) (by omega);rwa [nY]at this
      have c1:=XU WR.drew GA ng gc G x.id hG1 (by omega);clear hgx hWR hown hb hbx hcr0 hcr1 hrx0 hszr;by_cases hin:x.id∈G
      · rw[decide_eq_true hin]at c1;have Htk:Hid (lvM (X.take (k+1)) G=O):=(show _=_ by rw[Htk0.out,if_pos hin])
        clear hin;refine zA (Bel WR) false (by kernel_rfl) (by kernel_rfl) (by kernel_rfl) (zC WR) ?_;have hne:=zQ WR;have hS:=zC WR;have b1:=zY hid1;have b2:=zP hcx1;repeat(refine z6 ?_ ?_;(focus(simp only[z3];done));intro K hK;go_simp;refine hK _ ?_;clear hK K)
        refine zH ?_ ?_ ?_;(focus(exact hS));(focus(simp only[z3];done));intro K hK;go_simp;refine(c1).mono ?_;rintro e w' ⟨rfl,hb⟩;replace hS:=yN hS hb;refine⟨_,rfl,hS,hK _ _ ?_⟩;clear hK K hb;repeat(refine z6 ?_ ?_;(focus(simp only[z3];done));intro K hK;go_simp;refine hK _ ?_;clear hK K)
        refine zK ?_;intro hS;have hS':Below WR.heap.size WR w':=hS;have hbz:=xM hb1 hS';have hown2:=hown1.below hS';clear b1 b2 hne hS c1 hS' hown1 hb1;(go_wp2_with fail);go_roundw
        case rel=>exact⟨k+1,A1,n,cap1,by omega,by go_num,rfl,(by rw[Htk.out];exact hown2),hbz⟩
        case measure=>simp[intOf];omega
      · rw[decide_eq_false hin]at c1;have Htk:Hid (lvM (X.take (k+1)) G=xU vN O x):=(show _=_ by rw[Htk0.out,if_neg hin])
        clear hin;refine zA (Bel WR) false (by kernel_rfl) (by kernel_rfl) (by kernel_rfl) (zC WR) ?_;have hne:=zQ WR;have hS:=zC WR;have b1:=zY hid1;have b2:=zP hcx1;repeat(refine z6 ?_ ?_;(focus(simp only[z3];done));intro K hK;go_simp;refine hK _ ?_;clear hK K)
        refine zH ?_ ?_ ?_;(focus(exact hS));(focus(simp only[z3];done));intro K hK;go_simp;refine(c1).mono ?_;rintro e w' ⟨rfl,hb⟩;replace hS:=yN hS hb;refine⟨_,rfl,hS,hK _ _ ?_⟩;clear hK K hb;repeat(refine z6 ?_ ?_;(focus(simp only[z3];done));intro K hK;go_simp;refine hK _ ?_;clear hK K)
        refine zK ?_;intro hS;have hS':Below WR.heap.size WR w':=hS;have hb2:=xM hb1 hS';have hsw2:=(hown1.below hS').slw;have hown2:=hown1.below hS';have hrx2:z9 w' gx 0 34=some (zX x):=(zB (hS'.block gx (zI hrx1)) _ _).trans hrx1;clear b1 b2 hne hS c1 hS' hown1 hb1 hid1 hcx1 hG1 hrx1;obtain⟨V,rfl⟩:∃V,V=w':=⟨w',rfl⟩
        (go_wp2_with fail);go_loopw [6] (fun j wj=>∃m:Nat,m<=n/\j = .int .i64 m/\Hid (∀i (hi:i<O.length),i<m->vN O[i] x<0)/\Below V.heap.size V wj) (fun j _=>n-(intOf j).toNat)
        case atStart=>exact⟨0,Nat.zero_le _,rfl,(show ∀i (hi:i<O.length),i<0->_ from fun i _ h=>absurd h (by omega)),Below.refl _ _⟩
        case round =>
          obtain⟨m,hmO,rfl,hlow,hbj⟩:=hrel;have hrj:z9 wr gx 0 34=some (zX x):=(zB (hbj.block gx (zI hrx2)) _ _).trans hrx2;have hswj:=hsw2.below hbj;by_cases hmlt:m<n
          · obtain⟨q2,o2,rfl,hrO,_⟩:=fN.get hswj.rd hmlt (by rw[Hlen.out];exact hmlt);have hmem:O[m]'(by rw[Hlen.out];exact hmlt)∈O:=List.getElem_mem _;obtain⟨y,hy⟩:∃y,O[m]'(by rw[Hlen.out];exact hmlt)=y:=⟨_,rfl⟩
            rw[hy]at hrO hmem;have Hy:=Lib.hid hy;have Hmem:=Lib.hid hmem;clear hy hmem;have c2:=rmless y x wr.drew;by_cases hyx:vN y x<0
            · rw[decide_eq_true hyx]at c2;have Hyx:=Lib.hid hyx;clear hyx;go_upto_region 8 with fail
              refine zA (Bel wr) false (by kernel_rfl) (by kernel_rfl) (by kernel_rfl) (zC wr) ?_;have hne:=zQ wr;have hS:=zC wr;have b1:=zY hrj;have b2:=zY hrO;repeat(refine z6 ?_ ?_;(focus(simp only[z3];done));intro K hK;go_simp;refine hK _ ?_;clear hK K)
              refine zH ?_ ?_ ?_;(focus(exact hS));(focus(simp only[z3];done));intro K hK;go_simp;refine(c2).mono ?_;rintro e w' ⟨rfl,hb⟩;replace hS:=yN hS hb;refine⟨_,rfl,hS,hK _ _ ?_⟩;clear hK K hb;repeat(refine z6 ?_ ?_;(focus(simp only[z3];done));intro K hK;go_simp;refine hK _ ?_;clear hK K)
              refine zK ?_;intro hS;have hS':Below wr.heap.size wr w':=hS;have hbz:=xM hbj hS';clear b1 b2 hne hS c2;(go_wp2_with fail);go_roundw
              case rel =>
                refine⟨m+1,by omega,by go_num,(show ∀i (hi:i<O.length),i<m+1->vN O[i] x<0 from fun i hi hlt=>?_),hbz⟩;by_cases e:i=m
                · subst e;rw[Hy.out];exact Hyx.out
                · exact hlow.out i hi (by omega)
              case measure=>simp[intOf];omega
            · rw[decide_eq_false hyx]at c2;have heqb:=mEqB_eq y x;obtain⟨eb,heb⟩:∃eb,xp y x=eb:=⟨_,rfl⟩
              rw[heb]at heqb;have Heqb:=Lib.hid heqb;have Hyx:=Lib.hid hyx;clear heqb hyx;go_upto_region 8 with fail
              refine zA (Bel wr) false (by kernel_rfl) (by kernel_rfl) (by kernel_rfl) (zC wr) ?_;have hne:=zQ wr;have hS:=zC wr;have b1:=zY hrj;have b2:=zY hrO;repeat(refine z6 ?_ ?_;(focus(simp only[z3];done));intro K hK;go_simp;refine hK _ ?_;clear hK K)
              refine zH ?_ ?_ ?_;(focus(exact hS));(focus(simp only[z3];done));intro K hK;go_simp;refine(c2).mono ?_;rintro e w' ⟨rfl,hb⟩;replace hS:=yN hS hb;refine⟨_,rfl,hS,hK _ _ ?_⟩;clear hK K hb;repeat(refine z6 ?_ ?_;(focus(simp only[z3];done));intro K hK;go_simp;refine hK _ ?_;clear hK K)
              refine zK ?_;intro hS;have hS':Below wr.heap.size wr w':=hS;have hbz:=xM hbj hS';have hrk:z9 w' gx 0 34=some (zX x):=(zB (hS'.block gx (zI hrj)) _ _).trans hrj;have hrP:z9 w' q2 (o2+m*34) 34=some (zX y):=(zB (hS'.block q2 (zI hrO)) _ _).trans hrO;clear b1 b2 hne hS c2 hS' hbj hrj hrO hswj;obtain⟨WK,rfl⟩:∃WK,WK=w':=⟨w',rfl⟩
              go_upto_region 10 with fail
              refine zA (Bel WK) false (by kernel_rfl) (by kernel_rfl) (by kernel_rfl) (zC WK) ?_;have hne:=zQ WK;have hS:=zC WK;have b1:=zY hrk;have b2:=zY hrP;repeat(refine z6 ?_ ?_;(focus(simp only[z3];done));intro K hK;go_simp;refine hK _ ?_;clear hK K)
              refine zK ?_;intro hS;have hbz2:Below V.heap.size V WK.drew:=hbz.drew;have hrx:z9 WK.drew gx 0 34=some (zX x):=hrk;have hsw:=hsw2.below hbz2;have hownw:=hown2.below hbz2;have hBw:=hb2.trans (hbz2.mono hb2.size);clear b1 b2 hne hS hrk hrP hbz hbz2 hrx2 heb;obtain⟨W,hW⟩:∃W,WK.drew=W:=⟨_,rfl⟩
              rw[hW]at hrx hsw hownw hBw |-;clear hW;cases eb with
              | true =>
                have e:y=x:=by simpa using Heqb.out.symm
                have hat:=wH t9 Hris.out (x:=x) (by rw[<-e];exact Hmem.out);have Hat:Hid (lvM (X.take (k+1)) G=O):=(show _=_ by rw[Htk.out,hat])
                clear e hat;(go_wp2_with fail);go_roundw
                case rel=>exact⟨k+1,_,n,cap1,by omega,by go_num,rfl,(by rw[Hat.out];exact hownw),hBw⟩
                case measure=>simp[intOf];omega
              | false =>
                have e:¬y=x:=by simpa using Heqb.out.symm
                have hat:=vP (c:=vN) O x m (by rw[Hlen.out];exact hmO) hlow.out (fun hk'=>by
                  rw[Hy.out];have h1:vN y x≠0:=fun e'=>e ((t9.zero _ _).1 e');have:=Hyx.out;omega)
                have Hat:=Lib.hid hat;clear e hat;obtain⟨A,hA1⟩:∃A,(some ⟨q2,o2,none⟩:Option Addr)=A:=⟨_,rfl⟩
                rw[hA1]at hsw hownw |-;clear hA1;obtain⟨d,hd⟩:∃d,d=x:=⟨_,rfl⟩
                rw[<-hd]at hrx Hat Htk |-;obtain⟨cap,hcap⟩:∃cap,cap=cap1:=⟨_,rfl⟩
                rw[<-hcap]at hsw hownw |-;clear hd hcap;have hBx:Below W.heap.size W (W.alloc (.cells #[] 143)):=(Below.refl _ _).alloc (Nat.le_refl _) _;have hown0:=Own.empty W W.heap.size 143 34 (Nat.le_refl _);have hlo:∀w0:World,(slS 71 (.slice A n cap) none (some (.int .i64 m)) none).run Tryz.prog w0 = .ok (.slice A m cap) w0:=fun w0=>SlW.lo v8 hsw hmO w0;obtain⟨Ah,ch,hhi,hhs,hhf⟩:=hsw.hi (P:=Tryz.prog) v8 (m:=m) hmO;have hslo:SlR (W.alloc (.cells #[] 143)) A m 34 ((O.map zX).take m):=(hsw.rd.below hBx).take_ hmO;have hf1:=hsw.nil;have hrone:∀r∈(O.map zX).take m,∀u∈r.toList,u.oneCell'=true:=fun r hr=>(by obtain⟨y',_,rfl⟩:=List.mem_map.1 (List.mem_of_mem_take hr);exact vS _);have hrone2:∀r∈(O.map zX).drop m,∀u∈r.toList,u.oneCell'=true:=fun r hr=>(by obtain⟨y',_,rfl⟩:=List.mem_map.1 (List.mem_of_mem_drop hr);exact vS _);go_upto_region 12 with(at_builtin;refine yD v8 rfl hown0 rfl hslo hf1 hrone (by omega) (by omega) (by simp) ?_;intro A2 cap2 w2 hown2 hk2 hsub2)
                simp only[Nat.zero_add,List.nil_append]at hown2;have hwW:Below W.heap.size W w2:=hBx.trans (hk2.below (by simp) (by simp[blk]));have hrw2:z9 w2 gx (0) 34=some (zX d):=(zB (hwW.block gx (zI hrx)) _ _).trans hrx;have hB3:Below w2.heap.size w2 (w2.alloc (.cells (zX d) 143)):=(Below.refl _ _).alloc (Nat.le_refl _) _;have hown3:=hown2.below hB3;have hrow3:z9 (w2.alloc (.cells (zX d) 143)) w2.heap.size 0 34=some (zX d):=by simp[go_sem]
                have hsz2:=hwW.size;go_upto_region 13 with(at_builtin;refine yX v8 rfl hown3 rfl hrow3 (vS _) (by omega) (by omega) (by simp;omega) ?_;intro A4 cap4 w4 hown4 hk4 hsub4)
                have hwW4:Below W.heap.size W w4:=(hwW.trans (hB3.mono hsz2)).trans (hk4.below (by simp;omega) (fun x hx=>(hown2.at_base hx).1));have hs4:=hhs w4 (hsw.rd.below hwW4);have hsz4:=hwW4.size;clear hown3 hrow3 hB3 hown0 hBx hslo hrw2 hlo;go_upto_region 14 with(at_builtin;refine yD v8 rfl hown4 rfl hs4 hhf hrone2 (by omega) (by omega) (by omega) ?_;intro A5 cap5 w5 hown5 hk5 hsub5)
                have hwW5:Below W.heap.size W w5:=hwW4.trans (hk5.below (by omega) (fun x hx=>(hown4.at_base hx).1));have hO5:(O.map zX).take m ++ [zX d]++(O.map zX).drop m=(O.take m++d :: O.drop m).map zX:=by simp[List.map_take,List.map_drop]
                rw[hO5]at hown5;clear hown4 hown2 hO5 hs4 hhi hhs hrone hrone2 hf1;obtain⟨x,rfl⟩:∃x,x=d:=⟨d,rfl⟩
                have hBw5:=hBw.trans (hwW5.mono hBw.size);have hL5:(O.take m++x :: O.drop m).length=m+1+(n-m):=by simp[Hlen.out];omega
                have hOe:O.take m++x :: O.drop m=lvM (X.take (k+1)) G:=by rw[Htk.out,Hat.out]
                rw[hOe]at hown5 hL5;have hown6:=hown5.mono hBw.size;have HL:=Lib.hid hL5;clear hown5 hOe hL5;(go_wp2_with fail);go_roundw
                case rel=>exact⟨k+1,A5,m+1+(n-m),cap5,by omega,by go_num,rfl,hown6,hBw5⟩
                case measure=>simp[intOf];omega
          · have hd:decide (m<n)=false:=by simpa using hmlt
            have hat:=vP (c:=vN) O x m (by rw[Hlen.out];exact hmO) hlow.out (fun hk'=>absurd (by rw[<-Hlen.out];exact hk') hmlt);have Hat:=Lib.hid hat;clear hat;go_upto_region 8 with fail
            refine zA (Bel wr) false (by kernel_rfl) (by kernel_rfl) (by kernel_rfl) (zC wr) ?_;have hne:=zQ wr;have hS:=zC wr;repeat(refine z6 ?_ ?_;(focus(simp only[z3];done));intro K hK;go_simp;refine hK _ ?_;clear hK K)
            refine zH ?_ ?_ ?_;(focus(exact hS));(focus(simp only[z3];done));intro K hK;go_simp;refine hK _ _ ?_;clear hK K;repeat(refine z6 ?_ ?_;(focus(simp only[z3];done));intro K hK;go_simp;refine hK _ ?_;clear hK K)
            refine zK ?_;intro hS;clear hne hS;go_upto_region 10 with fail
            refine zA (Bel wr.drew) false (by kernel_rfl) (by kernel_rfl) (by kernel_rfl) (zC wr.drew) ?_;have hne:=zQ wr.drew;have hS:=zC wr.drew;repeat(refine z6 ?_ ?_;(focus(simp only[z3];done));intro K hK;go_simp;refine hK _ ?_;clear hK K)
            refine zK ?_;intro hS;have hbz2:Below V.heap.size V wr.drew.drew:=hbj.drew.drew;have hrx:z9 wr.drew.drew gx 0 34=some (zX x):=hrj;have hsw:=hsw2.below hbz2;have hownw:=hown2.below hbz2;have hBw:=hb2.trans (hbz2.mono hb2.size);clear hne hS hbz2 hrj hbj hmlt hd hswj hrx2;obtain⟨W,hW⟩:∃W,wr.drew.drew=W:=⟨_,rfl⟩
            rw[hW]at hrx hsw hownw hBw |-;clear hW;obtain⟨A,hA1⟩:∃A,A=A1:=⟨_,rfl⟩
            rw[<-hA1]at hsw hownw |-;clear hA1;obtain⟨d,hd⟩:∃d,d=x:=⟨_,rfl⟩
            rw[<-hd]at hrx Hat Htk |-;obtain⟨cap,hcap⟩:∃cap,cap=cap1:=⟨_,rfl⟩
            rw[<-hcap]at hsw hownw |-;clear hd hcap;have hBx:Below W.heap.size W (W.alloc (.cells #[] 143)):=(Below.refl _ _).alloc (Nat.le_refl _) _;have hown0:=Own.empty W W.heap.size 143 34 (Nat.le_refl _);have hlo:∀w0:World,(slS 71 (.slice A n cap) none (some (.int .i64 m)) none).run Tryz.prog w0 = .ok (.slice A m cap) w0:=fun w0=>SlW.lo v8 hsw hmO w0;obtain⟨Ah,ch,hhi,hhs,hhf⟩:=hsw.hi (P:=Tryz.prog) v8 (m:=m) hmO;have hslo:SlR (W.alloc (.cells #[] 143)) A m 34 ((O.map zX).take m):=(hsw.rd.below hBx).take_ hmO;have hf1:=hsw.nil;have hrone:∀r∈(O.map zX).take m,∀u∈r.toList,u.oneCell'=true:=fun r hr=>(by obtain⟨y',_,rfl⟩:=List.mem_map.1 (List.mem_of_mem_take hr);exact vS _);have hrone2:∀r∈(O.map zX).drop m,∀u∈r.toList,u.oneCell'=true:=fun r hr=>(by obtain⟨y',_,rfl⟩:=List.mem_map.1 (List.mem_of_mem_drop hr);exact vS _);go_upto_region 12 with(at_builtin;refine yD v8 rfl hown0 rfl hslo hf1 hrone (by omega) (by omega) (by simp) ?_;intro A2 cap2 w2 hown2 hk2 hsub2)
            simp only[Nat.zero_add,List.nil_append]at hown2;have hwW:Below W.heap.size W w2:=hBx.trans (hk2.below (by simp) (by simp[blk]));have hrw2:z9 w2 gx (0) 34=some (zX d):=(zB (hwW.block gx (zI hrx)) _ _).trans hrx;have hB3:Below w2.heap.size w2 (w2.alloc (.cells (zX d) 143)):=(Below.refl _ _).alloc (Nat.le_refl _) _;have hown3:=hown2.below hB3;have hrow3:z9 (w2.alloc (.cells (zX d) 143)) w2.heap.size 0 34=some (zX d):=by simp[go_sem]
            have hsz2:=hwW.size;go_upto_region 13 with(at_builtin;refine yX v8 rfl hown3 rfl hrow3 (vS _) (by omega) (by omega) (by simp;omega) ?_;intro A4 cap4 w4 hown4 hk4 hsub4)
            have hwW4:Below W.heap.size W w4:=(hwW.trans (hB3.mono hsz2)).trans (hk4.below (by simp;omega) (fun x hx=>(hown2.at_base hx).1));have hs4:=hhs w4 (hsw.rd.below hwW4);have hsz4:=hwW4.size;clear hown3 hrow3 hB3 hown0 hBx hslo hrw2 hlo;go_upto_region 14 with(at_builtin;refine yD v8 rfl hown4 rfl hs4 hhf hrone2 (by omega) (by omega) (by omega) ?_;intro A5 cap5 w5 hown5 hk5 hsub5)
            have hwW5:Below W.heap.size W w5:=hwW4.trans (hk5.below (by omega) (fun x hx=>(hown4.at_base hx).1));have hO5:(O.map zX).take m ++ [zX d]++(O.map zX).drop m=(O.take m++d :: O.drop m).map zX:=by simp[List.map_take,List.map_drop]
            rw[hO5]at hown5;clear hown4 hown2 hO5 hs4 hhi hhs hrone hrone2 hf1;obtain⟨x,rfl⟩:∃x,x=d:=⟨d,rfl⟩
            have hBw5:=hBw.trans (hwW5.mono hBw.size);have hL5:(O.take m++x :: O.drop m).length=m+1+(n-m):=by simp[Hlen.out];omega
            have hOe:O.take m++x :: O.drop m=lvM (X.take (k+1)) G:=by rw[Htk.out,Hat.out]
            rw[hOe]at hown5 hL5;have hown6:=hown5.mono hBw.size;have HL:=Lib.hid hL5;clear hown5 hOe hL5;(go_wp2_with fail);go_roundw
            case rel=>exact⟨k+1,A5,m+1+(n-m),cap5,by omega,by go_num,rfl,hown6,hBw5⟩
            case measure=>simp[intOf];omega
    · have e:X.take k=X:=List.take_of_length_le (by rw[Hnx.out];omega);rw[e]at hown;clear e;(go_wp2_with fail);go_ret;exact⟨A1,n,cap1,rfl,hown,hb⟩
theorem VU (Z:List j6) (k:Nat) (hk:k<Z.length):kY (Z.take (k+1))=xU yG (kY (Z.take k)) (mpair Z[k]):=by
  unfold kY;rw[List.take_add_one,List.getElem?_eq_getElem hk,Option.toList_some,List.map_append,List.map_cons,List.map_nil,bE]
theorem K9 (x y:xZ):yG x y<0↔xP x.key y.key<0\/(x.key=y.key/\xP x.val y.val<0):=by
  unfold yG;rw[orL2,YE,fH]
theorem rmlist (w:World) (g:Nat) (X:List j6) (G:List zJ) (h:RefM w g 6 X G) (hX:X.length<=100000) (hG:G.length<=100000) :
    Calls Tryz.prog 47 #[.pointer (some ⟨g,6,none⟩)] w fun e w'=>∃A n cap,e = .returned (.slice A n cap)/\Own w' w.heap.size 122 2 A n cap ((kY (lvM X G)).map zN)/\Below w.heap.size w w':=by
  have c1:=rmlive w g X G h hX hG;have hll:=BD X G;obtain⟨Z,hZ⟩:∃Z,lvM X G=Z:=⟨_,rfl⟩
  rw[hZ]at c1 hll |-;clear hZ h;go_enter Tryz.func47,Tryz.ntmps47
  (go_wp2_with fail);refine c1.mono ?_;rintro e w1 ⟨RA,nz,rc,rfl,hrow,hb1⟩;have hslZ:fN w1 RA nz Z:=hrow.slr;have hnz:Z.length=nz:=hslZ.len;have Hnz:=Lib.hid hnz;have hnz1:nz<=100000:=by omega
  clear hrow c1 hnz;(go_wp2_with fail);go_loopw [3,5] (fun out i wr=>∃(k:Nat) (A1:Option Addr) (n1 cap1:Nat),k<=nz/\i = .int .i64 k/\out = .slice A1 n1 cap1/\Own wr w1.heap.size 122 2 A1 n1 cap1 ((kY (Z.take k)).map zN)/\Below w1.heap.size w1 wr) (fun _ i _=>nz-(intOf i).toNat)
  case atStart=>exact⟨0,none,0,0,Nat.zero_le _,rfl,rfl,Own.nil _ _ _ _,Below.refl _ _⟩
  case round =>
    obtain⟨k,A1,n,cap1,hk,rfl,rfl,hown,hb⟩:=hrel;by_cases hlt:k<nz
    · have hltZ:k<Z.length:=by rw[Hnz.out];exact hlt
      obtain⟨q,o,rfl,_,_,hk0,hv0⟩:=fN.get (SlR.below hslZ hb) hlt hltZ;have htk:=VU Z k hltZ;have hOl:(kY (Z.take k)).length=n:=by simpa using hown.len
      have hol:n<=100000:=by have:=Z6 (Z.take k);simp at this;omega
      have hris:Ris yG (kY (Z.take k)):=xE jH _;obtain⟨O,hO⟩:∃O,kY (Z.take k)=O:=⟨_,rfl⟩
      obtain⟨⟨xi,xk,xv⟩,hx⟩:∃x,Z[k]'hltZ=x:=⟨_,rfl⟩
      rw[hx]at hk0 hv0 htk;rw[hO]at htk hown hris hOl;dsimp only at hk0 hv0;have htk':kY (Z.take (k+1))=xU yG O ⟨xk,xv⟩:=htk;have Htk:=Lib.hid htk';have Hlen:=Lib.hid hOl;have Hris:=Lib.hid hris;clear hx hO htk htk' hOl hris;have hszr:=hb.size;go_upto_region 6 with fail
      refine xB (Kp [] wr) false (by kernel_rfl) (by kernel_rfl) (by kernel_rfl) (by kernel_rfl) (zW [] wr) ?_;have hne:=xA [] wr;have hS:=zW [] wr;have b1:=zM hk0 (S:=[]) (by simp);have b2:=zM hv0 (S:=[]) (by simp);repeat(refine z6 ?_ ?_;(focus(simp only[z3];done));intro K hK;go_simp;refine hK _ ?_;clear hK K)
      refine zH ?_ ?_ ?_;(focus(exact hS));(focus(simp only[z3];done));intro K hK;go_simp;refine zZ (z4.trans (z4.trans (z4.refl [] wr) (z4.drew _) (by simp)) (z4.alloc _ _) (by simp)) (fun hS2=>?_);refine hK _ _ ?_;clear hK K;repeat(refine z6 ?_ ?_;(focus(simp only[z3];done));intro K hK;go_simp;refine hK _ ?_;clear hK K)
      have hst:(stS 122 ⟨wr.heap.size,0,none⟩ (.agg (zN ⟨xk,xv⟩))).run Tryz.prog (wr.alloc (.cells (zN gN) 122)).drew = .ok () (wr.alloc (.cells (zN ⟨xk,xv⟩) 122)).drew:=iY wr.drew wr.heap.size rfl (zN gN) (bF _) ⟨xk,xv⟩ 122;refine jS ?_ ?_;(focus(simp only[z3];done));intro K hK;go_simp;refine hK _ _ ?_;clear hK K hst;have hbx:Below wr.heap.size wr (wr.alloc (.cells (zN ⟨xk,xv⟩) 122)).drew:=((Below.refl _ _).alloc (Nat.le_refl _) _).drew;have hown1:=hown.below hbx;have hb1r:Below w1.heap.size w1 (wr.alloc (.cells (zN ⟨xk,xv⟩) 122)).drew:=hb.trans (hbx.mono hszr);have hrx1:z9 (wr.alloc (.cells (zN ⟨xk,xv⟩) 122)).drew wr.heap.size 0 2=some (zN ⟨xk,xv⟩):=by
        show z9 (wr.alloc (.cells (zN ⟨xk,xv⟩) 122)) wr.heap.size 0 2=_;simp[go_sem]
      clear hS hS2 hne b1 b2 hown hb hbx hk0 hv0 hszr;obtain⟨d,hd⟩:∃d:xZ,d=⟨xk,xv⟩:=⟨_,rfl⟩
      rw[<-hd]at hrx1 hown1 hb1r Htk |-;have hdk:d.key=xk:=by rw[hd]
      have hdv:d.val=xv:=by rw[hd]
      clear hd hdk hdv;obtain⟨gx,hgx⟩:∃gx,wr.heap.size=gx:=⟨_,rfl⟩
      generalize (wr.alloc (.cells (zN d) 122)).drew=V at *;rw[hgx]at hrx1 |-;clear hgx;have hsw2:=hown1.slw;(go_wp2_with fail);go_loopw [7] (fun j wj=>∃m:Nat,m<=n/\j = .int .i64 m/\Hid (∀i (hi:i<O.length),i<m->yG O[i] d<0)/\Below V.heap.size V wj) (fun j _=>n-(intOf j).toNat)
      case atStart=>exact⟨0,Nat.zero_le _,rfl,(show ∀i (hi:i<O.length),i<0->_ from fun i _ h=>absurd h (by omega)),Below.refl _ _⟩
      case round =>
        obtain⟨m,hmO,rfl,hlow,hbj⟩:=hrel;have hrj:z9 wr gx 0 2=some (zN d):=(zB (hbj.block gx (zI hrx1)) _ _).trans hrx1;have hd0:wr.cell? ⟨gx,0,none⟩=some (.string d.key):=by have:=z8 hrj (j:=0) (by omega);rwa [nO]at this
        have hd1:wr.cell? ⟨gx,1,none⟩=some (.string d.val):=by have:=z8 hrj (j:=1) (by omega);rwa [eE]at this
        have hswj:=hsw2.below hbj;by_cases hmlt:m<n
        · obtain⟨q2,o2,rfl,hrO,hy0,hy1⟩:=xL.get hswj.rd hmlt (by rw[Hlen.out];exact hmlt);have hmem:O[m]'(by rw[Hlen.out];exact hmlt)∈O:=List.getElem_mem _;obtain⟨y,hy⟩:∃y,O[m]'(by rw[Hlen.out];exact hmlt)=y:=⟨_,rfl⟩
          rw[hy]at hrO hmem hy0 hy1;have Hy:=Lib.hid hy;have Hmem:=Lib.hid hmem;clear hy hmem;have hclt:=K9 y d;have hs1:=bA y.key d.key;have hs2:=bA y.val d.val;have hse:(y.key.toList==d.key.toList)=decide (y.key=d.key):=by rw[Bool.eq_iff_iff,beq_iff_eq,toList_inj,decide_eq_true_eq]
          obtain⟨sk,hsk⟩:∃sk,Op.bytesLess y.key.toList d.key.toList=sk:=⟨_,rfl⟩
          obtain⟨sv,hsv⟩:∃sv,Op.bytesLess y.val.toList d.val.toList=sv:=⟨_,rfl⟩
          obtain⟨se,hsee⟩:∃se,(y.key.toList==d.key.toList)=se:=⟨_,rfl⟩
          have hk':sk=decide (xP y.key d.key<0):=hsk.symm.trans hs1;have hv':sv=decide (xP y.val d.val<0):=hsv.symm.trans hs2;have he':se=decide (y.key=d.key):=hsee.symm.trans hse;have hD:yG y d<0↔(sk=true\/(se=true/\sv=true)):=by rw[hclt,hk',hv',he'];simp only[decide_eq_true_eq]
          have HD:=Lib.hid hD;clear hclt hs1 hs2 hse hk' hv' he' hD;cases sk with
          | true =>
            have Hyx:Hid (yG y d<0):=(show _ from HD.out.2 (.inl rfl))
            go_upto_region 8 with fail
            refine zA (Bel wr) false (by kernel_rfl) (by kernel_rfl) (by kernel_rfl) (zC wr) ?_;have hne:=zQ wr;have hS:=zC wr;have b1:=zP hd0;have b2:=zP hd1;have b3:=zP hy0;have b4:=zP hy1;repeat(refine z6 ?_ ?_;(focus(simp only[z3];done));intro K hK;go_simp;refine hK _ ?_;clear hK K)
            refine zK ?_;intro hS;clear b1 b2 b3 b4 hne hS;(go_wp2_with fail);go_roundw
            case rel =>
              refine⟨m+1,by omega,by go_num,(show ∀i (hi:i<O.length),i<m+1->yG O[i] d<0 from fun i hi hlt=>?_),hbj.drew⟩;by_cases e:i=m
              · subst e;rw[Hy.out];exact Hyx.out
              · exact hlow.out i hi (by omega)
            case measure=>simp[intOf];omega
          | false =>
            by_cases hsev:se=true/\sv=true
            · obtain⟨rfl,rfl⟩:=hsev;have Hyx:Hid (yG y d<0):=(show _ from HD.out.2 (.inr ⟨rfl,rfl⟩))
              go_upto_region 8 with fail
              refine zA (Bel wr) false (by kernel_rfl) (by kernel_rfl) (by kernel_rfl) (zC wr) ?_;have hne:=zQ wr;have hS:=zC wr;have b1:=zP hd0;have b2:=zP hd1;have b3:=zP hy0;have b4:=zP hy1;repeat(refine z6 ?_ ?_;(focus(simp only[z3];done));intro K hK;go_simp;refine hK _ ?_;clear hK K)
              refine zK ?_;intro hS;clear b1 b2 b3 b4 hne hS;(go_wp2_with fail);go_roundw
              case rel =>
                refine⟨m+1,by omega,by go_num,(show ∀i (hi:i<O.length),i<m+1->yG O[i] d<0 from fun i hi hlt=>?_),hbj.drew⟩;by_cases e:i=m
                · subst e;rw[Hy.out];exact Hyx.out
                · exact hlow.out i hi (by omega)
              case measure=>simp[intOf];omega
            · have Hyx:Hid (¬yG y d<0):=(show _ from fun hh=>by rcases HD.out.1 hh with h1 | h1;cases h1;exact hsev h1)
              have heqb:=vX y d;obtain⟨eb,heb⟩:∃eb,bR y d=eb:=⟨_,rfl⟩
              rw[heb]at heqb;have Heqb:=Lib.hid heqb;have Heb:=Lib.hid heb;clear heqb heb;cases se with
              | false =>
                go_upto_region 8 with fail
                refine zA (Bel wr) false (by kernel_rfl) (by kernel_rfl) (by kernel_rfl) (zC wr) ?_;have hne:=zQ wr;have hS:=zC wr;have b1:=zP hd0;have b2:=zP hd1;have b3:=zP hy0;have b4:=zP hy1;repeat(refine z6 ?_ ?_;(focus(simp only[z3];done));intro K hK;go_simp;refine hK _ ?_;clear hK K)
                refine zK ?_;intro hS;clear b1 b2 b3 b4 hne hS;have hrj2:z9 wr.drew gx 0 2=some (zN d):=hrj;have hrO2:z9 wr.drew q2 (o2+m*2) 2=some (zN y):=hrO;have heb:=Heb.out;go_upto_region 10 with fail
                refine zA (Bel wr.drew) false (by kernel_rfl) (by kernel_rfl) (by kernel_rfl) (zC wr.drew) ?_;have hne:=zQ wr.drew;have hS:=zC wr.drew;have b1:=zY hrj2;have b2:=zY hrO2;repeat(refine z6 ?_ ?_;(focus(simp only[z3];done));intro K hK;go_simp;refine hK _ ?_;clear hK K)
                refine zK ?_;intro hS;have hbz2:Below V.heap.size V wr.drew.drew:=hbj.drew.drew;have hrx:z9 wr.drew.drew gx 0 2=some (zN d):=hrj;have hsw:=hsw2.below hbz2;have hownw:=hown1.below hbz2;have hBw:=hb1r.trans (hbz2.mono hb1r.size);clear b1 b2 hne hS hrj2 hrO2 hbz2 hrj hrO hbj heb hd0 hd1 hy0 hy1 hswj;obtain⟨W,hW⟩:∃W,wr.drew.drew=W:=⟨_,rfl⟩
                rw[hW]at hrx hsw hownw hBw |-;clear hW;cases eb with
                | true =>
                  have e:y=d:=Heqb.out.1 rfl;have hat:=wH jH Hris.out (x:=d) (by rw[<-e];exact Hmem.out);have Hat:Hid (kY (Z.take (k+1))=O):=(show _=_ by rw[Htk.out,hat])
                  clear e hat;(go_wp2_with fail);go_roundw
                  case rel=>exact⟨k+1,_,n,cap1,by omega,by go_num,rfl,(by rw[Hat.out];exact hownw),hBw⟩
                  case measure=>simp[intOf];omega
                | false =>
                  have e:¬y=d:=fun e'=>(by have:=Heqb.out.2 e';cases this);have hat:=vP (c:=yG) O d m (by rw[Hlen.out];exact hmO) hlow.out (fun hk'=>by
                    rw[Hy.out];have h1:yG y d≠0:=fun e'=>e ((jH.zero _ _).1 e');have:=Hyx.out;omega)
                  have Hat:=Lib.hid hat;clear e hat;obtain⟨A,hA1⟩:∃A,(some ⟨q2,o2,none⟩:Option Addr)=A:=⟨_,rfl⟩
                  rw[hA1]at hsw hownw |-;clear hA1;obtain⟨cap,hcap⟩:∃cap,cap=cap1:=⟨_,rfl⟩
                  rw[<-hcap]at hsw hownw |-;clear hcap;have hBx:Below W.heap.size W (W.alloc (.cells #[] 122)):=(Below.refl _ _).alloc (Nat.le_refl _) _;have hown0:=Own.empty W W.heap.size 122 2 (Nat.le_refl _);have hlo:∀w0:World,(slS 41 (.slice A n cap) none (some (.int .i64 m)) none).run Tryz.prog w0 = .ok (.slice A m cap) w0:=fun w0=>SlW.lo yL hsw hmO w0;obtain⟨Ah,ch,hhi,hhs,hhf⟩:=hsw.hi (P:=Tryz.prog) yL (m:=m) hmO;have hslo:SlR (W.alloc (.cells #[] 122)) A m 2 ((O.map zN).take m):=(hsw.rd.below hBx).take_ hmO;have hf1:=hsw.nil;have hrone:∀r∈(O.map zN).take m,∀u∈r.toList,u.oneCell'=true:=fun r hr=>(by obtain⟨y',_,rfl⟩:=List.mem_map.1 (List.mem_of_mem_take hr);exact xQ _);have hrone2:∀r∈(O.map zN).drop m,∀u∈r.toList,u.oneCell'=true:=fun r hr=>(by obtain⟨y',_,rfl⟩:=List.mem_map.1 (List.mem_of_mem_drop hr);exact xQ _);go_upto_region 12 with(at_builtin;refine yD yL rfl hown0 rfl hslo hf1 hrone (by omega) (by omega) (by simp) ?_;intro A2 cap2 w2 hown2 hk2 hsub2)
                  simp only[Nat.zero_add,List.nil_append]at hown2;have hwW:Below W.heap.size W w2:=hBx.trans (hk2.below (by simp) (by simp[blk]));have hrw2:z9 w2 gx (0) 2=some (zN d):=(zB (hwW.block gx (zI hrx)) _ _).trans hrx;have hB3:Below w2.heap.size w2 (w2.alloc (.cells (zN d) 122)):=(Below.refl _ _).alloc (Nat.le_refl _) _;have hown3:=hown2.below hB3;have hrow3:z9 (w2.alloc (.cells (zN d) 122)) w2.heap.size 0 2=some (zN d):=by simp[go_sem]
                  have hsz2:=hwW.size;go_upto_region 13 with(at_builtin;refine yX yL rfl hown3 rfl hrow3 (xQ _) (by omega) (by omega) (by simp;omega) ?_;intro A4 cap4 w4 hown4 hk4 hsub4)
                  have hwW4:Below W.heap.size W w4:=(hwW.trans (hB3.mono hsz2)).trans (hk4.below (by simp;omega) (fun x hx=>(hown2.at_base hx).1));have hs4:=hhs w4 (hsw.rd.below hwW4);have hsz4:=hwW4.size;clear hown3 hrow3 hB3 hown0 hBx hslo hrw2 hlo;go_upto_region 14 with(at_builtin;refine yD yL rfl hown4 rfl hs4 hhf hrone2 (by omega) (by omega) (by omega) ?_;intro A5 cap5 w5 hown5 hk5 hsub5)
                  have hwW5:Below W.heap.size W w5:=hwW4.trans (hk5.below (by omega) (fun x hx=>(hown4.at_base hx).1));have hO5:(O.map zN).take m ++ [zN d]++(O.map zN).drop m=(O.take m++d :: O.drop m).map zN:=by simp[List.map_take,List.map_drop]
                  rw[hO5]at hown5;clear hown4 hown2 hO5 hs4 hhi hhs hrone hrone2 hf1;have hBw5:=hBw.trans (hwW5.mono hBw.size);have hL5:(O.take m++d :: O.drop m).length=m+1+(n-m):=by simp[Hlen.out];omega
                  have hOe:O.take m++d :: O.drop m=kY (Z.take (k+1)):=by rw[Htk.out,Hat.out]
                  rw[hOe]at hown5 hL5;have hown6:=hown5.mono hBw.size;have HL:=Lib.hid hL5;clear hown5 hOe hL5;(go_wp2_with fail);go_roundw
                  case rel=>exact⟨k+1,A5,m+1+(n-m),cap5,by omega,by go_num,rfl,hown6,hBw5⟩
                  case measure=>simp[intOf];omega
              | true =>
                cases sv with
                | true=>exact absurd ⟨rfl,rfl⟩ hsev
                | false =>
                  go_upto_region 8 with fail
                  refine zA (Bel wr) false (by kernel_rfl) (by kernel_rfl) (by kernel_rfl) (zC wr) ?_;have hne:=zQ wr;have hS:=zC wr;have b1:=zP hd0;have b2:=zP hd1;have b3:=zP hy0;have b4:=zP hy1;repeat(refine z6 ?_ ?_;(focus(simp only[z3];done));intro K hK;go_simp;refine hK _ ?_;clear hK K)
                  refine zK ?_;intro hS;clear b1 b2 b3 b4 hne hS;have hrj2:z9 wr.drew gx 0 2=some (zN d):=hrj;have hrO2:z9 wr.drew q2 (o2+m*2) 2=some (zN y):=hrO;have heb:=Heb.out;go_upto_region 10 with fail
                  refine zA (Bel wr.drew) false (by kernel_rfl) (by kernel_rfl) (by kernel_rfl) (zC wr.drew) ?_;have hne:=zQ wr.drew;have hS:=zC wr.drew;have b1:=zY hrj2;have b2:=zY hrO2;repeat(refine z6 ?_ ?_;(focus(simp only[z3];done));intro K hK;go_simp;refine hK _ ?_;clear hK K)
                  refine zK ?_;intro hS;have hbz2:Below V.heap.size V wr.drew.drew:=hbj.drew.drew;have hrx:z9 wr.drew.drew gx 0 2=some (zN d):=hrj;have hsw:=hsw2.below hbz2;have hownw:=hown1.below hbz2;have hBw:=hb1r.trans (hbz2.mono hb1r.size);clear b1 b2 hne hS hrj2 hrO2 hbz2 hrj hrO hbj heb hd0 hd1 hy0 hy1 hswj;obtain⟨W,hW⟩:∃W,wr.drew.drew=W:=⟨_,rfl⟩
                  rw[hW]at hrx hsw hownw hBw |-;clear hW;cases eb with
                  | true =>
                    have e:y=d:=Heqb.out.1 rfl;have hat:=wH jH Hris.out (x:=d) (by rw[<-e];exact Hmem.out);have Hat:Hid (kY (Z.take (k+1))=O):=(show _=_ by rw[Htk.out,hat])
                    clear e hat;(go_wp2_with fail);go_roundw
                    case rel=>exact⟨k+1,_,n,cap1,by omega,by go_num,rfl,(by rw[Hat.out];exact hownw),hBw⟩
                    case measure=>simp[intOf];omega
                  | false =>
                    have e:¬y=d:=fun e'=>(by have:=Heqb.out.2 e';cases this);have hat:=vP (c:=yG) O d m (by rw[Hlen.out];exact hmO) hlow.out (fun hk'=>by
                      rw[Hy.out];have h1:yG y d≠0:=fun e'=>e ((jH.zero _ _).1 e');have:=Hyx.out;omega)
                    have Hat:=Lib.hid hat;clear e hat;obtain⟨A,hA1⟩:∃A,(some ⟨q2,o2,none⟩:Option Addr)=A:=⟨_,rfl⟩
                    rw[hA1]at hsw hownw |-;clear hA1;obtain⟨cap,hcap⟩:∃cap,cap=cap1:=⟨_,rfl⟩
                    rw[<-hcap]at hsw hownw |-;clear hcap;have hBx:Below W.heap.size W (W.alloc (.cells #[] 122)):=(Below.refl _ _).alloc (Nat.le_refl _) _;have hown0:=Own.empty W W.heap.size 122 2 (Nat.le_refl _);have hlo:∀w0:World,(slS 41 (.slice A n cap) none (some (.int .i64 m)) none).run Tryz.prog w0 = .ok (.slice A m cap) w0:=fun w0=>SlW.lo yL hsw hmO w0;obtain⟨Ah,ch,hhi,hhs,hhf⟩:=hsw.hi (P:=Tryz.prog) yL (m:=m) hmO;have hslo:SlR (W.alloc (.cells #[] 122)) A m 2 ((O.map zN).take m):=(hsw.rd.below hBx).take_ hmO;have hf1:=hsw.nil;have hrone:∀r∈(O.map zN).take m,∀u∈r.toList,u.oneCell'=true:=fun r hr=>(by obtain⟨y',_,rfl⟩:=List.mem_map.1 (List.mem_of_mem_take hr);exact xQ _);have hrone2:∀r∈(O.map zN).drop m,∀u∈r.toList,u.oneCell'=true:=fun r hr=>(by obtain⟨y',_,rfl⟩:=List.mem_map.1 (List.mem_of_mem_drop hr);exact xQ _);go_upto_region 12 with(at_builtin;refine yD yL rfl hown0 rfl hslo hf1 hrone (by omega) (by omega) (by simp) ?_;intro A2 cap2 w2 hown2 hk2 hsub2)
                    simp only[Nat.zero_add,List.nil_append]at hown2;have hwW:Below W.heap.size W w2:=hBx.trans (hk2.below (by simp) (by simp[blk]));have hrw2:z9 w2 gx (0) 2=some (zN d):=(zB (hwW.block gx (zI hrx)) _ _).trans hrx;have hB3:Below w2.heap.size w2 (w2.alloc (.cells (zN d) 122)):=(Below.refl _ _).alloc (Nat.le_refl _) _;have hown3:=hown2.below hB3;have hrow3:z9 (w2.alloc (.cells (zN d) 122)) w2.heap.size 0 2=some (zN d):=by simp[go_sem]
                    have hsz2:=hwW.size;go_upto_region 13 with(at_builtin;refine yX yL rfl hown3 rfl hrow3 (xQ _) (by omega) (by omega) (by simp;omega) ?_;intro A4 cap4 w4 hown4 hk4 hsub4)
                    have hwW4:Below W.heap.size W w4:=(hwW.trans (hB3.mono hsz2)).trans (hk4.below (by simp;omega) (fun x hx=>(hown2.at_base hx).1));have hs4:=hhs w4 (hsw.rd.below hwW4);have hsz4:=hwW4.size;clear hown3 hrow3 hB3 hown0 hBx hslo hrw2 hlo;go_upto_region 14 with(at_builtin;refine yD yL rfl hown4 rfl hs4 hhf hrone2 (by omega) (by omega) (by omega) ?_;intro A5 cap5 w5 hown5 hk5 hsub5)
                    have hwW5:Below W.heap.size W w5:=hwW4.trans (hk5.below (by omega) (fun x hx=>(hown4.at_base hx).1));have hO5:(O.map zN).take m ++ [zN d]++(O.map zN).drop m=(O.take m++d :: O.drop m).map zN:=by simp[List.map_take,List.map_drop]
                    rw[hO5]at hown5;clear hown4 hown2 hO5 hs4 hhi hhs hrone hrone2 hf1;have hBw5:=hBw.trans (hwW5.mono hBw.size);have hL5:(O.take m++d :: O.drop m).length=m+1+(n-m):=by simp[Hlen.out];omega
                    have hOe:O.take m++d :: O.drop m=kY (Z.take (k+1)):=by rw[Htk.out,Hat.out]
                    rw[hOe]at hown5 hL5;have hown6:=hown5.mono hBw.size;have HL:=Lib.hid hL5;clear hown5 hOe hL5;(go_wp2_with fail);go_roundw
                    case rel=>exact⟨k+1,A5,m+1+(n-m),cap5,by omega,by go_num,rfl,hown6,hBw5⟩
                    case measure=>simp[intOf];omega
        · have hd:decide (m<n)=false:=by simpa using hmlt
          have hat:=vP (c:=yG) O d m (by rw[Hlen.out];exact hmO) hlow.out (fun hk'=>absurd (by rw[<-Hlen.out];exact hk') hmlt);have Hat:=Lib.hid hat;clear hat;go_upto_region 8 with fail
          refine zA (Bel wr) false (by kernel_rfl) (by kernel_rfl) (by kernel_rfl) (zC wr) ?_;have hne:=zQ wr;have hS:=zC wr;repeat(refine z6 ?_ ?_;(focus(simp only[z3];done));intro K hK;go_simp;refine hK _ ?_;clear hK K)
          refine zK ?_;intro hS;clear hne hS;go_upto_region 10 with fail
          refine zA (Bel wr.drew) false (by kernel_rfl) (by kernel_rfl) (by kernel_rfl) (zC wr.drew) ?_;have hne:=zQ wr.drew;have hS:=zC wr.drew;repeat(refine z6 ?_ ?_;(focus(simp only[z3];done));intro K hK;go_simp;refine hK _ ?_;clear hK K)
          refine zK ?_;intro hS;have hbz2:Below V.heap.size V wr.drew.drew:=hbj.drew.drew;have hrx:z9 wr.drew.drew gx 0 2=some (zN d):=hrj;have hsw:=hsw2.below hbz2;have hownw:=hown1.below hbz2;have hBw:=hb1r.trans (hbz2.mono hb1r.size);clear hne hS hbz2 hrj hbj hmlt hd hswj hd0 hd1;obtain⟨W,hW⟩:∃W,wr.drew.drew=W:=⟨_,rfl⟩
          rw[hW]at hrx hsw hownw hBw |-;clear hW;obtain⟨A,hA1⟩:∃A,A=A1:=⟨_,rfl⟩
          rw[<-hA1]at hsw hownw |-;clear hA1;obtain⟨cap,hcap⟩:∃cap,cap=cap1:=⟨_,rfl⟩
          rw[<-hcap]at hsw hownw |-;clear hcap;have hBx:Below W.heap.size W (W.alloc (.cells #[] 122)):=(Below.refl _ _).alloc (Nat.le_refl _) _;have hown0:=Own.empty W W.heap.size 122 2 (Nat.le_refl _);have hlo:∀w0:World,(slS 41 (.slice A n cap) none (some (.int .i64 m)) none).run Tryz.prog w0 = .ok (.slice A m cap) w0:=fun w0=>SlW.lo yL hsw hmO w0;obtain⟨Ah,ch,hhi,hhs,hhf⟩:=hsw.hi (P:=Tryz.prog) yL (m:=m) hmO;have hslo:SlR (W.alloc (.cells #[] 122)) A m 2 ((O.map zN).take m):=(hsw.rd.below hBx).take_ hmO;have hf1:=hsw.nil;have hrone:∀r∈(O.map zN).take m,∀u∈r.toList,u.oneCell'=true:=fun r hr=>(by obtain⟨y',_,rfl⟩:=List.mem_map.1 (List.mem_of_mem_take hr);exact xQ _);have hrone2:∀r∈(O.map zN).drop m,∀u∈r.toList,u.oneCell'=true:=fun r hr=>(by obtain⟨y',_,rfl⟩:=List.mem_map.1 (List.mem_of_mem_drop hr);exact xQ _);go_upto_region 12 with(at_builtin;refine yD yL rfl hown0 rfl hslo hf1 hrone (by omega) (by omega) (by simp) ?_;intro A2 cap2 w2 hown2 hk2 hsub2)
          simp only[Nat.zero_add,List.nil_append]at hown2;have hwW:Below W.heap.size W w2:=hBx.trans (hk2.below (by simp) (by simp[blk]));have hrw2:z9 w2 gx (0) 2=some (zN d):=(zB (hwW.block gx (zI hrx)) _ _).trans hrx;have hB3:Below w2.heap.size w2 (w2.alloc (.cells (zN d) 122)):=(Below.refl _ _).alloc (Nat.le_refl _) _;have hown3:=hown2.below hB3;have hrow3:z9 (w2.alloc (.cells (zN d) 122)) w2.heap.size 0 2=some (zN d):=by simp[go_sem]
          have hsz2:=hwW.size;go_upto_region 13 with(at_builtin;refine yX yL rfl hown3 rfl hrow3 (xQ _) (by omega) (by omega) (by simp;omega) ?_;intro A4 cap4 w4 hown4 hk4 hsub4)
          have hwW4:Below W.heap.size W w4:=(hwW.trans (hB3.mono hsz2)).trans (hk4.below (by simp;omega) (fun x hx=>(hown2.at_base hx).1));have hs4:=hhs w4 (hsw.rd.below hwW4);have hsz4:=hwW4.size;clear hown3 hrow3 hB3 hown0 hBx hslo hrw2 hlo;go_upto_region 14 with(at_builtin;refine yD yL rfl hown4 rfl hs4 hhf hrone2 (by omega) (by omega) (by omega) ?_;intro A5 cap5 w5 hown5 hk5 hsub5)
          have hwW5:Below W.heap.size W w5:=hwW4.trans (hk5.below (by omega) (fun x hx=>(hown4.at_base hx).1));have hO5:(O.map zN).take m ++ [zN d]++(O.map zN).drop m=(O.take m++d :: O.drop m).map zN:=by simp[List.map_take,List.map_drop]
          rw[hO5]at hown5;clear hown4 hown2 hO5 hs4 hhi hhs hrone hrone2 hf1;have hBw5:=hBw.trans (hwW5.mono hBw.size);have hL5:(O.take m++d :: O.drop m).length=m+1+(n-m):=by simp[Hlen.out];omega
          have hOe:O.take m++d :: O.drop m=kY (Z.take (k+1)):=by rw[Htk.out,Hat.out]
          rw[hOe]at hown5 hL5;have hown6:=hown5.mono hBw.size;have HL:=Lib.hid hL5;clear hown5 hOe hL5;(go_wp2_with fail);go_roundw
          case rel=>exact⟨k+1,A5,m+1+(n-m),cap5,by omega,by go_num,rfl,hown6,hBw5⟩
          case measure=>simp[intOf];omega
    · have e:Z.take k=Z:=List.take_of_length_le (by rw[Hnz.out];omega);rw[e]at hown;clear e;(go_wp2_with fail);go_ret;exact⟨A1,n,cap1,rfl,hown.mono hb1.size,xM hb1 hb⟩
end Go.Proofs.YtgedpfebepdcmaaGreatDoor
