/- Part 5 of the texts that lead to this claim: the walks of the functions and the plain law, in order. -/
import Derived.Test.YtddopbhcpblpjaaGreatDoorMj4
import Derived.Test.YtddopbhcpblpjaaGreatDoorLayGrow
import Derived.LoopN
namespace Go.Proofs.YtddopbhcpblpjaaGreatDoor
open Go.RowKit
open List hiding and get max min or set
open Go.Proofs.Tryz
open World
set_option maxRecDepth 100000
set_option maxHeartbeats 8000000
variable {P:Program}{κ ν:Type}{w:World}{b k:Nat}{X:List qN}{cs:Array Value}{t:TypeId}{f:Nat×Nat}{ops:Array Oper}{a:Act}{Q:Exit->Act->World->Prop}{es:Array MapEntry}
section
theorem yJ.clear{K T E':TypeId}{kv:κ->Value}{ok:κ->Prop}{L:List κ}(h:yJ w b kv ok L)(ht:P.underlying T=some (.map K E'))(ty:TypeId) :
  ∃w',(Builtin.clear_ #[T] ty #[.map (some b)]).run P w=.ok (.tuple #[]) w'/\yJ w' b kv ok []/\z8 [b] w w':=by
 obtain⟨M,es,d,hm,g,f⟩:=h;refine⟨_,?_,⟨[],#[],d,⟨gY _ hm.lt,rfl,rfl,sI,sI,sI,sI⟩,sI,sI⟩,gX w b _⟩;simp[Builtin.clear_,run_underlying ht,qZ hm.heap,gQ hm.heap]
abbrev Y6(w:World)(b:Nat)(L:List qN):Prop:=yJ w b nA okM L
def fB(x:qN):Prop:=x.key.size<=16/\x.val.size<=16
theorem msmall_ok{x:qN}(h:fB x):okM x:=by
 obtain⟨h1,h2⟩:=h;exact⟨by simp only[maxLen];omega,by simp only[maxLen];omega⟩
theorem mput{x:qN}(h:Y6 w b X)(hk:fB x):∃w',(Instr.mapUpdate 262 (.map (some b)) (.agg (zQ x)) (.bool true)).run prog w=.ok () w'/\Y6 w' b (x :: X)/\z8 [b] w w':=yJ.put h mrowKey underlying262 (msmall_ok hk)
theorem mclear(h:Y6 w b X)(ty:TypeId):∃w',(Builtin.clear_ #[262] ty #[.map (some b)]).run prog w=.ok (.tuple #[]) w'/\Y6 w' b []/\z8 [b] w w':=yJ.clear h underlying262 ty
structure xN(w:World)(g bl bo:Nat)(X:List qN)(O:List zA):Prop where
 blk:w.heap[g]?=some (.cells #[.map (some bl),.map (some bo)] 264 (0,0))
 live:Y6 w bl X
 over:jM w bo O
 ne:bl≠bo
 risX:Ris jU X
 risO:Ris yC O
 sm:∀x∈X,fB x
 apart:∀x∈X,x.id∉O
theorem X3{kv:κ->Value}{ok:κ->Prop}{g:Nat}{X:List κ}(h:yJ w b kv ok X)(hg:w.heap[g]?=some (.cells cs t f)):g≠b:=by
 rintro rfl;obtain⟨M,es,d,hm,_⟩:=h;rw[hm.heap]at hg;cases hg
section
variable {w w':World} {g bl bo:Nat} {X:List qN} {O:List zA}
theorem xN.cell0(h:xN w g bl bo X O):w.cell? ⟨g,0,none⟩=some (.map (some bl)):=by rw[cell_of_row w g 0 _ _ _ h.blk];rfl
theorem xN.cell1(h:xN w g bl bo X O):w.cell? ⟨g,1,none⟩=some (.map (some bo)):=by rw[cell_of_row w g 1 _ _ _ h.blk];rfl
theorem xN.lt(h:xN w g bl bo X O):g<w.heap.size/\bl<w.heap.size/\bo<w.heap.size:=⟨(aG h.blk).1,h.live.lt,h.over.lt⟩
theorem xN.nel(h:xN w g bl bo X O):g≠bl:=X3 h.live h.blk
theorem xN.neo(h:xN w g bl bo X O):g≠bo:=X3 h.over h.blk
theorem xN.kept{S:List Nat}(h:xN w g bl bo X O)(k:z8 S w w')(hg:g∉S)(hl:bl∉S)(ho:bo∉S):xN w' g bl bo X O :=
 ⟨(k.block g h.lt.1 hg).trans h.blk,h.live.kept k hl,h.over.kept k ho,h.ne,h.risX,h.risO,h.sm,h.apart⟩
theorem xN.below(h:xN w g bl bo X O)(k:Below w.heap.size w w'):xN w' g bl bo X O:=h.kept (z8.of_below k) sI sI sI
end
theorem XW(w:World)(g b:Nat)(h:w.cell? ⟨g,0,none⟩=some (.map (some b))):Calls prog 187 #[.pointer (some ⟨g,0,none⟩)] w λe w'=>e=.returned (.bool false)/\w=w':=by
 have hn:=λr=>run_eql_map_nil (P:=prog) w 262 189 4 r underlying262;go_enter func187,ntmps187
 (go_wp2_with fail);go_ret;exact⟨rfl,rfl⟩
theorem mnew(w:World):Calls prog 167 #[] w λe w'=>∃g bl bo,e=.returned (.pointer (some ⟨g,0,none⟩))/\xN w' g bl bo [] []/\w.heap.size<=g/\w.heap.size<=bl/\w.heap.size<=bo/\Below w.heap.size w w':=by
 have d:=@run_makeMap prog;go_enter func167,ntmps167
 (go_wp2_with fail);go_ret;have k1:=yJ.new (kv:=nA) (ok:=okM) w w.heap.size rfl;have k2:=yJ.new (kv:=idV) (ok:=vL) (w.alloc (.map #[] 0)) (w.heap.size+1) sI;refine⟨w.heap.size+2,w.heap.size,w.heap.size+1,rfl,⟨?_,(k1.kept (z8.alloc _ _) sI).kept (z8.alloc _ _) sI,k2.kept (z8.alloc _ _) sI,oM,Ris.nil,Ris.nil,sI,sI⟩,oM,oM,oM,((bA).alloc sI _).alloc sO _⟩;have:=heap_alloc_new ((w.alloc (.map #[] 0)).alloc (.map #[] 0)) (.cells #[.map (some w.heap.size),.map (some (w.heap.size+1))] 264 (0,0));simpa using this
theorem r5:yT prog 186 189 34 64 :=
 .of (z:=.agg (zQ nY)) underlying186 kR kR kR (gC _) oM
@[go_sem ↓] theorem bsMRow_rw(n:Nat)(parts:Array (Nat×Value)):Instr.buildSlice 186 n parts=bsS 186 n parts:=rfl
@[go_sem] theorem bsMRow_run(w:World)(x:qN):(bsS 186 1 #[(0,.agg (zQ x))]).run prog w=.ok (.slice (some ⟨w.heap.size,0,none⟩) 1 1) (w.alloc (.cells (zQ x) 189)) :=
 gS r5 oM w (zQ x) (gC x)
def lN(X:List qN)(O:List zA):List qN:=X.filter λx=>decide (x.id∉O)
theorem msweep(wS:World)(g bl bo:Nat)(X:List qN)(O:List zA)(E:wS.heap[g]?=some (.cells #[.map (some bl),.map (some bo)] 264 (0,0)))(hl:Y6 wS bl X)(ho:jM wS bo O)(b6:bl≠bo)(hr:Ris jU X)(f2:∀x∈X,fB x)(hn:X.length<=1000000) :
  Calls prog 308 #[.pointer (some ⟨g,0,none⟩)] wS λe w'=>e=.returned (.tuple #[])/\Y6 w' bl (lN X O)/\z8 [bl] wS w':=by
 have h9:=hl.lt;have h8:=ho.lt;have c7:=(aG E).1;have R:g≠bl:=X3 hl E;have e0:wS.cell? ⟨g,0,none⟩=some (.map (some bl)):=by rw[cell_of_row wS g 0 _ _ _ E];rfl
 have g4:wS.cell? ⟨g,1,none⟩=some (.map (some bo)):=by rw[cell_of_row wS g 1 _ _ _ E];rfl
 obtain⟨w0,f,hR,g6,h7⟩:=yJ.range (P:=prog) (kv:=nA) (ok:=okM) hl underlying262;go_enter func308,ntmps308
 (go_wp2_with fail);clear f E;go_loopw [2] (λout wr=>∃S A cap,out=.slice A (lN S O).length cap/\jV wr bl wS.heap.size nA okM X S/\Own wr w0.heap.size 189 34 A (lN S O).length cap ((lN S O).map zQ)/\Below wS.heap.size wS wr/\w0.heap.size<=wr.heap.size) (λ_ wr=>wr.rangeLeft bl wS.heap.size)
 case atStart=>exact⟨[],none,0,rfl,hR,Own.nil _ _ _ _,g6,lR⟩
 case round =>
  obtain⟨S,A,cap,rfl,hR,t,hb,h6⟩:=hrel;rcases hR.next (P:=prog) 0 with⟨hall,c4,f⟩ | ⟨x,w1,hxL,hxS,f,hR1,hk1,hs1,hl1,hen⟩
  ·have a8:=(hb.cell (p:=⟨g,0,none⟩) c7).trans e0;obtain⟨wc,c8,f4,c6⟩:=mclear (hl.below hb) 0;have g3:=(c6.cell (p:=⟨g,0,none⟩) (show g<wr.heap.size by have:=hb.size;omega) (by simpa using R)).trans a8;have hp:S.Perm X:=(perm_ext_iff_of_nodup c4 (hr.nodup YT)).2 hall;have g8:S.length=X.length:=hp.length_eq;have N:∀x,x∈lN S O↔x∈lN X O:=λx=>(by unfold lN;simp[hall]);have U:∀x∈lN S O,fB x:=λx hx=>f2 x ((hall x).1 (mem_filter.1 hx).1);have c5:(lN S O).length<=1000000:=by have:(lN S O).length<=S.length:=length_filter_le _ _;omega
   have I:=t.kept c6 (λy hy=>oS ((t.at_base hy).1));have f8:z8 [bl] wS wc:=z8.trans ((z8.of_below hb).mono (S':=[bl]) sI) c6 iL;obtain⟨T,hT⟩:=eX (lN S O)
   rw[hT]at N U c5 I |-;have d1:=dH N;have h5:=dH hall;clear hT hall N hp g8 t hR hb;(go_wp2_with fail);clear c8 f a8;go_loopw [33] (λi wr=>∃k:Nat,k<=T.length/\i=.int .i64 k/\Y6 wr bl (T.take k)/\z8 [bl] wS wr/\Own wr w0.heap.size 189 34 A T.length cap (T.map zQ)) (λi _=>T.length-(intOf i).toNat)
   case atStart=>exact⟨0,zL,rfl,f4,f8,I⟩
   case round =>
    obtain⟨k,hk,rfl,hm,a6,s⟩:=hrel;by_cases a5:k<T.length
    ·obtain⟨q,o,rfl,a1⟩:=s.slr.at_ a5;obtain rfl:o=0:=by
      rcases s.addr with e | ⟨g',e⟩
      ·cases e
      ·injection e with e;injection e
     rw[Nat.zero_add,getElem_map]at a1;have d2:fB (T[k]'a5):=U _ (getElem_mem _);have b8:T.take (k+1)=T.take k ++ [T[k]'a5]:=by rw[take_add_one,getElem?_eq_getElem a5];rfl
     obtain⟨x,hx⟩:=eX (T[k]'a5)
     rw[hx]at a1 d2 b8;have h0:=dH b8;clear hx b8;have F:Below wr.heap.size wr (wr.alloc (.cells (zQ x) 189)):=bA;have d6:=yJ.below hm F;have H:=s.below F;have V:=(F.cell (p:=⟨g,0,none⟩) (show g<wr.heap.size by have:=a6.size;omega)).trans ((a6.cell (p:=⟨g,0,none⟩) c7 (by simpa using R)).trans e0);have G:z9 (wr.alloc (.cells (zQ x) 189)) wr.heap.size 0 34=some (zQ x):=by simp[go_sem]
     have d8:z8 [bl] wS (wr.alloc (.cells (zQ x) 189)):=z8.trans a6 (z8.of_below F) sI;have f0:=a6.size;go_upto_region 10 with fail
     obtain⟨W1,b3⟩:=eR (wr.alloc (.cells (zQ x) 189))
     rw[<-b3]at d6 H V G d8 |-;clear b3;obtain⟨w2,f,f3,d9⟩:=mput (x:=x) (d6.kept (z8.drew W1) sI) d2;have g2:g∉[bl]:=by simpa using R
     refine kX [bl] W1 ?_;intro b6 hS;have b1:=zF V g2;have b2:=zY G (S:=[bl]) sO;refine lQ ?_;intro K hK;refine zH (yA hS d9 sI) (λhS=>?_);refine hK _ _ ?_;clear hK K;refine zC ?_;intro hS;have e7:z8 [bl] W1 w2:=hS;have a2:=H.kept e7 (λy hy=>oS ((s.at_base hy).1));have g0:=z8.trans d8 e7 iL;clear b1 b2 b6 hS d9 f V G;(go_wp2_with fail);go_roundw
     case rel=>exact⟨k+1,oM,by go_num,yJ.congr f3 (λy=>by rw[h0.out];simp[or_comm]),g0,a2⟩
     case measure=>exact sZ
    ·have e2:T.take k=T:=take_of_length_le oM;rw[e2]at hm;(go_wp2_with fail);go_end0;exact⟨rfl,yJ.congr hm d1.out,a6⟩
  ·have i0:(lN S O).length+1<=1000000:=by
    obtain⟨M,Z,hZ,f9,_,g7,c4⟩:=hR1;have h1:=hZ.length;have h2:(Z.map (·.1)).length=(S ++ [x]).length:=by rw[g7]
    have h3:(M.map (·.1)).length<=X.length:=gA c4 (λy hy=>(f9 y).1 hy);have h4:(lN S O).length<=S.length:=length_filter_le _ _;simp at h2 h3;omega
   have d7:lN (S ++ [x]) O=if x.id∈O then lN S O else lN S O ++ [x]:=by
    unfold lN;rw[filter_append];by_cases e:x.id∈O <;> simp[e]
   have J:=t.kept hk1 (λy hy=>oS ((t.at_base hy).1));have e4:Below wS.heap.size wS w1:=hb.trans (hk1.below (B:=wS.heap.size) oM sI);have F:Below w1.heap.size w1 (w1.alloc (.cells (zQ x) 189)):=bA;have b5:=hR1.kept (z8.of_below F) sI sI;have f7:(w1.alloc (.cells (zQ x) 189)).rangeLeft bl wS.heap.size=w1.rangeLeft bl wS.heap.size:=q8 (z8.of_below F) sI sI hR1.lt.2 hR1.lt.1;have D:=J.below F;have f1:w0.heap.size<=w1.heap.size:=oM;have b9:wS.heap.size<=w1.heap.size:=oM;have b0:Below wS.heap.size wS (w1.alloc (.cells (zQ x) 189)):=e4.trans (F.mono b9);have G:z9 (w1.alloc (.cells (zQ x) 189)) w1.heap.size 0 34=some (zQ x):=by simp[go_sem]
   have V:=(b0.cell (p:=⟨g,1,none⟩) c7).trans g4;have c3:jM (w1.alloc (.cells (zQ x) 189)) bo O:=ho.kept (z8.of_below (b0.mono lR)) sI;have L:w0.heap.size<=(w1.alloc (.cells (zQ x) 189)).heap.size:=sO;change (Instr.next _ _ _).run prog wr=.ok (.tuple #[.bool true,.agg (zQ x),.bool true]) w1 at f;change (Instr.entry _).run prog w1=.ok (.tuple #[.agg (zQ x),.bool true]) w1 at hen;have e9:=dH d7;clear t hb hk1 hs1 hR1 J e4 F d7;go_upto_region 4 with fail
   obtain⟨W1,b3⟩:=eR (w1.alloc (.cells (zQ x) 189))
   obtain⟨gx,g1⟩:=eX w1.heap.size
   rw[g1]at G;rw[<-b3]at b5 f7 D b0 G V c3 L |-;have d3:z9 W1 gx 0 32=some (idC x.id):=by have:=yD G (j:=0) (m:=32) oM;rwa [XX]at this
   have hk:∀y:Subtype (Bel W1),(Instr.lookup 29 (.map (some bo)) (.agg (idC x.id)) false).run prog y.1=.ok (.bool (decide (x.id∈O))) y.1:=λy=>jg (c3.below y.2);obtain⟨r,c2⟩:=eX (decide (x.id∈O))
   rw[c2]at hk;have e8:=dH c2;clear f hen b3 c2;refine lX W1 ?_;intro b6 hS;have b1:=zJ V;have b2:=zV d3;refine lZ ?_;refine zC ?_;intro hS;have b4:jV W1.drew bl wS.heap.size nA okM X (S ++ [x]):=b5.kept (z8.drew W1) sI sI;have f6:W1.drew.rangeLeft bl wS.heap.size=W1.rangeLeft bl wS.heap.size:=q8 (z8.drew W1) sI sI b5.lt.2 b5.lt.1;have d:=D.kept (z8.drew W1) sI;have c9:Below wS.heap.size wS W1.drew:=b0.drew;have c1:z9 W1.drew gx 0 34=some (zQ x):=G;have Y:w0.heap.size<=W1.drew.heap.size:=L;clear b1 b2 b6 hS hk V d3 G D b0 b5 c3 L;obtain⟨W2,e6⟩:=eX W1.drew
   rw[e6]at b4 f6 d c9 c1 Y |-;clear e6;cases r with
   | true =>
    have a7:x.id∈O:=of_decide_eq_true e8.out;have e5:=e9.out;rw[if_pos a7]at e5;have E5:=dH e5;clear e5 a7;(go_wp2_with fail);go_roundw
    case rel=>exact⟨S ++ [x],A,cap,by rw[E5.out],b4,by rw[E5.out];exact d,c9,Y⟩
    case measure=>omega
   | false =>
    have a7:x.id∉O:=of_decide_eq_false e8.out;have e5:=e9.out;rw[if_neg a7]at e5;have E5:=dH e5;clear e5 a7;have a9:Below W2.heap.size W2 (W2.alloc (.cells (zQ x) 189)):=bA;have a4:=d.below a9;have a0:z9 (W2.alloc (.cells (zQ x) 189)) W2.heap.size 0 34=some (zQ x):=by simp[go_sem]
    go_wp2_with (at_builtin;refine xS r5 rfl a4 rfl a0 (lM _) oM oM sO ?_;intro A' cap' w5 a3 b7 d4)
    have e3:bl∉blk A:=λhx=>(oH ((d.at_base hx).1));have d5:wS.heap.size∉blk A:=λhx=>(oH ((d.at_base hx).1));have d0:=b4.kept (z8.of_below a9) sI sI;have g9:=d0.kept b7 e3 d5;have f5:w5.rangeLeft bl wS.heap.size=W2.rangeLeft bl wS.heap.size :=
     (q8 b7 e3 d5 d0.lt.2 d0.lt.1).trans (q8 (z8.of_below a9) sI sI b4.lt.2 b4.lt.1)
    have c0:w0.heap.size<=w5.heap.size:=by
     have e1:=a9.size;have e2:=b7.size;omega
    have g5:Below wS.heap.size wS w5:=c9.trans ((a9.mono oM).trans (b7.below (B:=wS.heap.size) sO λy hy=>oH ((d.at_base hy).1)));(go_wp2_with fail);go_roundw
    case rel=>exact⟨S ++ [x],A',cap',by rw[E5.out];simp,g9,by rw[E5.out];simpa using a3,g5,c0⟩
    case measure=>omega
end
def iO(O T:List zA):List zA:=T.foldl (jI yC) O
theorem putO_ris{O T:List zA}(h:Ris yC O):Ris yC (iO O T):=(mM vM T O h).1
theorem putO_snoc(O T:List zA)(t:zA):iO O (T ++ [t])=jI yC (iO O T) t:=by simp[iO]
theorem jh{g o:Nat}{kv:κ->Value}{ok:κ->Prop}{X:List κ}(h:z9 w g o k=some cs)(hs:yJ w b kv ok X):g≠b:=by
 rintro rfl;obtain⟨M,es,d,hm,_⟩:=hs;unfold z9 at h;rw[hm.heap]at h;cases h
def setX(X:List qN)(O:List zA)(x:qN)(T:List zA):List qN:=lN (jI jU X x) (iO O T)
theorem mset(d:zA)(key val:ByteArray)(A:Option Addr)(n cap:Nat)(T:List zA)(w:World)(g bl bo:Nat)(X:List qN)(O:List zA)(h:xN w g bl bo X O)(hT:zW w A n T)(d6:key.size<=16)(c9:val.size<=16)(hn:n<=1000000)(hX:X.length<1000000) :
  Calls prog 267 #[.pointer (some ⟨g,0,none⟩),.agg (idC d),.string key,.string val,.slice A n cap] w λe w'=>e=.returned (.int .i64 0)/\xN w' g bl bo (setX X O ⟨d,key,val⟩ T) (iO O T)/\z8 [bl,bo] w w':=by
 have L:=hT.len;have j:=dH L;have M:Below w.heap.size w (w.alloc (.cells (idC d) 23)):=bA;have h0:=h.below M;have R:z9 (w.alloc (.cells (idC d) 23)) w.heap.size 0 32=some (idC d):=by simp[go_sem]
 have b3:fB ⟨d,key,val⟩:=⟨d6,c9⟩
 have d9:=h.lt;clear L;go_enter func267,ntmps267
 go_upto_region 1 with fail
 obtain⟨ga,a7⟩:=eX w.heap.size
 have b0:=dH a7;rw[a7]at R d9 M |-;obtain⟨W0,c7⟩:=eR (w.alloc (.cells (idC d) 23))
 rw[<-c7]at h0 R M |-;clear c7 a7;(go_wp2_with fail);refine(XW W0 g bl h0.cell0).mono ?_;rintro e w1 ⟨rfl,rfl⟩;go_upto_region 6 with fail
 have c2:g∉[bl]:=by simpa using h0.nel
 have c3:=h0.cell0;obtain⟨w2,E,b7,c1⟩:=mput (x:=⟨d,key,val⟩) (h0.live.kept (z8.drew W0) sI) b3;refine kX [bl] W0 ?_;intro a2 hS;have b1:=zF c3 c2;have b2:=zY R (S:=[bl]) sO;refine lQ ?_;intro K hK;refine zH (yA hS c1 sI) (λhS=>?_);refine hK _ _ ?_;clear hK K;refine zC ?_;intro hS;have B:z8 [bl] W0 w2:=hS;have c4:=(B.block g h0.lt.1 c2).trans h0.blk;have d4:jM w2 bo O:=h0.over.kept B (by simpa using λe=>h0.ne e.symm);have e1:z8 [bl,bo] w w2:=z8.trans ((z8.of_below (M.mono (by rw[b0.out];exact lR))).mono (S':=[bl,bo]) sI) (B.mono (S':=[bl,bo]) sI) iL;have b6:Y6 w2 bl (jI jU X ⟨d,key,val⟩):=yJ.congr b7 (λy=>by rw[jB YT,mem_cons]);have r:=gT YT (x:=⟨d,key,val⟩) h.risX;have D:∀y∈jI jU X ⟨d,key,val⟩,fB y:=λy hy=>by
  rcases (jB YT).1 hy with e | hy
  ·rw[e];exact b3
  ·exact h.sm y hy
 have b8:(jI jU X ⟨d,key,val⟩).length<=1000000:=oH (tE (c:=jU) X ⟨d,key,val⟩);have N:Hid (setX X O ⟨d,key,val⟩ T=lN (jI jU X ⟨d,key,val⟩) (iO O T)):=rfl;obtain⟨X1,c5⟩:=eX (jI jU X ⟨d,key,val⟩)
 rw[c5]at b6 r D b8 N;have a5:=h.nel;have a4:=h.neo;have s:=h.ne;have d1:=h.risO;have J:=h.live;have I:=h.over;clear c5 b1 b2 a2 hS c1 E R c3 B h0 M b7 hX;(go_wp2_with fail);go_loopw [33] (λi wr=>∃k:Nat,k<=n/\i=.int .i64 k/\Y6 wr bl X1/\jM wr bo (iO O (T.take k))/\z8 [bl,bo] w wr) (λi _=>n-(intOf i).toNat)
 case atStart=>exact⟨0,zL,rfl,b6,d4,e1⟩
 case round =>
  obtain⟨k,hk,rfl,hm,ho,H⟩:=hrel;have F:wr.cell? ⟨g,1,none⟩=some (.map (some bo)):=(H.cell (p:=⟨g,1,none⟩) (show g<w.heap.size by have:=b0.out;omega) sO).trans h.cell1;have f:=(H.block g (oH b0.out) sO).trans h.blk;by_cases G:k<n
  ·obtain⟨q,o,rfl,m⟩:=hT.get G (by rw[j.out];exact G);have d3:q≠bl:=jh m J;have d2:q≠bo:=jh m I;have d0:z9 wr q (o+k*32) 32=some (idC (T[k]'(by rw[j.out];exact G))):=(H.row (zD m) (by simp[d3,d2]) _ _).trans m;have U:T.take (k+1)=T.take k ++ [T[k]'(by rw[j.out];exact G)]:=by rw[take_add_one,getElem?_eq_getElem (by rw[j.out];exact G)];rfl
   obtain⟨x,hx⟩:=eX (T[k]'(by rw[j.out];exact G))
   rw[hx]at d0 U;have e3:=dH U;clear hx U m;have Z:Below wr.heap.size wr (wr.alloc (.cells (idC x) 23)):=bA;have a3:=yJ.below hm Z;have a1:=yJ.below ho Z;have a9:=(Z.cell (p:=⟨g,1,none⟩) (block_lt_of_cell? wr _ F)).trans F;have a0:z9 (wr.alloc (.cells (idC x) 23)) wr.heap.size 0 32=some (idC x):=by simp[go_sem]
   have b9:z8 [bl,bo] w (wr.alloc (.cells (idC x) 23)):=z8.trans H (z8.of_below Z) sI;have e0:bo<wr.heap.size:=ho.lt;go_upto_region 10 with fail
   obtain⟨W1,c6⟩:=eR (wr.alloc (.cells (idC x) 23))
   rw[<-c6]at a3 a1 a9 a0 b9 |-;clear c6;obtain⟨w5,E,b4,c0⟩:=jb (x:=x) (a1.kept (z8.drew W1) sI);have a6:g∉[bo]:=by simpa using a4
   refine kX [bo] W1 ?_;intro a2 hS;have b1:=zF a9 a6;have b2:=zY a0 (S:=[bo]) sO;refine lQ ?_;intro K hK;refine zH (yA hS c0 sI) (λhS=>?_);refine hK _ _ ?_;clear hK K;refine zC ?_;intro hS;have B:z8 [bo] W1 w5:=hS;have d5:=a3.kept B (by simpa using s);have d7:z8 [bl,bo] w w5:=z8.trans b9 (B.mono (S':=[bl,bo]) sI) iL;have V:jM w5 bo (iO O (T.take (k+1))):=yJ.congr b4 (λy=>by rw[e3.out,putO_snoc,jB vM,mem_cons]);clear b1 b2 a2 hS c0 E a9 a0 b4 B a3 a1;(go_wp2_with fail);go_roundw
   case rel=>exact⟨k+1,oM,by go_num,d5,V,d7⟩
   case measure=>exact sZ
  ·have e2:T.take k=T:=take_of_length_le (by rw[j.out];omega);rw[e2]at ho;have c8:=msweep wr g bl bo X1 (iO O T) f hm ho s r D b8;clear e2 F;(go_wp2_with fail);refine c8.mono ?_;rintro e w6 ⟨rfl,b5,Y⟩;have t:=(Y.block g (by have:=(aG f).1;exact this) (by simpa using a5)).trans f;have V:=ho.kept Y (by simpa using λe=>s e.symm);have a8:xN w6 g bl bo (setX X O ⟨d,key,val⟩ T) (iO O T):=by
    rw[N.out];exact⟨t,b5,V,s,r.filter _,putO_ris d1,λy hy=>D y (mem_filter.1 hy).1,λy hy=>by have:=(mem_filter.1 hy).2;simpa using this⟩
   have d8:z8 [bl,bo] w w6:=z8.trans H (Y.mono (S':=[bl,bo]) sI) iL;clear c8 b5 Y t V f hm ho H;(go_wp2_with fail);go_ret;exact⟨rfl,a8,d8⟩
section
section
variable {ι ν:Type} (kid:ι->List ν) (idn:ν->ι) (N:List ν) (refn:ν->ι) (z:ι)
def tP:Nat->ι->List ν
 | 0,_=>[]
 | k+1,r=>(kid r).flatMap λc=>c :: tP k (idn c)
def Deep:Nat->ι->Prop
 | 0,_=>False
 | k+1,r=>∀c∈kid r,Deep k (idn c)
def eF(k:Nat)(row:List ν):List ν:=row.flatMap λc=>c :: tP kid idn k (idn c)
variable {kid idn N refn z}
theorem zi:∀ {k:Nat} {r:ι},Deep kid idn k r->Deep kid idn (k+1) r
 | 0,_,h=>h.elim
 | _+1,_,h=>λc hc=>zi (h c hc)
theorem pre_up:∀ {k:Nat} {r:ι},Deep kid idn k r->tP kid idn (k+1) r=tP kid idn k r
 | 0,_,h=>h.elim
 | k+1,r,h=>by
  show(kid r).flatMap _=(kid r).flatMap _;have:∀l:List ν,(∀c∈l,Deep kid idn k (idn c))->l.flatMap (λc=>c :: tP kid idn (k+1) (idn c))=l.flatMap (λc=>c :: tP kid idn k (idn c)):=by
   intro l;induction l with
   | nil=>intro _;rfl
   | cons c l ih =>
    intro hl;rw[flatMap_cons,flatMap_cons,pre_up (hl c sI),ih (λd hd=>hl d (by simp[hd]))]
  exact this _ h
theorem VF{n:ν}{row:List ν}(hn:Deep kid idn k (idn n)):eF kid idn k (n :: row)=n :: eF kid idn k (kid (idn n)++row):=by
 cases k with
 | zero=>exact hn.elim
 | succ k =>
  unfold eF;rw[flatMap_cons,flatMap_append,cons_append];congr 2
  show(kid (idn n)).flatMap _=_;have h2:tP kid idn (k+1+1) (idn n)=tP kid idn (k+1) (idn n):=pre_up hn;exact h2.symm
theorem deep_kids{n:ν}(hn:Deep kid idn k (idn n)):∀c∈kid (idn n),Deep kid idn k (idn c):=by
 cases k with
 | zero=>exact hn.elim
 | succ k=>exact λc hc=>zi (hn c hc)
inductive kl(kid:ι->List ν)(idn:ν->ι)(z:ι):List ι->Prop
 | root:kl kid idn z [z]
 | step {r:ι} {p:List ι} {c:ν} (h:kl kid idn z (r :: p)) (hc:c∈kid r):kl kid idn z (idn c :: r :: p)
theorem path_split(hid:∀a∈N,∀b∈N,idn a=idn b->a=b)(hk:∀r,∀c∈kid r,c∈N/\refn c=r)(hz:∀a∈N,idn a≠z){q:List ι}(h:kl kid idn z q){c:ν}(hc:c∈N)(hm:idn c∈q) :
  ∃s t,q=s++idn c :: refn c :: t:=by
 induction h with
 | root=>simp at hm;exact absurd hm (hz c hc)
 | @step r p d h hd ih =>
  by_cases e:idn c=idn d
  ·obtain⟨g,f⟩:=hk _ _ hd;have:=hid c hc d g e;subst this;exact⟨[],p,by simp[f]⟩
  ·rcases mem_cons.1 hm with h1 | h1
   ·exact absurd h1 e
   ·obtain⟨s,t,hq⟩:=ih h1;exact⟨idn d :: s,t,by rw[hq];rfl⟩
theorem path_nodup(hid:∀a∈N,∀b∈N,idn a=idn b->a=b)(hk:∀r,∀c∈kid r,c∈N/\refn c=r)(hz:∀a∈N,idn a≠z){q:List ι}(h:kl kid idn z q):q.Nodup:=by
 induction h with
 | root=>simp
 | @step r p d h hd ih =>
  refine nodup_cons.2 ⟨λhm=>?_,ih⟩;obtain⟨g,f⟩:=hk _ _ hd;obtain⟨s,t,hq⟩:=path_split hid hk hz h g hm;rw[f]at hq;rw[hq]at ih;cases s with
  | nil =>
   simp only[nil_append]at ih hq;injection hq with h1 h2
   rw[<-h1]at ih;simp at ih
  | cons a s =>
   injection hq with h1 h2
   rw[<-h1]at ih;simp at ih
theorem path_sub(hk:∀r,∀c∈kid r,c∈N/\refn c=r){q:List ι}(h:kl kid idn z q):∀x∈q,x∈z :: N.map idn:=by
 induction h with
 | root=>simp
 | @step r p d h hd ih =>
  intro x hx;rcases mem_cons.1 hx with e | hx
  ·subst e;exact mem_cons.2 (.inr (mem_map.2 ⟨d,(hk _ _ hd).1,rfl⟩))
  ·exact ih x hx
theorem YV{α:Type}:∀ {S M:List α},S.Nodup->(∀x∈S,x∈M)->S.length<=M.length
 | [],M,_,_=>zL
 | x :: S,M,hn,hs=>by
  classical
  obtain⟨h1,h2⟩:=nodup_cons.1 hn;have:=YV (M:=M.erase x) h2 (λy hy=>(mem_erase_of_ne (λe=>h1 (by rw[<-e];exact hy))).2 (hs y (by simp[hy])));rw[length_erase_of_mem (hs x sI)]at this;have h3:=length_pos_of_mem (hs x sI);simp only[length_cons];omega
theorem KL(hid:∀a∈N,∀b∈N,idn a=idn b->a=b)(hk:∀r,∀c∈kid r,c∈N/\refn c=r)(hz:∀a∈N,idn a≠z) :
  ∀(f:Nat) (r:ι) (p:List ι),kl kid idn z (r :: p)->N.length+1<f+(r :: p).length->Deep kid idn f r
 | 0,r,p,h,hf=>by
  have:=YV (path_nodup hid hk hz h) (path_sub hk h);simp only[length_cons,length_map]at this hf;omega
 | f+1,r,p,h,hf=>λc hc=>KL hid hk hz f _ _ (h.step hc) (by simp only[length_cons]at hf |-;omega)
theorem deep_root(hid:∀a∈N,∀b∈N,idn a=idn b->a=b)(hk:∀r,∀c∈kid r,c∈N/\refn c=r)(hz:∀a∈N,idn a≠z):Deep kid idn (N.length+1) z :=
 KL hid hk hz _ z [] kl.root sI
theorem pre_root(h:Deep kid idn k z):tP kid idn k z=eF kid idn k (kid z):=by
 rw[<-pre_up h];rfl
structure tT(N:List ν)(idn:ν->ι)(refn:ν->ι)(z:ι)(out row:List ν):Prop where
 nodup:(out++row).Nodup
 sub:∀x∈out++row,x∈N
 par:∀x∈out++row,refn x=z\/∃y∈out,idn y=refn x
theorem tT.step(hid:∀a∈N,∀b∈N,idn a=idn b->a=b)(hk:∀r,∀c∈kid r,c∈N/\refn c=r)(hz:∀a∈N,idn a≠z)(k:∀r,(kid r).Nodup){out row:List ν}{n:ν}(h:tT N idn refn z out (n :: row)) :
  tT N idn refn z (out ++ [n]) (kid (idn n)++row):=by
 have g:n∈N:=h.sub n sI;have j:n∉out:=λhm=>by
  have:=h.nodup;rw[nodup_append]at this;exact this.2.2 n hm n sI rfl
 have d:∀x∈kid (idn n),x∉out++n :: row:=by
  intro x hx hm;obtain⟨m,f⟩:=hk _ x hx;rcases h.par x hm with e | ⟨y,hy,e⟩
  ·exact hz n g (f.symm.trans e)
  ·rw[f]at e;have:=hid y (h.sub y (mem_append.2 (.inl hy))) n g e;subst this;exact j hy
 have hp:(out ++ [n]++(kid (idn n)++row)).Perm (kid (idn n)++(out++n :: row)):=by
  have:out ++ [n]++(kid (idn n)++row)=(out ++ [n])++kid (idn n)++row:=sI;rw[this];have e2:kid (idn n)++(out++n :: row)=kid (idn n)++(out ++ [n])++row:=sI;rw[e2];exact Perm.append_right _ perm_append_comm
 refine⟨hp.nodup_iff.2 ?_,λx hx=>?_,λx hx=>?_⟩
 ·rw[nodup_append];exact⟨k _,h.nodup,λa ha b hb e=>by subst e;exact d a ha hb⟩
 ·rcases mem_append.1 (hp.mem_iff.1 hx)with hx | hx
  ·exact(hk _ x hx).1
  ·exact h.sub x hx
 ·rcases mem_append.1 (hp.mem_iff.1 hx)with hx | hx
  ·exact .inr ⟨n,sI,(hk _ x hx).2.symm⟩
  ·rcases h.par x hx with e | ⟨y,hy,e⟩
   ·exact .inl e
   ·exact .inr ⟨y,by simp[hy],e⟩
theorem tT.all(hid:∀a∈N,∀b∈N,idn a=idn b->a=b)(hk:∀r,∀c∈kid r,c∈N/\refn c=r)(hz:∀a∈N,idn a≠z)(d:∀r,(kid r).Nodup){k:Nat} :
  ∀(m:Nat) {out row:List ν},tT N idn refn z out row->(∀c∈row,Deep kid idn k (idn c))->(eF kid idn k row).length=m->(out++eF kid idn k row).Nodup/\∀x∈out++eF kid idn k row,x∈N
 | m,out,[],h,_,_=>⟨by simpa[eF]using h.nodup,λx hx=>h.sub x (by simpa[eF]using hx)⟩
 | 0,out,n :: row,h,hd,hm=>by rw[VF (hd n sI)]at hm;simp at hm
 | m+1,out,n :: row,h,hd,hm=>by
  have hn:=hd n sI;rw[VF hn]at hm |-;have:=tT.all hid hk hz d m (h.step hid hk hz d) (λc hc=>by
   rcases mem_append.1 hc with hc | hc
   ·exact deep_kids hn c hc
   ·exact hd c (by simp[hc])) (by simpa using hm)
  simpa using this
theorem tT.root(hk:∀r,∀c∈kid r,c∈N/\refn c=r)(d:∀r,(kid r).Nodup):tT N idn refn z [] (kid z) :=
 ⟨by simpa using d z,λx hx=>(hk z x (by simpa using hx)).1,λx hx=>.inl (hk z x (by simpa using hx)).2⟩
theorem pre_nodup(hid:∀a∈N,∀b∈N,idn a=idn b->a=b)(hk:∀r,∀c∈kid r,c∈N/\refn c=r)(hz:∀a∈N,idn a≠z)(d:∀r,(kid r).Nodup)(h:Deep kid idn k z) :
  (tP kid idn k z).Nodup/\∀x∈tP kid idn k z,x∈N:=by
 have hd:∀c∈kid z,Deep kid idn k (idn c):=by
  cases k with
  | zero=>exact h.elim
  | succ k=>exact λc hc=>zi (h c hc)
 have:=tT.all hid hk hz d _ (tT.root (z:=z) (refn:=refn) (idn:=idn) hk d) hd rfl;rw[pre_root h];simpa using this
end
end
structure zS where
 id:zA
 h:Int
 ref:zA
 val:ByteArray
theorem zS.ext'{a b:zS}(h1:a.id=b.id)(h2:a.h=b.h)(h3:a.ref=b.ref)(h4:a.val=b.val):a=b:=by cases a;cases b;simp_all
theorem totI:qJ fS where
 zero a b:=by unfold fS;constructor <;> intro h <;> (repeat' split at *) <;> omega
 anti a b:=by unfold fS;(repeat' split) <;> omega
 trans a b d:=by unfold fS;(repeat' split) <;> omega
theorem qJ.rev{α:Type}{c:α->α->Int}(T:qJ c):qJ (λa b=>c b a) where
 zero a b:=by rw[T.zero];exact⟨Eq.symm,Eq.symm⟩
 anti a b:=T.anti _ _
 trans a b d h1 h2:=T.trans _ _ _ h2 h1
def mS(a b:zS):Int:=orC (fS b.h a.h) (orC (yC b.id a.id) (orC (yC a.ref b.ref) (qS a.val b.val)))
theorem ye:qJ mS :=
 qJ.of (c:=fun (x y:Int×(zA×(zA×ByteArray)))=>orC (fS y.1 x.1) (orC (yC y.2.1 x.2.1) (orC (yC x.2.2.1 y.2.2.1) (qS x.2.2.2 y.2.2.2))))
  (qJ.pair (c:=λa b=>fS b a) totI.rev (qJ.pair (c:=λa b=>yC b a) vM.rev (qJ.pair vM JC))) (λn=>(n.h,n.id,n.ref,n.val))
  (λx y h=>by simp only[Prod.mk.injEq]at h;exact zS.ext' h.2.1 h.1 h.2.2.1 h.2.2.2) (λ_ _=>rfl)
def vk(a b:zS):Int:=orC (yC a.id b.id) (orC (fS a.h b.h) (orC (yC a.ref b.ref) (qS a.val b.val)))
theorem totM:qJ vk :=
 qJ.of (c:=fun (x y:zA×(Int×(zA×ByteArray)))=>orC (yC x.1 y.1) (orC (fS x.2.1 y.2.1) (orC (yC x.2.2.1 y.2.2.1) (qS x.2.2.2 y.2.2.2))))
  (qJ.pair vM (qJ.pair totI (qJ.pair vM JC))) (λn=>(n.id,n.h,n.ref,n.val))
  (λx y h=>by simp only[Prod.mk.injEq]at h;exact zS.ext' h.1 h.2.1 h.2.2.1 h.2.2.2) (λ_ _=>rfl)
def bC(ah:Int)(a:zA)(bh:Int)(b:zA):Bool:=if ah=bh then decide (yC a b<0)else decide (ah<bh)
def ko(N:List zS):Prop:=∀a∈N,∀b∈N,a.id=b.id->a=b
theorem cmpN_ahead{a b:zS}(h:a.id≠b.id):decide (mS b a<0)=bC a.h a.id b.h b.id:=by
 have hid:yC a.id b.id≠0:=λe=>h ((gD _ _).1 e);unfold mS bC orC fS;by_cases e:a.h=b.h
 ·rw[if_pos (by rw[if_neg oM,if_neg oM]),if_neg hid,if_pos e]
 ·rw[if_neg e];rw[if_neg (by(repeat' split) <;> omega)];by_cases h1:a.h<b.h
  ·rw[if_pos h1];simp[h1]
  ·rw[if_neg h1,if_pos oM];simp[h1]
def v8(N:List zS)(r:zA):List zS:=kL mS (N.filter λn=>decide (n.ref=r))
theorem lJ{N:List zS}{r:zA}{n:zS}:n∈v8 N r↔n∈N/\n.ref=r:=by unfold v8;rw[kT ye];simp
theorem eE(N:List zS)(r:zA):Ris mS (v8 N r):=kQ ye _
theorem kids_congr{N M:List zS}(h:∀n,n∈N↔n∈M)(r:zA):v8 N r=v8 M r:=nN ye λz=>by simp[h]
theorem kids_cons(N:List zS)(n:zS)(r:zA):v8 (n :: N) r=if n.ref=r then jI mS (v8 N r) n else v8 N r:=by
 refine gH ye (eE _ _) ?_ λz=>?_
 ·split
  ·exact gT ye (eE _ _)
  ·exact eE _ _
 ·rw[lJ,mem_cons];split
  ·rename_i e
   rw[jB ye,lJ];constructor
   ·rintro⟨h1 | h1,h2⟩
    ·exact .inl h1
    ·exact .inr ⟨h1,h2⟩
   ·rintro(h1 | ⟨h1,h2⟩)
    ·subst h1;exact⟨.inl rfl,e⟩
    ·exact⟨.inr h1,h2⟩
  ·rename_i e
   rw[lJ];constructor
   ·rintro⟨h1 | h1,h2⟩
    ·subst h1;exact absurd h2 e
    ·exact⟨h1,h2⟩
   ·rintro⟨h1,h2⟩;exact⟨.inr h1,h2⟩
theorem p8(N:List zS)(r:zA):(v8 N r).length<=N.length:=by
 unfold v8;exact Nat.le_trans (cX _) (length_filter_le _ _)
def dE(N:List zS):List zS:=tP (v8 N) zS.id (N.length+1) id0
def aQ(N:List zS):Prop:=ko N/\∀a∈N,a.id≠id0
theorem aQ.deep{N:List zS}(h:aQ N):Deep (v8 N) zS.id (N.length+1) id0 :=
 deep_root (N:=N) (refn:=zS.ref) h.1 (λ_ _ hc=>lJ.1 hc) h.2
theorem mC{N:List zS}(f:aQ N):(dE N).Nodup/\∀x∈dE N,x∈N :=
 pre_nodup (refn:=zS.ref) f.1 (λ_ _ hc=>lJ.1 hc) f.2 (λr=>(eE N r).nodup ye) f.deep
theorem rQ{N:List zS}(f:aQ N):(dE N).length<=N.length:=YV (mC f).1 (mC f).2
def dO(N:List zS)(G:List zA):List ByteArray:=((dE N).filter λn=>decide (n.id∉G)).map zS.val
def vP(n:zS):Int:=if 16<n.val.size then 3 else if n.h<1\/1073741824<n.h\/n.id=id0 then 5 else 0
theorem XT{n:zS}(h:vP n=0):n.id≠id0/\n.val.size<=16/\1<=n.h/\n.h<=1073741824:=by
 unfold vP at h;split at h
 ·cases h
 ·split at h
  ·cases h
  ·rename_i h1 h2
   refine⟨λe=>h2 (.inr (.inr e)),oM,?_,?_⟩
   ·exact Classical.byContradiction λhh=>h2 (.inl oM)
   ·exact Classical.byContradiction λhh=>h2 (.inr (.inl oM))
section
def BN{α:Type}:List α->Nat->Option α
 | [],_=>none
 | x :: _,0=>some x
 | _ :: l,i+1=>BN l i
theorem nthL_eq{α:Type}:∀(l:List α) (i:Nat),BN l i=l[i]?
 | [],_=>rfl
 | _ :: _,0=>rfl
 | _ :: l,i+1=>by simpa[BN]using nthL_eq l i
theorem XS{i:Nat}{o:Oper}(h:BN ops.toList i=some o):ops[i]?=some o:=by
 rw[nthL_eq]at h;simpa using h
inductive qM where
 | done:qM
 | loose (i:Nat) (n:qM):qM
 | one (i:Nat) (n:qM):qM
 | two (i:Nat) (n:qM) (j:Nat) (m:qM):qM
 | three (i:Nat) (n:qM) (j:Nat) (m:qM) (k:Nat) (l:qM):qM
def qM.depth:qM->Nat
 | .done=>0
 | .loose _ n=>n.depth+1
 | .one _ n=>n.depth+1
 | .two _ n _ m=>max n.depth m.depth+1
 | .three _ n _ m _ l=>max (max n.depth m.depth) l.depth+1
def qM.ok(md:Region.Mode)(ops:Array Oper):qM->Array Bool->Bool
 | .done,listed=>(Region.ready md ops listed).isEmpty
 | .loose i n,listed=>(Region.ready md ops listed).contains i&&Region.free md ops listed i&&n.ok md ops (listed.setIfInBounds i true)
 | .one i n,listed=>(Region.ready md ops listed == [i])&&n.ok md ops (listed.setIfInBounds i true)
 | .two i n j m,listed=>(Region.ready md ops listed == [i,j])&&n.ok md ops (listed.setIfInBounds i true)&&m.ok md ops (listed.setIfInBounds j true)
 | .three i n j m k l,listed=>(Region.ready md ops listed == [i,j,k])&&n.ok md ops (listed.setIfInBounds i true)&&m.ok md ops (listed.setIfInBounds j true)&&l.ok md ops (listed.setIfInBounds k true)
section
variable {P:Program} {ops:Array Oper} {md:Region.Mode} {S:World->Prop} {cv fb:Bool}
def rL(P:Program)(ops:Array Oper)(S:World->Prop)(cv fb:Bool)(i:Nat)(K:Act->World->Prop)(a:Act)(w:World):Prop :=
 match ops[i]? with
 | none=>False
 | some o=>if Region.wanted o (yielded ops a.tmps)then yL cv o=true/\qB P (cls ops S fb i) (λv w'=>K (a.put o.dst v) w') ((execOp a.eval o).run P w)else K (a.put o.dst undef) w
def cJ(P:Program)(ops:Array Oper)(S:World->Prop)(cv fb:Bool)(Q:Act->World->Prop):qM->Act->World->Prop
 | .done,a,w=>Q a w
 | .loose i n,a,w =>
  match ops[i]? with
  | none=>False
  | some o=>if Region.wanted o (yielded ops a.tmps)then yL cv o=false/\∃v,(∀w',S w'->vG w' v ((execOp a.eval o).run P w'))/\cJ P ops S cv fb Q n (a.put o.dst v) w else cJ P ops S cv fb Q n (a.put o.dst undef) w
 | .one i n,a,w=>rL P ops S cv fb i (cJ P ops S cv fb Q n) a w
 | .two i n j m,a,w=>rL P ops S cv fb i (cJ P ops S cv fb Q n) a w/\rL P ops S cv fb j (cJ P ops S cv fb Q m) a w
 | .three i n j m k l,a,w=>rL P ops S cv fb i (cJ P ops S cv fb Q n) a w/\rL P ops S cv fb j (cJ P ops S cv fb Q m) a w/\rL P ops S cv fb k (cJ P ops S cv fb Q l) a w
theorem l9{i:Nat}{K K':Act->World->Prop}(hS:S w)(hk:∀a w,cls ops S fb i w->K a w->K' a w)(h:rL P ops S cv fb i K a w):lxOp P ops S cv fb i K' a w:=by
 unfold rL at h;unfold lxOp;split at h
 ·exact h.elim
 ·rename_i o ho
  simp only[ho];split at h
  ·rename_i hw
   rw[if_pos hw,if_pos h.1];exact gL (λv w' hs d=>hk _ _ hs d) h.2
  ·rename_i hw
   rw[if_neg hw];exact hk _ _ (.inl hS) h
theorem aU{Q:Act->World->Prop}(hs:Region.noSelect ops=true):∀(T:qM) (r:Nat) (d:Array Bool) (a:Act) (w:World),kO md ops fb d->(S w\/(fb=true/\Region.ready md ops d = [])) ->
  T.ok md ops d=true->T.depth<=r->cJ P ops S cv fb Q T a w->tK P md ops S cv fb Q r d a w:=by
 have after:∀ {i:Nat} {d:Array Bool} {w':World},kO md ops fb d->i∈Region.ready md ops d->cls ops S fb i w'->S w'\/(fb=true/\Region.ready md ops (d.setIfInBounds i true) = []):=by
  intro i d w' hI hi hc;rcases hc with hc | ⟨G,he⟩
  ·exact .inl hc
  ·right
   refine⟨G,?_⟩;rcases ((hI.set hi).inv G).2 with h1 | h1
   ·exfalso
    have:=h1.tail i oM oM;have H:i<(d.setIfInBounds i true).size:=by rw[h1.size];omega
    have D:i<d.size:=by simpa using H
    simp[D]at this
   ·exact h1
 have g:∀ {i:Nat} {d:Array Bool} {w:World},i∈Region.ready md ops d->(S w\/(fb=true/\Region.ready md ops d = []))->S w:=by
  intro i d w hi h;rcases h with h | ⟨_,h⟩
  ·exact h
  ·rw[h]at hi;cases hi
 intro T;induction T with
 | done =>
  intro r d a w _ _ t _ h;have h0:Region.ready md ops d = []:=by simpa[qM.ok]using t
  cases r with
  | zero=>exact⟨h0,h⟩
  | succ f=>exact⟨λ_=>h,λi hi=>by rw[h0]at hi;cases hi⟩
 | loose i n ih =>
  intro r d a w hI A t hd h;simp only[qM.ok,Bool.and_eq_true]at t;obtain⟨⟨hr,hf⟩,hn⟩:=t;have y:i∈Region.ready md ops d:=by simpa using hr
  have hS:=g y A;cases r with
  | zero=>simp[qM.depth]at hd
  | succ f =>
   have B:n.depth<=f:=by simp[qM.depth]at hd;omega
   unfold cJ at h;split at h
   ·exact h.elim
   ·rename_i o ho
    split at h
    ·rename_i hw
     obtain⟨hc,v,hv,hk⟩:=h;exact gN ho (Region.noSelect_spec hs) f d a w hI hS (Region.free_spec ho hf) y (.inl ⟨hw,hc,hv⟩) (ih f _ _ w (hI.set y) (.inl hS) hn B hk)
    ·rename_i hw
     exact gN ho (Region.noSelect_spec hs) f d a w hI hS (Region.free_spec ho hf) y (.inr ⟨by simpa using hw,rfl⟩) (ih f _ _ w (hI.set y) (.inl hS) hn B h)
 | one i n ih =>
  intro r d a w hI A t hd h;simp only[qM.ok,Bool.and_eq_true,beq_iff_eq]at t;obtain⟨hr,hn⟩:=t;have y:i∈Region.ready md ops d:=by rw[hr];simp
  have hS:=g y A;cases r with
  | zero=>simp[qM.depth]at hd
  | succ f =>
   have B:n.depth<=f:=by simp[qM.depth]at hd;omega
   refine⟨λh0=>(by rw[hr]at h0;cases h0),λx hx=>?_⟩;have s:=hx;rw[hr]at s;obtain rfl:x=i:=by simpa using s
   exact l9 hS (λa' w' hc hk=>ih f _ a' w' (hI.set hx) (after hI hx hc) hn B hk) h
 | two i n j m ih1 ih2 =>
  intro r d a w hI A t hd h;simp only[qM.ok,Bool.and_eq_true,beq_iff_eq]at t;obtain⟨⟨hr,hn⟩,hm⟩:=t;have hS:=g (i:=i) (by rw[hr];simp) A;cases r with
  | zero=>simp[qM.depth]at hd
  | succ f =>
   have F:n.depth<=f:=by simp[qM.depth]at hd;omega
   have E:m.depth<=f:=by simp[qM.depth]at hd;omega
   refine⟨λh0=>(by rw[hr]at h0;cases h0),λx hx=>?_⟩;have s:=hx;rw[hr]at s;rcases mem_cons.1 s with rfl | s
   ·exact l9 hS (λa' w' hc hk=>ih1 f _ a' w' (hI.set hx) (after hI hx hc) hn F hk) h.1
   ·obtain rfl:x=j:=by simpa using s
    exact l9 hS (λa' w' hc hk=>ih2 f _ a' w' (hI.set hx) (after hI hx hc) hm E hk) h.2
 | three i n j m k l ih1 ih2 ih3 =>
  intro r d a w hI A t hd h;simp only[qM.ok,Bool.and_eq_true,beq_iff_eq]at t;obtain⟨⟨⟨hr,hn⟩,hm⟩,hl⟩:=t;have hS:=g (i:=i) (by rw[hr];simp) A;cases r with
  | zero=>simp[qM.depth]at hd
  | succ f =>
   have F:n.depth<=f:=by simp[qM.depth]at hd;omega
   have E:m.depth<=f:=by simp[qM.depth]at hd;omega
   have I:l.depth<=f:=by simp[qM.depth]at hd;omega
   refine⟨λh0=>(by rw[hr]at h0;cases h0),λx hx=>?_⟩;have s:=hx;rw[hr]at s;rcases mem_cons.1 s with rfl | s
   ·exact l9 hS (λa' w' hc hk=>ih1 f _ a' w' (hI.set hx) (after hI hx hc) hn F hk) h.1
   ·rcases mem_cons.1 s with rfl | s
    ·exact l9 hS (λa' w' hc hk=>ih2 f _ a' w' (hI.set hx) (after hI hx hc) hm E hk) h.2.1
    ·obtain rfl:x=k:=by simpa using s
     exact l9 hS (λa' w' hc hk=>ih3 f _ a' w' (hI.set hx) (after hI hx hc) hl I hk) h.2.2
structure s5(P:Program)(ops:Array Oper)(S:World->Prop)(cv fb:Bool)(Q:Act->World->Prop)(T:qM)(a:Act)(w:World):Prop where
 out:cJ P ops S cv fb Q T a w
theorem vE{id:Nat}{ops:Array Oper}(T:qM)(S:World->Prop)(cv:Bool)(hm:P.follows .mixedOrders=true)(hs:Region.noSelect ops=true)(hT:T.ok .any ops (Array.replicate ops.size false)=true)(hd:Nat.ble T.depth ops.size=true)(hS:S w.drew)
  (h:s5 P ops S cv false (λa' w'=>S w'->Q .normal a' w') T a w.drew):(Code.region id ops true).wp P Q a w:=by
 have hI:kO .any ops false (Array.replicate ops.size false):=⟨sI⟩
 exact wp_region_any hm (dY (S:=S) (cv:=cv) (fb:=false) (Q:=λa' w'=>S w'->Q .normal a' w') (λ_ w' d h=>h (d.elim (λh=>h) sI)) _ _ _ _ hI (.inl hS)
  (aU (md:=.any) hs T _ _ a w.drew hI (.inl hS) hT (Nat.le_of_ble_eq_true hd) h.out))
theorem n0{id:Nat}{ops:Array Oper}(T:qM)(S:World->Prop)(cv:Bool)(hm:P.follows .mixedOrders=true)(hs:Region.noSelect ops=true)(hT:T.ok .any ops (Array.replicate ops.size false)=true)(hd:Nat.ble T.depth ops.size=true)(hE:endB .any ops=true)(hS:S w.drew)
  (h:s5 P ops S cv true (λa' w'=>Q .normal a' w') T a w.drew):(Code.region id ops true).wp P Q a w:=by
 have hI:kO .any ops true (Array.replicate ops.size false):=⟨λ_=>⟨hE,.inl ⟨sI,λj oj _ hj=>(by rw[getD_replicate_false]at hj;cases hj),λt ht d=>by simp[d]⟩⟩⟩
 exact wp_region_any hm (dY (S:=S) (cv:=cv) (fb:=true) (Q:=λa' w'=>Q .normal a' w') (λ_ w' _ h=>h) _ _ _ _ hI (.inl hS)
  (aU (md:=.any) hs T _ _ a w.drew hI (.inl hS) hT (Nat.le_of_ble_eq_true hd) h.out))
variable {Q:Act->World->Prop} {a:Act} {w:World} {o:Oper} {i j k:Nat} {n m l:qM}
theorem kP(h:Q a w):s5 P ops S cv fb Q .done a w:=⟨h⟩
theorem kz(d:BN ops.toList i=some o)(hc:yL cv o=false)
  (h:∀K:Act->Prop,(∀a,s5 P ops S cv fb Q n a w->K a)->if Region.wanted o (yielded ops a.tmps)then(∃v,(∀x:Subtype S,vG x.1 v ((execOp a.eval o).run P x.1))/\K (a.put o.dst v))else K (a.put o.dst undef)):s5 P ops S cv fb Q (.loose i n) a w:=by
 have ho:=XS d;have:=h _ (λ_ h=>h);refine⟨?_⟩;unfold cJ;simp only[ho];split
 ·rename_i hw
  rw[if_pos hw]at this;obtain⟨v,hv,hk⟩:=this;exact⟨hc,v,λw' hs=>hv ⟨w',hs⟩,hk.out⟩
 ·rename_i hw;rw[if_neg hw]at this;exact this.out
theorem wpTx_one(hS:S w)(d:BN ops.toList i=some o)(hc:yL cv o=true)
  (h:∀K:Act->World->Prop,(∀a w,s5 P ops S cv fb Q n a w->K a w)->if Region.wanted o (yielded ops a.tmps)then qB P S (λv w'=>K (a.put o.dst v) w') ((execOp a.eval o).run P w)else K (a.put o.dst undef) w):s5 P ops S cv fb Q (.one i n) a w:=by
 have ho:=XS d;have:=h _ (λ_ _ h=>h);refine⟨?_⟩;unfold cJ rL;simp only[ho];split
 ·rename_i hw;rw[if_pos hw]at this;exact⟨hc,vX (λ_ h=>.inl h) (λ_ _ _ h=>h.out) this⟩
 ·rename_i hw;rw[if_neg hw]at this;exact this.out
theorem YM(h1:s5 P ops S cv fb Q (.one i n) a w)(h2:s5 P ops S cv fb Q (.one j m) a w):s5 P ops S cv fb Q (.two i n j m) a w:=⟨⟨h1.out,h2.out⟩⟩
theorem zv(d:BN ops.toList i=some o)(hc:yL cv o=true)(hi:(i+1==ops.size)=true)
  (h:∀K:Act->World->Prop,(∀a w,Q a w->K a w)->if Region.wanted o (yielded ops a.tmps)then qB P (λ_=>True) (λv w'=>K (a.put o.dst v) w') ((execOp a.eval o).run P w)else K (a.put o.dst undef) w):s5 P ops S cv true Q (.one i .done) a w:=by
 have ho:=XS d;have:=h _ (λ_ _ h=>h);refine⟨?_⟩;unfold cJ rL;simp only[ho];split
 ·rename_i hw;rw[if_pos hw]at this;exact⟨hc,vX (λ_ _=>.inr ⟨rfl,beq_iff_eq.1 hi⟩) (λ_ _ _ h=>h) this⟩
 ·rename_i hw;rw[if_neg hw]at this;exact this
end
end
section
section
variable {P:Program} {ops:Array Oper} {S:World->Prop} {cv fb:Bool} {Q:Act->World->Prop} {a:Act} {w:World} {o:Oper} {i:Nat} {n:qM}
theorem wpTz(hc:yL cv o=false)(h:∀K:Act->Prop,(∀a,s5 P ops S cv fb Q n a w->K a)->if Region.wanted o (yielded ops a.tmps)then(∃v,(∀x:Subtype S,vG x.1 v ((execOp a.eval o).run P x.1))/\K (a.put o.dst v))else K (a.put o.dst undef))(ho:BN ops.toList i=some o:=by rfl):s5 P ops S cv fb Q (.loose i n) a w:=kz ho hc h
theorem wpTh(hS:S w)(hc:yL cv o=true)(h:∀K:Act->World->Prop,(∀a w,s5 P ops S cv fb Q n a w->K a w)->if Region.wanted o (yielded ops a.tmps)then qB P S (λv w'=>K (a.put o.dst v) w') ((execOp a.eval o).run P w)else K (a.put o.dst undef) w)(ho:BN ops.toList i=some o:=by rfl):s5 P ops S cv fb Q (.one i n) a w:=wpTx_one hS ho hc h
end
theorem tZ{P Q:Prop}(q:Q)(h:zT Q->P:=by intro z;(repeat(refine wpTz ?_ ?_;(focus(simp only[yL];done));intro K hK;go_simp;refine hK _ ?_;clear hK K));exact z.out):P:=h ⟨q⟩
theorem tH{P Q:Prop}(q:Q)(h:zT Q->P:=by intro z;refine wpTh hS ?_ ?_;(focus(simp only[yL];done));intro K hK;go_simp;revert K hK;exact z.out):P:=h ⟨q⟩
end
section
def slS(T:TypeId)(x:Value)(lo hi mx:Option Value):Sem Value:=Instr.sliceAt T x lo hi mx
section
variable {P:Program} {T E:TypeId} {k bytes:Nat}
theorem yT.sizeOf_run(I:yT P T E k bytes)(w:World):(Go.sizeOf E).run P w=.ok k w:=by
 obtain⟨i,z,hi,hz,d,g,f⟩:=I.info;simp[Go.sizeOf,typeInfo,hi,d]
theorem k9(w:World)(m cap:Nat)(hm:m<=cap)(c:BoundsCode):(Instr.sliceBound (.int .i64 m) cap c).run P w=.ok m w:=by
 unfold Instr.sliceBound;have h1:(asIntOf (.int .i64 (m:Int))).run P w=.ok (.i64,(m:Int)) w:=rfl;simp only[Sem.run_bind,h1,Result.andThen_ok];rw[if_pos ⟨oM,oM⟩]
 simp
theorem wZ(I:yT P T E k bytes)(w:World)(x:Value)(lo hi mx:Option Value):(slS T x lo hi mx).run P w=(Instr.slice T x lo hi mx).run P w:=by
 unfold slS;simp[Instr.sliceAt,run_underlying I.und]
theorem s9(I:yT P T E k bytes)(w:World)(A:Option Addr)(n cap m:Nat)(hm:m<=cap) :
  (slS T (.slice A n cap) none (some (.int .i64 m)) none).run P w=.ok (.slice A m cap) w:=by
 rw[wZ I];unfold Instr.slice Instr.sliceBounds;simp only[Sem.run_bind,run_underlying I.und,Result.andThen_ok,Sem.run_pure,k9 w m cap hm,I.sizeOf_run w];have e:(if cap=0 then A else A.map λa=>a.add (0*k))=A:=by
  split
  ·rfl
  ·cases A with
   | none=>rfl
   | some a=>simp[Addr.add]
 simp only[Nat.sub_zero,e]
theorem X5(I:yT P T E k bytes)(w:World)(A:Option Addr)(n cap m:Nat)(hm:m<=n)(hc:n<=cap)(hA:A=none->cap=0)(f:∀a,A=some a->a.spot=none) :
  ∃A2 c2,(slS T (.slice A n cap) (some (.int .i64 m)) none none).run P w=.ok (.slice A2 (n-m) c2) w/\(∀(w':World) (L:List (Array Value)),SlR w' A n k L->SlR w' A2 (n-m) k (L.drop m))/\(A2=none->c2=0):=by
 refine⟨if cap=m then A else A.map λa=>a.add (m*k),cap-m,?_,?_,?_⟩
 ·rw[wZ I];unfold Instr.slice Instr.sliceBounds;simp only[Sem.run_bind,run_underlying I.und,Result.andThen_ok,Sem.run_pure,k9 w m n hm,I.sizeOf_run w,Option.isSome_none,Bool.false_eq_true,if_false]
 ·intro w' L hL;by_cases d:cap=m
  ·have:n-m=0:=oM;rw[this];exact⟨by rw[length_drop,hL.1];omega,λh=>absurd h oM⟩
  ·rw[if_neg d];cases A with
   | none=>exact absurd (hA rfl) oM
   | some a =>
    obtain⟨g,o,sp⟩:=a;have:sp=none:=f _ rfl;subst this;have e:(⟨g,o,none⟩:Addr).add (m*k)=⟨g,o+m*k,none⟩:=by unfold Addr.add;split <;> simp_all
    simp only[Option.map_some,e];exact hL.drop_ hm
 ·intro h;by_cases d:cap=m
  ·omega
  ·rw[if_neg d]at h;cases A with
   | none=>have:=hA rfl;omega
   | some a=>cases h
end
end
section
structure SlW(w:World)(A:Option Addr)(n cap k:Nat)(L:List (Array Value)):Prop where
 rd:SlR w A n k L
 le:n<=cap
 nil:A=none->cap=0
 plain:∀a,A=some a->a.spot=none
section
variable {P:Program} {T E:TypeId} {k bytes:Nat} {w w':World} {A:Option Addr} {n cap:Nat} {L:List (Array Value)}
theorem SlW.none_:SlW w none 0 0 k []:=⟨SlR.nil_,lR,λ_=>rfl,λa e=>by cases e⟩
theorem SlW.kept{S:List Nat}(h:SlW w A n cap k L)(hk:z8 S w w')(hn:∀x∈blk A,x∉S):SlW w' A n cap k L:=⟨h.rd.kept hk hn,h.le,h.nil,h.plain⟩
theorem SlW.below(h:SlW w A n cap k L)(hb:Below w.heap.size w w'):SlW w' A n cap k L:=⟨h.rd.below hb,h.le,h.nil,h.plain⟩
theorem SlW.len(h:SlW w A n cap k L):L.length=n:=h.rd.1
theorem Own.slw{B:Nat}(h:Own w B E k A n cap L):SlW w A n cap k L:=by
 have hA:=h.cap_le;refine⟨h.slr,hA.1,λe=>(hA.2 e).2,λa e=>?_⟩;rcases h.addr with e' | ⟨g,e'⟩
 ·rw[e']at e;cases e
 ·rw[e']at e;injection e with e;rw[<-e]
theorem SlW.lo(I:yT P T E k bytes)(h:SlW w A n cap k L){m:Nat}(hm:m<=n)(w0:World):(slS T (.slice A n cap) none (some (.int .i64 m)) none).run P w0=.ok (.slice A m cap) w0 :=
 s9 I w0 A n cap m (Nat.le_trans hm h.le)
theorem SlW.hi(I:yT P T E k bytes)(h:SlW w A n cap k L){m:Nat}(hm:m<=n) :
  ∃A2 c2,(∀w0:World,(slS T (.slice A n cap) (some (.int .i64 m)) none none).run P w0=.ok (.slice A2 (n-m) c2) w0)/\(∀w':World,SlR w' A n k L->SlR w' A2 (n-m) k (L.drop m))/\(A2=none->c2=0):=by
 obtain⟨A2,c2,h1,h2,h3⟩:=X5 (P:=P) I w A n cap m hm h.le h.nil h.plain;refine⟨A2,c2,λw0=>?_,λw' hw=>h2 w' L hw,h3⟩;obtain⟨A3,c3,k1,_,_⟩:=X5 (P:=P) I w0 A n cap m hm h.le h.nil h.plain;rw[wZ I]at h1 k1 |-;unfold Instr.slice Instr.sliceBounds at h1 k1 |-;simp only[Sem.run_bind,run_underlying I.und,Result.andThen_ok,Sem.run_pure,k9 _ m n hm,I.sizeOf_run,Option.isSome_none,Bool.false_eq_true,if_false]at h1 |-;injection h1 with h1 _
 rw[h1]
end
end
section
structure fG where
 h:Int
 ref:zA
 val:ByteArray
def zO(x:fG):Array Value:=#[.int .i64 x.h]++idC x.ref ++ #[.string x.val]
@[simp] theorem aY(x:fG):(zO x).size=34:=by simp[zO]
@[go_sem] theorem iK(x:fG):(zO x)[0]?=some (.int .i64 x.h):=by first | (simp[zO,Array.getElem?_append];done) | (rw[show zO x=((#[]:Array Value)) ++ #[.int .i64 x.h]++(idC x.ref ++ #[.string x.val])from by apply Array.ext';simp[zO]];exact xJ _ _ _ _ sI)
@[go_sem] theorem sNodeC_gg0(x:fG)(h:0<(zO x).size):(zO x)[0]'h=.int .i64 x.h:=Option.some.inj ((Array.getElem?_eq_getElem h).symm.trans (iK x))
@[go_sem] theorem dR(x:fG):(zO x).extract 1 33=idC x.ref:=by
 have h:zO x=(#[.int .i64 x.h])++idC x.ref++(#[.string x.val]):=by first | (simp[zO,Array.append_assoc];done) | (apply Array.ext';simp[zO];done)
 rw[h];exact bZ _ _ _ _ _ sI sI
@[go_sem] theorem sNodeC_g33(x:fG):(zO x)[33]?=some (.string x.val):=by first | (simp[zO,Array.getElem?_append];done) | (rw[show zO x=(#[.int .i64 x.h]++idC x.ref) ++ #[.string x.val]++((#[]:Array Value))from by apply Array.ext';simp[zO]];exact xJ _ _ _ _ sI)
@[go_sem] theorem sNodeC_gg33(x:fG)(h:33<(zO x).size):(zO x)[33]'h=.string x.val:=Option.some.inj ((Array.getElem?_eq_getElem h).symm.trans (sNodeC_g33 x))
@[go_sem] theorem sNodeC_all(x:fG):(zO x).extract 0 34=zO x:=by have:=Array.extract_size (xs:=zO x);rwa [aY]at this
theorem X4(x:fG):∀u∈(zO x).toList,u.oneCell'=true:=by
 intro u hu;simp only[zO,Array.toList_append,mem_append]at hu;rcases hu with(hu | hu) | hu
 ·simp at hu;subst hu;rfl
 ·exact yN _ u hu
 ·simp at hu;subst hu;rfl
def qU:fG:=⟨0,id0,⟨#[]⟩⟩
theorem SNode_ext{x y:fG}(h:x.h=y.h/\x.ref=y.ref/\x.val=y.val):x=y:=by cases x;cases y;simp_all
instance:DecidableEq fG:=λx y=>if h:x.h=y.h/\x.ref=y.ref/\x.val=y.val then isTrue (SNode_ext h)else isFalse (λe=>h (by subst e;simp))
theorem K2:(prog.info? 199).map (·.size)=some 34:=kR
@[go_sem ↓] theorem rG(w:World):(zeroValue 199).run prog w=.ok (.agg (zO qU)) w:=by
 have h:(prog.info? 199).bind (·.zero)=some (.agg (zO qU)):=kR;cases hi:prog.info? 199 with
 | none=>rw[hi]at h;cases h
 | some i =>
  rw[hi]at h;have hz:i.zero=some (.agg (zO qU)):=h;simp[zeroValue,typeInfo,hi,hz]
@[go_sem ↓] theorem loadSNode_rw(a:Addr):loadVar 199 a=ldS 199 a:=rfl
@[go_sem ↓] theorem storeSNode_rw(a:Addr)(v:Value):storeVar 199 a v=stS 199 a v:=rfl
@[go_sem] theorem loadSNode_run(w:World)(g o:Nat):(ldS 199 ⟨g,o,none⟩).run prog w=match z9 w g o 34 with | some cs=>.ok (.agg cs) w | none=>(loadVar 199 ⟨g,o,none⟩).run prog w :=
 jD underlying199 rfl K2 w g o
@[go_sem] theorem nI(w:World)(g:Nat)(hg:g=w.heap.size)(z:Array Value)(hz:z.size=34)(x:fG)(e:TypeId):(stS 199 ⟨g,0,none⟩ (.agg (zO x))).run prog (w.alloc (.cells z e))=.ok () (w.alloc (.cells (zO x) e)) :=
 hg ▸ xW K2 w z (zO x) hz (aY x) (X4 x)
theorem jw:prog.underlying 199=some (.struct (prog.fieldsOf 199)):=kR
theorem xw(w:World):((prog.fieldsOf 199).mapM fun (f:Field)=>do pure (f.offset,<-sizeOf f.type)).run prog w=.ok #[(0,1),(1,32),(33,1)] w:=kR
@[go_sem ↓] theorem buildSNode_rw(parts:Array (Nat×Value)):Instr.build 199 parts=bdS 199 parts:=rfl
@[go_sem ↓] theorem fieldSNode_0(x:fG)(w:World):(Instr.field 199 (.agg (zO x)) 0).run prog w=.ok (.int .i64 x.h) w:=by
 unfold Instr.field;simp only[Sem.run_bind,run_underlying underlying199,Result.andThen_ok,part,asAgg,isAgg];simp[go_sem]
@[go_sem ↓] theorem fieldSNode_2(x:fG)(w:World):(Instr.field 199 (.agg (zO x)) 2).run prog w=.ok (.string x.val) w:=by
 unfold Instr.field;simp only[Sem.run_bind,run_underlying underlying199,Result.andThen_ok,part,asAgg,isAgg];simp[go_sem]
@[go_sem] theorem buildSNode(a0:Int)(a1:zA)(a2:ByteArray)(w:World):(bdS 199 #[(0,.int .i64 a0),(1,.agg (idC a1)),(2,.string a2)]).run prog w=.ok (.agg (zO ⟨a0,a1,a2⟩)) w:=by
 refine qO w jw _ (rG w) _ (xw w) [(0,.int .i64 a0),(1,.agg (idC a1)),(2,.string a2)] _ ?_;rw[show zO qU=(#[]:Array Value) ++ #[.int .i64 0]++(idC id0++(#[.string ⟨#[]⟩]))from by first | (simp[zO,qU,Array.append_assoc];done) | (apply Array.ext';simp[zO,qU])];rw[yW (off:=0) (size:=1) rfl sI sI (by simp[Value.cells])];rw[show(#[]:Array Value)++(Value.int .i64 a0).cells++(idC id0++(#[.string ⟨#[]⟩]))=(#[.int .i64 a0])++idC id0++(#[.string ⟨#[]⟩])from by first | (simp[Value.cells,Array.append_assoc];done) | (apply Array.ext';simp[Value.cells];done) | (apply Array.ext';simp only[Array.toList_append];simp[Value.cells])];rw[yW (off:=1) (size:=32) rfl sI sI (by simp[Value.cells])];rw[show(#[.int .i64 a0])++(Value.agg (idC a1)).cells++(#[.string ⟨#[]⟩])=(#[.int .i64 a0]++(idC a1)) ++ #[.string ⟨#[]⟩]++(#[]:Array Value)from by first | (simp[Value.cells,Array.append_assoc];done) | (apply Array.ext';simp[Value.cells];done) | (apply Array.ext';simp only[Array.toList_append];simp[Value.cells])];rw[yW (off:=33) (size:=1) rfl sI sI (by simp[Value.cells])];first | (simp[Instr.fill,zO,Array.append_assoc,Value.cells];done) | (simp only[Instr.fill,zO];congr 1;apply Array.ext';simp[Value.cells];done) | (simp only[Instr.fill,zO];congr 1;done) | (simp only[Instr.fill,zO];done)
def iP(x:fG):Value:=.agg (zO x)
def xH(n:zS):fG:=⟨n.h,n.ref,n.val⟩
structure Sl where
 A:Option Addr
 n:Nat
 c:Nat
def slV(s:Sl):Value:=.slice s.A s.n s.c
structure xE(w:World)(M:List Nat)(g bn bb bg:Nat)(N:List zS)(G:List zA):Prop where
 blk:w.heap[g]?=some (.cells #[.map (some bn),.map (some bb),.map (some bg)] 197 (0,0))
 nodes:∃es clk,yK w bn idV iP vL (N.map λn=>(n.id,xH n)) es clk
 behind:∃BM es clk,yK w bb idV slV vL BM es clk/\(∀p∈BM,SlW w p.2.A p.2.n p.2.c 32 (((v8 N p.1).map zS.id).map idC)/\∀x∈Go.Proofs.YtddopbhcpblpjaaGreatDoor.blk p.2.A,x∉M/\x<w.heap.size)/\∀r,r∉BM.map (·.1)->v8 N r = []
 gone:jM w bg G
 inM:bn∈M/\bb∈M/\bg∈M
 ne:bn≠bb/\bn≠bg/\bb≠bg
 one:ko N
 ok:∀n∈N,vP n=0
section
variable {w w':World} {M:List Nat} {g bn bb bg:Nat} {N:List zS} {G:List zA}
theorem xE.cell0(h:xE w M g bn bb bg N G):w.cell? ⟨g,0,none⟩=some (.map (some bn)):=by rw[cell_of_row w g 0 _ _ _ h.blk];rfl
theorem xE.cell1(h:xE w M g bn bb bg N G):w.cell? ⟨g,1,none⟩=some (.map (some bb)):=by rw[cell_of_row w g 1 _ _ _ h.blk];rfl
theorem xE.cell2(h:xE w M g bn bb bg N G):w.cell? ⟨g,2,none⟩=some (.map (some bg)):=by rw[cell_of_row w g 2 _ _ _ h.blk];rfl
theorem xE.ltg(h:xE w M g bn bb bg N G):g<w.heap.size:=(aG h.blk).1
theorem eN{kv:κ->Value}{vv:ν->Value}{ok:κ->Prop}{w:World}{g:Nat}{X:List (κ×ν)}{d:Nat}(h:yK w b kv vv ok X es d)(hg:w.heap[g]?=some (.cells cs t f)):g≠b:=by
 rintro rfl;rw[h.heap]at hg;cases hg
theorem xE.neg(h:xE w M g bn bb bg N G):g≠bn/\g≠bb/\g≠bg:=by
 obtain⟨es,f,hn⟩:=h.nodes;obtain⟨BM,j,d,hb,_⟩:=h.behind;refine⟨eN hn h.blk,eN hb h.blk,?_⟩;rintro rfl;obtain⟨M',es,f,hm,_⟩:=h.gone;have:=h.blk.symm.trans hm.heap;cases this
theorem xE.lt(h:xE w M g bn bb bg N G):bn<w.heap.size/\bb<w.heap.size/\bg<w.heap.size:=by
 obtain⟨es,j,hn⟩:=h.nodes;obtain⟨BM,f,d,hb,_⟩:=h.behind;exact⟨hn.lt,hb.lt,h.gone.lt⟩
theorem xE.kept{S:List Nat}(h:xE w M g bn bb bg N G)(k:z8 S w w')(hS:∀x∈S,x∈M\/w.heap.size<=x)(hg:g∉S)(h1:bn∉S)(h2:bb∉S)(h3:bg∉S):xE w' M g bn bb bg N G:=by
 obtain⟨es,s,hn⟩:=h.nodes;obtain⟨BM,r,d,hb,f,m⟩:=h.behind;refine⟨(k.block g h.ltg hg).trans h.blk,⟨es,s,hn.kept k h1⟩,⟨BM,r,d,hb.kept k h2,λp hp=>?_,m⟩,h.gone.kept k h3,h.inM,h.ne,h.one,h.ok⟩;obtain⟨s1,s2⟩:=f p hp;refine⟨?_,λx hx=>⟨(s2 x hx).1,Nat.lt_of_lt_of_le (s2 x hx).2 k.size⟩⟩;refine⟨⟨s1.rd.1,λh0=>?_⟩,s1.le,s1.nil,s1.plain⟩;obtain⟨q,o,e,hc⟩:=s1.rd.2 h0;refine⟨q,o,e,λi hi=>?_⟩;have j:=zD (hc i hi);rw[k.row j (λhm=>(hS q hm).elim (s2 q (by simp[Go.Proofs.YtddopbhcpblpjaaGreatDoor.blk,e])).1 oM) _ _];exact hc i hi
theorem xE.below(h:xE w M g bn bb bg N G)(k:Below w.heap.size w w'):xE w' M g bn bb bg N G:=h.kept (z8.of_below k) sI sI sI sI sI
theorem xE.moreM{M':List Nat}(h:xE w M g bn bb bg N G)(hM:∀x∈M,x∈M')(hn:∀x∈M',x∈M\/w.heap.size<=x):xE w M' g bn bb bg N G:=by
 obtain⟨BM,k,f,hb,d,j⟩:=h.behind;refine⟨h.blk,h.nodes,⟨BM,k,f,hb,λp hp=>⟨(d p hp).1,λx hx=>⟨λhm=>?_,((d p hp).2 x hx).2⟩⟩,j⟩,h.gone,⟨hM _ h.inM.1,hM _ h.inM.2.1,hM _ h.inM.2.2⟩,h.ne,h.one,h.ok⟩;rcases hn x hm with h1 | h1
 ·exact((d p hp).2 x hx).1 h1
 ·have:=((d p hp).2 x hx).2;omega
end
theorem nM(w:World)(g b:Nat)(h:w.cell? ⟨g,0,none⟩=some (.map (some b))):Calls prog 192 #[.pointer (some ⟨g,0,none⟩)] w λe w'=>e=.returned (.bool false)/\w=w':=by
 have hn:=λr=>run_eql_map_nil (P:=prog) w 195 23 199 r underlying195;go_enter func192,ntmps192
 (go_wp2_with fail);go_ret;exact⟨rfl,rfl⟩
theorem sqnew(w:World):Calls prog 168 #[] w λe w'=>∃g bn bb bg,e=.returned (.pointer (some ⟨g,0,none⟩))/\(∀M,bn∈M->bb∈M->bg∈M->xE w' M g bn bb bg [] [])/\w.heap.size<=g/\w.heap.size<=bn/\w.heap.size<=bb/\w.heap.size<=bg/\Below w.heap.size w w':=by
 have d:=@run_makeMap prog;go_enter func168,ntmps168
 (go_wp2_with fail);go_ret;have k1:=yK.new (kv:=idV) (vv:=iP) (ok:=vL) w w.heap.size rfl;have k2:=yK.new (kv:=idV) (vv:=slV) (ok:=vL) (w.alloc (.map #[] 0)) (w.heap.size+1) sI;have k3:=yJ.new (kv:=idV) (ok:=vL) ((w.alloc (.map #[] 0)).alloc (.map #[] 0)) (w.heap.size+2) sI;refine⟨w.heap.size+3,w.heap.size,w.heap.size+1,w.heap.size+2,rfl,λM i1 i2 i3=>⟨?_,⟨_,_,((k1.kept (z8.alloc _ _) sI).kept (z8.alloc _ _) sI).kept (z8.alloc _ _) sI⟩,⟨[],_,_,(k2.kept (z8.alloc _ _) sI).kept (z8.alloc _ _) sI,sI,λr _=>rfl⟩,k3.kept (z8.alloc _ _) sI,⟨i1,i2,i3⟩,oM,λa ha=>by simp at ha,sI⟩,oM,oM,oM,oM,(((bA).alloc sI _).alloc sO _).alloc sO _⟩;have:=heap_alloc_new (((w.alloc (.map #[] 0)).alloc (.map #[] 0)).alloc (.map #[] 0)) (.cells #[.map (some w.heap.size),.map (some (w.heap.size+1)),.map (some (w.heap.size+2))] 197 (0,0));simpa using this
theorem BA(d:zA)(n:zS)(hd:d=n.id)(w:World)(hv:n.val.size<=9223372036854775807) :
  Calls prog 213 #[.agg (idC d),.agg (zO (xH n))] w λe w'=>e=.returned (.int .i64 (vP n))/\Below w.heap.size w w':=by
 subst hd;obtain⟨d,h,ref,val⟩:=n;unfold xH;have hB:Below w.heap.size w ((w.alloc (.cells (idC d) 23)).alloc (.cells (zO ⟨h,ref,val⟩) 199)):=(bA).alloc sI _;have hE:vP ⟨d,h,ref,val⟩=if 16<val.size then 3 else if h<1\/1073741824<h\/d=id0 then 5 else 0:=rfl;have HE:=dH hE;clear hE;dsimp only at *;obtain⟨b,hb⟩:=eX (d==id0)
 have Hb:=dH hb;cases b
 all_goals
  clear hb;go_enter func213,ntmps213
  go_wp2_with fail
  all_goals
   go_ret;exact⟨y9 (by rw[HE.out];have f:=Hb.out;(repeat' split) <;> first | rfl | omega | (simp_all;done) | (simp_all;omega)),hB⟩
theorem BU(ah:Int)(a:zA)(bh:Int)(b:zA)(w:World) :
  Calls prog 173 #[.int .i64 ah,.agg (idC a),.int .i64 bh,.agg (idC b)] w λe w'=>e=.returned (.bool (bC ah a bh b))/\Below w.heap.size w w':=by
 have hB:Below w.heap.size w ((w.alloc (.cells (idC a) 23)).alloc (.cells (idC b) 23)):=(bA).alloc sI _;have hA:bC ah a bh b=if ah=bh then decide (yC a b<0)else decide (ah<bh):=rfl;have HA:=dH hA;clear hA;by_cases h:ah=bh
 ·subst h;go_enter func173,ntmps173
  (go_wp2_with fail);refine(aH a b _).mono ?_;rintro e w1 ⟨rfl,d⟩;have f:=yM hB d;clear hB d;(go_wp2_with fail);go_ret;exact⟨yI (by rw[HA.out];simp),f⟩
 ·have hn:(ah != bh)=true:=by simpa using h
  have g:(ah==bh)=false:=by simpa using h
  have Hh:=dH h;clear h;go_enter func173,ntmps173
  (go_wp2_with fail);go_ret;exact⟨yI (by rw[HA.out,if_neg Hh.out]),hB⟩
theorem sqdel(d:zA)(w:World)(M:List Nat)(g bn bb bg:Nat)(N:List zS)(G:List zA)(h:xE w M g bn bb bg N G) :
  Calls prog 269 #[.pointer (some ⟨g,0,none⟩),.agg (idC d)] w λe w'=>e=.returned (.int .i64 0)/\xE w' M g bn bb bg N (jI yC G d)/\z8 [bg] w w':=by
 have hB:Below w.heap.size w (w.alloc (.cells (idC d) 23)):=bA;have h1:=h.below hB;have hr:z9 (w.alloc (.cells (idC d) 23)) w.heap.size 0 32=some (idC d):=by simp[go_sem]
 have F:=h.lt;go_enter func269,ntmps269
 go_upto_region 1 with fail
 obtain⟨ga,k⟩:=eX w.heap.size
 have L:=dH k;rw[k]at hr hB F |-;obtain⟨W,hW⟩:=eR (w.alloc (.cells (idC d) 23))
 rw[<-hW]at h1 hr hB |-;clear hW k;(go_wp2_with fail);refine(nM W g bn h1.cell0).mono ?_;rintro e w1 ⟨rfl,rfl⟩;go_upto_region 3 with fail
 have B:=h1.cell2;obtain⟨w2,j,D,y⟩:=jb (x:=d) (h1.gone.kept (z8.drew W) sI);have A:g∉[bg]:=by simpa using h1.neg.2.2
 refine kX [bg] W ?_;intro E hS;have b1:=zF B A;have b2:=zY hr (S:=[bg]) sO;refine lQ ?_;intro K hK;refine zH (yA hS y sI) (λhS=>?_);refine hK _ _ ?_;clear hK K;refine zC ?_;intro hS;have f:z8 [bg] W w2:=hS;obtain⟨es,J,hn⟩:=h1.nodes;obtain⟨BM,I,r,hb,s,t⟩:=h1.behind;have m:xE w2 M g bn bb bg N (jI yC G d):=by
  refine⟨(f.block g h1.ltg A).trans h1.blk,⟨es,J,hn.kept f (by simpa using h1.ne.2.1)⟩,⟨BM,I,r,hb.kept f (by simpa using h1.ne.2.2),λp hp=>?_,t⟩,yJ.congr D (λx=>by rw[jB vM,mem_cons]),h1.inM,h1.ne,h1.one,h1.ok⟩;obtain⟨s1,s2⟩:=s p hp;exact⟨s1.kept f (λx hx hm=>by have e:x=bg:=by simpa using hm
                                                                                                                                                                                                                                                                       subst e;exact(s2 x hx).1 h1.inM.2.2),λx hx=>⟨(s2 x hx).1,Nat.lt_of_lt_of_le (s2 x hx).2 f.size⟩⟩
 have H:z8 [bg] w w2:=z8.trans ((z8.of_below (hB.mono (by rw[L.out];exact lR))).mono (S':=[bg]) sI) f iL;clear b1 b2 E hS y j hr B h1 hB D hn hb s t f;(go_wp2_with fail);go_ret;exact⟨rfl,m,H⟩
end
section
open Go.RowKit Go.Shelf
theorem wY{T E:TypeId}{bytes:Nat}(I:yT P T E k bytes)(w:World)(A:Option Addr)(n cap m:Nat)(hm:m<=cap) :
  (slS T (.slice A n cap) none (some (.int .i64 m)) (some (.int .i64 m))).run P w=.ok (.slice A m m) w:=by
 rw[wZ I];unfold Instr.slice Instr.sliceBounds;simp only[Sem.run_bind,run_underlying I.und,Result.andThen_ok,Sem.run_pure,k9 w m cap hm,k9 w m m lR,I.sizeOf_run w];have e:(if m=0 then A else A.map λa=>a.add (0*k))=A:=by
  split
  ·rfl
  ·cases A with
   | none=>rfl
   | some a=>simp[Addr.add]
 simp only[Nat.sub_zero,e]
theorem grow0(w:World)(n:Nat)(h0:0<n)(hn:n<=1000000) :
  Calls prog 311 #[.slice none 0 0,.int .i64 n] w λe w'=>∃A cap,e=.returned (.slice A 0 cap)/\Own w' w.heap.size 23 32 A 0 cap []/\Below w.heap.size w w':=by
 obtain⟨i,z,hi,hz,s,r,m⟩:=yO.info;have c:=Any8.slices_Grow_grow layGrowId i z hi hz oM none 0 0 n [] w lR oM (by rw[r];omega) oM sI (λ_=>rfl) sI;have k:layGrowId_ren.t 25=23:=rfl;have hG:=grownCap_ge w (0+n) 0 23;have hM:=grownCap_le_maxLen w (0+n) 0 23 (by unfold maxLen;omega);rw[k]at c;obtain⟨G,j⟩:=eX (grownCap w (0+n) 0 23)
 rw[j]at c hG hM;clear j k;refine c.mono ?_;rintro e w' ⟨rfl,rfl⟩;obtain⟨cs,g⟩:=eX (#[]++Builtin.zeroCells z.cells (0+n-0)++Builtin.zeroCells z.cells (G-(0+n)):Array Value)
 have d:cs.size=G*32:=by
  rw[<-g,Array.size_append,Array.size_append,size_zeroCells,size_zeroCells,m];simp only[size_toArray,length_nil,Nat.zero_add,Nat.sub_zero];rw[<-Nat.add_mul,show n+(G-n)=G from by omega]
 have f:(([]:List Value).toArray++Builtin.zeroCells z.cells (0+n-0)++Builtin.zeroCells z.cells (G-(0+n)):Array Value)=cs:=g;rw[f];refine⟨some ⟨w.heap.size,0,none⟩,G,rfl,⟨⟨rfl,.inr ⟨w.heap.size,G,cs,rfl,lR,heap_alloc_new w.drew _,zL,hM,d,rfl⟩⟩,rfl,sI⟩,((Below.refl _ _).drew).alloc lR _⟩
theorem YH(w:World)(q c0:Nat)(A1 A2 A3:Option Addr)(n1 n2 n3 c1 c2 c3:Nat)(R1 R2 R3:List zA)(h1:zW w A1 n1 R1)(h2:zW w A2 n2 R2)(h3:zW w A3 n3 R3)(f1:A1=none->c1=0)(f2:A2=none->c2=0)(f3:A3=none->c3=0)
  (k0:w.cell? ⟨q,0,none⟩=some (.slice A1 n1 c1))(k1:w.cell? ⟨q,1,none⟩=some (.slice A2 n2 c2))(k2:w.cell? ⟨q,2,none⟩=some (.slice A3 n3 c3))(hp:0<n1+n2+n3)(hn:n1+n2+n3<=1000000) :
  Calls prog 279 #[.slice (some ⟨q,0,none⟩) 3 c0] w λe w'=>∃A cap,e=.returned (.slice A (n1+n2+n3) cap)/\Own w' w.heap.size 23 32 A (n1+n2+n3) cap ((R1++R2++R3).map idC)/\Below w.heap.size w w':=by
 have cg:=grow0 w (n1+n2+n3) hp hn;rw[show((n1+n2+n3:Nat):Int)=(n1:Int)+(n2:Int)+(n3:Int)from by omega]at cg;go_enter func279,ntmps279
 (go_wp2_with fail);refine wp_loop_rounds 4 ?_;rw[rounds_succ];(go_wp2_with fail);rw[rounds_succ];(go_wp2_with fail);rw[rounds_succ];(go_wp2_with fail);rw[rounds_succ];(go_wp2_with fail);refine cg.mono ?_;rintro e w1 ⟨A,cap,rfl,j,hb⟩;have U:=(hb.cell (block_lt_of_cell? w _ k0)).trans k0;have X:=(hb.cell (block_lt_of_cell? w _ k1)).trans k1;have O:=(hb.cell (block_lt_of_cell? w _ k2)).trans k2;have t1:zW w1 A1 n1 R1:=SlR.below h1 hb;have t2:zW w1 A2 n2 R2:=SlR.below h2 hb;have t3:zW w1 A3 n3 R3:=SlR.below h3 hb;have hq:q<w.heap.size:=block_lt_of_cell? w _ k0;have D:∀R:List zA,∀r∈R.map idC,∀u∈r.toList,u.oneCell'=true:=λR r hr=>by
  obtain⟨x,_,rfl⟩:=mem_map.1 hr;exact yN x
 have a3:=hb.size;have m:=dH D;clear cg D;(go_wp2_with fail);refine wp_loop_rounds 4 ?_;rw[rounds_succ];go_wp2_with (at_builtin;refine m6 yO rfl j rfl t1 f1 (m.out _) oM oM oM ?_;intro B1 d1 w2 f H B)
 simp only[Nat.zero_add,nil_append]at f;have k:Below w.heap.size w w2:=hb.trans (H.below (oH hb.size) (λx hx=>(j.at_base hx).1));have a1:=k.size;have V:=(k.cell (block_lt_of_cell? w _ k1)).trans k1;have N:=(k.cell (block_lt_of_cell? w _ k2)).trans k2;have Z:=(k.cell (block_lt_of_cell? w _ k0)).trans k0;have L:zW w2 A2 n2 R2:=SlR.below h2 k;clear H B j U X O;rw[rounds_succ];go_wp2_with (at_builtin;refine m6 yO rfl f rfl L f2 (m.out _) oM oM oM ?_;intro B3 d3 w3 d G y)
 simp only[<-map_append]at d;have s:Below w.heap.size w w3:=k.trans (G.below (oH k.size) (λx hx=>(f.at_base hx).1));have a0:=s.size;have T:=(s.cell (block_lt_of_cell? w _ k1)).trans k1;have M:=(s.cell (block_lt_of_cell? w _ k2)).trans k2;have Y:=(s.cell (block_lt_of_cell? w _ k0)).trans k0;have J:zW w3 A3 n3 R3:=SlR.below h3 s;clear G y f Z V N;rw[rounds_succ];go_wp2_with (at_builtin;refine m6 yO rfl d rfl J f3 (m.out _) oM oM oM ?_;intro B4 d4 w4 g F t)
 have I:Below w.heap.size w w4:=s.trans (F.below oM (λx hx=>(d.at_base hx).1));rw[<-map_append]at g;have E:=dH g;have a2:=(I.cell (block_lt_of_cell? w _ k0)).trans k0;clear F t d Y T M g;rw[rounds_succ];(go_wp2_with fail);go_ret;exact⟨B4,d4,rfl,E.out,I⟩
end
theorem dX(N:List zS)(n:zS)(r:zA):v8 (N ++ [n]) r=if n.ref=r then jI mS (v8 N r) n else v8 N r:=by
 rw[<-kids_cons];exact kids_congr (λx=>by simp[or_comm]) r
theorem eM[DecidableEq κ]{M:List (κ×ν)}{k:κ}{v:ν}{p:κ×ν}(h:p∈bJ M k v):p=(k,v)\/(p∈M/\p.1≠k):=by
 unfold bJ at h;split at h
 ·obtain⟨q,hq,rfl⟩:=mem_map.1 h;split
  ·exact .inl rfl
  ·rename_i hne;exact .inr ⟨hq,hne⟩
 ·rename_i hno
  rcases mem_append.1 h with h | h
  ·exact .inr ⟨h,λe=>hno (mem_map.2 ⟨p,h,e⟩)⟩
  ·exact .inl (by simpa using h)
theorem VY[DecidableEq κ]{M:List (κ×ν)}{k r:κ}{v:ν}(h:r∉(bJ M k v).map (·.1)):r∉M.map (·.1)/\r≠k:=by
 unfold bJ at h;split at h
 ·rename_i hin
  have e:(M.map λp=>if p.1=k then(k,v)else p).map (·.1)=M.map (·.1):=by
   rw[map_map];refine map_congr_left λp _=>?_;simp only[Function.comp_apply];split
   ·rename_i h;exact h.symm
   ·rfl
  rw[e]at h;exact⟨h,λe=>h (by rw[e];exact hin)⟩
 ·rw[map_append,mem_append]at h;exact⟨λh1=>h (.inl h1),λe=>h (.inr (by simp[e]))⟩
theorem pT(w:World):(zeroValue 33).run prog w=.ok (.slice none 0 0) w:=kR
theorem blook{M:List Nat}{bb:Nat}{N:List zS}{BM:List (zA×Sl)}{f:Nat}(hb:yK w bb idV slV vL BM es f)
  (d:∀p∈BM,SlW w p.2.A p.2.n p.2.c 32 (((v8 N p.1).map zS.id).map idC)/\∀x∈blk p.2.A,x∉M/\x<w.heap.size)(g:∀r,r∉BM.map (·.1)->v8 N r = [])(r:zA) :
  ∃s:Sl,SlW w s.A s.n s.c 32 (((v8 N r).map zS.id).map idC)/\(∀x∈blk s.A,x∉M/\x<w.heap.size) /\
   ∀w',yK w' bb idV slV vL BM es f->(Instr.lookup 93 (.map (some bb)) (.agg (idC r)) false).run prog w'=.ok (.slice s.A s.n s.c) w':=by
 by_cases h:r∈BM.map (·.1)
 ·obtain⟨p,hp,rfl⟩:=mem_map.1 h;exact⟨p.2,(d p hp).1,(d p hp).2,λw' hm=>hm.hit j7 underlying93 trivial hp false⟩
 ·refine⟨⟨none,0,0⟩,?_,by simp[blk],λw' hm=>hm.miss j7 underlying93 (pT w') trivial h false⟩;rw[g r h];exact SlW.none_
theorem nlook{bn:Nat}{N:List zS}{f:Nat}(hn:yK w bn idV iP vL (N.map λn=>(n.id,xH n)) es f){y:zS}(hy:y∈N)(d:Bool) :
  (Instr.lookup 195 (.map (some bn)) (.agg (idC y.id)) d).run prog w=.ok (if d then .tuple #[.agg (zO (xH y)),.bool true]else .agg (zO (xH y))) w :=
 hn.hit j7 underlying195 trivial (mem_map.2 ⟨y,hy,rfl⟩) d
@[go_sem ↓] theorem slIdC_rw(x:Value)(lo hi mx:Option Value):Instr.sliceAt 33 x lo hi mx=slS 33 x lo hi mx:=rfl
@[go_sem ↓] theorem bsIds3_run(w:World)(A B C:Option Addr)(n m k a b c:Nat):(Instr.buildSlice 373 3 #[(0,.slice A n a),(1,.slice B m b),(2,.slice C k c)]).run prog w=.ok (.slice (some ⟨w.heap.size,0,none⟩) 3 3) (w.alloc (.cells #[.slice A n a,.slice B m b,.slice C k c] 33)):=kR
theorem sqhang(n:zS)(w:World)(M:List Nat)(g bn bb bg:Nat)(N:List zS)(G:List zA)(h:xE w M g bn bb bg N G)(hM:∀x∈M,x<w.heap.size)(J:n.id∉N.map zS.id)(hE:vP n=0)(hl:N.length<=100000) :
  Calls prog 214 #[.pointer (some ⟨g,0,none⟩),.agg (idC n.id),.agg (zO (xH n))] w λe w'=>e=.returned (.tuple #[])/\xE w' M g bn bb bg (N ++ [n]) G/\z8 [bn,bb] w w':=by
 have hB:Below w.heap.size w ((w.alloc (.cells (idC n.id) 23)).alloc (.cells (zO (xH n)) 199)):=(bA).alloc sI _;have h1:=h.below hB;have f7:z9 ((w.alloc (.cells (idC n.id) 23)).alloc (.cells (zO (xH n)) 199)) w.heap.size 0 32=some (idC n.id):=by simp[go_sem]
 have e0:z9 ((w.alloc (.cells (idC n.id) 23)).alloc (.cells (zO (xH n)) 199)) (w.heap.size+1) 0 34=some (zO (xH n)):=by simp[go_sem]
 have g7:=h.lt;have k9:=h.ltg;go_enter func214,ntmps214
 go_upto_region 1 with fail
 obtain⟨ga,h4⟩:=eX w.heap.size
 have k4:=dH h4;rw[h4]at f7 e0 hB g7 k9 hM |-;obtain⟨W,hW⟩:=eR ((w.alloc (.cells (idC n.id) 23)).alloc (.cells (zO (xH n)) 199))
 rw[<-hW]at h1 f7 e0 hB |-;clear hW h4;have g4:z9 W (ga+1) 1 32=some (idC n.ref):=by have:=yD e0 (j:=1) (m:=32) oM;rw[dR]at this;simpa[xH]using this
 have j4:W.cell? ⟨ga+1,0,none⟩=some (.int .i64 n.h):=by have:=zB e0 (j:=0) oM;rw[iK]at this;simpa[xH]using this
 obtain⟨es,l7,hn⟩:=h1.nodes;obtain⟨BM,l6,l3,hb,j0,j1⟩:=h1.behind;obtain⟨⟨A,sn,sc⟩,f9,g1,a8⟩:=blook hb j0 j1 n.ref;dsimp only at f9 g1 a8;have i1:∀y∈v8 N n.ref,y∈N:=λy hy=>(lJ.1 hy).1;have j9:=p8 N n.ref;have j8:n∉v8 N n.ref:=λhm=>J (mem_map.2 ⟨n,i1 n hm,rfl⟩);have c5:=h1.cell1;have hk:∀x:Subtype (Bel W),(Instr.lookup 93 (.map (some bb)) (.agg (idC n.ref)) false).run prog x.1=.ok (.slice A sn sc) x.1:=λx=>a8 x.1 (hb.kept (z8.of_below x.2) sI);refine lX W ?_;intro L hS;have b1:=zJ c5;have b2:=zV g4;refine lZ ?_;refine zC ?_;intro hS;have i2:Below ga w W.drew:=hB.drew;have h2:xE W.drew M g bn bb bg N G:=h1.below (qC W);have j2:=hn.kept (z8.drew W) sI;have Y:=f9.below (qC W);have O:z9 W.drew ga 0 32=some (idC n.id):=f7;have Z:z9 W.drew (ga+1) 0 34=some (zO (xH n)):=e0;have g3:z9 W.drew (ga+1) 1 32=some (idC n.ref):=g4;have f2:W.drew.cell? ⟨ga+1,0,none⟩=some (.int .i64 n.h):=j4;clear b1 b2 L hS hk a8 c5 hb j0 j1 hn f9 f7 e0 g4 j4 h1 hB;have c9:(v8 N n.ref).length=sn:=by have:=Y.len;simpa using this
 obtain⟨K,hK⟩:=eX (v8 N n.ref)
 rw[hK]at Y i1 j9 j8 c9;have HK:=dH hK;have b8:=dH c9;have k6:sn<=100000:=oM;clear hK c9 j9;obtain⟨W1,h9⟩:=eX W.drew
 rw[h9]at i2 h2 j2 Y O Z g3 f2 |-;have f5:W1.heap.size=W.heap.size:=by rw[<-h9];rfl
 rw[<-f5]at g1;clear h9 f5;(go_wp2_with fail);go_loopw [7] (λj wj=>∃m:Nat,m<=sn/\j=.int .i64 m/\Hid (∀i (hi:i<K.length),i<m->mS K[i] n<0)/\Below W1.heap.size W1 wj) (λj _=>sn-(intOf j).toNat)
 case atStart=>exact⟨0,zL,rfl,(show ∀i (hi:i<K.length),i<0->_ from λi _ h=>absurd h oM),Below.refl _ _⟩
 case round =>
  obtain⟨m,c4,rfl,c8,c3⟩:=hrel;have b9:z9 wr ga 0 32=some (idC n.id):=(zG (c3.block ga (zD O)) _ _).trans O;have d2:wr.cell? ⟨ga+1,0,none⟩=some (.int .i64 n.h):=(c3.cell (p:=⟨ga+1,0,none⟩) (zD Z)).trans f2;have g0:=h2.below c3;have c6:=Y.below c3;by_cases U:m<sn
  ·obtain⟨q,o,rfl,f8⟩:=c6.rd.at_ U;rw[getElem_map,getElem_map]at f8;have c0:K[m]'(by rw[b8.out];exact U)∈K:=getElem_mem _;obtain⟨y,hy⟩:=eX (K[m]'(by rw[b8.out];exact U))
   rw[hy]at f8 c0;have i9:=i1 y c0;have e5:n.id≠y.id:=λe=>J (mem_map.2 ⟨y,i9,e.symm⟩);have h5:=cmpN_ahead (a:=n) (b:=y) e5;have k8:∀x:Subtype (Bel wr),(Instr.lookup 195 (.map (some bn)) (.agg (idC y.id)) false).run prog x.1=.ok (.agg (zO ⟨y.h,y.ref,y.val⟩)) x.1:=λx=>nlook ((j2.kept (z8.of_below c3) sI).kept (z8.of_below x.2) sI) i9 false;have j5:=g0.cell0;have c2:=BU n.h n.id y.h y.id wr.drew;obtain⟨c,hc⟩:=eX (bC n.h n.id y.h y.id)
   rw[hc]at c2 h5;have Hy:=dH hy;have k5:=dH h5;have i7:=dH c0;clear hc hy h5 c0 e5;go_upto_region 3 with fail
   refine lX wr ?_;intro L hS;have b1:=zV b9;have b2:=zV f8;have b3:=zJ d2;have b4:=zJ j5;refine lZ ?_;refine lC (c2) ?_;clear hS;intro w' hS;refine lZ ?_;refine zC ?_;intro hS;have j6:Below wr.heap.size wr w':=hS;have R:=yM c3 j6;clear b1 b2 b3 b4 L hS c2 k8 j5;cases c with
   | true =>
    (go_wp2_with fail);go_roundw
    case rel =>
     refine⟨m+1,oM,by go_num,(show ∀i (hi:i<K.length),i<m+1->mS K[i] n<0 from λi hi l5=>?_),R⟩;by_cases e:i=m
     ·subst e;rw[Hy.out];exact of_decide_eq_true k5.out
     ·exact c8.out i hi oM
    case measure=>exact sZ
   | false =>
    have f4:=YD (c:=mS) K n m (by rw[b8.out];exact c4) c8.out (λj3=>by
     rw[Hy.out];have h1:¬mS y n<0:=of_decide_eq_false k5.out;have h2:mS y n≠0:=λe=>j8 (by rw[<-(ye.zero _ _).1 e];exact i7.out);omega)
    have i8:=dH f4;have d:=h2.below R;have f:=Y.below R;have I:z9 w' ga 0 32=some (idC n.id):=(zG (R.block ga (zD O)) _ _).trans O;have H:z9 w' (ga+1) 0 34=some (zO (xH n)):=(zG (R.block (ga+1) (zD Z)) _ _).trans Z;have e3:Below ga w w':=i2.trans (R.mono (oH (zD O)));have e4:=R.size;clear f4 f8 b9 d2 g0 c6 c3 R j6;obtain⟨V,rfl⟩:∃V,V=w':=⟨w',rfl⟩
    obtain⟨A,k3⟩:=eX (some ⟨q,o,none⟩:Option Addr)
    rw[k3]at f g1 |-;clear k3;have a3:z9 V (ga+1) 1 32=some (idC n.ref):=by have:=yD H (j:=1) (m:=32) oM;rw[dR]at this;simpa[xH]using this
    have c5:=d.cell1;have g6:m<=sc:=Nat.le_trans c4 f.le;have g5:∀w0:World,(slS 33 (.slice A sn sc) none (some (.int .i64 m)) (some (.int .i64 m))).run prog w0=.ok (.slice A m m) w0:=λw0=>wY yO w0 A sn sc m g6;obtain⟨Ah,ch,h0,f0,h3⟩:=f.hi (P:=prog) yO (m:=m) c4;have b0:g∉[bb]:=by simpa using d.neg.2.1
    go_upto_region 5 with fail
    refine kX [bb] V ?_;intro L hS;have b1:=zF c5 b0;have b2:=zY I (S:=[bb]) sO;have b3:=zY a3 (S:=[bb]) sO;refine lQ ?_;intro K hK;refine zH (bP hS _) (λhS=>?_);refine hK _ _ ?_;clear hK K;refine lQ ?_;intro K hK;refine zH (bP hS _) (λhS=>?_);refine hK _ _ ?_;clear hK K;have b6:Below V.heap.size V ((V.alloc (.cells (idC n.id) 23)).alloc (.cells #[.slice A m m,.slice (some ⟨V.heap.size,0,none⟩) 1 1,.slice Ah (sn-m) ch] 33)).drew:=((bA).alloc sI _).drew;have t1:zW ((V.alloc (.cells (idC n.id) 23)).alloc (.cells #[.slice A m m,.slice (some ⟨V.heap.size,0,none⟩) 1 1,.slice Ah (sn-m) ch] 33)).drew A m ((K.map zS.id).take m):=by
     have:=(f.rd.below b6).take_ c4
     rwa [<-map_take]at this
    have t3:zW ((V.alloc (.cells (idC n.id) 23)).alloc (.cells #[.slice A m m,.slice (some ⟨V.heap.size,0,none⟩) 1 1,.slice Ah (sn-m) ch] 33)).drew Ah (sn-m) ((K.map zS.id).drop m):=by
     have:=f0 _ (f.rd.below b6)
     rwa [<-map_drop]at this
    have t2:zW ((V.alloc (.cells (idC n.id) 23)).alloc (.cells #[.slice A m m,.slice (some ⟨V.heap.size,0,none⟩) 1 1,.slice Ah (sn-m) ch] 33)).drew (some ⟨V.heap.size,0,none⟩) 1 [n.id]:=⟨rfl,λ_=>⟨V.heap.size,0,rfl,λi hi=>by
     have:i=0:=by simpa using hi
     subst this;simp[go_sem]⟩⟩
    have k0:((V.alloc (.cells (idC n.id) 23)).alloc (.cells #[.slice A m m,.slice (some ⟨V.heap.size,0,none⟩) 1 1,.slice Ah (sn-m) ch] 33)).drew.cell? ⟨V.heap.size+1,0,none⟩=some (.slice A m m):=by simp[go_sem]
    have k1:((V.alloc (.cells (idC n.id) 23)).alloc (.cells #[.slice A m m,.slice (some ⟨V.heap.size,0,none⟩) 1 1,.slice Ah (sn-m) ch] 33)).drew.cell? ⟨V.heap.size+1,1,none⟩=some (.slice (some ⟨V.heap.size,0,none⟩) 1 1):=by simp[go_sem]
    have k2:((V.alloc (.cells (idC n.id) 23)).alloc (.cells #[.slice A m m,.slice (some ⟨V.heap.size,0,none⟩) 1 1,.slice Ah (sn-m) ch] 33)).drew.cell? ⟨V.heap.size+1,2,none⟩=some (.slice Ah (sn-m) ch):=by simp[go_sem]
    have h8:((V.alloc (.cells (idC n.id) 23)).alloc (.cells #[.slice A m m,.slice (some ⟨V.heap.size,0,none⟩) 1 1,.slice Ah (sn-m) ch] 33)).drew.heap.size=V.heap.size+2:=by simp[World.drew]
    have k7:=e3.size;have d0:=zD I;obtain⟨X,hX⟩:=eX (((V.alloc (.cells (idC n.id) 23)).alloc (.cells #[.slice A m m,.slice (some ⟨V.heap.size,0,none⟩) 1 1,.slice Ah (sn-m) ch] 33)).drew)
    rw[hX]at b6 t1 t2 t3 k0 k1 k2 h8 hS |-;clear hX;have cc:=YH X (V.heap.size+1) 3 A (some ⟨V.heap.size,0,none⟩) Ah m 1 (sn-m) m 1 ch _ _ _ t1 t2 t3 (λe=>oH (f.nil e)) (λe=>by cases e) h3 k0 k1 k2 oM oM;refine lQ ?_;intro K hK;refine cc.mono ?_;rintro e wC ⟨A5,T,rfl,t,d7⟩;replace hS:=bM hS d7;refine⟨_,rfl,hS,hK _ _ ?_⟩;clear hK K cc k0 k1 k2 t1 t2 t3;have l0:z8 [bb] V wC:=hS;obtain⟨l4,l2,i6,h6,a2,a7⟩:=d.behind;have f6:=yM b6 d7;have f3:=h6.kept (z8.of_below f6) sI;have i0:((K.map zS.id).take m ++ [n.id]++(K.map zS.id).drop m)=(jI mS K n).map zS.id:=by rw[i8.out];simp[map_take,map_drop]
    rw[i0]at t;have a1:=t.slw;have E:∀x∈blk A5,x∉M/\x<wC.heap.size:=λx hx=>by
     obtain⟨h1,h2⟩:=t.at_base hx;exact⟨λhm=>oH (hM x hm),h2⟩
    obtain⟨wD,i4,d9,s,e8,c1⟩:=f3.update (P:=prog) (v:=(⟨A5,m+1+(sn-m),T⟩:Sl)) j7 underlying93 (k:=n.ref) trivial;change (Instr.mapUpdate 93 (.map (some bb)) (.agg (idC n.ref)) (.slice A5 (m+1+(sn-m)) T)).run prog wC=.ok () wD at s;refine lH ?_;intro K hK;refine zH (yA hS c1 sI) (λhS=>?_);refine hK _ _ ?_;clear hK K;refine zC ?_;intro hS;have D:z8 [bb] V wD:=hS;have B:=(D.block g d.ltg b0).trans d.blk;have d3:bn∉[bb]:=by simpa using d.ne.1
    have d5:bg∉[bb]:=by simpa using λe=>d.ne.2.2 e.symm
    obtain⟨l1,i5,e6⟩:=d.nodes;have e7:=e6.kept D d3;have f1:=d.gone.kept D d5;have a0:SlW wD A5 (m+1+(sn-m)) T 32 (((jI mS K n).map zS.id).map idC):=a1.kept c1 (λx hx hm=>by
     have e:x=bb:=by simpa using hm
     subst e;exact(E _ hx).1 d.inM.2.1)
    have a5:z9 wD ga 0 32=some (idC n.id):=(D.row d0 sO _ _).trans I;have a4:z9 wD (ga+1) 0 34=some (zO (xH n)):=(D.row (zD H) sO _ _).trans H;have b5:wD.cell? ⟨g,0,none⟩=some (.map (some bn)):=by rw[cell_of_row wD g 0 _ _ _ B];rfl
    have g2:=D.size;clear b1 b2 b3 L hS s f3 e6 a1 d7 b6 f6 g5 h0 f0 a3 c5;go_upto_region 6 with fail
    obtain⟨wE,i3,d8,s,c7,e9⟩:=(e7.kept (z8.drew wD) sI).update (P:=prog) (v:=xH n) j7 underlying195 (k:=n.id) trivial;change (Instr.mapUpdate 195 (.map (some bn)) (.agg (idC n.id)) (.agg (zO (xH n)))).run prog wD.drew=.ok () wE at s;have a9:g∉[bn]:=by simpa using d.neg.1
    refine kX [bn] wD ?_;intro L hS;have b1:=zF b5 a9;have b2:=zY a5 (S:=[bn]) sO;have b3:=zY a4 (S:=[bn]) sO;refine lQ ?_;intro K hK;refine zH (yA hS e9 sI) (λhS=>?_);refine hK _ _ ?_;clear hK K;refine zC ?_;intro hS;have F:z8 [bn] wD wE:=hS;have a6:bJ (N.map λn=>(n.id,xH n)) n.id (xH n)=(N ++ [n]).map λn=>(n.id,xH n):=by
     unfold bJ;rw[if_neg (by rw[map_map];exact J),map_append];rfl
    rw[a6]at c7;have d4:bb∉[bn]:=by simpa using λe=>d.ne.1 e.symm
    have d6:bg∉[bn]:=by simpa using λe=>d.ne.2.1 e.symm
    have d1:xE wE M g bn bb bg (N ++ [n]) G:=by
     refine⟨(F.block g (oH d.ltg) a9).trans B,⟨i3,d8,c7⟩,⟨_,i4,d9,e8.kept F d4,λp hp=>?_,λr hr=>?_⟩,f1.kept F d6,d.inM,d.ne,?_,?_⟩
     ·rcases eM hp with e | ⟨hp,L⟩
      ·subst e;dsimp only;have g8:v8 (N ++ [n]) n.ref=jI mS (v8 N n.ref) n:=by rw[dX,if_pos rfl]
       rw[g8,HK.out];exact⟨a0.kept F (λx hx hm=>by
        have e:x=bn:=by simpa using hm
        subst e;exact(E _ hx).1 d.inM.1),λx hx=>⟨(E x hx).1,Nat.lt_of_lt_of_le (E x hx).2 (Nat.le_trans c1.size F.size)⟩⟩
      ·obtain⟨s1,s2⟩:=a2 p hp;rw[dX,if_neg (λe=>L e.symm)];refine⟨(s1.kept D (λx hx hm=>?_)).kept F (λx hx hm=>?_),λx hx=>⟨(s2 x hx).1,Nat.lt_of_lt_of_le (s2 x hx).2 (Nat.le_trans D.size F.size)⟩⟩
       ·have e:x=bb:=by simpa using hm
        subst e;exact(s2 _ hx).1 d.inM.2.1
       ·have e:x=bn:=by simpa using hm
        subst e;exact(s2 _ hx).1 d.inM.1
     ·obtain⟨h1,h2⟩:=VY hr;rw[dX,if_neg (λe=>h2 e.symm)];exact a7 r h1
     ·intro a ha b h7 e;rcases mem_append.1 ha with ha1 | ha1 <;> rcases mem_append.1 h7 with b7 | b7
      ·exact d.one a ha1 b b7 e
      ·have e2:b=n:=by simpa using b7
       rw[e2]at e;exact absurd (mem_map.2 ⟨a,ha1,e⟩) J
      ·have e2:a=n:=by simpa using ha1
       rw[e2]at e;exact absurd (mem_map.2 ⟨b,b7,e.symm⟩) J
      ·have e1:a=n:=by simpa using ha1
       have e2:b=n:=by simpa using b7
       rw[e1,e2]
     ·intro x hx;rcases mem_append.1 hx with hx | hx
      ·exact d.ok x hx
      ·have e:x=n:=by simpa using hx
       rw[e];exact hE
    have g9:z8 [bn,bb] w wE:=z8.trans (z8.trans ((z8.of_below (e3.mono (by rw[k4.out];exact lR))).mono (S':=[bn,bb]) sI) (D.mono (S':=[bn,bb]) sI) iL) (F.mono (S':=[bn,bb]) sI) iL;clear b1 b2 b3 L hS e9 c1 s c7 e8 e7 f1 a0 a5 a4 b5 B a2 a7 F D d a6;(go_wp2_with fail);go_end0;exact⟨rfl,d1,g9⟩
  ·have hd:decide (m<sn)=false:=by simpa using U
   have f4:=YD (c:=mS) K n m (by rw[b8.out];exact c4) c8.out (λj3=>absurd (by rw[<-b8.out];exact j3) U);have i8:=dH f4;clear f4;go_upto_region 3 with fail
   refine lX wr ?_;intro L hS;refine lQ ?_;intro K hK;refine hK _ _ ?_;clear hK K;refine lZ ?_;refine zC ?_;intro hS;have R:=c3.drew;have d:=h2.below R;have f:=Y.below R;have I:z9 wr.drew ga 0 32=some (idC n.id):=b9;have H:z9 wr.drew (ga+1) 0 34=some (zO (xH n)):=(zG (R.block (ga+1) (zD Z)) _ _).trans Z;have e3:Below ga w wr.drew:=i2.trans (R.mono (oH (zD O)));have e4:=R.size;clear L hS R c3 U hd g0 c6 d2 b9;obtain⟨V,hV⟩:=eX wr.drew
   rw[hV]at d f I H e3 e4 |-;clear hV;have a3:z9 V (ga+1) 1 32=some (idC n.ref):=by have:=yD H (j:=1) (m:=32) oM;rw[dR]at this;simpa[xH]using this
   have c5:=d.cell1;have g6:m<=sc:=Nat.le_trans c4 f.le;have g5:∀w0:World,(slS 33 (.slice A sn sc) none (some (.int .i64 m)) (some (.int .i64 m))).run prog w0=.ok (.slice A m m) w0:=λw0=>wY yO w0 A sn sc m g6;obtain⟨Ah,ch,h0,f0,h3⟩:=f.hi (P:=prog) yO (m:=m) c4;have b0:g∉[bb]:=by simpa using d.neg.2.1
   go_upto_region 5 with fail
   refine kX [bb] V ?_;intro L hS;have b1:=zF c5 b0;have b2:=zY I (S:=[bb]) sO;have b3:=zY a3 (S:=[bb]) sO;refine lQ ?_;intro K hK;refine zH (bP hS _) (λhS=>?_);refine hK _ _ ?_;clear hK K;refine lQ ?_;intro K hK;refine zH (bP hS _) (λhS=>?_);refine hK _ _ ?_;clear hK K;have b6:Below V.heap.size V ((V.alloc (.cells (idC n.id) 23)).alloc (.cells #[.slice A m m,.slice (some ⟨V.heap.size,0,none⟩) 1 1,.slice Ah (sn-m) ch] 33)).drew:=((bA).alloc sI _).drew;have t1:zW ((V.alloc (.cells (idC n.id) 23)).alloc (.cells #[.slice A m m,.slice (some ⟨V.heap.size,0,none⟩) 1 1,.slice Ah (sn-m) ch] 33)).drew A m ((K.map zS.id).take m):=by
    have:=(f.rd.below b6).take_ c4
    rwa [<-map_take]at this
   have t3:zW ((V.alloc (.cells (idC n.id) 23)).alloc (.cells #[.slice A m m,.slice (some ⟨V.heap.size,0,none⟩) 1 1,.slice Ah (sn-m) ch] 33)).drew Ah (sn-m) ((K.map zS.id).drop m):=by
    have:=f0 _ (f.rd.below b6)
    rwa [<-map_drop]at this
   have t2:zW ((V.alloc (.cells (idC n.id) 23)).alloc (.cells #[.slice A m m,.slice (some ⟨V.heap.size,0,none⟩) 1 1,.slice Ah (sn-m) ch] 33)).drew (some ⟨V.heap.size,0,none⟩) 1 [n.id]:=⟨rfl,λ_=>⟨V.heap.size,0,rfl,λi hi=>by
    have:i=0:=by simpa using hi
    subst this;simp[go_sem]⟩⟩
   have k0:((V.alloc (.cells (idC n.id) 23)).alloc (.cells #[.slice A m m,.slice (some ⟨V.heap.size,0,none⟩) 1 1,.slice Ah (sn-m) ch] 33)).drew.cell? ⟨V.heap.size+1,0,none⟩=some (.slice A m m):=by simp[go_sem]
   have k1:((V.alloc (.cells (idC n.id) 23)).alloc (.cells #[.slice A m m,.slice (some ⟨V.heap.size,0,none⟩) 1 1,.slice Ah (sn-m) ch] 33)).drew.cell? ⟨V.heap.size+1,1,none⟩=some (.slice (some ⟨V.heap.size,0,none⟩) 1 1):=by simp[go_sem]
   have k2:((V.alloc (.cells (idC n.id) 23)).alloc (.cells #[.slice A m m,.slice (some ⟨V.heap.size,0,none⟩) 1 1,.slice Ah (sn-m) ch] 33)).drew.cell? ⟨V.heap.size+1,2,none⟩=some (.slice Ah (sn-m) ch):=by simp[go_sem]
   have h8:((V.alloc (.cells (idC n.id) 23)).alloc (.cells #[.slice A m m,.slice (some ⟨V.heap.size,0,none⟩) 1 1,.slice Ah (sn-m) ch] 33)).drew.heap.size=V.heap.size+2:=by simp[World.drew]
   have k7:=e3.size;have d0:=zD I;obtain⟨X,hX⟩:=eX (((V.alloc (.cells (idC n.id) 23)).alloc (.cells #[.slice A m m,.slice (some ⟨V.heap.size,0,none⟩) 1 1,.slice Ah (sn-m) ch] 33)).drew)
   rw[hX]at b6 t1 t2 t3 k0 k1 k2 h8 hS |-;clear hX;have cc:=YH X (V.heap.size+1) 3 A (some ⟨V.heap.size,0,none⟩) Ah m 1 (sn-m) m 1 ch _ _ _ t1 t2 t3 (λe=>oH (f.nil e)) (λe=>by cases e) h3 k0 k1 k2 oM oM;refine lQ ?_;intro K hK;refine cc.mono ?_;rintro e wC ⟨A5,T,rfl,t,d7⟩;replace hS:=bM hS d7;refine⟨_,rfl,hS,hK _ _ ?_⟩;clear hK K cc k0 k1 k2 t1 t2 t3;have l0:z8 [bb] V wC:=hS;obtain⟨l4,l2,i6,h6,a2,a7⟩:=d.behind;have f6:=yM b6 d7;have f3:=h6.kept (z8.of_below f6) sI;have i0:((K.map zS.id).take m ++ [n.id]++(K.map zS.id).drop m)=(jI mS K n).map zS.id:=by rw[i8.out];simp[map_take,map_drop]
   rw[i0]at t;have a1:=t.slw;have E:∀x∈blk A5,x∉M/\x<wC.heap.size:=λx hx=>by
    obtain⟨h1,h2⟩:=t.at_base hx;exact⟨λhm=>oH (hM x hm),h2⟩
   obtain⟨wD,i4,d9,s,e8,c1⟩:=f3.update (P:=prog) (v:=(⟨A5,m+1+(sn-m),T⟩:Sl)) j7 underlying93 (k:=n.ref) trivial;change (Instr.mapUpdate 93 (.map (some bb)) (.agg (idC n.ref)) (.slice A5 (m+1+(sn-m)) T)).run prog wC=.ok () wD at s;refine lH ?_;intro K hK;refine zH (yA hS c1 sI) (λhS=>?_);refine hK _ _ ?_;clear hK K;refine zC ?_;intro hS;have D:z8 [bb] V wD:=hS;have B:=(D.block g d.ltg b0).trans d.blk;have d3:bn∉[bb]:=by simpa using d.ne.1
   have d5:bg∉[bb]:=by simpa using λe=>d.ne.2.2 e.symm
   obtain⟨l1,i5,e6⟩:=d.nodes;have e7:=e6.kept D d3;have f1:=d.gone.kept D d5;have a0:SlW wD A5 (m+1+(sn-m)) T 32 (((jI mS K n).map zS.id).map idC):=a1.kept c1 (λx hx hm=>by
    have e:x=bb:=by simpa using hm
    subst e;exact(E _ hx).1 d.inM.2.1)
   have a5:z9 wD ga 0 32=some (idC n.id):=(D.row d0 sO _ _).trans I;have a4:z9 wD (ga+1) 0 34=some (zO (xH n)):=(D.row (zD H) sO _ _).trans H;have b5:wD.cell? ⟨g,0,none⟩=some (.map (some bn)):=by rw[cell_of_row wD g 0 _ _ _ B];rfl
   have g2:=D.size;clear b1 b2 b3 L hS s f3 e6 a1 d7 b6 f6 g5 h0 f0 a3 c5;go_upto_region 6 with fail
   obtain⟨wE,i3,d8,s,c7,e9⟩:=(e7.kept (z8.drew wD) sI).update (P:=prog) (v:=xH n) j7 underlying195 (k:=n.id) trivial;change (Instr.mapUpdate 195 (.map (some bn)) (.agg (idC n.id)) (.agg (zO (xH n)))).run prog wD.drew=.ok () wE at s;have a9:g∉[bn]:=by simpa using d.neg.1
   refine kX [bn] wD ?_;intro L hS;have b1:=zF b5 a9;have b2:=zY a5 (S:=[bn]) sO;have b3:=zY a4 (S:=[bn]) sO;refine lQ ?_;intro K hK;refine zH (yA hS e9 sI) (λhS=>?_);refine hK _ _ ?_;clear hK K;refine zC ?_;intro hS;have F:z8 [bn] wD wE:=hS;have a6:bJ (N.map λn=>(n.id,xH n)) n.id (xH n)=(N ++ [n]).map λn=>(n.id,xH n):=by
    unfold bJ;rw[if_neg (by rw[map_map];exact J),map_append];rfl
   rw[a6]at c7;have d4:bb∉[bn]:=by simpa using λe=>d.ne.1 e.symm
   have d6:bg∉[bn]:=by simpa using λe=>d.ne.2.1 e.symm
   have d1:xE wE M g bn bb bg (N ++ [n]) G:=by
    refine⟨(F.block g (oH d.ltg) a9).trans B,⟨i3,d8,c7⟩,⟨_,i4,d9,e8.kept F d4,λp hp=>?_,λr hr=>?_⟩,f1.kept F d6,d.inM,d.ne,?_,?_⟩
    ·rcases eM hp with e | ⟨hp,L⟩
     ·subst e;dsimp only;have g8:v8 (N ++ [n]) n.ref=jI mS (v8 N n.ref) n:=by rw[dX,if_pos rfl]
      rw[g8,HK.out];exact⟨a0.kept F (λx hx hm=>by
       have e:x=bn:=by simpa using hm
       subst e;exact(E _ hx).1 d.inM.1),λx hx=>⟨(E x hx).1,Nat.lt_of_lt_of_le (E x hx).2 (Nat.le_trans c1.size F.size)⟩⟩
     ·obtain⟨s1,s2⟩:=a2 p hp;rw[dX,if_neg (λe=>L e.symm)];refine⟨(s1.kept D (λx hx hm=>?_)).kept F (λx hx hm=>?_),λx hx=>⟨(s2 x hx).1,Nat.lt_of_lt_of_le (s2 x hx).2 (Nat.le_trans D.size F.size)⟩⟩
      ·have e:x=bb:=by simpa using hm
       subst e;exact(s2 _ hx).1 d.inM.2.1
      ·have e:x=bn:=by simpa using hm
       subst e;exact(s2 _ hx).1 d.inM.1
    ·obtain⟨h1,h2⟩:=VY hr;rw[dX,if_neg (λe=>h2 e.symm)];exact a7 r h1
    ·intro a ha b h7 e;rcases mem_append.1 ha with ha1 | ha1 <;> rcases mem_append.1 h7 with b7 | b7
     ·exact d.one a ha1 b b7 e
     ·have e2:b=n:=by simpa using b7
      rw[e2]at e;exact absurd (mem_map.2 ⟨a,ha1,e⟩) J
     ·have e2:a=n:=by simpa using ha1
      rw[e2]at e;exact absurd (mem_map.2 ⟨b,b7,e.symm⟩) J
     ·have e1:a=n:=by simpa using ha1
      have e2:b=n:=by simpa using b7
      rw[e1,e2]
    ·intro x hx;rcases mem_append.1 hx with hx | hx
     ·exact d.ok x hx
     ·have e:x=n:=by simpa using hx
      rw[e];exact hE
   have g9:z8 [bn,bb] w wE:=z8.trans (z8.trans ((z8.of_below (e3.mono (by rw[k4.out];exact lR))).mono (S':=[bn,bb]) sI) (D.mono (S':=[bn,bb]) sI) iL) (F.mono (S':=[bn,bb]) sI) iL;clear b1 b2 b3 L hS e9 c1 s c7 e8 e7 f1 a0 a5 a4 b5 B a2 a7 F D d a6;(go_wp2_with fail);go_end0;exact⟨rfl,d1,g9⟩
end Go.Proofs.YtddopbhcpblpjaaGreatDoor
