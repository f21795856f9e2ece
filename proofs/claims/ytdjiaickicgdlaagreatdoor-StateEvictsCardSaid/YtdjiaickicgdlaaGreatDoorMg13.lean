/- Part 13 of the texts that lead to this claim: the walks of the functions and the plain law, in order. -/
import Derived.Test.YtdjiaickicgdlaaGreatDoorMg12
import Derived.Lib.AppendZeros
import Derived.Lib.Overlaps
import Derived.Shelf.Spec.SlicesInsert
import Derived.WalkMore
namespace Go.Proofs.YtdjiaickicgdlaaGreatDoor
open Go.RowKit
open List hiding and get max min or set
open Go.Proofs.Tryz
open World
set_option maxRecDepth 100000
set_option maxHeartbeats 8000000
variable {T:TypeId}{Q:Exit->Act->World->Prop}{B cap j k n:Nat}{w:World}{A:Option Addr}{bs:List UInt8}{L:List (Array Value)}{ops:Array Oper}
section
section
variable {P:Program} {T E:TypeId} {k bytes:Nat} {w:World} {B n cap:Nat} {A:Option Addr} {R:List (Array Value)}
theorem own_more{g:Nat}(h:Own w B E k (some ⟨g,0,none⟩) n cap R)(hr:n+1<=cap):∃J,J.size=k/\Own w B E k (some ⟨g,0,none⟩) (n+1) cap (R ++ [J]):=by
 have hL:=h.len;have m:=h.size;obtain⟨⟨h1,h2⟩,_,_⟩:=h;rcases h2 with⟨h2,_⟩ | ⟨g',c,cur,hv,hb,hg,hnc,hcm,hcsz,htake⟩
 ·cases h2
 injection hv with d _ hc
 injection d with d
 injection d with d
 subst d;subst hc;have j:(n+1)*k<=cur.size:=by rw[hcsz];exact Nat.mul_le_mul_right k hr
 have r:n*k+k<=cur.size:=by rw[Nat.add_mul,Nat.one_mul]at j;exact j
 have hJ:(cur.extract (n*k) (n*k+k)).size=k:=sO;have f:∀c∈R ++ [cur.extract (n*k) (n*k+k)],c.size=k:=λc hc=>by
  rcases mem_append.1 hc with hc | hc
  ·exact m c hc
  ·have e:c=cur.extract (n*k) (n*k+k):=by simpa using hc
   rw[e];exact hJ
 refine⟨_,hJ,⟨⟨by rw[j6 _ k f];simp[hL],.inr ⟨g,cap,cur,rfl,hb,hg,hr,hcm,hcsz,?_⟩⟩,by simp[hL],f⟩⟩;rw[flatMap_append,<-htake];simp only[flatMap_cons,flatMap_nil,append_nil,Array.toList_extract,extract_eq_take_drop];rw[(oM:n*k+k-n*k=k),Nat.add_mul,Nat.one_mul,take_add]
end
theorem qq{k:Nat}:∀(n:Nat) (l:List Value),l.length=n*k->∃R:List (Array Value),R.length=n/\(∀c∈R,c.size=k)/\R.flatMap Array.toList=l
 | 0,l,h=>⟨[],rfl,sI,by rw[Nat.zero_mul]at h;exact(length_eq_zero_iff.1 h).symm⟩
 | n+1,l,h=>by
  rw[Nat.add_mul,Nat.one_mul]at h;obtain⟨R,h1,h2,h3⟩:=qq (k:=k) n (l.drop k) (by rw[length_drop];omega);refine⟨(l.take k).toArray :: R,by simp[h1],λc hc=>?_,by simp[h3]⟩;rcases mem_cons.1 hc with e | hc
  ·rw[e];simp;omega
  ·exact h2 c hc
theorem swap_rows{α:Type}(A C:List α)(x:α)(R1:List α)(n i:Nat)(hA:A.length=i)(hC:C.length=n-i)(hR:R1.length=n-i)(hi:i<=n) :
  ((A ++ [x]++R1).take (i+1)++C++(A ++ [x]++R1).drop (i+1+(n-i)))=A++x :: C:=by
 rw[take_append_of_le_length (by simp[hA]),take_of_length_le (by simp[hA]),drop_of_length_le (by simp[hA,hR];omega)]
 simp
theorem insert_id(w:World)(B:Nat)(A:Option Addr)(n cap:Nat)(L:List zB)(h:Own w B 31 32 A n cap (L.map idC))(i:Nat)(hi:i<=n)(x:zB)(q:Nat)(hq:w.heap[q]?=some (.cells (idC x) 31 (0,0)))(f6:q∉blk A)(hn:n<=1000000)(hB:B<=w.heap.size) :
  Calls prog 172 #[.slice A n cap,.int .i64 i,.slice (some ⟨q,0,none⟩) 1 1] w λe w'=>∃A' cap',e=.returned (.slice A' (n+1) cap')/\Own w' B 31 32 A' (n+1) cap' ((L.take i++x :: L.drop i).map idC)/\z9 (blk A) w w'/\∀y∈blk A',y∈blk A\/w.heap.size<=y:=by
 have b1:L.length=n:=by simpa using h.len
 have F:zA w q 0 32=some (idC x):=by unfold zA;rw[hq];simp[go_sem]
 obtain⟨A2,c2,f4,_,_⟩:=SlW.hi (w:=w) yP h.slw hi;by_cases f9:i=n
 ·subst f9;have hL:L.take i++x :: L.drop i=L ++ [x]:=by rw[take_of_length_le oM,drop_of_length_le oM]
  have HL:=dH hL;clear hL b1;go_enter func172,ntmps172
  go_wp2_with (at_builtin;refine xN yP rfl h rfl F (yN _) oM oM hB ?_;intro A' cap' w2 a9 f8 a7)
  (go_wp2_with fail);go_ret;exact⟨A',cap',rfl,by rw[HL.out];simpa using a9,f8,a7⟩
 ·have h4:i<n:=oM;clear f4;obtain⟨g,rfl⟩:∃g,A=some ⟨g,0,none⟩:=by
   rcases h.addr with e | e
   ·obtain⟨⟨_,h2⟩,_,_⟩:=h;rcases h2 with⟨_,h0⟩ | ⟨g,c,a6,hv,_⟩
    ·omega
    ·rw[e]at hv;cases hv
   ·exact e
  have e5:q≠g:=by simpa[blk]using f6
  have e0:¬((i:Int)=(n:Int)):=oM;have g4:=h.cap_le;have g8:IntKind.i64.wrap ((n:Int)+1)=(n:Int)+1:=IntWalk.i64_in _ oM;obtain⟨N1,f1⟩:=eX (n+1-i)
  have c9:(L.take i).length=i:=by rw[length_take];omega
  have f2:(L.drop i).length=n-i:=by rw[length_drop];omega
  have D:∀(l:List zB),∀c∈l.map idC,c.size=32:=λl c hc=>by
   obtain⟨y,_,rfl⟩:=mem_map.1 hc;exact xQ y
  have I:∀(l:List zB),∀c∈l.map idC,∀v∈c.toList,v.oneCell'=true:=λl c hc=>by
   obtain⟨y,_,rfl⟩:=mem_map.1 hc;exact yN y
  have U:B<=g:=(h.at_base (x:=g) (by simp[blk])).1;have e8:g<w.heap.size:=(h.at_base (x:=g) (by simp[blk])).2;by_cases X:n+1<=cap
  ·obtain⟨J,hJ,G⟩:=own_more h X;have e7:=λw0=>sJ (P:=prog) yP w0 (some ⟨g,0,none⟩) n cap (n+1) X;have h1:=λw0=>Own.hi_at yP h (m:=i) oM w0;have d0:=λw0=>Own.hi_at yP G (m:=i+1) oM w0;have e4:=λw0=>Own.hi_at yP G (m:=i) oM w0;obtain⟨a6,d6⟩:∃a6,w.heap[g]?=some (.cells a6 31 (0,0))/\a6.size=cap*32:=by
    obtain⟨⟨_,h2⟩,_,_⟩:=h;rcases h2 with⟨h2,_⟩ | ⟨g',c,a6,hv,_,hg,_,_,hcs,_⟩
    ·cases h2
    ·injection hv with c4 _ hc
     injection c4 with c4
     injection c4 with c4
     subst c4;subst hc;exact⟨a6,hg,hcs⟩
   have h3:∀lb cb,(callFunc 236 #[.slice (some ⟨q,0,none⟩) 1 1,.slice (some ⟨g,(i+1)*32,none⟩) lb cb]).run prog w=.ok (.value (.bool false)) w:=λlb cb=>by
    rw[run_callFunc_extern func236 kR kR kR (e:=Extern.SlicesOverlaps.overlaps #[34,34] #[4]) kR,
     Lib.run_overlaps_apart w 34 4 31 underlying34 32 (λw=>yP.sizeOf_run w) ⟨q,0,none⟩ ⟨g,(i+1)*32,none⟩ 1 1 lb cb e5 31 31 32 (cap*32) (by simp[shape?,hq]) (by simp[shape?,d6.1,d6.2]) oM (by simp[frozen?,hq]) (by simp[frozen?,hq])]
    rfl
   have d4:(L.map idC ++ [J]).length=n+1:=by simp[b1]
   have N:Own w.drew B 31 32 (some ⟨g,0,none⟩) n cap (L.map idC):=h.kept (z9.drew w) (S:=[]) sI;obtain⟨w1,b7,r,a5⟩:=i9 yP (G.kept (z9.drew w) (S:=[]) sI) (d:=i+1) (m:=n-i) (sLen:=n+1-i) (N.drop_slr (i:=i) oM) (λc hc=>D L c (mem_of_mem_drop hc)) (λc hc=>I L c (mem_of_mem_drop hc)) oM (by rw[(oM:n+1-(i+1)=n-i)];exact Nat.min_eq_right oM);have R:z9 [g] w w1:=z9.trans ((z9.drew w).mono sI) a5 (λy hy=>.inl hy);have a8:zA w1 q 0 32=some (idC x):=(R.row (zE F) (by simpa using e5) _ _).trans F;have c1:SlR w1 (some ⟨q,0,none⟩) 1 32 [idC x]:=⟨rfl,λ_=>⟨q,0,rfl,λj hj=>by
    have e:j=0:=by simpa using hj
    subst e;simpa using a8⟩⟩
   obtain⟨w2,V,f,b4⟩:=i9 yP r (d:=i) (m:=1) (sLen:=1) c1 sI (by simpa using yN x) oM (Nat.min_eq_left oM);have s:(((L.map idC ++ [J]).take (i+1)++(L.map idC).drop i++(L.map idC ++ [J]).drop (i+1+(n-i))).take i ++ [idC x]++((L.map idC ++ [J]).take (i+1)++(L.map idC).drop i++(L.map idC ++ [J]).drop (i+1+(n-i))).drop (i+1))=(L.take i++x :: L.drop i).map idC:=by
    have e1:(L.map idC ++ [J]).drop (i+1+(n-i)) = []:=drop_of_length_le (by rw[d4];omega);have e2:((L.map idC ++ [J]).take (i+1)).length=i+1:=by rw[length_take,d4];omega
    rw[e1,append_nil,take_append_of_le_length oM,take_take,Nat.min_eq_left oM,take_append_of_le_length sO,drop_append,e2,drop_of_length_le oM,nil_append,Nat.sub_self,drop_zero,map_append,map_cons,map_take,map_drop]
    simp
   rw[s]at f;have b3:z9 [g] w w2:=z9.trans R b4 (λy hy=>.inl hy);have f3:IntKind.i64.wrap ((i:Int)+1)=(i:Int)+1:=IntWalk.i64_in _ oM;have b8:((i+1:Nat):Int)=(i:Int)+1:=by push_cast;rfl
   have c6:((n+1:Nat):Int)=(n:Int)+1:=by push_cast;rfl
   rw[b8]at d0;rw[c6]at e7;simp only[Nat.add_sub_add_right]at b7 d0;have g1:¬((cap:Int)<(n:Int)+1):=oM;have HF:=dH (And.intro f b3);have g6:=dH (show Kp [g] w w1 from R);clear b8 c6 f b3 s b4 c1 a8 R a5 r N d4 d6 G c9 f2 D I U e8 f1 h hq F;go_enter func172,ntmps172
   go_upto_region 15 with fail
   refine kX [g] w ?_;intro d3 hS;refine lQ ?_;intro K hK;have a3:Kp [g] w w1:=g6.out;refine⟨a3,hK _ _ ?_⟩;clear hK K hS;have hS:=a3;refine zD ?_;intro hS;clear hS a3 d3 b7;go_wp2_with (at_builtin;refine wpList_copy_runI _ rfl _ _ 34 34 rfl _ _ rfl rfl (V _ _ _) ?_)
   (go_wp2_with fail);go_ret;exact⟨_,_,rfl,by simpa using HF.out.1,by simpa[blk]using HF.out.2,λy hy=>.inl hy⟩
  ·have c6:cap=n:=oM;subst c6;have e7:=λw0=>sJ (P:=prog) yP w0 (some ⟨g,0,none⟩) cap cap i oM;obtain⟨c5,T,hz⟩:=Option.bind_eq_some_iff.1 (kR:(prog.info? 31).bind (·.zero)=some (.agg (idC id0)));have b5:c5.size=32:=by have:=xU;rw[T]at this;simpa using this
   have a1:c5.bytes=32:=by have:(prog.info? 31).map (·.bytes)=some 32:=kR
                           rw[T]at this;simpa using this
   obtain⟨O,M⟩:=eX (((L.take i).map idC).flatMap Array.toList)
   have a4:O.length=i*32:=by rw[<-M,j6 _ 32 (D _),length_map,c9]
   have b0:(Builtin.firstCells c5.size i (.slice (some ⟨g,0,none⟩) i cap)).run prog w.drew=.ok O.toArray w.drew:=by
    refine run_firstCells_some w.drew c5.size i ⟨g,0,none⟩ i cap O (by rw[a4,b5]) λj v hj=>?_;have hs:=(h.kept (z9.drew w) sI).slr;obtain⟨g',o',e,hr⟩:=hs.2 oM;injection e with e;injection e with e1 e2
    subst e1;subst e2;have h6:j<i*32:=by rw[<-a4];exact(List.getElem?_eq_some_iff.1 hj).1
    have h5:j / 32<i:=oM;have f5:=hr (j / 32) sO;have Y:=dG ((L.take i).map idC) 32 (D _) (j / 32) (j % 32) sO oM;rw[M,(oM:j / 32*32+j % 32=j),hj]at Y;rw[addr_add,(oM:0+j=0+j / 32*32+j % 32),zC f5 oM,Y]
    simp
   have f7:=nextslicecap_le (need:=i+N1) (old:=cap) oM;have E:=λty=>aK (P:=prog) (w:=w) (t:=34) (tn:=3) (ty:=ty) (kk:=.i64) underlying34 underlying3 T hz b0 (m:=N1) oM oM oM oM (by rw[a1];omega) (by rw[a1];omega);obtain⟨NC,c8⟩:=eX (grownCap w (i+N1) cap 31)
   have e3:i+N1<=NC:=by rw[<-c8];exact grownCap_ge _ _ _ _
   have c3:NC<=maxLen:=by rw[<-c8];exact grownCap_le_maxLen _ _ _ _ (by simp only[maxLen];omega)
   rw[c8]at E;obtain⟨ZC,d8⟩:=eX (Builtin.zeroCells (Value.agg (idC id0)).cells N1)
   obtain⟨ZR,d7⟩:=eX (Builtin.zeroCells (Value.agg (idC id0)).cells (NC-(i+N1)))
   have b9:ZC.size=N1*32:=by rw[<-d8,size_zeroCells];simp[Value.cells]
   have c0:ZR.size=(NC-(i+N1))*32:=by rw[<-d7,size_zeroCells];simp[Value.cells]
   rw[d8,d7]at E;obtain⟨Z,d9,f0,e9⟩:=qq (k:=32) N1 ZC.toList (by simpa using b9);obtain⟨W1,c7⟩:=eX (w.drew.alloc (.cells (O.toArray++ZC++ZR) 31))
   rw[c7]at E;have e6:i+N1=cap+1:=oM;have a2:W1.heap[w.heap.size]?=some (.cells (O.toArray++ZC++ZR) 31 (0,0)):=by rw[<-c7];exact heap_alloc_new w.drew _
   have a5:z9 [] w W1:=by rw[<-c7];exact z9.trans (z9.drew w) (z9.alloc _ _) sI
   obtain⟨g2,Y⟩:=eX w.heap.size
   rw[Y]at a2 E;have d1:∀c∈(L.take i).map idC++Z,c.size=32:=λc hc=>by
    rcases mem_append.1 hc with hc | hc
    ·exact D _ c hc
    ·exact f0 c hc
   have d2:((L.take i).map idC++Z).length=cap+1:=by rw[length_append,length_map,c9,d9];omega
   have r:Own W1 B 31 32 (some ⟨g2,0,none⟩) (cap+1) NC ((L.take i).map idC++Z):=by
    refine⟨⟨by rw[j6 _ 32 d1,d2],.inr ⟨g2,NC,_,rfl,oM,a2,oM,c3,?_,?_⟩⟩,d2,d1⟩
    ·simp only[Array.size_append,b9,c0,size_toArray,a4];omega
    ·rw[flatMap_append,M,e9];simp only[Array.toList_append];rw[take_append_of_le_length (by simp[a4,b9];omega),take_of_length_le (by simp[a4,b9];omega)]
   have a8:zA W1 q 0 32=some (idC x):=(a5.row (zE F) sI _ _).trans F;have c1:SlR W1 (some ⟨q,0,none⟩) 1 32 [idC x]:=⟨rfl,λ_=>⟨q,0,rfl,λj hj=>by
    have e:j=0:=by simpa using hj
    subst e;simpa using a8⟩⟩
   have d0:=λw0=>Own.hi_at yP r (m:=i) oM w0;obtain⟨w2,V,f,b4⟩:=i9 yP r (d:=i) (m:=1) (sLen:=1) c1 sI (by simpa using yN x) oM (Nat.min_eq_left oM);have g3:g2≠g:=oM;have a0:z9 [g2] w w2:=z9.trans (a5.mono sI) b4 (λy hy=>.inl hy);have b2:z9 [] w w2:=a0.narrow (λy hy=>by simp at hy;rw[Y];omega);have N:Own w2.drew B 31 32 (some ⟨g,0,none⟩) cap cap (L.map idC):=(h.kept b2 sI).kept (z9.drew w2) (S:=[]) sI;have e4:=λw0=>Own.hi_at yP f (m:=i+1) oM w0;have g9:=λw0=>Own.hi_at yP N (m:=i) oM w0;obtain⟨w3,b6,H,d5⟩:=i9 yP (f.kept (z9.drew w2) (S:=[]) sI) (d:=i+1) (m:=cap-i) (sLen:=cap-i) (N.drop_slr (i:=i) oM) (λc hc=>D L c (mem_of_mem_drop hc)) (λc hc=>I L c (mem_of_mem_drop hc)) oM (by rw[(oM:cap+1-(i+1)=cap-i)];exact Nat.min_self _);have s:(((L.take i).map idC++Z).take i ++ [idC x]++((L.take i).map idC++Z).drop (i+1))=(L.take i).map idC ++ [idC x]++Z.drop 1:=by
    rw[take_append_of_le_length sO,take_of_length_le sO,drop_append];rw[drop_of_length_le sO,nil_append];congr 2
    simp;omega
   rw[s]at H;rw[<-map_drop,swap_rows ((L.take i).map idC) ((L.drop i).map idC) (idC x) (Z.drop 1) cap i sO sO (by simp[d9];omega) hi,(sI:(L.take i).map idC++idC x :: (L.drop i).map idC=(L.take i++x :: L.drop i).map idC)]at H;have b3:z9 [] w w3:=(z9.trans (z9.trans (a0.mono (S':=[g2]) sI) ((z9.drew w2).mono sI) (λy hy=>.inl hy)) d5 (λy hy=>.inl hy)).narrow (λy hy=>by simp at hy;rw[Y];omega);simp only[e6]at E;have g7:IntKind.i64.wrap ((cap:Int)+1-(i:Int))=(N1:Int):=by rw[IntWalk.i64_in _ oM];omega
   have f3:IntKind.i64.wrap ((i:Int)+1)=(i:Int)+1:=IntWalk.i64_in _ oM;have b8:((i+1:Nat):Int)=(i:Int)+1:=by push_cast;rfl
   rw[b8]at e4;clear b8;have g1:¬((cap:Int)+1<=(cap:Int)):=oM;have g0:(cap:Int)<(cap:Int)+1:=oM;have HF:=dH (And.intro H (And.intro b3 Y));simp only[Nat.add_sub_add_right]at b6;have h7:=dH e6;have g5:=dH (z9.trans ((z9.drew w2).mono sI) d5 (λy hy=>.inl hy):z9 [g2] w2 w3);clear H b3 d5 s N b2 a0 g3 f b4 c1 a8 r d2 d1 a5 a2 c7 d9 f0 e9 b9 c0 d8 d7 c8 e3 c3 b0 a4 M hz T b5 a1 f7 c9 f2 D I U e8 f1 h hq F Y;go_enter func172,ntmps172
   go_upto_region 10 with(at_builtin;refine Lib.wpList_append_run _ rfl _ _ _ _ rfl _ _ rfl rfl _ _ (E _) ?_)
   clear E;go_upto_region 11 with(at_builtin;refine wpList_copy_runI _ rfl _ _ 34 34 rfl _ _ rfl rfl (V _ _ _) ?_)
   clear V;refine kX [g2] w2 ?_;intro d3 hS;refine lQ ?_;intro K hK;have a3:Kp [g2] w2 w3:=g5.out;refine⟨a3,hK _ _ ?_⟩;clear hK K hS;have hS:=a3;refine zD ?_;intro hS;clear hS a3 d3 b6;(go_wp2_with fail);go_ret;refine⟨_,_,rfl,by simpa using HF.out.1,HF.out.2.1.mono sI,λy hy=>.inr ?_⟩;have e:y=g2:=by simpa[blk]using hy
   rw[e,HF.out.2.2];exact lR
end
section
structure kB{κ:Type}(w:World)(b:Nat)(kv:κ->Value)(ok:κ->Prop)(M:List (κ×Sl))(f:κ->List zB):Prop where
 map:∃es clk,yL w b kv slV ok M es clk
 own:∀q∈M,Own w 0 31 32 q.2.A q.2.n q.2.c ((f q.1).map idC)
 non:∀k,k∉M.map (·.1)->f k = []
 dis:M.Pairwise (λa c=>∀y∈blk a.2.A,y∉blk c.2.A)
def slF{κ:Type}(M:List (κ×Sl)):List Nat:=M.flatMap λq=>blk q.2.A
section
variable {κ:Type} {w w':World} {b:Nat} {kv:κ->Value} {ok:κ->Prop} {M:List (κ×Sl)} {f:κ->List zB} {K:TypeId}
theorem kB.bnot(h:kB w b kv ok M f):b∉slF M:=λhb=>by
 obtain⟨q,hq,hy⟩:=mem_flatMap.1 hb;obtain⟨es,d,hm⟩:=h.map;obtain⟨⟨_,h2⟩,_,_⟩:=h.own q hq;rcases h2 with⟨e,_⟩ | ⟨g,c,cur,e,_,hg,_⟩
 ·injection e with e;rw[e]at hy;simp[blk]at hy
 ·injection e with e;rw[e]at hy
  have e2:b=g:=by simpa[blk]using hy
  rw[<-e2,hm.heap]at hg;cases hg
theorem kB.lt(h:kB w b kv ok M f):b<w.heap.size/\∀y∈slF M,y<w.heap.size:=by
 obtain⟨es,d,hm⟩:=h.map;refine⟨hm.lt,λy hy=>?_⟩;obtain⟨q,hq,hy⟩:=mem_flatMap.1 hy;exact((h.own q hq).at_base hy).2
theorem kB.kept{S:List Nat}(h:kB w b kv ok M f)(k:z9 S w w')(hb:b∉S)(hF:∀y∈slF M,y∉S):kB w' b kv ok M f:=by
 obtain⟨es,d,hm⟩:=h.map;exact⟨⟨es,d,hm.kept k hb⟩,λq hq=>(h.own q hq).kept k λy hy=>hF y (mem_flatMap.2 ⟨q,hq,hy⟩),h.non,h.dis⟩
theorem kB.congr{f':κ->List zB}(h:kB w b kv ok M f)(e:∀k,f' k=f k):kB w b kv ok M f':=by
 have:f'=f:=funext e;rw[this];exact h
theorem kB.new(w:World)(b:Nat)(hb:b=w.heap.size):kB (w.alloc (.map #[] 0)) b kv ok [] (λ_=>[]) :=
 ⟨⟨_,_,yL.new w b hb⟩,sI,λ_ _=>rfl,Pairwise.nil⟩
theorem kB.get(h:kB w b kv ok M f)(E:bH prog K kv ok)(ht:prog.underlying T=some (.map K 34)){k:κ}(hk:ok k) :
  ∃s:Sl,(∀w2,Below w.heap.size w w2->(Instr.lookup T (.map (some b)) (kv k) false).run prog w2=.ok (slV s) w2)/\Own w 0 31 32 s.A s.n s.c ((f k).map idC)/\((k,s)∈M\/(k∉M.map (·.1)/\s=⟨none,0,0⟩)):=by
 obtain⟨es,d,hm⟩:=h.map;by_cases hx:k∈M.map (·.1)
 ·obtain⟨q,hq,rfl⟩:=mem_map.1 hx;exact⟨q.2,λw2 hb=>(hm.kept (z9.of_below hb) sI).hit E ht hk hq false,h.own q hq,.inl hq⟩
 ·refine⟨⟨none,0,0⟩,λw2 hb=>(hm.kept (z9.of_below hb) sI).miss E ht (lF w2) hk hx false,?_,.inr ⟨hx,rfl⟩⟩;rw[h.non k hx];exact Own.nil _ _ _ _
theorem kB.put[DecidableEq κ](h:kB w b kv ok M f)(E:bH prog K kv ok)(ht:prog.underlying T=some (.map K 34)){k:κ}(hk:ok k){s s':Sl}{l:List zB}{w1:World}(hs:(k,s)∈M\/(k∉M.map (·.1)/\s=⟨none,0,0⟩))
  (R:z9 (blk s.A) w w1)(ho:Own w1 0 31 32 s'.A s'.n s'.c (l.map idC))(hb:∀y∈blk s'.A,y∈blk s.A\/w.heap.size<=y) :
  ∃w2 M',(Instr.mapUpdate T (.map (some b)) (kv k) (slV s')).run prog w1=.ok () w2/\kB w2 b kv ok M' (λj=>if j=k then l else f j)/\z9 [b] w1 w2/\∀y∈slF M',y∈slF M\/w.heap.size<=y:=by
 have O:∀y∈blk s.A,y∈slF M:=λy hy=>by
  rcases hs with hs | ⟨_,e⟩
  ·exact mem_flatMap.2 ⟨_,hs,hy⟩
  ·rw[e]at hy;simp[blk]at hy
 have X:b∉blk s.A:=λhy=>h.bnot (O b hy);have N:b∉blk s'.A:=λhy=>by
  rcases hb b hy with h1 | h1
  ·exact X h1
  ·have:=h.lt.1;omega
 obtain⟨es,a3,hm⟩:=h.map;have a0:=hm.kept R X;obtain⟨w2,a2,a1,hr,U,J⟩:=a0.update E ht (k:=k) (v:=s') hk;have Z:(M.map (·.1)).Nodup:=hm.nodup;have D:∀q∈M,q.1≠k->∀y∈blk q.2.A,y∉blk s.A:=by
  intro q hq m y hy g;rcases hs with hs | ⟨_,e⟩
  ·have Y:q≠(k,s):=λe=>m (by rw[e]);obtain⟨i,hi,I⟩:=mem_iff_getElem.1 hq;obtain⟨j,hj,H⟩:=mem_iff_getElem.1 hs;rcases Nat.lt_trichotomy i j with G | G | G
   ·have:=pairwise_iff_getElem.1 h.dis i j hi hj G;rw[I,H]at this;exact this y hy g
   ·subst G;exact Y (by rw[<-I,<-H])
   ·have:=pairwise_iff_getElem.1 h.dis j i hj hi G;rw[I,H]at this;exact this y g hy
  ·rw[e]at g;simp[blk]at g
 have d:∀q∈M,q.1≠k->∀y∈blk q.2.A,y∉blk s'.A:=λq hq m y hy g=>by
  rcases hb y g with h1 | h1
  ·exact D q hq m y hy h1
  ·have:=((h.own q hq).at_base hy).2;omega
 have t:∀q∈M,q.1≠k->Own w2 0 31 32 q.2.A q.2.n q.2.c ((f q.1).map idC):=λq hq m =>
  ((h.own q hq).kept R (D q hq m)).kept J (λy hy hm=>h.bnot (mem_flatMap.2 ⟨q,hq,by have e:y=b:=(by simpa using hm);rw[<-e];exact hy⟩))
 have B:Own w2 0 31 32 s'.A s'.n s'.c (l.map idC):=ho.kept J (λy hy hm=>N (by have e:y=b:=(by simpa using hm);rw[<-e];exact hy));have F:∀q∈bS M k s',q=(k,s')\/(q∈M/\q.1≠k):=by
  intro q hq;unfold bS at hq;split at hq
  ·obtain⟨r,hr,rfl⟩:=mem_map.1 hq;by_cases e:r.1=k
   ·left;rw[if_pos e]
   ·right;rw[if_neg e];exact⟨hr,e⟩
  ·rename_i hno
   rcases mem_append.1 hq with h1 | h1
   ·exact .inr ⟨h1,λe=>hno (e ▸ mem_map_of_mem (f:=(·.1)) h1)⟩
   ·left;simpa using h1
 refine⟨w2,bS M k s',hr,⟨⟨_,_,U⟩,λq hq=>?_,λj hj=>?_,?_⟩,J,λy hy=>?_⟩
 ·rcases F q hq with e | ⟨h1,h2⟩
  ·subst e;simp only[if_pos];exact B
  ·rw[if_neg h2];exact t q h1 h2
 ·have V:j≠k:=λe=>hj (by
   subst e;unfold bS;split
   ·rename_i L
    rw[map_map];obtain⟨r,hr,e⟩:=mem_map.1 L;exact mem_map.2 ⟨r,hr,by simp[e]⟩
   ·simp)
  rw[if_neg V];refine h.non j λL=>hj ?_;obtain⟨r,hr,e⟩:=mem_map.1 L;unfold bS;split
  ·rw[map_map];exact mem_map.2 ⟨r,hr,by simp[e,V]⟩
  ·exact mem_map.2 ⟨r,mem_append_left _ hr,e⟩
 ·unfold bS;split
  ·rw[pairwise_map];refine(Pairwise.and_mem.1 (h.dis.and (show M.Pairwise (λa c=>a.1≠c.1)from pairwise_map.1 Z))).imp fun {a c} ⟨ha,hc,hac,m⟩=>?_;by_cases e1:a.1=k
   ·have e2:c.1≠k:=λe=>m (e1.trans e.symm);rw[if_pos e1,if_neg e2];exact λy hy g=>d c hc e2 y g hy
   ·rw[if_neg e1];by_cases e2:c.1=k
    ·rw[if_pos e2];exact d a ha e1
    ·rw[if_neg e2];exact hac
  ·rename_i hno
   refine pairwise_append.2 ⟨h.dis,sI,λa ha c hc=>?_⟩;have e:c=(k,s'):=by simpa using hc
   subst e;exact d a ha (λe=>hno (e ▸ mem_map_of_mem (f:=(·.1)) ha))
 ·obtain⟨q,hq,hy⟩:=mem_flatMap.1 hy;rcases F q hq with e | ⟨h1,h2⟩
  ·subst e;rcases hb y hy with h1 | h1
   ·exact .inl (O y h1)
   ·exact .inr h1
  ·exact .inl (mem_flatMap.2 ⟨q,h1,hy⟩)
end
end
def yy(f:FuncId):Prop:=∀(args:Array Value) (w:World),(callFunc f args).run prog w=.ok (.enter f args) w
def Tells(f:FuncId)(first caps:Array Value)(S:List Nat)(W:World)(p:zB->Bool):Prop :=
 ∀(x:zB) (w':World),z9 S W w'->Calls prog f (first.push (.agg (idC x))++caps) w' λe w''=>e=.returned (.bool (p x))/\Below w'.heap.size w' w''
theorem KW(f:FuncId)(first g:Array Value)(H:yy f)(S:List Nat)(W:World)(p:zB->Bool)(hp:Tells f first g S W p)(A:Option Addr)(n cap:Nat)(R:List zB)(w:World)(hw:z9 S W w)(h:zX w A n R)(hn:n<=1000000) :
  Calls prog 97 #[.slice A n cap,.func (.func f) first g] w λe w'=>∃j:Int,e=.returned (.int .i64 j)/\((j = -1/\∀x∈R,p x=false)\/∃i:Nat,j=i/\i<n/\(∀x∈R.take i,p x=false)/\∀hi:i<R.length,p (R[i])=true)/\Below w.heap.size w w':=by
 have G:R.length=n:=by simpa using h.1
 have Hp:=dH hp;have Hw:=dH hw;clear hp hw;go_enter func97,ntmps97
 (go_wp2_with fail);go_loopw [8] (λiv wr=>∃i:Nat,i<=n/\iv=.int .i64 i/\Hid (∀x∈R.take i,p x=false)/\Below w.heap.size w wr) (λiv _=>n-(intOf iv).toNat)
 case atStart=>exact⟨0,zL,rfl,(sI:∀x∈R.take 0,p x=false),Below.refl _ _⟩
 case round =>
  obtain⟨i,hi,rfl,s,hb⟩:=hrel;by_cases B:i<n
  ·obtain⟨q,o,rfl,r⟩:=zX.get (SlR.below h hb) B oM;have m:R.take (i+1)=R.take i ++ [R[i]'oM]:=by rw[take_succ_eq_append_getElem oM]
   obtain⟨x,hx⟩:=eX (R[i]'oM)
   rw[hx]at r m;have I:=dH m;have Hx:=dH hx;have c1:=Hp.out x wr (z9.trans Hw.out (z9.of_below hb) sI);clear hx m;obtain⟨bb,t⟩:=eX (p x)
   rw[t]at c1;have F:=dH t;clear t;have hc:=H (first.push (.agg (idC x))++g);(go_wp2_with fail);refine c1.mono ?_;rintro e w1 ⟨rfl,E⟩;have D:=hb.trans (E.mono hb.size);clear c1 E hb;cases bb with
   | true =>
    (go_wp2_with fail);go_ret;exact⟨_,rfl,.inr ⟨i,rfl,B,s.out,λ_=>by rw[Hx.out];exact F.out⟩,D⟩
   | false =>
    have d:∀y∈R.take (i+1),p y=false:=by
     intro y hy;rw[I.out,mem_append,mem_singleton]at hy;rcases hy with hy | hy
     ·exact s.out y hy
     ·rw[hy];exact F.out
    have k:=dH d;clear d;(go_wp2_with fail);go_roundw
    case rel=>exact⟨i+1,oM,by go_num,k,D⟩
    case measure=>exact sZ
  ·have e2:R.take i=R:=take_of_length_le oM;have d:=s.out;rw[e2]at d;have k:=dH d;clear e2 d;(go_wp2_with fail);go_ret;exact⟨_,rfl,.inl ⟨rfl,k.out⟩,hb⟩
theorem yn(f:FuncId)(first d:Array Value)(k:yy f)(S:List Nat)(W:World)(p:zB->Bool)(hp:Tells f first d S W p)(A:Option Addr)(n cap:Nat)(R:List zB)(w:World)(hw:z9 S W w)(h:zX w A n R)(hn:n<=1000000) :
  Calls prog 123 #[.slice A n cap,.func (.func f) first d] w λe w'=>e=.returned (.bool (R.any p))/\Below w.heap.size w w':=by
 have g:R.length=n:=by simpa using h.1
 have c2:=KW f first d k S W p hp A n cap R w hw h hn;have Hl:=dH g;clear g hp k;go_enter func123,ntmps123
 (go_wp2_with fail);refine c2.mono ?_;rintro e w1 ⟨j,rfl,hj,m⟩;have Hj:=dH hj;clear c2 hj;(go_wp2_with fail);go_ret;refine⟨yB ?_,m⟩;rcases Hj.out with⟨rfl,h1⟩ | ⟨i,rfl,h1,_,h2⟩
 ·rw[show R.any p=false by rw[any_eq_false];simpa using h1];rfl
 ·have hi:i<R.length:=oH Hl.out;rw[show R.any p=true from any_eq_true.2 ⟨_,getElem_mem hi,h2 hi⟩]
  simp
def Weighs(f:FuncId)(first caps:Array Value)(w:World)(t:zB)(c:zB->Int):Prop :=
 ∀(x:zB) (w':World),Below w.heap.size w w'->Calls prog f (first++(#[.agg (idC x),.agg (idC t)]++caps)) w' λe w''=>e=.returned (.int .i64 (c x))/\Below w'.heap.size w' w''
theorem YG(f:FuncId)(first r:Array Value)(X:yy f)(c:zB->Int)(t:zB)(w:World)(hp:Weighs f first r w t c)(A:Option Addr)(n cap:Nat)(R:List zB)(h:zX w A n R)(hn:n<=1000000)
  (hm:∀a b (hb:b<R.length),(a9:a<b)->c R[b]<0->c (R[a]'oM)<0) :
  Calls prog 127 #[.slice A n cap,.agg (idC t),.func (.func f) first r] w λe w'=>∃(i:Nat) (b:Bool),e=.returned (.tuple #[.int .i64 i,.bool b])/\i<=n/\(∀k (hk:k<R.length),k<i->c R[k]<0)/\(∀k (hk:k<R.length),i<=k->0<=c R[k])/\(b=true↔∃hi:i<R.length,c R[i]=0)/\Below w.heap.size w w':=by
 have E:R.length=n:=by simpa using h.1
 have hB:Below w.heap.size w (w.alloc (.cells (idC t) 31)):=bA;have G:zA (w.alloc (.cells (idC t) 31)) w.heap.size 0 32=some (idC t):=by simp[go_sem]
 have h1:=SlR.below h hB;obtain⟨W,hW⟩:=eR (w.alloc (.cells (idC t) 31))
 obtain⟨ga,M⟩:=eX w.heap.size
 rw[<-hW]at hB G h1;have Hp:=dH hp;have Hm:=dH hm;have g:=dH E;have H1:=dH h1;have HB:=dH hB;have HW:=dH hW;have a1:=dH M;rw[M]at G;clear hp hm h h1 hB M;go_enter func127,ntmps127
 go_upto_region 3 with fail
 rw[<-hW,a1.out];clear hW E;go_loopw [9,10] (λiv jv wr=>∃i j:Nat,iv=.int .i64 i/\jv=.int .i64 j/\i<=j/\j<=n/\Hid (∀k (hk:k<R.length),k<i->c R[k]<0)/\Hid (∀k (hk:k<R.length),j<=k->0<=c R[k])/\Below W.heap.size W wr) (λiv jv _=>(intOf jv).toNat-(intOf iv).toNat)
 case atStart=>exact⟨0,n,rfl,rfl,zL,lR,(show ∀k (hk:k<R.length),k<0->c R[k]<0 from λk _ h=>absurd h (Nat.not_lt_zero _)),(show ∀k (hk:k<R.length),n<=k->0<=c R[k]from λk hk h=>oH g.out),Below.refl _ _⟩
 case round =>
  obtain⟨i,j,rfl,rfl,a4,I,H,L,hb⟩:=hrel;have m:zA wr ga 0 32=some (idC t):=((z9.of_below hb).row (zE G) sI _ _).trans G;by_cases a3:i<j
  ·obtain⟨h,hh⟩:=eX ((i+j) / 2)
   have a8:((i:Int)+(j:Int)) / 2=(h:Int):=oM;have a5:i<=h:=oM;have a7:h<j:=oM;have a6:h<n:=oM;have U:h<R.length:=oH g.out;have a2:IntKind.i64.wrap ((h:Int)+1)=(h:Int)+1:=IntWalk.i64_in _ oM;obtain⟨q,o,rfl,d⟩:=zX.get (SlR.below H1.out hb) (i:=h) oM U;obtain⟨x,hx⟩:=eX (R[h])
   rw[hx]at d;have c1:=Hp.out x wr.drew (by have:=HB.out;exact(this.trans (hb.mono this.size)).drew);have hc:=X (first++(#[.agg (idC x),.agg (idC t)]++r));obtain⟨C,hC⟩:=eX (c x)
   rw[hC]at c1;have HC:=dH (show c R[h]=C by rw[hx];exact hC);have Hh:=dH hh;clear hx hC hh;go_upto_region 5 with fail
   refine lX wr ?_;intro B hS;have b1:=zS d;have b2:=zS m;refine lZ ?_;refine lC (c1) ?_;clear hS;intro w' hS;refine lZ ?_;refine zD ?_;intro hS;have s:Below W.heap.size W w':=hb.trans (Below.mono (show Below wr.heap.size wr w' from hS) hb.size);clear B hS b1 b2 c1 hc d m hb;by_cases N:C<0
   ·have D:∀k (hk:k<R.length),k<h+1->c R[k]<0:=λk hk Y=>by
     rcases Nat.lt_or_ge k h with h1 | h1
     ·exact Hm.out k h (oH g.out) h1 (by rw[HC.out];exact N)
     ·obtain rfl:k=h:=oM;rw[HC.out];exact N
    have O:=dH D;clear D;(go_wp2_with fail);go_roundw
    case rel=>exact⟨h+1,j,by go_num,rfl,oM,I,O,L,s⟩
    case measure=>exact sZ
   ·have F:∀k (hk:k<R.length),h<=k->0<=c R[k]:=λk hk Y=>by
     rcases Nat.lt_or_ge h k with h1 | h1
     ·refine Classical.byContradiction λhn=>?_;have:=Hm.out h k hk h1 oM;rw[HC.out]at this;exact N this
     ·obtain rfl:k=h:=oM;rw[HC.out];omega
    have T:=dH F;clear F;(go_wp2_with fail);go_roundw
    case rel=>exact⟨i,h,rfl,rfl,oM,oM,H,T,s⟩
    case measure=>exact sZ
  ·obtain rfl:i=j:=oM;have y:Below w.heap.size w wr:=by have:=HB.out;exact this.trans (hb.mono this.size)
   by_cases V:i<n
   ·have Z:i<R.length:=oH g.out;have J:((i:Int)<(n:Int)):=oM;obtain⟨q,o,rfl,d⟩:=zX.get (SlR.below H1.out hb) (i:=i) oM Z;obtain⟨x,hx⟩:=eX (R[i])
    rw[hx]at d;have c1:=Hp.out x wr.drew y.drew;have hc:=X (first++(#[.agg (idC x),.agg (idC t)]++r));obtain⟨C,hC⟩:=eX (c x)
    rw[hC]at c1;have HC:=dH (show c R[i]=C by rw[hx];exact hC);clear hx hC;go_upto_region 8 with fail
    refine lX wr ?_;intro B hS;have b1:=zS d;have b2:=zS m;refine lZ ?_;refine lC (c1) ?_;clear hS;intro w' hS;refine lZ ?_;refine zD ?_;intro hS;have s:Below w.heap.size w w':=y.trans (Below.mono (show Below wr.heap.size wr w' from hS) y.size);clear B hS b1 b2 c1 hc d m hb y;(go_wp2_with fail);go_ret2;exact⟨i,decide (C=0),rfl,I,H.out,L.out,by rw[decide_eq_true_iff];exact⟨λh=>⟨oH g.out,by rw[HC.out];exact h⟩,fun ⟨_,h⟩=>by rw[HC.out]at h;exact h⟩,s⟩
   ·have J:¬((i:Int)<(n:Int)):=oM;go_upto_region 8 with fail
    refine lX wr ?_;intro B hS;refine lQ ?_;intro K hK;refine hK _ _ ?_;clear hK K;refine lZ ?_;refine zD ?_;intro hS;have s:Below w.heap.size w wr.drew:=y.drew;have a0:=dH V;clear B hS m hb y V;(go_wp2_with fail);go_ret2;exact⟨i,.inl ⟨rfl,I,H.out,L.out,λh=>absurd h (by have:=g.out;have:=a0.out;omega),s⟩⟩
theorem set_app{Q T:List zB}{i:Nat}(x:zB)(hi:i<Q.length):(Q++T).set i x=Q.set i x++T:=set_append_left _ _ hi
theorem V1{Q:List zB}{i:Nat}(x:zB)(hi:i<Q.length):(Q.set i x ++ [x]).take (i+1)=Q.take i ++ [x]:=by
 rw[take_append_of_le_length sO,take_succ_eq_append_getElem (by simpa using hi),take_set_of_le lR]
 simp
theorem JC(f:FuncId)(first D:Array Value)(b0:yy f)(p:zB->Bool)(w:World)(A:Option Addr)(hp:Tells f first D (blk A) w p)(B n cap:Nat)(R:List zB)(h:Own w B 31 32 A n cap (R.map idC))(hn:n<=1000000) :
  Calls prog 44 #[.slice A n cap,.func (.func f) first D] w λe w'=>e=.returned (.slice A (R.filter λx=>!p x).length cap)/\Own w' B 31 32 A (R.filter λx=>!p x).length cap ((R.filter λx=>!p x).map idC)/\z9 (blk A) w w':=by
 have J:R.length=n:=by simpa using h.len
 have c1:=KW f first D b0 (blk A) w p hp A n cap R w (z9.refl _ _) h.slr hn;have Hp:=dH hp;have Hh:=dH h;obtain⟨Z,hZ⟩:∃Z,(R.filter λx=>!p x)=Z:=⟨_,rfl⟩
 rw[hZ];have HZ:=dH hZ;have Hl:=dH J;clear hp hZ;go_enter func44,ntmps44
 (go_wp2_with fail);refine c1.mono ?_;rintro e w1 ⟨j0,rfl,hj,G⟩;clear c1;rcases hj with⟨rfl,hall⟩ | ⟨i0,rfl,hi0,hpre,hat⟩
 ·have e:Z=R:=by rw[<-HZ.out];exact filter_eq_self.2 λx hx=>by rw[hall x hx];rfl
  have HF:=dH (And.intro (Hh.out.below G) (z9.of_below G));have He:=dH e;clear hall e h G J;(go_wp2_with fail);go_ret;exact⟨by rw[He.out,Hl.out];rfl,by rw[He.out,Hl.out];exact HF.out.1,HF.out.2.mono sI⟩
 ·obtain⟨g,rfl⟩:∃g,A=some ⟨g,0,none⟩:=by
   rcases h.addr with e | e
   ·obtain⟨⟨_,h2⟩,_,_⟩:=h;rcases h2 with⟨_,h0⟩ | ⟨g,c,cur,hv,_⟩
    ·omega
    ·rw[e]at hv;cases hv
   ·exact e
  have b1:(R.take (i0+1)).take i0=(R.take (i0+1)).filter λx=>!p x:=by
   have M:i0<R.length:=oM;rw[take_take,Nat.min_eq_left oM,take_succ_eq_append_getElem M,filter_append];have e1:((R.take i0).filter λx=>!p x)=R.take i0:=filter_eq_self.2 λx hx=>(by rw[hpre x hx];rfl);have e2:([R[i0]].filter λx=>!p x) = []:=by rw[filter_cons,hat M];rfl
   rw[e1,e2,append_nil]
  have c5:=dH b1;have a7:z9 [g] w w1:=(z9.of_below G).mono sI;have E:=Hh.out.below G;have c9:((i0:Int) == -1)=false:=by rw[beq_eq_false_iff_ne];omega
  have b6:IntKind.i64.wrap ((i0:Int)+1)=(i0:Int)+1:=IntWalk.i64_in _ oM;have HO:=dH E;have c6:=dH a7;clear b1 hpre hat h G E a7;(go_wp2_with fail);go_loopw [5,6] (λiv jv wr=>∃(i j:Nat) (Q:List zB),iv=.int .i64 i/\jv=.int .i64 j/\Q.length=j/\i<j/\j<=n/\Hid (Q.take i=(R.take j).filter λx=>!p x)/\Own wr B 31 32 (some ⟨g,0,none⟩) n cap ((Q++R.drop j).map idC)/\z9 [g] w wr) (λ_ jv _=>n-(intOf jv).toNat)
  case atStart =>
   have M:i0<R.length:=oM;exact⟨i0,i0+1,R.take (i0+1),rfl,by go_num,by rw[length_take];omega,oM,oM,c5,by rw[take_append_drop];exact HO.out,c6.out⟩
  case round =>
   obtain⟨i,j,Q,rfl,rfl,a1,d2,d1,hQ,d,hk⟩:=hrel;have b6:IntKind.i64.wrap ((i:Int)+1)=(i:Int)+1:=IntWalk.i64_in _ oM;have c7:IntKind.i64.wrap ((j:Int)+1)=(j:Int)+1:=IntWalk.i64_in _ oM;by_cases M:j<n
   ·have a8:j<R.length:=oM;obtain⟨x,hx⟩:=eX (R[j])
    have L:R.drop j=x :: R.drop (j+1):=by rw[<-hx];exact drop_eq_getElem_cons a8
    have H:R.take (j+1)=R.take j ++ [x]:=by rw[<-hx];exact take_succ_eq_append_getElem a8
    have b8:zA wr g (j*32) 32=some (idC x):=by
     obtain⟨g',o',e,hr⟩:=d.slr.at_ (i:=j) oM;injection e with e;injection e with e1 e2
     subst e1;subst e2;rw[Nat.zero_add]at hr;rw[hr,getElem_map];congr 2
     rw[getElem_append_right oM];simp[a1,hx]
    have O:Below wr.heap.size wr (wr.alloc (.cells (idC x) 31)):=bA;have I:zA (wr.alloc (.cells (idC x) 31)) wr.heap.size 0 32=some (idC x):=by simp[go_sem]
    have b9:=(d.at_base (x:=g) (by simp[blk])).2;obtain⟨W1,a0⟩:=eR (wr.alloc (.cells (idC x) 31))
    obtain⟨gb,Y⟩:=eX wr.heap.size
    rw[<-a0]at O I;have F:z9 [g] w W1:=z9.trans hk ((z9.of_below O).mono sI) (λy hy=>.inl hy);have r:=d.below O;have c2:=Hp.out x W1 F;have hc:=b0 (first.push (.agg (idC x))++D);obtain⟨bb,U⟩:=eX (p x)
    rw[U]at c2;have c4:=dH a0;have d3:=dH Y;have b4:=dH L;have b2:=dH H;have b5:=dH U;rw[Y]at I b9;clear a0 hx L H U d hk O;go_upto_region 8 with fail
    rw[<-c4.out];clear Y;(go_wp2_with fail);refine c2.mono ?_;rintro e w2 ⟨rfl,N⟩;have a6:z9 [g] w w2:=z9.trans F ((z9.of_below N).mono sI) (λy hy=>.inl hy);have k:=r.below N;have V:zA w2 gb 0 32=some (idC x):=((z9.of_below N).row (zE I) sI _ _).trans I;clear c2 hc N r F I;cases bb with
    | true =>
     have HR:=dH (show Own w2 B 31 32 (some ⟨g,0,none⟩) n cap ((Q ++ [x]++R.drop (j+1)).map idC) by rw[append_assoc,singleton_append,<-b4.out];exact k);have a2:=dH (show(Q ++ [x]).take i=(R.take (j+1)).filter λx=>!p x by
      rw[take_append_of_le_length oM,hQ.out,b2.out,filter_append];simp[b5.out])
     clear k V;(go_wp2_with fail);go_roundw
     case rel=>exact⟨i,j+1,Q ++ [x],rfl,by go_num,by simp[a1],oM,oM,a2,HR.out,a6⟩
     case measure=>exact sZ
    | false =>
     obtain⟨w3,c8,t,a5⟩:=KC yP k (i:=i) oM (xQ x) (yN x);have HR:=dH (show Own w3 B 31 32 (some ⟨g,0,none⟩) n cap (((Q.set i x ++ [x])++R.drop (j+1)).map idC) by
      rw[<-map_set,set_app x oM]at t;rw[append_assoc,singleton_append,<-b4.out];exact t)
     have a2:=dH (show(Q.set i x ++ [x]).take (i+1)=(R.take (j+1)).filter λx=>!p x by
      rw[V1 x oM,hQ.out,b2.out,filter_append];simp[b5.out])
     have a3:z9 [g] w w3:=z9.trans a6 a5 (λy hy=>.inl hy);have c3:=dH a3;clear k t a5 a3;(go_wp2_with fail);go_roundw
     case rel=>exact⟨i+1,j+1,Q.set i x ++ [x],by go_num,by go_num,by simp[a1],oM,oM,a2,HR.out,c3.out⟩
     case measure=>exact sZ
   ·have X:j=n:=oM;have L:R.drop j = []:=drop_of_length_le oM;have H:R.take j=R:=take_of_length_le oM;have T:=hQ.out;rw[H,HZ.out]at T;rw[L,append_nil]at d;obtain⟨A2,c2,b7,w8,c0,s,a4⟩:=KD yP (z:=.agg (idC id0)) kR (yN id0) d (m:=i) oM 0;rw[<-map_take,T]at s;have d0:=λw0=>SlW.lo (P:=prog) yP d.slw (m:=i) oM w0;have a9:Z.length=i:=by rw[<-T,length_take];omega
    have HF:=dH (And.intro s (z9.trans hk a4 (λy hy=>.inl hy)));have b3:=dH a9;clear L H T d s a4 a9 hk X;(go_wp2_with fail);go_ret;exact⟨by rw[b3.out];rfl,by rw[b3.out];exact HF.out.1,by simpa[blk]using HF.out.2⟩
structure ZP(w:World)(b g:Nat)(h:HdV)(A:Option Addr)(c:Nat):Prop where
 box:w.cell? ⟨b,0,none⟩=some (.pointer (some ⟨g,0,none⟩))
 row:zA w g 0 38=some (hdC (hdO h A c))
 ids:zX w A h.ps.length h.ps
 len:h.ps.length<=1000000
 tps:h.tp.size<=9223372036854775807
theorem ZP.below{w w':World}{b g:Nat}{h:HdV}{A:Option Addr}{c:Nat}(x:ZP w b g h A c)(hb:Below w.heap.size w w'):ZP w' b g h A c :=
 ⟨(hb.cell (p:=⟨b,0,none⟩) (block_lt_of_cell? w _ x.box)).trans x.box,(zH (hb.block g (zE x.row)) _ _).trans x.row,SlR.below x.ids hb,x.len,x.tps⟩
theorem hr_3(w:World)(b g:Nat)(h:HdV)(A:Option Addr)(c:Nat)(hd:ZP w b g h A c) :
  Calls prog 225 #[.pointer (some ⟨b,0,none⟩)] w λe w'=>e=.returned (.bool (decide (h.ht<1\/1073741824<h.ht)))/\Below w.heap.size w w':=by
 have xb:=hd.box;have x1:=zC hd.row (j:=1) oM;simp only[t8,mV,mU,pM,pL,pK,Nat.zero_add,hdO]at x1;clear hd;by_cases a1:h.ht<1
 ·have hb:=dH (decide_eq_true (Or.inl a1:h.ht<1\/1073741824<h.ht));go_enter func225,ntmps225
  (go_wp2_with fail);go_ret;exact⟨yB (by first | rfl | (rw[hb.out]) | (simp;omega)),Below.refl _ _⟩
 ·by_cases a2:1073741824<h.ht
  ·have hb:=dH (decide_eq_true (Or.inr a2:h.ht<1\/1073741824<h.ht));go_enter func225,ntmps225
   (go_wp2_with fail);go_ret;exact⟨yB (by first | rfl | (rw[hb.out]) | (simp;omega)),Below.refl _ _⟩
  ·have hb:=dH (decide_eq_false (λh=>h.elim a1 a2:¬(h.ht<1\/1073741824<h.ht)));go_enter func225,ntmps225
   (go_wp2_with fail);go_ret;exact⟨yB (by first | rfl | (rw[hb.out]) | (simp;omega)),Below.refl _ _⟩
theorem hr_6(w:World)(b g:Nat)(h:HdV)(A:Option Addr)(c:Nat)(hd:ZP w b g h A c) :
  Calls prog 228 #[.pointer (some ⟨b,0,none⟩)] w λe w'=>e=.returned (.bool (decide (h.au<0\/255<h.au)))/\Below w.heap.size w w':=by
 have xb:=hd.box;have x1:=zC hd.row (j:=3) oM;simp only[t8,mV,mU,pM,pL,pK,Nat.zero_add,hdO]at x1;clear hd;by_cases a1:h.au<0
 ·have hb:=dH (decide_eq_true (Or.inl a1:h.au<0\/255<h.au));go_enter func228,ntmps228
  (go_wp2_with fail);go_ret;exact⟨yB (by first | rfl | (rw[hb.out]) | (simp;omega)),Below.refl _ _⟩
 ·by_cases a2:255<h.au
  ·have hb:=dH (decide_eq_true (Or.inr a2:h.au<0\/255<h.au));go_enter func228,ntmps228
   (go_wp2_with fail);go_ret;exact⟨yB (by first | rfl | (rw[hb.out]) | (simp;omega)),Below.refl _ _⟩
  ·have hb:=dH (decide_eq_false (λh=>h.elim a1 a2:¬(h.au<0\/255<h.au)));go_enter func228,ntmps228
   (go_wp2_with fail);go_ret;exact⟨yB (by first | rfl | (rw[hb.out]) | (simp;omega)),Below.refl _ _⟩
theorem hr_7(w:World)(b g:Nat)(h:HdV)(A:Option Addr)(c:Nat)(hd:ZP w b g h A c) :
  Calls prog 229 #[.pointer (some ⟨b,0,none⟩)] w λe w'=>e=.returned (.bool (decide (h.sq<1\/1073741824<h.sq)))/\Below w.heap.size w w':=by
 have xb:=hd.box;have x1:=zC hd.row (j:=4) oM;simp only[t8,mV,mU,pM,pL,pK,Nat.zero_add,hdO]at x1;clear hd;by_cases a1:h.sq<1
 ·have hb:=dH (decide_eq_true (Or.inl a1:h.sq<1\/1073741824<h.sq));go_enter func229,ntmps229
  (go_wp2_with fail);go_ret;exact⟨yB (by first | rfl | (rw[hb.out]) | (simp;omega)),Below.refl _ _⟩
 ·by_cases a2:1073741824<h.sq
  ·have hb:=dH (decide_eq_true (Or.inr a2:h.sq<1\/1073741824<h.sq));go_enter func229,ntmps229
   (go_wp2_with fail);go_ret;exact⟨yB (by first | rfl | (rw[hb.out]) | (simp;omega)),Below.refl _ _⟩
  ·have hb:=dH (decide_eq_false (λh=>h.elim a1 a2:¬(h.sq<1\/1073741824<h.sq)));go_enter func229,ntmps229
   (go_wp2_with fail);go_ret;exact⟨yB (by first | rfl | (rw[hb.out]) | (simp;omega)),Below.refl _ _⟩
theorem hr_8(w:World)(b g:Nat)(h:HdV)(A:Option Addr)(c:Nat)(hd:ZP w b g h A c) :
  Calls prog 230 #[.pointer (some ⟨b,0,none⟩)] w λe w'=>e=.returned (.bool (decide (h.sz<1\/512<h.sz)))/\Below w.heap.size w w':=by
 have xb:=hd.box;have x1:=zC hd.row (j:=5) oM;simp only[t8,mV,mU,pM,pL,pK,Nat.zero_add,hdO]at x1;clear hd;by_cases a1:h.sz<1
 ·have hb:=dH (decide_eq_true (Or.inl a1:h.sz<1\/512<h.sz));go_enter func230,ntmps230
  (go_wp2_with fail);go_ret;exact⟨yB (by first | rfl | (rw[hb.out]) | (simp;omega)),Below.refl _ _⟩
 ·by_cases a2:512<h.sz
  ·have hb:=dH (decide_eq_true (Or.inr a2:h.sz<1\/512<h.sz));go_enter func230,ntmps230
   (go_wp2_with fail);go_ret;exact⟨yB (by first | rfl | (rw[hb.out]) | (simp;omega)),Below.refl _ _⟩
  ·have hb:=dH (decide_eq_false (λh=>h.elim a1 a2:¬(h.sz<1\/512<h.sz)));go_enter func230,ntmps230
   (go_wp2_with fail);go_ret;exact⟨yB (by first | rfl | (rw[hb.out]) | (simp;omega)),Below.refl _ _⟩
theorem hr_1(w:World)(b g:Nat)(h:HdV)(A:Option Addr)(c:Nat)(hd:ZP w b g h A c) :
  Calls prog 223 #[.pointer (some ⟨b,0,none⟩)] w λe w'=>e=.returned (.bool (decide (4<h.ps.length)))/\Below w.heap.size w w':=by
 have xb:=hd.box;have x0:=zC hd.row (j:=0) oM;simp only[t8,Nat.zero_add,hdO]at x0;have e:decide ((4:Int)<(h.ps.length:Int))=decide (4<h.ps.length):=by rw[decide_eq_decide];omega
 have E:=dH e;clear hd e;go_enter func223,ntmps223
 (go_wp2_with fail);go_ret;exact⟨yB (by first | exact E.out | (rw[<-E.out];rfl)),Below.refl _ _⟩
theorem hr_2(w:World)(b g:Nat)(h:HdV)(A:Option Addr)(c:Nat)(hd:ZP w b g h A c) :
  Calls prog 224 #[.pointer (some ⟨b,0,none⟩)] w λe w'=>e=.returned (.bool (!kI h.ps))/\Below w.heap.size w w':=by
 have xb:=hd.box;have x0:=zC hd.row (j:=0) oM;simp only[t8,Nat.zero_add,hdO]at x0;have ci:=aS w A h.ps.length c h.ps hd.ids (oH hd.len);obtain⟨r,hr⟩:=eX (kI h.ps)
 rw[hr]at ci |-;clear hd hr;go_enter func224,ntmps224
 (go_wp2_with fail);refine ci.mono ?_;rintro e w2 ⟨rfl,hb⟩;(go_wp2_with fail);go_ret;exact⟨rfl,hb⟩
theorem hr_4(w:World)(b g:Nat)(h:HdV)(A:Option Addr)(c:Nat)(hd:ZP w b g h A c) :
  Calls prog 226 #[.pointer (some ⟨b,0,none⟩)] w λe w'=>e=.returned (.bool ((h.ps.length==0) != (h.ht==1)))/\Below w.heap.size w w':=by
 have xb:=hd.box;have x0:=zC hd.row (j:=0) oM;have x1:=zC hd.row (j:=1) oM;simp only[t8,mV,Nat.zero_add,hdO]at x0 x1;have e:((h.ps.length:Int)==0)=(h.ps.length==0):=by rw[Bool.eq_iff_iff];simp
 obtain⟨p,hp⟩:∃p:Bool,(h.ps.length==0)=p:=⟨_,rfl⟩
 obtain⟨q,hq⟩:∃q:Bool,(h.ht==1)=q:=⟨_,rfl⟩
 rw[hp]at e |-;rw[hq];clear hd hp;go_enter func226,ntmps226
 go_upto_region 1 with fail
 refine lX w ?_;intro d hS;have c0:=zK xb;have c1:=zK x0;have c2:=zK x1;refine lZ ?_;refine zD ?_;intro hS;have f:Below w.heap.size w w.drew:=hS;clear hS d c0 c1 c2;(go_wp2_with fail);go_ret;exact⟨yB (by cases p <;> cases q <;> rfl),f⟩
theorem hr_5(w:World)(b g:Nat)(h:HdV)(A:Option Addr)(c:Nat)(hd:ZP w b g h A c) :
  Calls prog 227 #[.pointer (some ⟨b,0,none⟩)] w λe w'=>e=.returned (.bool (decide (j8 h.tp≠0)))/\Below w.heap.size w w':=by
 have xb:=hd.box;have x2:=zC hd.row (j:=2) oM;simp only[mU,Nat.zero_add,hdO]at x2;have ci:=rH h.tp w hd.tps;obtain⟨r,hr⟩:=eX (j8 h.tp)
 rw[hr]at ci |-;have e:(r != 0)=decide (r≠0):=by rw[Bool.eq_iff_iff];simp
 have E:=dH e;clear hd hr e;go_enter func227,ntmps227
 (go_wp2_with fail);refine ci.mono ?_;rintro e w2 ⟨rfl,hb⟩;(go_wp2_with fail);go_ret;exact⟨yB (by first | exact E.out | (rw[<-E.out];rfl)),hb⟩
def ZW(k:Nat):FuncId:=[223,224,225,226,227,228,229,230].getD k 0
def qp(k:Nat):Int:=[6,4,12,12,9,5,5,5].getD k 0
def ruleB(h:HdV)(k:Nat):Bool:=[decide (4<h.ps.length),!kI h.ps,decide (h.ht<1\/1073741824<h.ht),(h.ps.length==0) != (h.ht==1),decide (j8 h.tp≠0),decide (h.au<0\/255<h.au),decide (h.sq<1\/1073741824<h.sq),decide (h.sz<1\/512<h.sz)].getD k false
theorem rule_any(w:World)(b g:Nat)(h:HdV)(A:Option Addr)(c:Nat)(hd:ZP w b g h A c)(k:Nat)(hk:k<8) :
  Calls prog (ZW k) #[.pointer (some ⟨b,0,none⟩)] w λe w'=>e=.returned (.bool (ruleB h k))/\Below w.heap.size w w':=by
 have h8:k=0\/k=1\/k=2\/k=3\/k=4\/k=5\/k=6\/k=7:=oM;rcases h8 with rfl | rfl | rfl | rfl | rfl | rfl | rfl | rfl
 ·exact hr_1 w b g h A c hd
 ·exact hr_2 w b g h A c hd
 ·exact hr_3 w b g h A c hd
 ·exact hr_4 w b g h A c hd
 ·exact hr_5 w b g h A c hd
 ·exact hr_6 w b g h A c hd
 ·exact hr_7 w b g h A c hd
 ·exact hr_8 w b g h A c hd
def tS(h:HdV):Nat->Int
 | 0=>0
 | n+1=>if ruleB h (7-n)=true then qp (7-n)else tS h n
theorem kl(h:HdV):tS h 8=hdE h:=by
 have e:tS h 8=if decide (4<h.ps.length)=true then(6:Int)else if(!kI h.ps)=true then 4 else if decide (h.ht<1\/1073741824<h.ht)=true then 12
  else if((h.ps.length==0) != (h.ht==1))=true then 12 else if decide (j8 h.tp≠0)=true then 9 else if decide (h.au<0\/255<h.au)=true then 5
  else if decide (h.sq<1\/1073741824<h.sq)=true then 5 else if decide (h.sz<1\/512<h.sz)=true then 5 else 0:=rfl
 rw[e];unfold hdE;simp only[decide_eq_true_eq,Bool.not_eq_true']
theorem yi(h:HdV)(hk:k<8):tS h (8-k)=if ruleB h k=true then qp k else tS h (8-(k+1)):=by
 obtain⟨n,hn⟩:∃n,8-k=n+1:=⟨7-k,oM⟩
 rw[hn,tS,(oM:7-n=k),(oM:8-(k+1)=n)]
def lN(b k:Nat):Array Value:=#[.func (.func (ZW k)) #[] #[.pointer (some ⟨b,0,none⟩)],.int .i64 (qp k)]
def sK(b:Nat):Array Value:=#[.func (.func 223) #[] #[.pointer (some ⟨b,0,none⟩)],.int .i64 6,.func (.func 224) #[] #[.pointer (some ⟨b,0,none⟩)],.int .i64 4,.func (.func 225) #[] #[.pointer (some ⟨b,0,none⟩)],.int .i64 12,.func (.func 226) #[] #[.pointer (some ⟨b,0,none⟩)],.int .i64 12,.func (.func 227) #[] #[.pointer (some ⟨b,0,none⟩)],.int .i64 9,.func (.func 228) #[] #[.pointer (some ⟨b,0,none⟩)],.int .i64 5,.func (.func 229) #[] #[.pointer (some ⟨b,0,none⟩)],.int .i64 5,.func (.func 230) #[] #[.pointer (some ⟨b,0,none⟩)],.int .i64 5]
theorem rulesC_row(b k:Nat)(hk:k<8):(sK b).extract (k*2) (k*2+2)=lN b k:=by
 have h8:k=0\/k=1\/k=2\/k=3\/k=4\/k=5\/k=6\/k=7:=oM;rcases h8 with rfl | rfl | rfl | rfl | rfl | rfl | rfl | rfl <;> (simp[sK,lN,ZW,qp])
theorem rules_any(w:World)(q:Addr) :
  Calls prog 168 #[.pointer (some q)] w λe w'=>e=.returned (.slice (some ⟨w.heap.size+1,0,none⟩) 8 8)/\w'=(w.alloc (.cells #[.pointer (some q)] 249)).alloc (.cells (sK w.heap.size) 251):=by
 go_enter func168,ntmps168
 (go_wp2_with fail);go_ret;exact⟨rfl,by unfold sK;rfl⟩
theorem call_rule0(args:Array Value)(w:World):∀k,k<8->(callFunc (ZW k) args).run prog w=.ok (.enter (ZW k) args) w
 | 0,_=>by kernel_rfl
 | 1,_=>by kernel_rfl
 | 2,_=>by kernel_rfl
 | 3,_=>by kernel_rfl
 | 4,_=>by kernel_rfl
 | 5,_=>by kernel_rfl
 | 6,_=>by kernel_rfl
 | 7,_=>by kernel_rfl
 | k+8,h=>absurd h oM
theorem call_rule(k:Nat)(hk:k<8)(args:Array Value)(w:World):(callFunc (ZW k) args).run prog w=.ok (.enter (ZW k) args) w:=call_rule0 args w k hk
theorem infoRu:(prog.info? 251).map (·.size)=some 2:=kR
@[go_sem ↓] theorem loadRu_rw(a:Addr):loadVar 251 a=ldS 251 a:=rfl
@[go_sem ↓] theorem storeRu_rw(a:Addr)(v:Value):storeVar 251 a v=stS 251 a v:=rfl
@[go_sem] theorem loadRu_run(w:World)(g o:Nat):(ldS 251 ⟨g,o,none⟩).run prog w=match zA w g o 2 with | some cs=>.ok (.agg cs) w | none=>(loadVar 251 ⟨g,o,none⟩).run prog w :=
 jK underlying251 rfl infoRu w g o
@[go_sem] theorem storeRu_run(w:World)(g:Nat)(hg:g=w.heap.size)(z:Array Value)(hz:z.size=2)(b k:Nat)(e:TypeId):(stS 251 ⟨g,0,none⟩ (.agg (lN b k))).run prog (w.alloc (.cells z e))=.ok () (w.alloc (.cells (lN b k) e)) :=
 hg ▸ xZ infoRu w z (lN b k) hz rfl (by intro u hu;simp[lN]at hu;rcases hu with rfl | rfl <;> rfl)
theorem J3(w:World)(h:HdV)(A:Option Addr)(c:Nat)(hT:zX w A h.ps.length h.ps)(hn:h.ps.length<=1000000)(ht:h.tp.size<=9223372036854775807) :
  Calls prog 113 #[.agg (hdC (hdO h A c))] w λe w'=>e=.returned (.int .i64 (hdE h))/\Below w.heap.size w w':=by
 have hB:Below w.heap.size w (w.alloc (.cells (hdC (hdO h A c)) 52)):=bA;have hr:zA (w.alloc (.cells (hdC (hdO h A c)) 52)) w.heap.size 0 38=some (hdC (hdO h A c)):=by simp[go_sem]
 have R:=SlR.below hT hB;have cr:=rules_any (w.alloc (.cells (hdC (hdO h A c)) 52)) ⟨w.heap.size,0,none⟩;rw[(sI:(w.alloc (.cells (hdC (hdO h A c)) 52)).heap.size=w.heap.size+1)]at cr;go_enter func113,ntmps113
 go_wp2_with fail
 go_step3
 go_wp2_with fail
 go_step3
 (go_wp2_with fail);refine cr.mono ?_;rintro e w1 ⟨rfl,rfl⟩;clear cr;go_upto_region 3 with fail
 obtain⟨g,hg⟩:=eX w.heap.size
 have Hg:=dH hg;obtain⟨W,hW⟩:=eR (((w.alloc (.cells (hdC (hdO h A c)) 52)).alloc (.cells #[.pointer (some ⟨w.heap.size,0,none⟩)] 249)).alloc (.cells (sK (w.heap.size+1)) 251))
 have y:Below (w.alloc (.cells (hdC (hdO h A c)) 52)).heap.size (w.alloc (.cells (hdC (hdO h A c)) 52)) W:=by rw[hW];exact(bA).alloc sI _
 have d:∀k,k<8->zA W (g+1+1) (k*2) 2=some (lN (g+1) k):=λk hk=>by
  have hn:=heap_alloc_new ((w.alloc (.cells (hdC (hdO h A c)) 52)).alloc (.cells #[.pointer (some ⟨w.heap.size,0,none⟩)] 249)) (.cells (sK (w.heap.size+1)) 251);rw[(sI:((w.alloc (.cells (hdC (hdO h A c)) 52)).alloc (.cells #[.pointer (some ⟨w.heap.size,0,none⟩)] 249)).heap.size=w.heap.size+1+1),<-hW,hg]at hn;unfold zA;rw[hn];simp only;rw[if_pos (by show k*2+2<=16;omega),rulesC_row _ _ hk]
 have m:W.cell? ⟨g+1,0,none⟩=some (.pointer (some ⟨g,0,none⟩)):=by
  have hn:=heap_alloc_new (w.alloc (.cells (hdC (hdO h A c)) 52)) (.cells #[.pointer (some ⟨w.heap.size,0,none⟩)] 249);rw[(sI:(w.alloc (.cells (hdC (hdO h A c)) 52)).heap.size=w.heap.size+1)]at hn;have D:=(Below.heap_alloc ((w.alloc (.cells (hdC (hdO h A c)) 52)).alloc (.cells #[.pointer (some ⟨w.heap.size,0,none⟩)] 249)) (.cells (sK (w.heap.size+1)) 251) (w.heap.size+1) sI).trans hn;rw[<-hW]at D;rw[hg]at D;rw[cell_of_row W (g+1) 0 _ _ _ D];rfl
 have hd:ZP W (g+1) g h A c:=⟨m,by rw[hg]at hr;exact(zH (y.block g sO) _ _).trans hr,SlR.below R y,hn,ht⟩
 have T:Below g w W:=by rw[<-hg];exact hB.trans (y.mono sI)
 have N:g+1+1<W.heap.size:=zE (d 0 oM);rw[<-hW];simp only[hg];clear hW hr R hB y m hT hg;obtain⟨b,hb⟩:=eX (g+1)
 obtain⟨gr,M⟩:=eX (b+1)
 simp only[hb,M]at d hd N |-;have a1:g<b:=oM;have a2:b<gr:=oM;have HE:=dH (kl h);clear hb M;go_loopw [3,5,8] (λev _ n wr=>∃k:Nat,k<=8/\n=.int .i64 k/\ev=.int .i64 0/\Hid (hdE h=tS h (8-k))/\Below W.heap.size W wr) (λ_ _ n _=>8-(intOf n).toNat)
 case atStart=>exact⟨0,oM,rfl,rfl,(show _=_ from HE.out.symm),Below.refl _ _⟩
 case round =>
  obtain⟨k,hk,rfl,rfl,hE,j⟩:=hrel;by_cases s:k<8
  ·have r:=hE.out;rw[yi h s]at r;have X:=(zH (j.block gr N) (k*2) 2).trans (d k s);have F:Below wr.heap.size wr (wr.alloc (.cells (lN b k) 251)):=bA;have O:=(hd.below j).below F;have cr:=rule_any _ b g h A c O k s;obtain⟨B,hB⟩:=eX (ruleB h k)
   obtain⟨E,I⟩:=eX (qp k)
   have Z:(wr.alloc (.cells (lN b k) 251)).cell? ⟨wr.heap.size,0,none⟩=some (.func (.func (ZW k)) #[] #[.pointer (some ⟨b,0,none⟩)]):=by simp[go_sem,lN]
   have L:(wr.alloc (.cells (lN b k) 251)).cell? ⟨wr.heap.size,1,none⟩=some (.int .i64 E):=by simp[go_sem,lN,I]
   rw[hB]at cr r;rw[I]at r;have V:=dH r;have U:=call_rule k s #[.pointer (some ⟨b,0,none⟩)] (wr.alloc (.cells (lN b k) 251));clear r hB I hE;(go_wp2_with fail);refine cr.mono ?_;rintro e w5 ⟨rfl,H⟩;have Y:=(H.cell (p:=⟨wr.heap.size,1,none⟩) sI).trans L;have G:Below W.heap.size W w5:=yK (yK j F) H;clear cr U Z L X O F H j;cases B with
   | true =>
    have f:hdE h=E:=by rw[V.out,if_pos rfl]
    have J:=dH f;have t:Below g w w5:=T.trans (G.mono oM);have a0:=dH t;clear f t G;(go_wp2_with fail);rw[Exit.noGoto_ret];go_ret;exact⟨yA J.out.symm,by rw[Hg.out];exact a0.out⟩
   | false =>
    have f:Hid (hdE h=tS h (8-(k+1))):=(show _=_ by rw[V.out,if_neg sI])
    (go_wp2_with fail);go_roundw
    case rel=>exact⟨k+1,oM,by go_num,rfl,f,G⟩
    case measure=>exact sZ
  ·have f:hdE h=0:=by rw[hE.out,(oM:8-k=0)];rfl
   have J:=dH f;have t:Below g w wr:=T.trans (j.mono oM);clear f;(go_wp2_with fail);rw[Exit.noGoto_ret];go_ret;exact⟨yA J.out.symm,by rw[Hg.out];exact t⟩

theorem mk2(w:World):(Instr.makeSlice 128 (.int .i64 2) (.int .i64 2)).run prog w=.ok (.slice (some ⟨w.heap.size,0,none⟩) 2 2) (w.alloc (.cells #[.int .u8 0,.int .u8 0] 5)):=kR
theorem rnum2(n:Nat)(w:World)(h:n<65536) :
  Calls prog 55 #[.int .i64 n,.int .i64 2] w λe w'=>e=.returned (.tuple #[.string ⟨(beL 2 n).toArray⟩,.int .i64 0])/\Below w.heap.size w w':=by
 have k:decide ((n:Int)<0)=false:=sI;have j:decide (65536<=(n:Int))=false:=sO;have f:=mY w (beL 2 n) 2 rfl #[.int .u8 ((n:Int) / 256 % 256),.int .u8 ((n:Int) % 256)] (by
  have e1:(n:Int) / 256=((n / 256:Nat):Int):=sI;rw[e1,u8n,u8n,aA];simp[beL,yI])
 obtain⟨bs,d⟩:=eX (beL 2 n)
 rw[d]at f |-;clear d;have g:=mk2;go_enter func55,ntmps55
 (go_wp2_with fail);refine wp_loop_rounds 2 ?_;rw[rounds_succ];(go_wp2_with fail);rw[rounds_succ];(go_wp2_with fail);refine wp_loop_rounds 3 ?_;rw[rounds_succ];(go_wp2_with fail);rw[rounds_succ];(go_wp2_with fail);rw[rounds_succ];(go_wp2_with fail);go_ret2;exact⟨rfl,bA⟩
theorem hnum(n M:Nat)(w:World)(hM:M=1\/M=2\/M=4)(h:n<256 ^ M) :
  Calls prog 61 #[.int .i64 n,.int .i64 M] w λe w'=>e=.returned (.string ⟨(beL M n).toArray⟩)/\Below w.heap.size w w':=by
 have c:Calls prog 55 #[.int .i64 n,.int .i64 M] w λe w'=>e=.returned (.tuple #[.string ⟨(beL M n).toArray⟩,.int .i64 0])/\Below w.heap.size w w':=by
  rcases hM with rfl | rfl | rfl
  ·exact rnum1 n w h
  ·exact rnum2 n w h
  ·exact rnum4 n w h
 obtain⟨s,hs⟩:∃s:ByteArray,(⟨(beL M n).toArray⟩:ByteArray)=s:=⟨_,rfl⟩
 rw[hs]at c |-;clear hs hM h;go_enter func61,ntmps61
 (go_wp2_with fail);refine c.mono ?_;rintro e w1 ⟨rfl,hb⟩;(go_wp2_with fail);go_ret;exact⟨rfl,hb⟩
theorem conv_own(h:Own w B 5 1 A n cap (yJ bs))(hn:n=bs.length) :
  (convert 128 9 (.slice A n cap)).run prog w=.ok (.string ⟨bs.toArray⟩) w:=Q8 h hn
theorem hraw(d:zB)(w:World) :
  Calls prog 62 #[.agg (idC d)] w λe w'=>e=.returned (.string ⟨d.l.toArray⟩)/\Below w.heap.size w w':=by
 have r:Below w.heap.size w (w.alloc (.cells (idC d) 31)):=bA;have hid:=heap_alloc_new w (.cells (idC d) 31);go_enter func62,ntmps62
 go_upto_region 3 with fail
 obtain⟨g,hg⟩:=eX w.heap.size
 have Hg:=dH hg;obtain⟨W,hW⟩:=eR (w.alloc (.cells (idC d) 31))
 rw[<-hW]at r hid |-;rw[hg]at r hid |-;have O:g<W.heap.size:=(aG hid).1;clear hg hW;go_loopw [3,4] (λsv iv wr=>∃(k:Nat) (A:Option Addr) (cap:Nat),k<=32/\iv=.int .i64 k/\sv=.slice A k cap/\Own wr (g+1) 5 1 A k cap (yJ (d.l.take k))/\wr.heap[g]?=some (.cells (idC d) 31 (0,0))/\Below g w wr/\g+1<=wr.heap.size) (λ_ iv _=>32-(intOf iv).toNat)
 case atStart=>exact⟨0,none,0,oM,rfl,rfl,Own.nil _ _ _ _,hid,r,oM⟩
 case round =>
  clear hid r;obtain⟨k,A,cap,hk,rfl,rfl,ho,hid,hb,M⟩:=hrel;by_cases J:k<32
  ·have H:k<d.l.length:=by rw[d.h];exact J
   have x0:wr.cell? ⟨g,k,none⟩=some (.int .u8 ((d.l[k]).toNat:Int)):=by rw[cell_of_row wr g k _ _ _ hid];simp[idC,yI,H]
   have s:d.l.take (k+1)=d.l.take k ++ [d.l[k]]:=by rw[take_add_one,getElem?_eq_getElem H];rfl
   obtain⟨x,hx⟩:=eX (d.l[k])
   rw[hx]at x0 s;have q1:=JI wr ((x.toNat:Nat):Int);have B:zA (wr.alloc (.cells #[.int .u8 ((x.toNat:Nat):Int)] 5)) wr.heap.size 0 1=some (k9 x):=(by simp[go_sem,k9,yI])
   have E:=ho.kept (z9.alloc wr (.cells #[.int .u8 ((x.toNat:Nat):Int)] 5)) sI;have I:=dH s;clear hx s;go_wp2_with (at_builtin;refine xN qX rfl E rfl B (by simp[k9,yI];rfl) oM oM sO ?_;intro A6 y w6 D G f)
   have m:z9 (blk A) wr w6:=z9.trans ((z9.alloc wr _).mono (S':=blk A) sI) G iL;have L:Below g w w6:=hb.trans (m.below oM (λx hx=>oH ((ho.at_base hx).1)));have t:=(m.block g oM (λhx=>oH ((ho.at_base hx).1))).trans hid;have N:=m.size;have F:yJ (d.l.take k) ++ [k9 x]=yJ (d.l.take (k+1)):=by rw[I.out];simp[yJ]
   rw[F]at D;clear F G f E B q1 ho hb I m hid x0;(go_wp2_with fail);go_roundw
   case rel=>exact⟨k+1,A6,y,oM,by go_num,rfl,D,t,L,oM⟩
   case measure=>exact sZ
  ·have j:k=d.l.length:=by rw[d.h];omega
   have e:d.l.take k=d.l:=take_of_length_le oM;rw[e]at ho;have R:=conv_own ho j;clear e ho hid j;(go_wp2_with fail);go_ret;exact⟨rfl,by rw[Hg.out];exact hb⟩
theorem rids_any(R:List zB)(w:World)(A:Option Addr)(n c:Nat)(h:zX w A n R)(hn:n<=4) :
  Calls prog 59 #[.slice A n c] w λe w'=>∃s:ByteArray,e=.returned (.string s)/\s.data.toList=beL 1 n++R.flatMap (·.l)/\s.size<=200/\Below w.heap.size w w':=by
 have c1:=rnum1 n w oM;have B:=h.len;have f:=dH B;clear B;go_enter func59,ntmps59
 (go_wp2_with fail);refine c1.mono ?_;rintro e w1 ⟨rfl,O⟩;clear c1;obtain⟨s0,H⟩:∃s0:ByteArray,(⟨(beL 1 n).toArray⟩:ByteArray)=s0:=⟨_,rfl⟩
 have T:=dH H;rw[H];clear H;go_upto_region 3 with fail
 go_loopw [3,5,6] (λv i _ wr=>∃(k:Nat) (s:ByteArray),k<=n/\i=.int .i64 k/\v=.string s/\s.size=1+32*k/\Hid (s.data.toList=beL 1 n++(R.take k).flatMap (·.l))/\Below w.heap.size w wr) (λ_ i _ _=>n-(intOf i).toNat)
 case atStart=>exact⟨0,s0,oM,rfl,rfl,(by rw[<-T.out];rfl),(show s0.data.toList=_ by rw[<-T.out];simp),O⟩
 case round =>
  clear O;obtain⟨k,s,hk,rfl,rfl,m,hs,hb⟩:=hrel;by_cases y:k<n
  ·obtain⟨q,o,rfl,hr⟩:=zX.get (SlR.below h hb) y (by rw[f.out];exact y);have E:R.take (k+1)=R.take k ++ [R[k]'(by rw[f.out];exact y)]:=by rw[take_add_one,getElem?_eq_getElem (by rw[f.out];exact y)];rfl
   obtain⟨d,hd⟩:=eX (R[k]'(by rw[f.out];exact y))
   rw[hd]at hr E;have U:=dH E;clear hd E;obtain⟨W,hW⟩:∃W,W=wr:=⟨wr,rfl⟩
   go_upto_region 6 with fail
   go_loopw [3,6] (λv i wr=>∃(j:Nat) (t:ByteArray),j<=32/\i=.int .i64 j/\v=.string t/\t.size=1+32*k+j/\Hid (t.data.toList=beL 1 n++(R.take k).flatMap (·.l)++d.l.take j)/\Below W.heap.size W wr) (λ_ i _=>32-(intOf i).toNat)
   case atStart=>exact⟨0,s,oM,rfl,rfl,m,(show _=_ by rw[hs.out];simp),by rw[hW];exact Below.refl _ _⟩
   case round =>
    rw[<-hW]at hr hb;clear hW m hs;obtain⟨j,t,hj,rfl,rfl,m,hs,D⟩:=hrel;by_cases r:j<32
    ·have J:=(zH (D.block q (zE hr)) _ _).trans hr;have hc:=zC J (j:=j) r;have M:j<d.l.length:=by rw[d.h];exact r
     have N:(idC d)[j]?=some (.int .u8 (d.l[j]).toNat):=by simp[idC,yI,M]
     rw[N]at hc;have F:d.l.take (j+1)=d.l.take j ++ [d.l[j]]:=by rw[take_add_one,getElem?_eq_getElem M];rfl
     obtain⟨x,hx⟩:=eX (d.l[j])
     rw[hx]at hc F;have a0:=dH F;have a3:=bs1_u8 wr (x.toNat:Int);have a2:=mY wr [x] 1 rfl #[.int .u8 (x.toNat:Int)] rfl;have Y:Below W.heap.size W (wr.alloc (.cells #[.int .u8 (x.toNat:Int)] 5)):=D.alloc D.size _;clear N hx F J;(go_wp2_with fail);go_roundw
     case rel=>exact⟨j+1,_,oM,by go_num,rfl,(by rw[ByteArray.size_append,m];rfl),(show(t++⟨#[x]⟩).data.toList=_ by rw[a0.out,ByteArray.data_append,Array.toList_append,hs.out];simp),Y⟩
     case measure=>exact sZ
    ·have I:j=32:=oM;have e:d.l.take j=d.l:=take_of_length_le (by rw[d.h];omega);have g:=hs.out;rw[e]at g;have V:Hid (t.data.toList=beL 1 n++(R.take (k+1)).flatMap (·.l)):=(show _=_ by rw[g,U.out];simp)
     have Z:Below w.heap.size w wr:=yK hb D;have G:t.size=1+32*(k+1):=oM;clear hs g e m I hb D hr;(go_wp2_with fail);go_roundw
     case rel=>exact⟨k+1,t,oM,by go_num,rfl,G,V,Z⟩
     case measure=>exact sZ
  ·have X:k=n:=oM;have e:R.take k=R:=take_of_length_le (by rw[f.out];omega);have g:=hs.out;rw[e]at g;have Hs:=dH g;have L:s.size<=200:=oM;have a1:=dH L;clear hs g m e X L;(go_wp2_with fail);go_ret;exact⟨s,rfl,Hs.out,a1.out,hb⟩
theorem rW(x:UInt32)(n:Nat)(h0:0<n)(h1:n<32)(w:World) :
  Calls prog 167 #[.int .u32 (nU x),.int .i64 n] w λe w'=>e=.returned (.int .u32 (nU (tX x n)))/\w=w':=by
 have hs:(32:Int)-(n:Int)=((32-n:Nat):Int):=oM;have hl:nU x*2 ^ (32-n) % (4294967296:Int)=nU (x <<< UInt32.ofNat (32-n)):=by
  rw[<-xm _ _ oM,IntKind.wrap_u32']
 have hr:nU x / 2 ^ n=nU (x >>> UInt32.ofNat n):=XH x n h1;have d:x >>> UInt32.ofNat n ||| x <<< UInt32.ofNat (32-n)=tX x n:=rfl
 have f:=dH d;have l1:(n:Int)<=32:=oM;have l2:((32-n:Nat):Int)<=32:=oM;clear d h0 h1;go_enter func167,ntmps167
 (go_wp2_with fail);go_ret;exact⟨by rw[f.out];rfl,rfl⟩
theorem rword(w:World)(A:Option Addr)(cap n:Nat)(bs:List UInt8)(h:bE w A n bs)(m:Nat)(hm:m+3<n)(hn:n<=1000000) :
  Calls prog 166 #[.slice A n cap,.int .i64 m] w λe w'=>e=.returned (.int .u32 (nU (xe bs m)))/\Below w.heap.size w w':=by
 obtain⟨q,o,rfl,f⟩:=bE.get h (i:=0) oM;have l0:(m:Int)<n:=oM;have t1:((m:Int)+1).toNat=m+1:=oM;have t2:((m:Int)+2).toNat=m+2:=oM;have t3:((m:Int)+3).toNat=m+3:=oM;have w0:IntKind.i64.wrap (m:Int)=m:=by simp[IntKind.wrap,IntKind.bits,IntKind.signed];omega
 have w1:IntKind.i64.wrap ((m:Int)+1)=(m:Int)+1:=by simp[IntKind.wrap,IntKind.bits,IntKind.signed];omega
 have w2:IntKind.i64.wrap ((m:Int)+2)=(m:Int)+2:=by simp[IntKind.wrap,IntKind.bits,IntKind.signed];omega
 have w3:IntKind.i64.wrap ((m:Int)+3)=(m:Int)+3:=by simp[IntKind.wrap,IntKind.bits,IntKind.signed];omega
 have l1:0<=(m:Int)+1/\(m:Int)+1<n:=oM;have l2:0<=(m:Int)+2/\(m:Int)+2<n:=oM;have l3:0<=(m:Int)+3/\(m:Int)+3<n:=oM;have x0:=f m oM;have x1:=f (m+1) oM;have x2:=f (m+2) oM;have x3:=f (m+3) oM;have d:(bs.getD m 0).toUInt32 <<< 24 ||| (bs.getD (m+1) 0).toUInt32 <<< 16 ||| (bs.getD (m+2) 0).toUInt32 <<< 8 ||| (bs.getD (m+3) 0).toUInt32=xe bs m:=rfl
 obtain⟨y0,h0⟩:=eX (bs.getD m 0)
 obtain⟨y1,h1⟩:=eX (bs.getD (m+1) 0)
 obtain⟨y2,h2⟩:=eX (bs.getD (m+2) 0)
 obtain⟨y3,h3⟩:=eX (bs.getD (m+3) 0)
 rw[h0]at x0 d;rw[h1]at x1 d;rw[h2]at x2 d;rw[h3]at x3 d;have j:=dH d;clear d h0 h1 h2 h3 f h;go_enter func166,ntmps166
 go_upto_region 1 with fail
 refine lX w ?_;intro k hS;have b0:=zK x0;have b1:=zK x1;have b2:=zK x2;have b3:=zK x3;refine lZ ?_;refine zD ?_;intro hS;have g:Below w.heap.size w w.drew:=hS;(go_wp2_with fail);go_ret;exact⟨by rw[j.out];rfl,g⟩
def mvU(z:StU)(j:Nat):List UInt32:=z.l.take (j+1)++(z.l.drop j).take (7-j)
theorem mvU_len(z:StU)(hj:j<=7):(mvU z j).length=8:=by unfold mvU;simp[z.l_len];omega
theorem mvU_get(z:StU)(h1:j<7):(mvU z (j+1)).getD j 0=z.l.getD j 0:=by
 have h8:j=0\/j=1\/j=2\/j=3\/j=4\/j=5\/j=6:=oM;rcases h8 with rfl | rfl | rfl | rfl | rfl | rfl | rfl <;> rfl
theorem mvU_set(z:StU)(h1:j<7):(mvU z (j+1)).set (j+1) (z.l.getD j 0)=mvU z j:=by
 have h8:j=0\/j=1\/j=2\/j=3\/j=4\/j=5\/j=6:=oM;rcases h8 with rfl | rfl | rfl | rfl | rfl | rfl | rfl <;> rfl
theorem VH{s z:StU}(hk:k<8):z.l.getD k 0+s.l.getD k 0=(fY s z).l.getD k 0:=by rw[<-zip_get hk,UInt32.add_comm]
theorem lG{L:List UInt32}{g:Nat}(hb:w.heap[g]?=some (.cells (wsC L) T (0,0)))(hk:k<L.length):w.cell? ⟨g,k,none⟩=some (.int .u32 (nU (L.getD k 0))):=by
 rw[cell_of_row w g k _ _ _ hb,dY L hk]
theorem rblock(w:World)(s:StU)(A:Option Addr)(cap:Nat)(bs:List UInt8)(gk f5:Nat)(TK:TypeId)(h:bE w A 64 bs)(hk:w.heap[gk]?=some (.cells (wsC kU) TK (0,0))) :
  Calls prog 110 #[.agg (wsC s.l),.slice A 64 cap,.slice (some ⟨gk,0,none⟩) 64 f5] w λe w'=>e=.returned (.agg (wsC (rS s bs).l))/\Below w.heap.size w w':=by
 have g8:gk<w.heap.size:=(aG hk).1;have a1:Below w.heap.size w (((w.alloc (.cells (wsC s.l) 171)).alloc (.cells (wsC (zU 8)) 171)).alloc (.cells (wsC (zU 64)) 244)):=((bA).alloc sI _).alloc sO _;have O:=heap_alloc_new ((w.alloc (.cells (wsC s.l) 171)).alloc (.cells (wsC (zU 8)) 171)) (.cells (wsC (zU 64)) 244);rw[(sI:((w.alloc (.cells (wsC s.l) 171)).alloc (.cells (wsC (zU 8)) 171)).heap.size=w.heap.size+2)]at O;have a8:(((w.alloc (.cells (wsC s.l) 171)).alloc (.cells (wsC (zU 8)) 171)).alloc (.cells (wsC (zU 64)) 244)).heap[w.heap.size+1]?=some (.cells (wsC (zU 8)) 171 (0,0)):=by
  rw[Below.heap_alloc _ _ _ sI];have:=heap_alloc_new (w.alloc (.cells (wsC s.l) 171)) (.cells (wsC (zU 8)) 171);simpa using this
 have c8:(((w.alloc (.cells (wsC s.l) 171)).alloc (.cells (wsC (zU 8)) 171)).alloc (.cells (wsC (zU 64)) 244)).heap[w.heap.size]?=some (.cells (wsC s.l) 171 (0,0)):=by
  rw[Below.heap_alloc _ _ _ sO,Below.heap_alloc _ _ _ sI];exact heap_alloc_new _ _
 have hA:∀x∈blk A,x<w.heap.size:=by
  obtain⟨q,o,rfl,_⟩:=bE.get h (i:=0) oM;intro x hx;simp[blk]at hx;subst hx;exact SlR.old h rfl oM
 have h0:=h.below a1;have e0:=(a1.block gk g8).trans hk;clear h hk;go_enter func110,ntmps110
 go_upto_region 3 with fail
 obtain⟨g,hg⟩:=eX w.heap.size
 have Hg:=dH hg;obtain⟨W,hW⟩:=eR (((w.alloc (.cells (wsC s.l) 171)).alloc (.cells (wsC (zU 8)) 171)).alloc (.cells (wsC (zU 64)) 244))
 rw[<-hW]at a1 c8 a8 O h0 e0 |-;rw[hg]at a1 c8 a8 O g8 hA |-;obtain⟨g2,a0⟩:=eX (g+1)
 obtain⟨g3,h5⟩:=eX (g2+1)
 rw[(oM:g+2=g3)]at O;rw[a0]at a8;simp only[a0,h5];have j5:g<g2:=oM;have j4:g2<g3:=oM;have l5:g3<W.heap.size:=(aG O).1;clear hg hW a0 h5;go_loopw [8,9,10] (λn _ _ wr=>∃k:Nat,k<=64/\n=.int .i64 k/\wr.heap[g3]?=some (.cells (wsC (wsU bs k)) 244 (0,0))/\z9 [g3] W wr) (λn _ _ _=>64-(intOf n).toNat)
 case atStart=>exact⟨0,zL,rfl,O,z9.refl _ _⟩
 case round =>
  obtain⟨k,hk,rfl,hc,d⟩:=hrel;by_cases E:k<64
  ·by_cases h9:k<16
   ·obtain⟨m,hm⟩:∃m:Nat,4*k=m:=⟨_,rfl⟩
    have em:4*(k:Int)=(m:Int):=oM;have e2:=rword wr A cap 64 bs (h0.kept d (λx hx=>oS (hA x hx))) m oM oM;have H:xe bs m=gA bs (yV bs k) k:=by unfold gA;rw[if_pos h9,hm]
    rw[H]at e2;clear H hm;(go_wp2_with fail);refine e2.mono ?_;rintro e w2 ⟨rfl,f2⟩;have j2:g3<wr.heap.size:=(aG hc).1;have t:=(f2.block g3 j2).trans hc;have x9:w2.cell? ⟨g3,k,none⟩=some (.int .u32 (nU ((wsU bs k).getD k 0))):=lG t (by rw[gC _ hk];exact E);have f9:w2.frozen? ⟨g3,k,none⟩=false:=by simp[frozen?,t]
    have e6:=zF t k (.int .u32 (nU (gA bs (yV bs k) k)));rw[dX,YV bs E]at e6;have Y:z9 [g3] W (w2.setCell ⟨g3,k,none⟩ (.int .u32 (nU (gA bs (yV bs k) k)))):=z9.trans (z9.trans d (z9.of_below f2) sI) (z9.setCell w2 ⟨g3,k,none⟩ _) sI;have k4:=dH e6;clear e2 f2 t e6 d hc em;(go_wp2_with fail);go_roundw
    case rel=>exact⟨k+1,oM,by go_num,k4.out,Y⟩
    case measure=>exact sZ
   ·have gt:∀j:Nat,j<k->wr.cell? ⟨g3,j,none⟩=some (.int .u32 (nU ((yV bs k).getD j 0))):=λj hj=>by
     rw[lG hc (by rw[gC _ hk];omega),wsU_get bs hj]
    obtain⟨a,ha⟩:∃a:Nat,k=a+16:=⟨k-16,oM⟩
    obtain⟨a5,j7⟩:∃a5:Nat,a+1=a5:=⟨_,rfl⟩
    obtain⟨a2,j8⟩:∃a2:Nat,a+14=a2:=⟨_,rfl⟩
    obtain⟨a7,j6⟩:∃a7:Nat,a+9=a7:=⟨_,rfl⟩
    have l0:(k:Int)-15=(a5:Int):=oM;have k8:IntKind.i64.wrap (a5:Int)=(a5:Int):=by simp[IntKind.wrap,IntKind.bits,IntKind.signed];omega
    have l3:(a5:Int)<64:=oM;have f8:=gt a5 oM;have s2:(k:Int)-2=(a2:Int):=oM;have w2:IntKind.i64.wrap (a2:Int)=(a2:Int):=by simp[IntKind.wrap,IntKind.bits,IntKind.signed];omega
    have l2:(a2:Int)<64:=oM;have x2:=gt a2 oM;have k9:(k:Int)-16=(a:Int):=oM;have w16:IntKind.i64.wrap (a:Int)=(a:Int):=by simp[IntKind.wrap,IntKind.bits,IntKind.signed];omega
    have l1:(a:Int)<64:=oM;have d1:=gt a oM;have s7:(k:Int)-7=(a7:Int):=oM;have w7:IntKind.i64.wrap (a7:Int)=(a7:Int):=by simp[IntKind.wrap,IntKind.bits,IntKind.signed];omega
    have l7:(a7:Int)<64:=oM;have x7:=gt a7 oM;have H:(yV bs k).getD a 0+sg0 ((yV bs k).getD a5 0)+(yV bs k).getD a7 0+sg1 ((yV bs k).getD a2 0)=gA bs (yV bs k) k:=by
     unfold gA;rw[if_neg h9,(oM:k-16=a),(oM:k-15=a5),(oM:k-7=a7),(oM:k-2=a2)]
    obtain⟨f7,i0⟩:=eX ((yV bs k).getD a5 0)
    obtain⟨z2,h2⟩:=eX ((yV bs k).getD a2 0)
    obtain⟨k7,h3⟩:=eX ((yV bs k).getD a 0)
    obtain⟨z7,h4⟩:=eX ((yV bs k).getD a7 0)
    rw[i0]at f8 H;rw[h2]at x2 H;rw[h3]at d1 H;rw[h4]at x7 H;unfold sg0 sg1 at H;have i7:=dH H;have c1:=λw=>rW f7 7 oM oM w;have c2:=λw=>rW f7 18 oM oM w;have c3:=λw=>rW z2 17 oM oM w;have c4:=λw=>rW z2 19 oM oM w;clear gt H i0 h2 h3 h4 ha j7 j8 j6;go_upto_region 9 with fail
    have d6:g3∉([]:List Nat):=sI;refine kF ([]:List Nat) wr ?_;intro N hS;have b0:=zG d1 d6;have b1:=zG x7 d6;have F:wr.drew.heap[g3]?=some (.cells (wsC (wsU bs k)) 244 (0,0)):=hc;have x9:wr.drew.cell? ⟨g3,k,none⟩=some (.int .u32 (nU ((wsU bs k).getD k 0))):=lG F (by rw[gC _ hk];exact E);have f9:wr.drew.frozen? ⟨g3,k,none⟩=false:=by simp[frozen?,F]
    refine lQ ?_;intro K hK;refine(c1 _).mono ?_;rintro e w' ⟨rfl,rfl⟩;refine⟨_,rfl,hS,hK _ _ ?_⟩;clear hK K;refine lQ ?_;intro K hK;refine(c2 _).mono ?_;rintro e w' ⟨rfl,rfl⟩;refine⟨_,rfl,hS,hK _ _ ?_⟩;clear hK K;refine lQ ?_;intro K hK;refine(c3 _).mono ?_;rintro e w' ⟨rfl,rfl⟩;refine⟨_,rfl,hS,hK _ _ ?_⟩;clear hK K;refine lQ ?_;intro K hK;refine(c4 _).mono ?_;rintro e w' ⟨rfl,rfl⟩;refine⟨_,rfl,hS,hK _ _ ?_⟩;clear hK K;refine lZ ?_;refine j3 ?_ ?_;(focus(simp only[yO];done));intro K hK;go_simp;rw[i7.out];refine hK _ _ ?_;clear hK K;have t:=zF F k (.int .u32 (nU (gA bs (yV bs k) k)));rw[dX,YV bs E]at t;have Y:z9 [g3] W (wr.drew.setCell ⟨g3,k,none⟩ (.int .u32 (nU (gA bs (yV bs k) k)))):=z9.trans (z9.trans d (z9.drew wr) sI) (z9.setCell wr.drew ⟨g3,k,none⟩ _) sI;clear N hS d6 x9 f9 hc F d i7 b0 b1 d1 x7 f8 x2 c1 c2 c3 c4;(go_wp2_with fail);go_roundw
    case rel=>exact⟨k+1,oM,by go_num,t,Y⟩
    case measure=>exact sZ
  ·have G:k=64:=oM;rw[G,wsU_all]at hc;have d3:=qP bs 64;obtain⟨ws,J⟩:=eX (yV bs 64)
   have g6:rS s bs=fY s (lO ws s 64):=by rw[<-J];rfl
   rw[J]at hc d3;have j9:=dH d3;have k1:=dH g6;have r:=(d.block g oM sO).trans c8;have D:=(d.block g2 oM sO).trans a8;have b6:=(d.block gk oM sO).trans e0;have Z:Below g w wr:=a1.trans (d.below (B:=g) oM sO);have b9:g3<wr.heap.size:=oH d.size;have a4:zA wr g 0 8=some (wsC s.l):=by unfold zA;rw[r];simp[s.l_len]
   have a6:=heap_alloc_new wr (.cells (wsC s.l) 171);have j0:=nV wr wr.heap.size rfl (wsC (zU 8)) (by simp[gB]) s.l s.l_len 171;have e9:Below g w (wr.alloc (.cells (wsC s.l) 171)):=Z.alloc (by have:=Z.size;have:=Hg.out;omega) _;have ha:=z9.alloc wr (.cells (wsC s.l) 171);have X:=(ha.block g oM sI).trans r;have R:=(ha.block g2 oM sI).trans D;have d7:=(ha.block gk oM sI).trans b6;have e3:=(ha.block g3 b9 sI).trans hc;clear J g6 d3 G d c8 a8 O e0 h0 a1 r D b6 Z hc ha;go_upto_region 11 with fail
   obtain⟨gv,h1⟩:=eX wr.heap.size
   obtain⟨V,hV⟩:=eR (wr.alloc (.cells (wsC s.l) 171))
   rw[<-hV]at a6 e9 X R d7 e3 |-;rw[h1]at a6 b9 |-;have j1:gv<V.heap.size:=(aG a6).1;clear j0 a4 hV h1;(go_wp2_with fail);go_loopw [12,13,14,15,16,17] (λn _ _ _ _ _ wr=>∃(k:Nat) (z:StU),k<=64/\n=.int .i64 k/\Hid (lO ws s k=z)/\wr.heap[gv]?=some (.cells (wsC z.l) 171 (0,0))/\z9 [gv] V wr) (λn _ _ _ _ _ _=>64-(intOf n).toNat)
   case atStart=>exact⟨0,s,oM,rfl,(show _=_ from rfl),a6,z9.refl _ _⟩
   case round =>
    clear a6;obtain⟨k,z,hk,rfl,hz,hc,d⟩:=hrel;by_cases E:k<64
    ·have c7:lO ws s (k+1)=rndU z (kU.getD k 0) (ws.getD k 0):=by rw[lO,hz.out]
     obtain⟨za,zb,zc,zd,ze,zf,zg,zh⟩:=z;have ys:=λj (hj:j<8)=>lG hc (k:=j) hj;have y0:=ys 0 oM;have y1:=ys 1 oM;have y2:=ys 2 oM;have y4:=ys 4 oM;have y5:=ys 5 oM;have y6:=ys 6 oM;have y7:=ys 7 oM;simp only[StU.l,getD_cons_zero,getD_cons_succ]at y0 y1 y2 y4 y5 y6 y7;have b6:=(d.block gk oM sO).trans d7;have h6:=(d.block g3 oM sO).trans e3;have yk:wr.cell? ⟨gk,k,none⟩=some (.int .u32 (nU (kU.getD k 0))):=lG b6 E;have yw:wr.cell? ⟨g3,k,none⟩=some (.int .u32 (nU (ws.getD k 0))):=lG h6 (by rw[j9.out];exact E);obtain⟨kv,a9⟩:=eX (kU.getD k 0)
     obtain⟨wv,g1⟩:=eX (ws.getD k 0)
     rw[a9]at yk c7;rw[g1]at yw c7;have i6:=dH c7;have c6:=λw=>rW ze 6 oM oM w;have i4:=λw=>rW ze 11 oM oM w;have i1:=λw=>rW ze 25 oM oM w;have c2:=λw=>rW za 2 oM oM w;have i3:=λw=>rW za 13 oM oM w;have i2:=λw=>rW za 22 oM oM w;clear c7 a9 g1 b6 h6 ys;go_upto_region 16 with fail
     have q1:gv∉([]:List Nat):=sI;have q2:gk∉([]:List Nat):=sI;have q3:g3∉([]:List Nat):=sI;refine kX ([]:List Nat) wr ?_;intro N hS;have b1:=zG y7 q1;have b2:=zG y5 q1;have b3:=zG y6 q1;have b4:=zG yk q2;have b5:=zG yw q3;refine lQ ?_;intro K hK;refine(c6 _).mono ?_;rintro e w' ⟨rfl,rfl⟩;refine⟨_,rfl,hS,hK _ _ ?_⟩;clear hK K;refine lQ ?_;intro K hK;refine(i4 _).mono ?_;rintro e w' ⟨rfl,rfl⟩;refine⟨_,rfl,hS,hK _ _ ?_⟩;clear hK K;refine lQ ?_;intro K hK;refine(i1 _).mono ?_;rintro e w' ⟨rfl,rfl⟩;refine⟨_,rfl,hS,hK _ _ ?_⟩;clear hK K;refine lZ ?_;refine zD ?_;intro hS;have d9:z9 [gv] V wr.drew:=z9.trans d hS sI;have F:wr.drew.heap[gv]?=some (.cells (wsC (StU.l ⟨za,zb,zc,zd,ze,zf,zg,zh⟩)) 171 (0,0)):=hc;have y1:wr.drew.cell? ⟨gv,1,none⟩=some (.int .u32 (nU zb)):=y1;have y2:wr.drew.cell? ⟨gv,2,none⟩=some (.int .u32 (nU zc)):=y2;obtain⟨wd,g5⟩:=eR wr.drew
     rw[<-g5]at d9 F y1 y2 |-;clear N hS b1 b2 b3 b4 b5 y0 y4 y5 y6 y7 yk yw c6 i4 i1 g5 hc d;go_upto_region 17 with fail
     refine kX ([]:List Nat) wd ?_;intro N hS;have b1:=zG y1 q1;have b2:=zG y2 q1;refine lQ ?_;intro K hK;refine(c2 _).mono ?_;rintro e w' ⟨rfl,rfl⟩;refine⟨_,rfl,hS,hK _ _ ?_⟩;clear hK K;refine lQ ?_;intro K hK;refine(i3 _).mono ?_;rintro e w' ⟨rfl,rfl⟩;refine⟨_,rfl,hS,hK _ _ ?_⟩;clear hK K;refine lQ ?_;intro K hK;refine(i2 _).mono ?_;rintro e w' ⟨rfl,rfl⟩;refine⟨_,rfl,hS,hK _ _ ?_⟩;clear hK K;refine lZ ?_;refine zD ?_;intro hS;have d8:z9 [gv] V wd.drew:=z9.trans d9 hS sI;have e4:wd.drew.heap[gv]?=some (.cells (wsC (mvU ⟨za,zb,zc,zd,ze,zf,zg,zh⟩ 7)) 171 (0,0)):=F;obtain⟨we,g4⟩:=eR wd.drew
     rw[<-g4]at d8 e4 |-;clear N hS b1 b2 y1 y2 c2 i3 i2 g4 d9 F;obtain⟨tt,d5⟩:=eX (zh+(tX ze 6 ^^^ tX ze 11 ^^^ tX ze 25)+(ze &&& zf ^^^ ~~~ze &&& zg)+kv+wv)
     obtain⟨uu,d4⟩:=eX ((tX za 2 ^^^ tX za 13 ^^^ tX za 22)+(za &&& zb ^^^ za &&& zc ^^^ zb &&& zc))
     rw[d5,d4];have g0:rndU ⟨za,zb,zc,zd,ze,zf,zg,zh⟩ kv wv=⟨tt+uu,za,zb,zc,zd+tt,ze,zf,zg⟩:=by rw[<-d5,<-d4];rfl
     have i5:=dH g0;clear d5 d4 g0;go_upto_region 19 with fail
     go_loopw [17] (λjv wr=>∃j:Nat,j<=7/\jv=.int .i64 j/\wr.heap[gv]?=some (.cells (wsC (mvU ⟨za,zb,zc,zd,ze,zf,zg,zh⟩ j)) 171 (0,0))/\z9 [gv] we wr) (λjv _=>(intOf jv).toNat)
     case atStart=>exact⟨7,oM,rfl,e4,z9.refl _ _⟩
     case round =>
      clear e4;obtain⟨j,hj,rfl,I,c9⟩:=hrel;by_cases l4:0<j
      ·obtain⟨i,hi⟩:∃i,j=i+1:=⟨j-1,oM⟩
       have es:(j:Int)-1=(i:Int):=oM;have li:(i:Int)<8:=oM;have lj:(j:Int)<8:=oM;have U:=mvU_len ⟨za,zb,zc,zd,ze,zf,zg,zh⟩ hj;have x0:wr.cell? ⟨gv,i,none⟩=some (.int .u32 (nU ((StU.l ⟨za,zb,zc,zd,ze,zf,zg,zh⟩).getD i 0))):=by
        rw[lG I (by rw[U];omega),hi,mvU_get _ oM]
       have x1:wr.cell? ⟨gv,j,none⟩=some (.int .u32 (nU ((mvU ⟨za,zb,zc,zd,ze,zf,zg,zh⟩ j).getD j 0))):=lG I (by rw[U];omega);have f1:wr.frozen? ⟨gv,j,none⟩=false:=by simp[frozen?,I]
       have f:=mvU_set ⟨za,zb,zc,zd,ze,zf,zg,zh⟩ (j:=i) oM;rw[<-hi]at f;obtain⟨y,hy⟩:=eX ((StU.l ⟨za,zb,zc,zd,ze,zf,zg,zh⟩).getD i 0)
       rw[hy]at f x0;have t:=zF I j (.int .u32 (nU y));rw[dX,f]at t;have Y:z9 [gv] we (wr.setCell ⟨gv,j,none⟩ (.int .u32 (nU y))):=z9.trans c9 (z9.setCell wr ⟨gv,j,none⟩ _) iL;have k5:=dH t;clear f hy t I c9 U hi;(go_wp2_with fail);go_roundw
       case rel=>exact⟨i,oM,rfl,k5.out,Y⟩
       case measure=>exact sZ
      ·have b8:j=0:=oM;rw[b8]at I;have d0:wr.heap[gv]?=some (.cells (wsC [za,za,zb,zc,zd,ze,zf,zg]) 171 (0,0)):=I;have x4:wr.cell? ⟨gv,4,none⟩=some (.int .u32 (nU zd)):=lG d0 (k:=4) sI;have f4:wr.frozen? ⟨gv,4,none⟩=false:=by simp[frozen?,d0]
       have c0:=zF d0 4 (.int .u32 (nU (zd+tt)));rw[dX]at c0;have x0:(wr.setCell ⟨gv,4,none⟩ (.int .u32 (nU (zd+tt)))).cell? ⟨gv,0,none⟩=some (.int .u32 (nU za)):=lG c0 (k:=0) sI;have f0:(wr.setCell ⟨gv,4,none⟩ (.int .u32 (nU (zd+tt)))).frozen? ⟨gv,0,none⟩=false:=by simp[frozen?,c0]
       have e5:=zF c0 0 (.int .u32 (nU (tt+uu)));rw[dX]at e5;have h7:((wr.setCell ⟨gv,4,none⟩ (.int .u32 (nU (zd+tt)))).setCell ⟨gv,0,none⟩ (.int .u32 (nU (tt+uu)))).heap[gv]?=some (.cells (wsC (StU.l ⟨tt+uu,za,zb,zc,zd+tt,ze,zf,zg⟩)) 171 (0,0)):=e5;have b7:z9 [gv] V ((wr.setCell ⟨gv,4,none⟩ (.int .u32 (nU (zd+tt)))).setCell ⟨gv,0,none⟩ (.int .u32 (nU (tt+uu)))):=z9.trans (z9.trans (z9.trans d8 c9 iL) (z9.setCell _ _ _) iL) (z9.setCell _ _ _) iL;have k3:=dH h7;have k2:=dH b7;have i8:Hid (lO ws s (k+1)=⟨tt+uu,za,zb,zc,zd+tt,ze,zf,zg⟩):=i6.out.trans i5.out;clear d0 c0 e5 h7 b7 I c9 b8 d8 i6 i5 hz;(go_wp2_with fail);go_roundw
       case rel=>exact⟨k+1,_,oM,by go_num,i8,k3.out,k2.out⟩
       case measure=>exact sZ
    ·have G:k=64:=oM;have a3:lO ws s 64=z:=G ▸ hz.out;have k0:Hid (rS s bs=fY s z):=(show _=_ by rw[k1.out,a3])
     have r:=(d.block g oM sO).trans X;have D:=(d.block g2 oM sO).trans R;have Z:Below g w wr:=e9.trans (d.below (B:=g) oM sO);have e1:gv<wr.heap.size:=oH d.size;clear a3 G hz d X R e9 d7 e3;go_upto_region 25 with fail
     obtain⟨V2,f3⟩:∃V2,V2=wr:=⟨wr,rfl⟩
     go_loopw [18] (λjv wr=>∃j:Nat,j<=8/\jv=.int .i64 j/\wr.heap[gv]?=some (.cells (wsC ((fY s z).l.take j++z.l.drop j)) 171 (0,0))/\z9 [gv] V2 wr) (λjv _=>8-(intOf jv).toNat)
     case atStart=>exact⟨0,oM,rfl,(by rw[hc];rfl),by rw[f3];exact z9.refl _ _⟩
     case round =>
      clear hc;rw[<-f3]at r D Z e1;clear f3;obtain⟨j,hj,rfl,hc,d⟩:=hrel;by_cases E:j<8
      ·have U:((fY s z).l.take j++z.l.drop j).length=8:=by simp[StU.l_len];omega
       have y0:=lG hc (k:=j) (by rw[U];exact E);rw[mix_get (L:=(fY s z).l) (M:=z.l) rfl E]at y0;have y1:wr.cell? ⟨g,j,none⟩=some (.int .u32 (nU (s.l.getD j 0))):=lG ((d.block g oM sO).trans r) E;have f:=mix_set (L:=(fY s z).l) (M:=z.l) rfl E;have d2:=VH (s:=s) (z:=z) E;obtain⟨c1,e7⟩:=eX (z.l.getD j 0)
       obtain⟨c2,t⟩:=eX (s.l.getD j 0)
       rw[e7,t]at d2;rw[e7]at y0;rw[t]at y1;rw[<-d2]at f;have c5:=dH f;clear f d2 e7 t U;go_upto_region 27 with fail
       have q1:gv∉([]:List Nat):=sI;have q2:g∉([]:List Nat):=sI;refine kF ([]:List Nat) wr ?_;intro N hS;have b0:=zG y0 q1;have b1:=zG y1 q2;have F:wr.drew.heap[gv]?=some (.cells (wsC ((fY s z).l.take j++z.l.drop j)) 171 (0,0)):=hc;have x9:wr.drew.cell? ⟨gv,j,none⟩=some (.int .u32 (nU c1)):=y0;have f9:wr.drew.frozen? ⟨gv,j,none⟩=false:=by simp[frozen?,F]
       refine lZ ?_;refine j3 ?_ ?_;(focus(simp only[yO];done));intro K hK;go_simp;refine hK _ _ ?_;clear hK K;have a0:=zF F j (.int .u32 (nU (c1+c2)));rw[dX,c5.out]at a0;have Y:z9 [gv] V2 (wr.drew.setCell ⟨gv,j,none⟩ (.int .u32 (nU (c1+c2)))):=z9.trans (z9.trans d (z9.drew wr) sI) (z9.setCell wr.drew ⟨gv,j,none⟩ _) sI;clear N hS x9 f9 hc F d b0 b1 y0 y1 c5;(go_wp2_with fail);go_roundw
       case rel=>exact⟨j+1,oM,by go_num,a0,Y⟩
       case measure=>exact sZ
      ·have g9:j=8:=oM;have e8:(fY s z).l.take j++z.l.drop j=(fY s z).l:=by rw[g9];rfl
       rw[e8]at hc;have a4:zA wr gv 0 8=some (wsC (fY s z).l):=by unfold zA;rw[hc];simp[StU.l_len]
       have T:=(d.block g2 oM sO).trans D;have i9:=y9 (P:=prog) aU wr g2 (wsC (zU 8)) (wsC (fY s z).l) _ T (by simp[gB]) (by simp[StU.l_len]) (r6 _);have f6:=dH (setRow_heap wr g2 _ (wsC (fY s z).l) _ _ T);have b7:z9 [g2] wr (wr.setRow g2 (wsC (fY s z).l)):=⟨rfl,rfl,rfl,by simp[setRow],λx _ hx=>setRow_other wr g2 x _ (by simpa using hx)⟩
       have g7:=z9.trans (d.mono (S':=[g2,gv]) sI) (b7.mono (S':=[g2,gv]) sI) iL;have h8:Below g w (wr.setRow g2 (wsC (fY s z).l)):=Z.trans (g7.below oM sO);have k6:=dH h8;clear b7 g7 h8 T hc e8 g9 d r D Z;(go_wp2_with fail);exact bodyPost_ret (results_cell_row results110 _ _ g2 171 (wsC (fY s z).l) (0,0) _ rfl f6.out underlying171 rfl (by rw[bJ,StU.l_len];exact aU)) rfl ⟨by rw[k0.out],by rw[Hg.out];exact k6.out⟩
theorem rconsts(w:World):Calls prog 109 #[] w λe w'=>e=.returned (.slice (some ⟨w.heap.size,0,none⟩) 64 64)/\w'=w.alloc (.cells (wsC kU) 170):=by
 go_enter func109,ntmps109
 (go_wp2_with fail);go_ret;exact⟨rfl,kR⟩
theorem rstart(w:World):Calls prog 108 #[] w λe w'=>e=.returned (.agg (wsC q8.l))/\Below w.heap.size w w':=by
 have e:(((((((((wsC (zU 8)).setIfInBounds 0 (.int .u32 1779033703)).setIfInBounds 1 (.int .u32 3144134277)).setIfInBounds 2 (.int .u32 1013904242)).setIfInBounds 3 (.int .u32 2773480762)).setIfInBounds 4 (.int .u32 1359893119)).setIfInBounds 5 (.int .u32 2600822924)).setIfInBounds 6 (.int .u32 528734635)).setIfInBounds 7 (.int .u32 1541459225))=wsC q8.l:=kR;have d:=nV w w.heap.size rfl (wsC (zU 8)) (by simp[gB]) q8.l q8.l_len 171;have Hn:=dH (heap_alloc_new w (.cells (wsC q8.l) 171));have hb:Below w.heap.size w (w.alloc (.cells (wsC q8.l) 171)):=bA;have Hb:=dH hb;clear hb;go_enter func108,ntmps108
 (go_wp2_with fail);exact bodyPost_ret (results_cell_row results108 _ _ w.heap.size 171 (wsC q8.l) (0,0) _ rfl Hn.out underlying171 rfl (by rw[bJ,StU.l_len];exact aU)) rfl ⟨rfl,Hb.out⟩
def BuZ(w:World)(B:Nat)(A:Option Addr)(n cap:Nat)(bs:List UInt8):Prop :=
 bs.length=n/\∃g cur fz,A=some ⟨g,0,none⟩/\B<=g/\w.heap[g]?=some (.cells cur 5 fz)/\n<=cap/\cap<=maxLen/\cur.size=cap/\(fz.2=0\/cap<=fz.1)/\cur.toList.take n=bs.map yI
theorem BuZ.conv(w:World)(B:Nat)(hB:B<=w.heap.size)(s:ByteArray)(hs:s.size<=maxLen) :
  ∃cap,(convert 9 128 (.string s)).run prog w=.ok (.slice (some ⟨w.heap.size,0,none⟩) s.size cap) (Go.Lib.bytesWorld w 5 s)/\BuZ (Go.Lib.bytesWorld w 5 s) B (some ⟨w.heap.size,0,none⟩) s.size cap s.data.toList/\Below w.heap.size w (Go.Lib.bytesWorld w 5 s):=by
 have f:=grownCap_ge w s.size 0 5;have d:(Go.Lib.bytesCells w 5 s).size=grownCap w s.size 0 5:=by simp[Go.Lib.bytesCells];omega
 refine⟨_,Go.Lib.run_convert_string_bytes (P:=prog) w 9 128 5 s underlying9 underlying128 underlying5,⟨rfl,w.heap.size,_,_,rfl,hB,Go.Lib.bytesWorld_at_new w _ s,f,grownCap_le_maxLen w _ _ _ hs,d,.inr (by rw[d];exact lR),?_⟩,?_⟩
 ·have e:s.size=(s.data.toList.map yI).length:=sI;show((Go.Lib.bytesCells w 5 s).toList).take s.size=_;rw[show(Go.Lib.bytesCells w 5 s).toList=s.data.toList.map yI++replicate (grownCap w s.size 0 5-s.size) (.int .u8 0) by simp[Go.Lib.bytesCells,yI],e,take_left]
 ·exact⟨rfl,rfl,rfl,by rw[Go.Lib.bytesWorld_size];omega,λk hk=>Go.Lib.bytesWorld_at_old w _ s k hk⟩
theorem BuZ.at_base(h:BuZ w B A n cap bs):∀x∈blk A,B<=x/\x<w.heap.size:=by
 obtain⟨_,g,d,fz,rfl,hb,hg,_⟩:=h;intro x hx;simp[blk]at hx;subst hx;exact⟨hb,(aG hg).1⟩
theorem BuZ.kept{w':World}{S:List Nat}(h:BuZ w B A n cap bs)(k:z9 S w w')(hn:∀x∈blk A,x∉S):BuZ w' B A n cap bs:=by
 obtain⟨hl,g,d,fz,rfl,hb,hg,hr⟩:=h;exact⟨hl,g,d,fz,rfl,hb,(k.block g (aG hg).1 (hn g (by simp[blk]))).trans hg,hr⟩
theorem BuZ.bytes(h:BuZ w B A n cap bs):bE w A n bs:=by
 obtain⟨hl,g,d,fz,rfl,hb,hg,m,s,r,_,ht⟩:=h;refine⟨by rw[eF];exact hl,λ_=>⟨g,0,rfl,λi hi=>?_⟩⟩;have k:i<n:=by rw[eF]at hi;omega
 unfold zA;rw[hg];simp only[Nat.zero_add,Nat.mul_one];rw[if_pos oM];congr 1
 have h1:d.toList[i]?=some (yI (bs[i]'oM)):=by
  have h2:=congrArg (λl=>l[i]?) ht;simp only[getElem?_take,if_pos k,getElem?_map,getElem?_eq_getElem (oM:i<bs.length),Option.map_some]at h2;exact h2
 have f:i<d.size:=oM;have h3:d[i]'f=yI (bs[i]'oM):=by
  have:d.toList[i]?=some d[i]:=by rw[Array.getElem?_toList,Array.getElem?_eq_getElem f]
  rw[this]at h1;exact Option.some.inj h1
 apply Array.ext
 ·simp[yJ,k9];omega
 ·intro j h4 h5;simp[yJ,k9]at h5;subst h5;simp[yJ,k9,h3]
theorem BuZ.slw(h:BuZ w B A n cap bs):SlW w A n cap 1 (yJ bs):=by
 have hb:=h.bytes;obtain⟨hl,g,f,fz,rfl,_,hg,d,_⟩:=h;exact⟨hb,d,(λe=>by cases e),(λa e=>by injection e with e;rw[<-e])⟩
theorem BuZ.append(h:BuZ w B A n cap bs)(q c:Nat)(x:UInt8)(hx:w.cell? ⟨q,0,none⟩=some (yI x))(hn:n+1<=1000000000)(hB:B<=w.heap.size)(ty:TypeId) :
  ∃A' cap' w',(Builtin.append_ #[128,128] ty #[.slice A n cap,.slice (some ⟨q,0,none⟩) 1 c]).run prog w=.ok (.slice A' (n+1) cap') w'/\BuZ w' B A' (n+1) cap' (bs ++ [x])/\z9 (blk A) w w':=by
 obtain⟨i,z,hi,hz,k,L,D⟩:=qX.info;obtain⟨hl,g,y,fz,rfl,hb,hg,M,J,I,t,ht⟩:=h;have f:∀(j:Nat) u,[yI x][j]?=some u->w.cell? ((⟨q,0,none⟩:Addr).add j)=some u:=by
  intro j u hu;have:j=0:=by
   have:=(List.getElem?_eq_some_iff.1 hu).1;simp at this;exact this
  subst this;simp at hu;subst hu;exact hx
 by_cases d:n+1<=cap
 ·have hc:w.cell? ⟨g,n,none⟩=some (y[n]'oM):=by rw[cell_of_row w g n _ _ _ hg,Array.getElem?_eq_getElem]
  have hf:w.frozen? ⟨g,n,none⟩=false:=by
   simp only[frozen?,hg];rcases t with h | h
   ·simp;omega
   ·simp;omega
  have H:=zF hg n (yI x);refine⟨some ⟨g,0,none⟩,cap,w.setCell ⟨g,n,none⟩ (yI x),?_,⟨by simp[hl],g,_,fz,rfl,hb,H,d,J,by simp[I],t,?_⟩,z9.setCell w ⟨g,n,none⟩ _⟩
  ·have r:=run_firstCells_some (P:=prog) w i.size 1 ⟨q,0,none⟩ 1 c [yI x] (by simp[k]) f;have E:(store (⟨g,n,none⟩:Addr) (yI x) .plain).run prog w=.ok () (w.setCell ⟨g,n,none⟩ (yI x)):=by
    unfold yI;rw[run_store_int];unfold stored;rw[hc,hf];rfl
   simp[Builtin.append_,run_underlying qX.und,sizeOf,typeInfo,hi,k,Builtin.lenOf,d,r,Addr.add_lit];rw[k]at r;rw[r];simp[storeCells,Addr.add,E]
  ·rw[Array.toList_setIfInBounds];have F:n<y.toList.length:=sO;rw[take_set,take_add_one,ht,getElem?_eq_getElem F,Option.toList_some,set_append_right _ _ (by simp[hl])];simp[hl]
 ·have N:n=cap:=oM;have m:∀(j:Nat) v,(bs.map yI)[j]?=some v->w.cell? ((⟨g,0,none⟩:Addr).add j)=some v:=by
   intro j v hv;have hj:j<n:=by have:=(List.getElem?_eq_some_iff.1 hv).1;simpa[hl]using this
   have e:(⟨g,0,none⟩:Addr).add j=⟨g,j,none⟩:=by unfold Addr.add;split <;> simp_all
   rw[e,cell_of_row w g j _ _ _ hg,<-Array.getElem?_toList,<-hv,<-ht,getElem?_take,if_pos hj]
  have G:=grownCap_ge w (n+1) cap 5;have s:grownCap w (n+1) cap 5<=maxLen:=grownCap_le_maxLen w _ _ _ (by simp only[maxLen];omega);have hr:=run_append_grow (P:=prog) w 128 ty 5 i z qX.und hi hz ⟨g,0,none⟩ n cap (bs.map yI) (by simp[hl,k]) m ⟨q,0,none⟩ 1 c [yI x] (by simp[k]) f oM oM (growslice_fits oM (by rw[L];omega));refine⟨_,_,_,hr,⟨by simp[hl],w.heap.size,_,(0,0),rfl,hB,heap_alloc_new w.drew _,G,s,?_,.inl rfl,?_⟩,(z9.trans (z9.drew w) (z9.alloc _ _) sI).mono sI⟩
  ·simp only[Array.size_append,size_toArray,size_zeroCells,D,length_map,hl,length_cons,length_nil];omega
  ·simp only[Array.toList_append];have e:n+1=((bs.map yI) ++ [yI x]).length:=by simp[hl]
   rw[e,take_left];simp
theorem eG{a:Act}{d:List Oper}{dst:Option Tmp}{s x:Operand}{ty:TypeId}{pos:String}{after:Array Edge}
  (hs:a.eval s=.slice A n cap)(f:BuZ w B A n cap bs)
  {q c:Nat}{u:UInt8}(hx:a.eval x=.slice (some ⟨q,0,none⟩) 1 c)(hu:w.cell? ⟨q,0,none⟩=some (yI u))(hn:n+1<=1000000000)(hB:B<=w.heap.size)
  (h:∀A' cap' w',BuZ w' B A' (n+1) cap' (bs ++ [u])->z9 (blk A) w w'->wpList prog ops Q d (a.put dst (.slice A' (n+1) cap')) w') :
  wpList prog ops Q ({ dst:=dst,op:=.call { callee:=.builtin .append,args:=#[s,x],argTypes:=#[128,128] },type:=ty,pos:=pos,after:=after,guard:=none } :: d) a w:=by
 obtain⟨A',cap',w',hr,h1,h2⟩:=f.append q c u hu hn hB ty;exact YH hs hx hr (h A' cap' w' h1 h2)
theorem SlW.mid{P:Program}{E:TypeId}{bytes:Nat}(I:yR P T E k bytes)(h:SlW w A n cap k L){m:Nat}(hm:m+j<=n)(hj:0<j) :
  ∃A2,(∀w0:World,(slS T (.slice A n cap) (some (.int .i64 m)) (some (.int .i64 (m+j:Nat))) none).run P w0=.ok (.slice A2 j (cap-m)) w0)/\(∀w':World,SlR w' A n k L->SlR w' A2 j k ((L.drop m).take j)):=by
 have f:=h.le;refine⟨if cap=m then A else A.map λa=>a.add (m*k),λw0=>?_,λw' hL=>?_⟩
 ·rw[tJ I];unfold Instr.slice Instr.sliceBounds;simp only[Sem.run_bind,run_underlying I.und,Result.andThen_ok,Sem.run_pure,kD w0 (m+j) cap oM,kD w0 m (m+j) oM,I.sizeOf_run w0,Option.isSome_none,Bool.false_eq_true,if_false];rw[(oM:m+j-m=j)]
 ·have d:¬cap=m:=oM;rw[if_neg d];cases A with
  | none=>exact absurd (h.nil rfl) oM
  | some a =>
   obtain⟨g,o,sp⟩:=a;have:sp=none:=h.plain _ rfl;subst this;have e:(⟨g,o,none⟩:Addr).add (m*k)=⟨g,o+m*k,none⟩:=by unfold Addr.add;split <;> simp_all
   simp only[Option.map_some,e];exact(hL.drop_ (m:=m) oM).take_ oM
end Go.Proofs.YtdjiaickicgdlaaGreatDoor
