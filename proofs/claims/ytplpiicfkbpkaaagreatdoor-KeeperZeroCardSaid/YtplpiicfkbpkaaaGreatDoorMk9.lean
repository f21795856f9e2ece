/- Part 9 of the texts that lead to this claim: the walks of the functions and the plain law, in order. -/
import Derived.Test.YtplpiicfkbpkaaaGreatDoorMk8
import Derived.Lib.AppendZeros
import Derived.Lib.Overlaps
import Derived.Shelf.Spec.SlicesInsert
import Derived.WalkMore
namespace Go.Proofs.YtplpiicfkbpkaaaGreatDoor
open Go.RowKit
open List hiding and get max min or set
open Go.Proofs.Tryz
open World
set_option maxRecDepth 100000
set_option maxHeartbeats 8000000
variable {g k:Nat}{T:TypeId}{Q:List Id32}{A:Option Addr}{L:List (Array Value)}{w:World}{D:List HdX}{Tm:List (ByteArray×Sl)}{Cm:List (Id32×Sl)}
section
section
variable {P:Program} {T E:TypeId} {k bytes:Nat} {w:World} {B n cap:Nat} {A:Option Addr} {R:List (Array Value)}
theorem own_more(h:Own w B E k (some ⟨g,0,none⟩) n cap R)(hr:n+1<=cap):∃J,J.size=k/\Own w B E k (some ⟨g,0,none⟩) (n+1) cap (R ++ [J]):=by
 have hL:=h.len;have m:=h.size;obtain⟨⟨h1,h2⟩,_,_⟩:=h;rcases h2 with⟨h2,_⟩ | ⟨g',c,cur,hv,hb,hg,hnc,hcm,hcsz,htake⟩
 ·cases h2
 injection hv with d _ hc
 injection d with d
 injection d with d
 subst d;subst hc;have j:(n+1)*k<=cur.size:=by rw[hcsz];exact Nat.mul_le_mul_right k hr
 have r:n*k+k<=cur.size:=by rw[Nat.add_mul,Nat.one_mul]at j;exact j
 have hJ:(cur.extract (n*k) (n*k+k)).size=k:=sO;have f:∀c∈R ++ [cur.extract (n*k) (n*k+k)],c.size=k:=λc hc=>by
  rcases mem_append.1 hc with hc | hc
  ·exact m c hc
  ·have e:c=cur.extract (n*k) (n*k+k):=by simpa using hc
   rw[e];exact hJ
 refine⟨_,hJ,⟨⟨by rw[flat_len _ k f];simp[hL],.inr ⟨g,cap,cur,rfl,hb,hg,hr,hcm,hcsz,?_⟩⟩,by simp[hL],f⟩⟩;rw[flatMap_append,<-htake];simp only[flatMap_cons,flatMap_nil,append_nil,Array.toList_extract,extract_eq_take_drop];rw[(oM:n*k+k-n*k=k),Nat.add_mul,Nat.one_mul,take_add]
end
theorem rows_cut{k:Nat}:∀(n:Nat) (l:List Value),l.length=n*k->∃R:List (Array Value),R.length=n/\(∀c∈R,c.size=k)/\R.flatMap Array.toList=l
 | 0,l,h=>⟨[],rfl,sI,by rw[Nat.zero_mul]at h;exact(length_eq_zero_iff.1 h).symm⟩
 | n+1,l,h=>by
  rw[Nat.add_mul,Nat.one_mul]at h;obtain⟨R,h1,h2,h3⟩:=rows_cut (k:=k) n (l.drop k) (by rw[length_drop];omega);refine⟨(l.take k).toArray :: R,by simp[h1],λc hc=>?_,by simp[h3]⟩;rcases mem_cons.1 hc with e | hc
  ·rw[e];simp;omega
  ·exact h2 c hc
theorem swap_rows{α:Type}(A C:List α)(x:α)(R1:List α)(n i:Nat)(hA:A.length=i)(hC:C.length=n-i)(hR:R1.length=n-i)(hi:i<=n) :
  ((A ++ [x]++R1).take (i+1)++C++(A ++ [x]++R1).drop (i+1+(n-i)))=A++x :: C:=by
 rw[take_append_of_le_length (by simp[hA]),take_of_length_le (by simp[hA]),drop_of_length_le (by simp[hA,hR];omega)]
 simp
theorem insert_id(w:World)(B:Nat)(A:Option Addr)(n cap:Nat)(L:List Id32)(h:Own w B 23 32 A n cap (L.map idC))(i:Nat)(hi:i<=n)(x:Id32)(q:Nat)(hq:w.heap[q]?=some (.cells (idC x) 23 (0,0)))(f6:q∉blk A)(hn:n<=1000000)(hB:B<=w.heap.size) :
  Calls prog 236 #[.slice A n cap,.int .i64 i,.slice (some ⟨q,0,none⟩) 1 1] w λe w'=>∃A' cap',e=.returned (.slice A' (n+1) cap')/\Own w' B 23 32 A' (n+1) cap' ((L.take i++x :: L.drop i).map idC)/\Keep (blk A) w w'/\∀y∈blk A',y∈blk A\/w.heap.size<=y:=by
 have b1:L.length=n:=by simpa using h.len
 have F:rowAt w q 0 32=some (idC x):=by unfold rowAt;rw[hq];simp[go_sem]
 obtain⟨A2,c2,f4,_,_⟩:=SlW.hi (w:=w) einfoId h.slw hi;by_cases f9:i=n
 ·subst f9;have hL:L.take i++x :: L.drop i=L ++ [x]:=by rw[take_of_length_le oM,drop_of_length_le oM]
  have HL:=dH hL;clear hL b1;go_enter func236,ntmps236
  go_wp2_with (at_builtin;refine L_append einfoId rfl h rfl F (idC_one _) oM oM hB ?_;intro A' cap' w2 a9 f8 a7)
  (go_wp2_with fail);go_ret;exact⟨A',cap',rfl,by rw[HL.out];simpa using a9,f8,a7⟩
 ·have h4:i<n:=oM;clear f4;obtain⟨g,rfl⟩:∃g,A=some ⟨g,0,none⟩:=by
   rcases h.addr with e | e
   ·obtain⟨⟨_,h2⟩,_,_⟩:=h;rcases h2 with⟨_,h0⟩ | ⟨g,c,a6,hv,_⟩
    ·omega
    ·rw[e]at hv;cases hv
   ·exact e
  have e5:q≠g:=by simpa[blk]using f6
  have e0:¬((i:Int)=(n:Int)):=oM;have g4:=h.cap_le;have g8:IntKind.i64.wrap ((n:Int)+1)=(n:Int)+1:=IntWalk.i64_in _ oM;obtain⟨N1,f1⟩:=eX (n+1-i)
  have c9:(L.take i).length=i:=by rw[length_take];omega
  have f2:(L.drop i).length=n-i:=by rw[length_drop];omega
  have D:∀(l:List Id32),∀c∈l.map idC,c.size=32:=λl c hc=>by
   obtain⟨y,_,rfl⟩:=mem_map.1 hc;exact idC_size y
  have I:∀(l:List Id32),∀c∈l.map idC,∀v∈c.toList,v.oneCell'=true:=λl c hc=>by
   obtain⟨y,_,rfl⟩:=mem_map.1 hc;exact idC_one y
  have U:B<=g:=(h.at_base (x:=g) (by simp[blk])).1;have e8:g<w.heap.size:=(h.at_base (x:=g) (by simp[blk])).2;by_cases X:n+1<=cap
  ·obtain⟨J,hJ,G⟩:=own_more h X;have e7:=λw0=>run_slS_lo (P:=prog) einfoId w0 (some ⟨g,0,none⟩) n cap (n+1) X;have h1:=λw0=>Own.hi_at einfoId h (m:=i) oM w0;have d0:=λw0=>Own.hi_at einfoId G (m:=i+1) oM w0;have e4:=λw0=>Own.hi_at einfoId G (m:=i) oM w0;obtain⟨a6,d6⟩:∃a6,w.heap[g]?=some (.cells a6 23 (0,0))/\a6.size=cap*32:=by
    obtain⟨⟨_,h2⟩,_,_⟩:=h;rcases h2 with⟨h2,_⟩ | ⟨g',c,a6,hv,_,hg,_,_,hcs,_⟩
    ·cases h2
    ·injection hv with c4 _ hc
     injection c4 with c4
     injection c4 with c4
     subst c4;subst hc;exact⟨a6,hg,hcs⟩
   have h3:∀lb cb,(callFunc 272 #[.slice (some ⟨q,0,none⟩) 1 1,.slice (some ⟨g,(i+1)*32,none⟩) lb cb]).run prog w=.ok (.value (.bool false)) w:=λlb cb=>by
    rw[run_callFunc_extern func272 kR kR kR (e:=Extern.SlicesOverlaps.overlaps #[26,26] #[4]) kR,
     Lib.run_overlaps_apart w 26 4 23 underlying26 32 (λw=>einfoId.sizeOf_run w) ⟨q,0,none⟩ ⟨g,(i+1)*32,none⟩ 1 1 lb cb e5 23 23 32 (cap*32) (by simp[shape?,hq]) (by simp[shape?,d6.1,d6.2]) oM (by simp[frozen?,hq]) (by simp[frozen?,hq])]
    rfl
   have d4:(L.map idC ++ [J]).length=n+1:=by simp[b1]
   have N:Own w.drew B 23 32 (some ⟨g,0,none⟩) n cap (L.map idC):=h.kept (Keep.drew w) (S:=[]) sI;obtain⟨w1,b7,r,a5⟩:=own_copy einfoId (G.kept (Keep.drew w) (S:=[]) sI) (d:=i+1) (m:=n-i) (sLen:=n+1-i) (N.drop_slr (i:=i) oM) (λc hc=>D L c (mem_of_mem_drop hc)) (λc hc=>I L c (mem_of_mem_drop hc)) oM (by rw[(oM:n+1-(i+1)=n-i)];exact Nat.min_eq_right oM);have R:Keep [g] w w1:=Keep.trans ((Keep.drew w).mono sI) a5 (λy hy=>.inl hy);have a8:rowAt w1 q 0 32=some (idC x):=(R.row (rowAt_lt F) (by simpa using e5) _ _).trans F;have c1:SlR w1 (some ⟨q,0,none⟩) 1 32 [idC x]:=⟨rfl,λ_=>⟨q,0,rfl,λj hj=>by
    have e:j=0:=by simpa using hj
    subst e;simpa using a8⟩⟩
   obtain⟨w2,V,f,b4⟩:=own_copy einfoId r (d:=i) (m:=1) (sLen:=1) c1 sI (by simpa using idC_one x) oM (Nat.min_eq_left oM);have s:(((L.map idC ++ [J]).take (i+1)++(L.map idC).drop i++(L.map idC ++ [J]).drop (i+1+(n-i))).take i ++ [idC x]++((L.map idC ++ [J]).take (i+1)++(L.map idC).drop i++(L.map idC ++ [J]).drop (i+1+(n-i))).drop (i+1))=(L.take i++x :: L.drop i).map idC:=by
    have e1:(L.map idC ++ [J]).drop (i+1+(n-i)) = []:=drop_of_length_le (by rw[d4];omega);have e2:((L.map idC ++ [J]).take (i+1)).length=i+1:=by rw[length_take,d4];omega
    rw[e1,append_nil,take_append_of_le_length oM,take_take,Nat.min_eq_left oM,take_append_of_le_length sO,drop_append,e2,drop_of_length_le oM,nil_append,Nat.sub_self,drop_zero,map_append,map_cons,map_take,map_drop]
    simp
   rw[s]at f;have b3:Keep [g] w w2:=Keep.trans R b4 (λy hy=>.inl hy);have f3:IntKind.i64.wrap ((i:Int)+1)=(i:Int)+1:=IntWalk.i64_in _ oM;have b8:((i+1:Nat):Int)=(i:Int)+1:=by push_cast;rfl
   have c6:((n+1:Nat):Int)=(n:Int)+1:=by push_cast;rfl
   rw[b8]at d0;rw[c6]at e7;simp only[Nat.add_sub_add_right]at b7 d0;have g1:¬((cap:Int)<(n:Int)+1):=oM;have HF:=dH (And.intro f b3);have g6:=dH (show Kp [g] w w1 from R);clear b8 c6 f b3 s b4 c1 a8 R a5 r N d4 d6 G c9 f2 D I U e8 f1 h hq F;go_enter func236,ntmps236
   go_upto_region 15 with fail
   refine kX [g] w ?_;intro d3 hS;refine lQ ?_;intro K hK;have a3:Kp [g] w w1:=g6.out;refine⟨a3,hK _ _ ?_⟩;clear hK K hS;have hS:=a3;refine wpLx_nil ?_;intro hS;clear hS a3 d3 b7;go_wp2_with (at_builtin;refine wpList_copy_runI _ rfl _ _ 26 26 rfl _ _ rfl rfl (V _ _ _) ?_)
   (go_wp2_with fail);go_ret;exact⟨_,_,rfl,by simpa using HF.out.1,by simpa[blk]using HF.out.2,λy hy=>.inl hy⟩
  ·have c6:cap=n:=oM;subst c6;have e7:=λw0=>run_slS_lo (P:=prog) einfoId w0 (some ⟨g,0,none⟩) cap cap i oM;obtain⟨c5,T,hz⟩:=Option.bind_eq_some_iff.1 (kR:(prog.info? 23).bind (·.zero)=some (.agg (idC id0)));have b5:c5.size=32:=by have:=infoId;rw[T]at this;simpa using this
   have a1:c5.bytes=32:=by have:(prog.info? 23).map (·.bytes)=some 32:=kR
                           rw[T]at this;simpa using this
   obtain⟨O,M⟩:=eX (((L.take i).map idC).flatMap Array.toList)
   have a4:O.length=i*32:=by rw[<-M,flat_len _ 32 (D _),length_map,c9]
   have b0:(Builtin.firstCells c5.size i (.slice (some ⟨g,0,none⟩) i cap)).run prog w.drew=.ok O.toArray w.drew:=by
    refine run_firstCells_some w.drew c5.size i ⟨g,0,none⟩ i cap O (by rw[a4,b5]) λj v hj=>?_;have hs:=(h.kept (Keep.drew w) sI).slr;obtain⟨g',o',e,hr⟩:=hs.2 oM;injection e with e;injection e with e1 e2
    subst e1;subst e2;have h6:j<i*32:=by rw[<-a4];exact(List.getElem?_eq_some_iff.1 hj).1
    have h5:j / 32<i:=oM;have f5:=hr (j / 32) sO;have Y:=flat_get ((L.take i).map idC) 32 (D _) (j / 32) (j % 32) sO oM;rw[M,(oM:j / 32*32+j % 32=j),hj]at Y;rw[addr_add,(oM:0+j=0+j / 32*32+j % 32),rowAt_cell f5 oM,Y]
    simp
   have f7:=nextslicecap_le (need:=i+N1) (old:=cap) oM;have E:=λty=>run_append_zeros (P:=prog) (w:=w) (t:=26) (tn:=3) (ty:=ty) (kk:=.i64) underlying26 underlying3 T hz b0 (m:=N1) oM oM oM oM (by rw[a1];omega) (by rw[a1];omega);obtain⟨NC,c8⟩:=eX (grownCap w (i+N1) cap 23)
   have e3:i+N1<=NC:=by rw[<-c8];exact grownCap_ge _ _ _ _
   have c3:NC<=maxLen:=by rw[<-c8];exact grownCap_le_maxLen _ _ _ _ (by simp only[maxLen];omega)
   rw[c8]at E;obtain⟨ZC,d8⟩:=eX (Builtin.zeroCells (Value.agg (idC id0)).cells N1)
   obtain⟨ZR,d7⟩:=eX (Builtin.zeroCells (Value.agg (idC id0)).cells (NC-(i+N1)))
   have b9:ZC.size=N1*32:=by rw[<-d8,size_zeroCells];simp[Value.cells]
   have c0:ZR.size=(NC-(i+N1))*32:=by rw[<-d7,size_zeroCells];simp[Value.cells]
   rw[d8,d7]at E;obtain⟨Z,d9,f0,e9⟩:=rows_cut (k:=32) N1 ZC.toList (by simpa using b9);obtain⟨W1,c7⟩:=eX (w.drew.alloc (.cells (O.toArray++ZC++ZR) 23))
   rw[c7]at E;have e6:i+N1=cap+1:=oM;have a2:W1.heap[w.heap.size]?=some (.cells (O.toArray++ZC++ZR) 23 (0,0)):=by rw[<-c7];exact heap_alloc_new w.drew _
   have a5:Keep [] w W1:=by rw[<-c7];exact Keep.trans (Keep.drew w) (Keep.alloc _ _) sI
   obtain⟨g2,Y⟩:=eX w.heap.size
   rw[Y]at a2 E;have d1:∀c∈(L.take i).map idC++Z,c.size=32:=λc hc=>by
    rcases mem_append.1 hc with hc | hc
    ·exact D _ c hc
    ·exact f0 c hc
   have d2:((L.take i).map idC++Z).length=cap+1:=by rw[length_append,length_map,c9,d9];omega
   have r:Own W1 B 23 32 (some ⟨g2,0,none⟩) (cap+1) NC ((L.take i).map idC++Z):=by
    refine⟨⟨by rw[flat_len _ 32 d1,d2],.inr ⟨g2,NC,_,rfl,oM,a2,oM,c3,?_,?_⟩⟩,d2,d1⟩
    ·simp only[Array.size_append,b9,c0,size_toArray,a4];omega
    ·rw[flatMap_append,M,e9];simp only[Array.toList_append];rw[take_append_of_le_length (by simp[a4,b9];omega),take_of_length_le (by simp[a4,b9];omega)]
   have a8:rowAt W1 q 0 32=some (idC x):=(a5.row (rowAt_lt F) sI _ _).trans F;have c1:SlR W1 (some ⟨q,0,none⟩) 1 32 [idC x]:=⟨rfl,λ_=>⟨q,0,rfl,λj hj=>by
    have e:j=0:=by simpa using hj
    subst e;simpa using a8⟩⟩
   have d0:=λw0=>Own.hi_at einfoId r (m:=i) oM w0;obtain⟨w2,V,f,b4⟩:=own_copy einfoId r (d:=i) (m:=1) (sLen:=1) c1 sI (by simpa using idC_one x) oM (Nat.min_eq_left oM);have g3:g2≠g:=oM;have a0:Keep [g2] w w2:=Keep.trans (a5.mono sI) b4 (λy hy=>.inl hy);have b2:Keep [] w w2:=a0.narrow (λy hy=>by simp at hy;rw[Y];omega);have N:Own w2.drew B 23 32 (some ⟨g,0,none⟩) cap cap (L.map idC):=(h.kept b2 sI).kept (Keep.drew w2) (S:=[]) sI;have e4:=λw0=>Own.hi_at einfoId f (m:=i+1) oM w0;have g9:=λw0=>Own.hi_at einfoId N (m:=i) oM w0;obtain⟨w3,b6,H,d5⟩:=own_copy einfoId (f.kept (Keep.drew w2) (S:=[]) sI) (d:=i+1) (m:=cap-i) (sLen:=cap-i) (N.drop_slr (i:=i) oM) (λc hc=>D L c (mem_of_mem_drop hc)) (λc hc=>I L c (mem_of_mem_drop hc)) oM (by rw[(oM:cap+1-(i+1)=cap-i)];exact Nat.min_self _);have s:(((L.take i).map idC++Z).take i ++ [idC x]++((L.take i).map idC++Z).drop (i+1))=(L.take i).map idC ++ [idC x]++Z.drop 1:=by
    rw[take_append_of_le_length sO,take_of_length_le sO,drop_append];rw[drop_of_length_le sO,nil_append];congr 2
    simp;omega
   rw[s]at H;rw[<-map_drop,swap_rows ((L.take i).map idC) ((L.drop i).map idC) (idC x) (Z.drop 1) cap i sO sO (by simp[d9];omega) hi,(sI:(L.take i).map idC++idC x :: (L.drop i).map idC=(L.take i++x :: L.drop i).map idC)]at H;have b3:Keep [] w w3:=(Keep.trans (Keep.trans (a0.mono (S':=[g2]) sI) ((Keep.drew w2).mono sI) (λy hy=>.inl hy)) d5 (λy hy=>.inl hy)).narrow (λy hy=>by simp at hy;rw[Y];omega);simp only[e6]at E;have g7:IntKind.i64.wrap ((cap:Int)+1-(i:Int))=(N1:Int):=by rw[IntWalk.i64_in _ oM];omega
   have f3:IntKind.i64.wrap ((i:Int)+1)=(i:Int)+1:=IntWalk.i64_in _ oM;have b8:((i+1:Nat):Int)=(i:Int)+1:=by push_cast;rfl
   rw[b8]at e4;clear b8;have g1:¬((cap:Int)+1<=(cap:Int)):=oM;have g0:(cap:Int)<(cap:Int)+1:=oM;have HF:=dH (And.intro H (And.intro b3 Y));simp only[Nat.add_sub_add_right]at b6;have h7:=dH e6;have g5:=dH (Keep.trans ((Keep.drew w2).mono sI) d5 (λy hy=>.inl hy):Keep [g2] w2 w3);clear H b3 d5 s N b2 a0 g3 f b4 c1 a8 r d2 d1 a5 a2 c7 d9 f0 e9 b9 c0 d8 d7 c8 e3 c3 b0 a4 M hz T b5 a1 f7 c9 f2 D I U e8 f1 h hq F Y;go_enter func236,ntmps236
   go_upto_region 10 with(at_builtin;refine Lib.wpList_append_run _ rfl _ _ _ _ rfl _ _ rfl rfl _ _ (E _) ?_)
   clear E;go_upto_region 11 with(at_builtin;refine wpList_copy_runI _ rfl _ _ 26 26 rfl _ _ rfl rfl (V _ _ _) ?_)
   clear V;refine kX [g2] w2 ?_;intro d3 hS;refine lQ ?_;intro K hK;have a3:Kp [g2] w2 w3:=g5.out;refine⟨a3,hK _ _ ?_⟩;clear hK K hS;have hS:=a3;refine wpLx_nil ?_;intro hS;clear hS a3 d3 b6;(go_wp2_with fail);go_ret;refine⟨_,_,rfl,by simpa using HF.out.1,HF.out.2.1.mono sI,λy hy=>.inr ?_⟩;have e:y=g2:=by simpa[blk]using hy
   rw[e,HF.out.2.2];exact lR
end
section
structure SlMap{κ:Type}(w:World)(b:Nat)(kv:κ->Value)(ok:κ->Prop)(M:List (κ×Sl))(f:κ->List Id32):Prop where
 map:∃es clk,MapAt w b kv slV ok M es clk
 own:∀q∈M,Own w 0 23 32 q.2.A q.2.n q.2.c ((f q.1).map idC)
 non:∀k,k∉M.map (·.1)->f k = []
 dis:M.Pairwise (λa c=>∀y∈blk a.2.A,y∉blk c.2.A)
def slF{κ:Type}(M:List (κ×Sl)):List Nat:=M.flatMap λq=>blk q.2.A
section
variable {κ:Type} {w w':World} {b:Nat} {kv:κ->Value} {ok:κ->Prop} {M:List (κ×Sl)} {f:κ->List Id32} {K:TypeId}
theorem SlMap.bnot(h:SlMap w b kv ok M f):b∉slF M:=λhb=>by
 obtain⟨q,hq,hy⟩:=mem_flatMap.1 hb;obtain⟨es,d,hm⟩:=h.map;obtain⟨⟨_,h2⟩,_,_⟩:=h.own q hq;rcases h2 with⟨e,_⟩ | ⟨g,c,cur,e,_,hg,_⟩
 ·injection e with e;rw[e]at hy;simp[blk]at hy
 ·injection e with e;rw[e]at hy
  have e2:b=g:=by simpa[blk]using hy
  rw[<-e2,hm.heap]at hg;cases hg
theorem SlMap.lt(h:SlMap w b kv ok M f):b<w.heap.size/\∀y∈slF M,y<w.heap.size:=by
 obtain⟨es,d,hm⟩:=h.map;refine⟨hm.lt,λy hy=>?_⟩;obtain⟨q,hq,hy⟩:=mem_flatMap.1 hy;exact((h.own q hq).at_base hy).2
theorem SlMap.kept{S:List Nat}(h:SlMap w b kv ok M f)(k:Keep S w w')(hb:b∉S)(hF:∀y∈slF M,y∉S):SlMap w' b kv ok M f:=by
 obtain⟨es,d,hm⟩:=h.map;exact⟨⟨es,d,hm.kept k hb⟩,λq hq=>(h.own q hq).kept k λy hy=>hF y (mem_flatMap.2 ⟨q,hq,hy⟩),h.non,h.dis⟩
theorem SlMap.congr{f':κ->List Id32}(h:SlMap w b kv ok M f)(e:∀k,f' k=f k):SlMap w b kv ok M f':=by
 have:f'=f:=funext e;rw[this];exact h
theorem SlMap.new(w:World)(b:Nat)(hb:b=w.heap.size):SlMap (w.alloc (.map #[] 0)) b kv ok [] (λ_=>[]) :=
 ⟨⟨_,_,MapAt.new w b hb⟩,sI,λ_ _=>rfl,Pairwise.nil⟩
theorem SlMap.get(h:SlMap w b kv ok M f)(E:KeyEnc prog K kv ok)(ht:prog.underlying T=some (.map K 26)){k:κ}(hk:ok k) :
  ∃s:Sl,(∀w2,Below w.heap.size w w2->(Instr.lookup T (.map (some b)) (kv k) false).run prog w2=.ok (slV s) w2)/\Own w 0 23 32 s.A s.n s.c ((f k).map idC)/\((k,s)∈M\/(k∉M.map (·.1)/\s=⟨none,0,0⟩)):=by
 obtain⟨es,d,hm⟩:=h.map;by_cases hx:k∈M.map (·.1)
 ·obtain⟨q,hq,rfl⟩:=mem_map.1 hx;exact⟨q.2,λw2 hb=>(hm.kept (Keep.of_below hb) sI).hit E ht hk hq false,h.own q hq,.inl hq⟩
 ·refine⟨⟨none,0,0⟩,λw2 hb=>(hm.kept (Keep.of_below hb) sI).miss E ht (zeroSlIds w2) hk hx false,?_,.inr ⟨hx,rfl⟩⟩;rw[h.non k hx];exact Own.nil _ _ _ _
theorem SlMap.put[DecidableEq κ](h:SlMap w b kv ok M f)(E:KeyEnc prog K kv ok)(ht:prog.underlying T=some (.map K 26)){k:κ}(hk:ok k){s s':Sl}{l:List Id32}{w1:World}(hs:(k,s)∈M\/(k∉M.map (·.1)/\s=⟨none,0,0⟩))
  (R:Keep (blk s.A) w w1)(ho:Own w1 0 23 32 s'.A s'.n s'.c (l.map idC))(hb:∀y∈blk s'.A,y∈blk s.A\/w.heap.size<=y) :
  ∃w2 M',(Instr.mapUpdate T (.map (some b)) (kv k) (slV s')).run prog w1=.ok () w2/\SlMap w2 b kv ok M' (λj=>if j=k then l else f j)/\Keep [b] w1 w2/\∀y∈slF M',y∈slF M\/w.heap.size<=y:=by
 have O:∀y∈blk s.A,y∈slF M:=λy hy=>by
  rcases hs with hs | ⟨_,e⟩
  ·exact mem_flatMap.2 ⟨_,hs,hy⟩
  ·rw[e]at hy;simp[blk]at hy
 have X:b∉blk s.A:=λhy=>h.bnot (O b hy);have N:b∉blk s'.A:=λhy=>by
  rcases hb b hy with h1 | h1
  ·exact X h1
  ·have:=h.lt.1;omega
 obtain⟨es,a3,hm⟩:=h.map;have a0:=hm.kept R X;obtain⟨w2,a2,a1,hr,U,J⟩:=a0.update E ht (k:=k) (v:=s') hk;have Z:(M.map (·.1)).Nodup:=hm.nodup;have D:∀q∈M,q.1≠k->∀y∈blk q.2.A,y∉blk s.A:=by
  intro q hq m y hy g;rcases hs with hs | ⟨_,e⟩
  ·have Y:q≠(k,s):=λe=>m (by rw[e]);obtain⟨i,hi,I⟩:=mem_iff_getElem.1 hq;obtain⟨j,hj,H⟩:=mem_iff_getElem.1 hs;rcases Nat.lt_trichotomy i j with G | G | G
   ·have:=pairwise_iff_getElem.1 h.dis i j hi hj G;rw[I,H]at this;exact this y hy g
   ·subst G;exact Y (by rw[<-I,<-H])
   ·have:=pairwise_iff_getElem.1 h.dis j i hj hi G;rw[I,H]at this;exact this y g hy
  ·rw[e]at g;simp[blk]at g
 have d:∀q∈M,q.1≠k->∀y∈blk q.2.A,y∉blk s'.A:=λq hq m y hy g=>by
  rcases hb y g with h1 | h1
  ·exact D q hq m y hy h1
  ·have:=((h.own q hq).at_base hy).2;omega
 have t:∀q∈M,q.1≠k->Own w2 0 23 32 q.2.A q.2.n q.2.c ((f q.1).map idC):=λq hq m =>
  ((h.own q hq).kept R (D q hq m)).kept J (λy hy hm=>h.bnot (mem_flatMap.2 ⟨q,hq,by have e:y=b:=(by simpa using hm);rw[<-e];exact hy⟩))
 have B:Own w2 0 23 32 s'.A s'.n s'.c (l.map idC):=ho.kept J (λy hy hm=>N (by have e:y=b:=(by simpa using hm);rw[<-e];exact hy));have F:∀q∈putL M k s',q=(k,s')\/(q∈M/\q.1≠k):=by
  intro q hq;unfold putL at hq;split at hq
  ·obtain⟨r,hr,rfl⟩:=mem_map.1 hq;by_cases e:r.1=k
   ·left;rw[if_pos e]
   ·right;rw[if_neg e];exact⟨hr,e⟩
  ·rename_i hno
   rcases mem_append.1 hq with h1 | h1
   ·exact .inr ⟨h1,λe=>hno (e ▸ mem_map_of_mem (f:=(·.1)) h1)⟩
   ·left;simpa using h1
 refine⟨w2,putL M k s',hr,⟨⟨_,_,U⟩,λq hq=>?_,λj hj=>?_,?_⟩,J,λy hy=>?_⟩
 ·rcases F q hq with e | ⟨h1,h2⟩
  ·subst e;simp only[if_pos];exact B
  ·rw[if_neg h2];exact t q h1 h2
 ·have V:j≠k:=λe=>hj (by
   subst e;unfold putL;split
   ·rename_i L
    rw[map_map];obtain⟨r,hr,e⟩:=mem_map.1 L;exact mem_map.2 ⟨r,hr,by simp[e]⟩
   ·simp)
  rw[if_neg V];refine h.non j λL=>hj ?_;obtain⟨r,hr,e⟩:=mem_map.1 L;unfold putL;split
  ·rw[map_map];exact mem_map.2 ⟨r,hr,by simp[e,V]⟩
  ·exact mem_map.2 ⟨r,mem_append_left _ hr,e⟩
 ·unfold putL;split
  ·rw[pairwise_map];refine(Pairwise.and_mem.1 (h.dis.and (show M.Pairwise (λa c=>a.1≠c.1)from pairwise_map.1 Z))).imp fun {a c} ⟨ha,hc,hac,m⟩=>?_;by_cases e1:a.1=k
   ·have e2:c.1≠k:=λe=>m (e1.trans e.symm);rw[if_pos e1,if_neg e2];exact λy hy g=>d c hc e2 y g hy
   ·rw[if_neg e1];by_cases e2:c.1=k
    ·rw[if_pos e2];exact d a ha e1
    ·rw[if_neg e2];exact hac
  ·rename_i hno
   refine pairwise_append.2 ⟨h.dis,sI,λa ha c hc=>?_⟩;have e:c=(k,s'):=by simpa using hc
   subst e;exact d a ha (λe=>hno (e ▸ mem_map_of_mem (f:=(·.1)) ha))
 ·obtain⟨q,hq,hy⟩:=mem_flatMap.1 hy;rcases F q hq with e | ⟨h1,h2⟩
  ·subst e;rcases hb y hy with h1 | h1
   ·exact .inl (O y h1)
   ·exact .inr h1
  ·exact .inl (mem_flatMap.2 ⟨q,h1,hy⟩)
end
end
def IsFn(f:FuncId):Prop:=∀(args:Array Value) (w:World),(callFunc f args).run prog w=.ok (.enter f args) w
def Tells(f:FuncId)(first caps:Array Value)(S:List Nat)(W:World)(p:Id32->Bool):Prop :=
 ∀(x:Id32) (w':World),Keep S W w'->Calls prog f (first.push (.agg (idC x))++caps) w' λe w''=>e=.returned (.bool (p x))/\Below w'.heap.size w' w''
theorem index_any(f:FuncId)(first g:Array Value)(H:IsFn f)(S:List Nat)(W:World)(p:Id32->Bool)(hp:Tells f first g S W p)(A:Option Addr)(n cap:Nat)(R:List Id32)(w:World)(hw:Keep S W w)(h:TagsIn w A n R)(hn:n<=1000000) :
  Calls prog 100 #[.slice A n cap,.func (.func f) first g] w λe w'=>∃j:Int,e=.returned (.int .i64 j)/\((j = -1/\∀x∈R,p x=false)\/∃i:Nat,j=i/\i<n/\(∀x∈R.take i,p x=false)/\∀hi:i<R.length,p (R[i])=true)/\Below w.heap.size w w':=by
 have G:R.length=n:=by simpa using h.1
 have Hp:=dH hp;have Hw:=dH hw;clear hp hw;go_enter func100,ntmps100
 (go_wp2_with fail);go_loopw [8] (λiv wr=>∃i:Nat,i<=n/\iv=.int .i64 i/\Hid (∀x∈R.take i,p x=false)/\Below w.heap.size w wr) (λiv _=>n-(intOf iv).toNat)
 case atStart=>exact⟨0,zL,rfl,(sI:∀x∈R.take 0,p x=false),Below.refl _ _⟩
 case round =>
  obtain⟨i,hi,rfl,s,hb⟩:=hrel;by_cases B:i<n
  ·obtain⟨q,o,rfl,r⟩:=TagsIn.get (SlR.below h hb) B oM;have m:R.take (i+1)=R.take i ++ [R[i]'oM]:=by rw[take_succ_eq_append_getElem oM]
   obtain⟨x,hx⟩:=eX (R[i]'oM)
   rw[hx]at r m;have I:=dH m;have Hx:=dH hx;have c1:=Hp.out x wr (Keep.trans Hw.out (Keep.of_below hb) sI);clear hx m;obtain⟨bb,t⟩:=eX (p x)
   rw[t]at c1;have F:=dH t;clear t;have hc:=H (first.push (.agg (idC x))++g);(go_wp2_with fail);refine c1.mono ?_;rintro e w1 ⟨rfl,E⟩;have D:=hb.trans (E.mono hb.size);clear c1 E hb;cases bb with
   | true =>
    (go_wp2_with fail);go_ret;exact⟨_,rfl,.inr ⟨i,rfl,B,s.out,λ_=>by rw[Hx.out];exact F.out⟩,D⟩
   | false =>
    have d:∀y∈R.take (i+1),p y=false:=by
     intro y hy;rw[I.out,mem_append,mem_singleton]at hy;rcases hy with hy | hy
     ·exact s.out y hy
     ·rw[hy];exact F.out
    have k:=dH d;clear d;(go_wp2_with fail);go_roundw
    case rel=>exact⟨i+1,oM,by go_num,k,D⟩
    case measure=>exact sZ
  ·have e2:R.take i=R:=take_of_length_le oM;have d:=s.out;rw[e2]at d;have k:=dH d;clear e2 d;(go_wp2_with fail);go_ret;exact⟨_,rfl,.inl ⟨rfl,k.out⟩,hb⟩
theorem contains_any(f:FuncId)(first d:Array Value)(k:IsFn f)(S:List Nat)(W:World)(p:Id32->Bool)(hp:Tells f first d S W p)(A:Option Addr)(n cap:Nat)(R:List Id32)(w:World)(hw:Keep S W w)(h:TagsIn w A n R)(hn:n<=1000000) :
  Calls prog 80 #[.slice A n cap,.func (.func f) first d] w λe w'=>e=.returned (.bool (R.any p))/\Below w.heap.size w w':=by
 have g:R.length=n:=by simpa using h.1
 have c2:=index_any f first d k S W p hp A n cap R w hw h hn;have Hl:=dH g;clear g hp k;go_enter func80,ntmps80
 (go_wp2_with fail);refine c2.mono ?_;rintro e w1 ⟨j,rfl,hj,m⟩;have Hj:=dH hj;clear c2 hj;(go_wp2_with fail);go_ret;refine⟨ret_bool ?_,m⟩;rcases Hj.out with⟨rfl,h1⟩ | ⟨i,rfl,h1,_,h2⟩
 ·rw[show R.any p=false by rw[any_eq_false];simpa using h1];rfl
 ·have hi:i<R.length:=oH Hl.out;rw[show R.any p=true from any_eq_true.2 ⟨_,getElem_mem hi,h2 hi⟩]
  simp
def Weighs(f:FuncId)(first caps:Array Value)(w:World)(t:Id32)(c:Id32->Int):Prop :=
 ∀(x:Id32) (w':World),Below w.heap.size w w'->Calls prog f (first++(#[.agg (idC x),.agg (idC t)]++caps)) w' λe w''=>e=.returned (.int .i64 (c x))/\Below w'.heap.size w' w''
theorem bsearch_any(f:FuncId)(first r:Array Value)(X:IsFn f)(c:Id32->Int)(t:Id32)(w:World)(hp:Weighs f first r w t c)(A:Option Addr)(n cap:Nat)(R:List Id32)(h:TagsIn w A n R)(hn:n<=1000000)
  (hm:∀a b (hb:b<R.length),(a9:a<b)->c R[b]<0->c (R[a]'oM)<0) :
  Calls prog 203 #[.slice A n cap,.agg (idC t),.func (.func f) first r] w λe w'=>∃(i:Nat) (b:Bool),e=.returned (.tuple #[.int .i64 i,.bool b])/\i<=n/\(∀k (hk:k<R.length),k<i->c R[k]<0)/\(∀k (hk:k<R.length),i<=k->0<=c R[k])/\(b=true↔∃hi:i<R.length,c R[i]=0)/\Below w.heap.size w w':=by
 have E:R.length=n:=by simpa using h.1
 have hB:Below w.heap.size w (w.alloc (.cells (idC t) 23)):=bA;have G:rowAt (w.alloc (.cells (idC t) 23)) w.heap.size 0 32=some (idC t):=by simp[go_sem]
 have h1:=SlR.below h hB;obtain⟨W,hW⟩:=eR (w.alloc (.cells (idC t) 23))
 obtain⟨ga,M⟩:=eX w.heap.size
 rw[<-hW]at hB G h1;have Hp:=dH hp;have Hm:=dH hm;have g:=dH E;have H1:=dH h1;have HB:=dH hB;have HW:=dH hW;have a1:=dH M;rw[M]at G;clear hp hm h h1 hB M;go_enter func203,ntmps203
 go_upto_region 3 with fail
 rw[<-hW,a1.out];clear hW E;go_loopw [9,10] (λiv jv wr=>∃i j:Nat,iv=.int .i64 i/\jv=.int .i64 j/\i<=j/\j<=n/\Hid (∀k (hk:k<R.length),k<i->c R[k]<0)/\Hid (∀k (hk:k<R.length),j<=k->0<=c R[k])/\Below W.heap.size W wr) (λiv jv _=>(intOf jv).toNat-(intOf iv).toNat)
 case atStart=>exact⟨0,n,rfl,rfl,zL,lR,(show ∀k (hk:k<R.length),k<0->c R[k]<0 from λk _ h=>absurd h (Nat.not_lt_zero _)),(show ∀k (hk:k<R.length),n<=k->0<=c R[k]from λk hk h=>oH g.out),Below.refl _ _⟩
 case round =>
  obtain⟨i,j,rfl,rfl,a4,I,H,L,hb⟩:=hrel;have m:rowAt wr ga 0 32=some (idC t):=((Keep.of_below hb).row (rowAt_lt G) sI _ _).trans G;by_cases a3:i<j
  ·obtain⟨h,hh⟩:=eX ((i+j) / 2)
   have a8:((i:Int)+(j:Int)) / 2=(h:Int):=oM;have a5:i<=h:=oM;have a7:h<j:=oM;have a6:h<n:=oM;have U:h<R.length:=oH g.out;have a2:IntKind.i64.wrap ((h:Int)+1)=(h:Int)+1:=IntWalk.i64_in _ oM;obtain⟨q,o,rfl,d⟩:=TagsIn.get (SlR.below H1.out hb) (i:=h) oM U;obtain⟨x,hx⟩:=eX (R[h])
   rw[hx]at d;have c1:=Hp.out x wr.drew (by have:=HB.out;exact(this.trans (hb.mono this.size)).drew);have hc:=X (first++(#[.agg (idC x),.agg (idC t)]++r));obtain⟨C,hC⟩:=eX (c x)
   rw[hC]at c1;have HC:=dH (show c R[h]=C by rw[hx];exact hC);have Hh:=dH hh;clear hx hC hh;go_upto_region 5 with fail
   refine lX wr ?_;intro B hS;have b1:=sub_row d;have b2:=sub_row m;refine lZ ?_;refine lC (c1) ?_;clear hS;intro w' hS;refine lZ ?_;refine wpLx_nil ?_;intro hS;have s:Below W.heap.size W w':=hb.trans (Below.mono (show Below wr.heap.size wr w' from hS) hb.size);clear B hS b1 b2 c1 hc d m hb;by_cases N:C<0
   ·have D:∀k (hk:k<R.length),k<h+1->c R[k]<0:=λk hk Y=>by
     rcases Nat.lt_or_ge k h with h1 | h1
     ·exact Hm.out k h (oH g.out) h1 (by rw[HC.out];exact N)
     ·obtain rfl:k=h:=oM;rw[HC.out];exact N
    have O:=dH D;clear D;(go_wp2_with fail);go_roundw
    case rel=>exact⟨h+1,j,by go_num,rfl,oM,I,O,L,s⟩
    case measure=>exact sZ
   ·have F:∀k (hk:k<R.length),h<=k->0<=c R[k]:=λk hk Y=>by
     rcases Nat.lt_or_ge h k with h1 | h1
     ·refine Classical.byContradiction λhn=>?_;have:=Hm.out h k hk h1 oM;rw[HC.out]at this;exact N this
     ·obtain rfl:k=h:=oM;rw[HC.out];omega
    have T:=dH F;clear F;(go_wp2_with fail);go_roundw
    case rel=>exact⟨i,h,rfl,rfl,oM,oM,H,T,s⟩
    case measure=>exact sZ
  ·obtain rfl:i=j:=oM;have y:Below w.heap.size w wr:=by have:=HB.out;exact this.trans (hb.mono this.size)
   by_cases V:i<n
   ·have Z:i<R.length:=oH g.out;have J:((i:Int)<(n:Int)):=oM;obtain⟨q,o,rfl,d⟩:=TagsIn.get (SlR.below H1.out hb) (i:=i) oM Z;obtain⟨x,hx⟩:=eX (R[i])
    rw[hx]at d;have c1:=Hp.out x wr.drew y.drew;have hc:=X (first++(#[.agg (idC x),.agg (idC t)]++r));obtain⟨C,hC⟩:=eX (c x)
    rw[hC]at c1;have HC:=dH (show c R[i]=C by rw[hx];exact hC);clear hx hC;go_upto_region 8 with fail
    refine lX wr ?_;intro B hS;have b1:=sub_row d;have b2:=sub_row m;refine lZ ?_;refine lC (c1) ?_;clear hS;intro w' hS;refine lZ ?_;refine wpLx_nil ?_;intro hS;have s:Below w.heap.size w w':=y.trans (Below.mono (show Below wr.heap.size wr w' from hS) y.size);clear B hS b1 b2 c1 hc d m hb y;(go_wp2_with fail);go_ret2;exact⟨i,decide (C=0),rfl,I,H.out,L.out,by rw[decide_eq_true_iff];exact⟨λh=>⟨oH g.out,by rw[HC.out];exact h⟩,fun ⟨_,h⟩=>by rw[HC.out]at h;exact h⟩,s⟩
   ·have J:¬((i:Int)<(n:Int)):=oM;go_upto_region 8 with fail
    refine lX wr ?_;intro B hS;refine lQ ?_;intro K hK;refine hK _ _ ?_;clear hK K;refine lZ ?_;refine wpLx_nil ?_;intro hS;have s:Below w.heap.size w wr.drew:=y.drew;have a0:=dH V;clear B hS m hb y V;(go_wp2_with fail);go_ret2;exact⟨i,.inl ⟨rfl,I,H.out,L.out,λh=>absurd h (by have:=g.out;have:=a0.out;omega),s⟩⟩
theorem set_app{T:List Id32}{i:Nat}(x:Id32)(hi:i<Q.length):(Q++T).set i x=Q.set i x++T:=set_append_left _ _ hi
theorem take_set_snoc{i:Nat}(x:Id32)(hi:i<Q.length):(Q.set i x ++ [x]).take (i+1)=Q.take i ++ [x]:=by
 rw[take_append_of_le_length sO,take_succ_eq_append_getElem (by simpa using hi),take_set_of_le lR]
 simp
theorem delete_any(f:FuncId)(first D:Array Value)(b0:IsFn f)(p:Id32->Bool)(w:World)(A:Option Addr)(hp:Tells f first D (blk A) w p)(B n cap:Nat)(R:List Id32)(h:Own w B 23 32 A n cap (R.map idC))(hn:n<=1000000) :
  Calls prog 51 #[.slice A n cap,.func (.func f) first D] w λe w'=>e=.returned (.slice A (R.filter λx=>!p x).length cap)/\Own w' B 23 32 A (R.filter λx=>!p x).length cap ((R.filter λx=>!p x).map idC)/\Keep (blk A) w w':=by
 have J:R.length=n:=by simpa using h.len
 have c1:=index_any f first D b0 (blk A) w p hp A n cap R w (Keep.refl _ _) h.slr hn;have Hp:=dH hp;have Hh:=dH h;obtain⟨Z,hZ⟩:∃Z,(R.filter λx=>!p x)=Z:=⟨_,rfl⟩
 rw[hZ];have HZ:=dH hZ;have Hl:=dH J;clear hp hZ;go_enter func51,ntmps51
 (go_wp2_with fail);refine c1.mono ?_;rintro e w1 ⟨j0,rfl,hj,G⟩;clear c1;rcases hj with⟨rfl,hall⟩ | ⟨i0,rfl,hi0,hpre,hat⟩
 ·have e:Z=R:=by rw[<-HZ.out];exact filter_eq_self.2 λx hx=>by rw[hall x hx];rfl
  have HF:=dH (And.intro (Hh.out.below G) (Keep.of_below G));have He:=dH e;clear hall e h G J;(go_wp2_with fail);go_ret;exact⟨by rw[He.out,Hl.out];rfl,by rw[He.out,Hl.out];exact HF.out.1,HF.out.2.mono sI⟩
 ·obtain⟨g,rfl⟩:∃g,A=some ⟨g,0,none⟩:=by
   rcases h.addr with e | e
   ·obtain⟨⟨_,h2⟩,_,_⟩:=h;rcases h2 with⟨_,h0⟩ | ⟨g,c,cur,hv,_⟩
    ·omega
    ·rw[e]at hv;cases hv
   ·exact e
  have b1:(R.take (i0+1)).take i0=(R.take (i0+1)).filter λx=>!p x:=by
   have M:i0<R.length:=oM;rw[take_take,Nat.min_eq_left oM,take_succ_eq_append_getElem M,filter_append];have e1:((R.take i0).filter λx=>!p x)=R.take i0:=filter_eq_self.2 λx hx=>(by rw[hpre x hx];rfl);have e2:([R[i0]].filter λx=>!p x) = []:=by rw[filter_cons,hat M];rfl
   rw[e1,e2,append_nil]
  have c5:=dH b1;have a7:Keep [g] w w1:=(Keep.of_below G).mono sI;have E:=Hh.out.below G;have c9:((i0:Int) == -1)=false:=by rw[beq_eq_false_iff_ne];omega
  have b6:IntKind.i64.wrap ((i0:Int)+1)=(i0:Int)+1:=IntWalk.i64_in _ oM;have HO:=dH E;have c6:=dH a7;clear b1 hpre hat h G E a7;(go_wp2_with fail);go_loopw [5,6] (λiv jv wr=>∃(i j:Nat) (Q:List Id32),iv=.int .i64 i/\jv=.int .i64 j/\Q.length=j/\i<j/\j<=n/\Hid (Q.take i=(R.take j).filter λx=>!p x)/\Own wr B 23 32 (some ⟨g,0,none⟩) n cap ((Q++R.drop j).map idC)/\Keep [g] w wr) (λ_ jv _=>n-(intOf jv).toNat)
  case atStart =>
   have M:i0<R.length:=oM;exact⟨i0,i0+1,R.take (i0+1),rfl,by go_num,by rw[length_take];omega,oM,oM,c5,by rw[take_append_drop];exact HO.out,c6.out⟩
  case round =>
   obtain⟨i,j,Q,rfl,rfl,a1,d2,d1,hQ,d,hk⟩:=hrel;have b6:IntKind.i64.wrap ((i:Int)+1)=(i:Int)+1:=IntWalk.i64_in _ oM;have c7:IntKind.i64.wrap ((j:Int)+1)=(j:Int)+1:=IntWalk.i64_in _ oM;by_cases M:j<n
   ·have a8:j<R.length:=oM;obtain⟨x,hx⟩:=eX (R[j])
    have L:R.drop j=x :: R.drop (j+1):=by rw[<-hx];exact drop_eq_getElem_cons a8
    have H:R.take (j+1)=R.take j ++ [x]:=by rw[<-hx];exact take_succ_eq_append_getElem a8
    have b8:rowAt wr g (j*32) 32=some (idC x):=by
     obtain⟨g',o',e,hr⟩:=d.slr.at_ (i:=j) oM;injection e with e;injection e with e1 e2
     subst e1;subst e2;rw[Nat.zero_add]at hr;rw[hr,getElem_map];congr 2
     rw[getElem_append_right oM];simp[a1,hx]
    have O:Below wr.heap.size wr (wr.alloc (.cells (idC x) 23)):=bA;have I:rowAt (wr.alloc (.cells (idC x) 23)) wr.heap.size 0 32=some (idC x):=by simp[go_sem]
    have b9:=(d.at_base (x:=g) (by simp[blk])).2;obtain⟨W1,a0⟩:=eR (wr.alloc (.cells (idC x) 23))
    obtain⟨gb,Y⟩:=eX wr.heap.size
    rw[<-a0]at O I;have F:Keep [g] w W1:=Keep.trans hk ((Keep.of_below O).mono sI) (λy hy=>.inl hy);have r:=d.below O;have c2:=Hp.out x W1 F;have hc:=b0 (first.push (.agg (idC x))++D);obtain⟨bb,U⟩:=eX (p x)
    rw[U]at c2;have c4:=dH a0;have d3:=dH Y;have b4:=dH L;have b2:=dH H;have b5:=dH U;rw[Y]at I b9;clear a0 hx L H U d hk O;go_upto_region 8 with fail
    rw[<-c4.out];clear Y;(go_wp2_with fail);refine c2.mono ?_;rintro e w2 ⟨rfl,N⟩;have a6:Keep [g] w w2:=Keep.trans F ((Keep.of_below N).mono sI) (λy hy=>.inl hy);have k:=r.below N;have V:rowAt w2 gb 0 32=some (idC x):=((Keep.of_below N).row (rowAt_lt I) sI _ _).trans I;clear c2 hc N r F I;cases bb with
    | true =>
     have HR:=dH (show Own w2 B 23 32 (some ⟨g,0,none⟩) n cap ((Q ++ [x]++R.drop (j+1)).map idC) by rw[append_assoc,singleton_append,<-b4.out];exact k);have a2:=dH (show(Q ++ [x]).take i=(R.take (j+1)).filter λx=>!p x by
      rw[take_append_of_le_length oM,hQ.out,b2.out,filter_append];simp[b5.out])
     clear k V;(go_wp2_with fail);go_roundw
     case rel=>exact⟨i,j+1,Q ++ [x],rfl,by go_num,by simp[a1],oM,oM,a2,HR.out,a6⟩
     case measure=>exact sZ
    | false =>
     obtain⟨w3,c8,t,a5⟩:=own_store einfoId k (i:=i) oM (idC_size x) (idC_one x);have HR:=dH (show Own w3 B 23 32 (some ⟨g,0,none⟩) n cap (((Q.set i x ++ [x])++R.drop (j+1)).map idC) by
      rw[<-map_set,set_app x oM]at t;rw[append_assoc,singleton_append,<-b4.out];exact t)
     have a2:=dH (show(Q.set i x ++ [x]).take (i+1)=(R.take (j+1)).filter λx=>!p x by
      rw[take_set_snoc x oM,hQ.out,b2.out,filter_append];simp[b5.out])
     have a3:Keep [g] w w3:=Keep.trans a6 a5 (λy hy=>.inl hy);have c3:=dH a3;clear k t a5 a3;(go_wp2_with fail);go_roundw
     case rel=>exact⟨i+1,j+1,Q.set i x ++ [x],by go_num,by go_num,by simp[a1],oM,oM,a2,HR.out,c3.out⟩
     case measure=>exact sZ
   ·have X:j=n:=oM;have L:R.drop j = []:=drop_of_length_le oM;have H:R.take j=R:=take_of_length_le oM;have T:=hQ.out;rw[H,HZ.out]at T;rw[L,append_nil]at d;obtain⟨A2,c2,b7,w8,c0,s,a4⟩:=own_clear einfoId (z:=.agg (idC id0)) kR (idC_one id0) d (m:=i) oM 0;rw[<-map_take,T]at s;have d0:=λw0=>SlW.lo (P:=prog) einfoId d.slw (m:=i) oM w0;have a9:Z.length=i:=by rw[<-T,length_take];omega
    have HF:=dH (And.intro s (Keep.trans hk a4 (λy hy=>.inl hy)));have b3:=dH a9;clear L H T d s a4 a9 hk X;(go_wp2_with fail);go_ret;exact⟨by rw[b3.out];rfl,by rw[b3.out];exact HF.out.1,by simpa[blk]using HF.out.2⟩
structure HdAt(w:World)(b g:Nat)(h:HdV)(A:Option Addr)(c:Nat):Prop where
 box:w.cell? ⟨b,0,none⟩=some (.pointer (some ⟨g,0,none⟩))
 row:rowAt w g 0 38=some (hdC (hdO h A c))
 ids:TagsIn w A h.ps.length h.ps
 len:h.ps.length<=1000000
 tps:h.tp.size<=9223372036854775807
theorem HdAt.below{w w':World}{b g:Nat}{h:HdV}{A:Option Addr}{c:Nat}(x:HdAt w b g h A c)(hb:Below w.heap.size w w'):HdAt w' b g h A c :=
 ⟨(hb.cell (p:=⟨b,0,none⟩) (block_lt_of_cell? w _ x.box)).trans x.box,(rowAt_of_block (hb.block g (rowAt_lt x.row)) _ _).trans x.row,SlR.below x.ids hb,x.len,x.tps⟩
theorem hr_3(w:World)(b g:Nat)(h:HdV)(A:Option Addr)(c:Nat)(hd:HdAt w b g h A c) :
  Calls prog 184 #[.pointer (some ⟨b,0,none⟩)] w λe w'=>e=.returned (.bool (decide (h.ht<1\/1073741824<h.ht)))/\Below w.heap.size w w':=by
 have xb:=hd.box;have x1:=rowAt_cell hd.row (j:=1) oM;simp only[hdC_g0,hdC_g1,hdC_g2,hdC_g3,hdC_g4,hdC_g5,Nat.zero_add,hdO]at x1;clear hd;by_cases a1:h.ht<1
 ·have hb:=dH (decide_eq_true (Or.inl a1:h.ht<1\/1073741824<h.ht));go_enter func184,ntmps184
  (go_wp2_with fail);go_ret;exact⟨ret_bool (by first | rfl | (rw[hb.out]) | (simp;omega)),Below.refl _ _⟩
 ·by_cases a2:1073741824<h.ht
  ·have hb:=dH (decide_eq_true (Or.inr a2:h.ht<1\/1073741824<h.ht));go_enter func184,ntmps184
   (go_wp2_with fail);go_ret;exact⟨ret_bool (by first | rfl | (rw[hb.out]) | (simp;omega)),Below.refl _ _⟩
  ·have hb:=dH (decide_eq_false (λh=>h.elim a1 a2:¬(h.ht<1\/1073741824<h.ht)));go_enter func184,ntmps184
   (go_wp2_with fail);go_ret;exact⟨ret_bool (by first | rfl | (rw[hb.out]) | (simp;omega)),Below.refl _ _⟩
theorem hr_6(w:World)(b g:Nat)(h:HdV)(A:Option Addr)(c:Nat)(hd:HdAt w b g h A c) :
  Calls prog 187 #[.pointer (some ⟨b,0,none⟩)] w λe w'=>e=.returned (.bool (decide (h.au<0\/255<h.au)))/\Below w.heap.size w w':=by
 have xb:=hd.box;have x1:=rowAt_cell hd.row (j:=3) oM;simp only[hdC_g0,hdC_g1,hdC_g2,hdC_g3,hdC_g4,hdC_g5,Nat.zero_add,hdO]at x1;clear hd;by_cases a1:h.au<0
 ·have hb:=dH (decide_eq_true (Or.inl a1:h.au<0\/255<h.au));go_enter func187,ntmps187
  (go_wp2_with fail);go_ret;exact⟨ret_bool (by first | rfl | (rw[hb.out]) | (simp;omega)),Below.refl _ _⟩
 ·by_cases a2:255<h.au
  ·have hb:=dH (decide_eq_true (Or.inr a2:h.au<0\/255<h.au));go_enter func187,ntmps187
   (go_wp2_with fail);go_ret;exact⟨ret_bool (by first | rfl | (rw[hb.out]) | (simp;omega)),Below.refl _ _⟩
  ·have hb:=dH (decide_eq_false (λh=>h.elim a1 a2:¬(h.au<0\/255<h.au)));go_enter func187,ntmps187
   (go_wp2_with fail);go_ret;exact⟨ret_bool (by first | rfl | (rw[hb.out]) | (simp;omega)),Below.refl _ _⟩
theorem hr_7(w:World)(b g:Nat)(h:HdV)(A:Option Addr)(c:Nat)(hd:HdAt w b g h A c) :
  Calls prog 188 #[.pointer (some ⟨b,0,none⟩)] w λe w'=>e=.returned (.bool (decide (h.sq<1\/1073741824<h.sq)))/\Below w.heap.size w w':=by
 have xb:=hd.box;have x1:=rowAt_cell hd.row (j:=4) oM;simp only[hdC_g0,hdC_g1,hdC_g2,hdC_g3,hdC_g4,hdC_g5,Nat.zero_add,hdO]at x1;clear hd;by_cases a1:h.sq<1
 ·have hb:=dH (decide_eq_true (Or.inl a1:h.sq<1\/1073741824<h.sq));go_enter func188,ntmps188
  (go_wp2_with fail);go_ret;exact⟨ret_bool (by first | rfl | (rw[hb.out]) | (simp;omega)),Below.refl _ _⟩
 ·by_cases a2:1073741824<h.sq
  ·have hb:=dH (decide_eq_true (Or.inr a2:h.sq<1\/1073741824<h.sq));go_enter func188,ntmps188
   (go_wp2_with fail);go_ret;exact⟨ret_bool (by first | rfl | (rw[hb.out]) | (simp;omega)),Below.refl _ _⟩
  ·have hb:=dH (decide_eq_false (λh=>h.elim a1 a2:¬(h.sq<1\/1073741824<h.sq)));go_enter func188,ntmps188
   (go_wp2_with fail);go_ret;exact⟨ret_bool (by first | rfl | (rw[hb.out]) | (simp;omega)),Below.refl _ _⟩
theorem hr_8(w:World)(b g:Nat)(h:HdV)(A:Option Addr)(c:Nat)(hd:HdAt w b g h A c) :
  Calls prog 189 #[.pointer (some ⟨b,0,none⟩)] w λe w'=>e=.returned (.bool (decide (h.sz<1\/512<h.sz)))/\Below w.heap.size w w':=by
 have xb:=hd.box;have x1:=rowAt_cell hd.row (j:=5) oM;simp only[hdC_g0,hdC_g1,hdC_g2,hdC_g3,hdC_g4,hdC_g5,Nat.zero_add,hdO]at x1;clear hd;by_cases a1:h.sz<1
 ·have hb:=dH (decide_eq_true (Or.inl a1:h.sz<1\/512<h.sz));go_enter func189,ntmps189
  (go_wp2_with fail);go_ret;exact⟨ret_bool (by first | rfl | (rw[hb.out]) | (simp;omega)),Below.refl _ _⟩
 ·by_cases a2:512<h.sz
  ·have hb:=dH (decide_eq_true (Or.inr a2:h.sz<1\/512<h.sz));go_enter func189,ntmps189
   (go_wp2_with fail);go_ret;exact⟨ret_bool (by first | rfl | (rw[hb.out]) | (simp;omega)),Below.refl _ _⟩
  ·have hb:=dH (decide_eq_false (λh=>h.elim a1 a2:¬(h.sz<1\/512<h.sz)));go_enter func189,ntmps189
   (go_wp2_with fail);go_ret;exact⟨ret_bool (by first | rfl | (rw[hb.out]) | (simp;omega)),Below.refl _ _⟩
theorem hr_1(w:World)(b g:Nat)(h:HdV)(A:Option Addr)(c:Nat)(hd:HdAt w b g h A c) :
  Calls prog 182 #[.pointer (some ⟨b,0,none⟩)] w λe w'=>e=.returned (.bool (decide (4<h.ps.length)))/\Below w.heap.size w w':=by
 have xb:=hd.box;have x0:=rowAt_cell hd.row (j:=0) oM;simp only[hdC_g0,Nat.zero_add,hdO]at x0;have e:decide ((4:Int)<(h.ps.length:Int))=decide (4<h.ps.length):=by rw[decide_eq_decide];omega
 have E:=dH e;clear hd e;go_enter func182,ntmps182
 (go_wp2_with fail);go_ret;exact⟨ret_bool (by first | exact E.out | (rw[<-E.out];rfl)),Below.refl _ _⟩
theorem hr_2(w:World)(b g:Nat)(h:HdV)(A:Option Addr)(c:Nat)(hd:HdAt w b g h A c) :
  Calls prog 183 #[.pointer (some ⟨b,0,none⟩)] w λe w'=>e=.returned (.bool (!risI h.ps))/\Below w.heap.size w w':=by
 have xb:=hd.box;have x0:=rowAt_cell hd.row (j:=0) oM;simp only[hdC_g0,Nat.zero_add,hdO]at x0;have ci:=is_ids w A h.ps.length c h.ps hd.ids (oH hd.len);obtain⟨r,hr⟩:=eX (risI h.ps)
 rw[hr]at ci |-;clear hd hr;go_enter func183,ntmps183
 (go_wp2_with fail);refine ci.mono ?_;rintro e w2 ⟨rfl,hb⟩;(go_wp2_with fail);go_ret;exact⟨rfl,hb⟩
theorem hr_4(w:World)(b g:Nat)(h:HdV)(A:Option Addr)(c:Nat)(hd:HdAt w b g h A c) :
  Calls prog 185 #[.pointer (some ⟨b,0,none⟩)] w λe w'=>e=.returned (.bool ((h.ps.length==0) != (h.ht==1)))/\Below w.heap.size w w':=by
 have xb:=hd.box;have x0:=rowAt_cell hd.row (j:=0) oM;have x1:=rowAt_cell hd.row (j:=1) oM;simp only[hdC_g0,hdC_g1,Nat.zero_add,hdO]at x0 x1;have e:((h.ps.length:Int)==0)=(h.ps.length==0):=by rw[Bool.eq_iff_iff];simp
 obtain⟨p,hp⟩:∃p:Bool,(h.ps.length==0)=p:=⟨_,rfl⟩
 obtain⟨q,hq⟩:∃q:Bool,(h.ht==1)=q:=⟨_,rfl⟩
 rw[hp]at e |-;rw[hq];clear hd hp;go_enter func185,ntmps185
 go_upto_region 1 with fail
 refine lX w ?_;intro d hS;have c0:=sub_cell xb;have c1:=sub_cell x0;have c2:=sub_cell x1;refine lZ ?_;refine wpLx_nil ?_;intro hS;have f:Below w.heap.size w w.drew:=hS;clear hS d c0 c1 c2;(go_wp2_with fail);go_ret;exact⟨ret_bool (by cases p <;> cases q <;> rfl),f⟩
theorem hr_5(w:World)(b g:Nat)(h:HdV)(A:Option Addr)(c:Nat)(hd:HdAt w b g h A c) :
  Calls prog 186 #[.pointer (some ⟨b,0,none⟩)] w λe w'=>e=.returned (.bool (decide (checkB h.tp≠0)))/\Below w.heap.size w w':=by
 have xb:=hd.box;have x2:=rowAt_cell hd.row (j:=2) oM;simp only[hdC_g2,Nat.zero_add,hdO]at x2;have ci:=check_any h.tp w hd.tps;obtain⟨r,hr⟩:=eX (checkB h.tp)
 rw[hr]at ci |-;have e:(r != 0)=decide (r≠0):=by rw[Bool.eq_iff_iff];simp
 have E:=dH e;clear hd hr e;go_enter func186,ntmps186
 (go_wp2_with fail);refine ci.mono ?_;rintro e w2 ⟨rfl,hb⟩;(go_wp2_with fail);go_ret;exact⟨ret_bool (by first | exact E.out | (rw[<-E.out];rfl)),hb⟩
def ruleF(k:Nat):FuncId:=[182,183,184,185,186,187,188,189].getD k 0
def ruleE(k:Nat):Int:=[6,4,12,12,9,5,5,5].getD k 0
def ruleB(h:HdV)(k:Nat):Bool:=[decide (4<h.ps.length),!risI h.ps,decide (h.ht<1\/1073741824<h.ht),(h.ps.length==0) != (h.ht==1),decide (checkB h.tp≠0),decide (h.au<0\/255<h.au),decide (h.sq<1\/1073741824<h.sq),decide (h.sz<1\/512<h.sz)].getD k false
theorem rule_any(w:World)(b g:Nat)(h:HdV)(A:Option Addr)(c:Nat)(hd:HdAt w b g h A c)(k:Nat)(hk:k<8) :
  Calls prog (ruleF k) #[.pointer (some ⟨b,0,none⟩)] w λe w'=>e=.returned (.bool (ruleB h k))/\Below w.heap.size w w':=by
 have h8:k=0\/k=1\/k=2\/k=3\/k=4\/k=5\/k=6\/k=7:=oM;rcases h8 with rfl | rfl | rfl | rfl | rfl | rfl | rfl | rfl
 ·exact hr_1 w b g h A c hd
 ·exact hr_2 w b g h A c hd
 ·exact hr_3 w b g h A c hd
 ·exact hr_4 w b g h A c hd
 ·exact hr_5 w b g h A c hd
 ·exact hr_6 w b g h A c hd
 ·exact hr_7 w b g h A c hd
 ·exact hr_8 w b g h A c hd
def firstHE(h:HdV):Nat->Int
 | 0=>0
 | n+1=>if ruleB h (7-n)=true then ruleE (7-n)else firstHE h n
theorem firstHE_all(h:HdV):firstHE h 8=hdE h:=by
 have e:firstHE h 8=if decide (4<h.ps.length)=true then(6:Int)else if(!risI h.ps)=true then 4 else if decide (h.ht<1\/1073741824<h.ht)=true then 12
  else if((h.ps.length==0) != (h.ht==1))=true then 12 else if decide (checkB h.tp≠0)=true then 9 else if decide (h.au<0\/255<h.au)=true then 5
  else if decide (h.sq<1\/1073741824<h.sq)=true then 5 else if decide (h.sz<1\/512<h.sz)=true then 5 else 0:=rfl
 rw[e];unfold hdE;simp only[decide_eq_true_eq,Bool.not_eq_true']
theorem firstHE_step(h:HdV)(hk:k<8):firstHE h (8-k)=if ruleB h k=true then ruleE k else firstHE h (8-(k+1)):=by
 obtain⟨n,hn⟩:∃n,8-k=n+1:=⟨7-k,oM⟩
 rw[hn,firstHE,(oM:7-n=k),(oM:8-(k+1)=n)]
def ruleC(b k:Nat):Array Value:=#[.func (.func (ruleF k)) #[] #[.pointer (some ⟨b,0,none⟩)],.int .i64 (ruleE k)]
def rulesC(b:Nat):Array Value:=#[.func (.func 182) #[] #[.pointer (some ⟨b,0,none⟩)],.int .i64 6,.func (.func 183) #[] #[.pointer (some ⟨b,0,none⟩)],.int .i64 4,.func (.func 184) #[] #[.pointer (some ⟨b,0,none⟩)],.int .i64 12,.func (.func 185) #[] #[.pointer (some ⟨b,0,none⟩)],.int .i64 12,.func (.func 186) #[] #[.pointer (some ⟨b,0,none⟩)],.int .i64 9,.func (.func 187) #[] #[.pointer (some ⟨b,0,none⟩)],.int .i64 5,.func (.func 188) #[] #[.pointer (some ⟨b,0,none⟩)],.int .i64 5,.func (.func 189) #[] #[.pointer (some ⟨b,0,none⟩)],.int .i64 5]
theorem rulesC_row(b k:Nat)(hk:k<8):(rulesC b).extract (k*2) (k*2+2)=ruleC b k:=by
 have h8:k=0\/k=1\/k=2\/k=3\/k=4\/k=5\/k=6\/k=7:=oM;rcases h8 with rfl | rfl | rfl | rfl | rfl | rfl | rfl | rfl <;> (simp[rulesC,ruleC,ruleF,ruleE])
theorem rules_any(w:World)(q:Addr) :
  Calls prog 118 #[.pointer (some q)] w λe w'=>e=.returned (.slice (some ⟨w.heap.size+1,0,none⟩) 8 8)/\w'=(w.alloc (.cells #[.pointer (some q)] 160)).alloc (.cells (rulesC w.heap.size) 162):=by
 go_enter func118,ntmps118
 (go_wp2_with fail);go_ret;exact⟨rfl,by unfold rulesC;rfl⟩
theorem call_rule0(args:Array Value)(w:World):∀k,k<8->(callFunc (ruleF k) args).run prog w=.ok (.enter (ruleF k) args) w
 | 0,_=>by kernel_rfl
 | 1,_=>by kernel_rfl
 | 2,_=>by kernel_rfl
 | 3,_=>by kernel_rfl
 | 4,_=>by kernel_rfl
 | 5,_=>by kernel_rfl
 | 6,_=>by kernel_rfl
 | 7,_=>by kernel_rfl
 | k+8,h=>absurd h oM
theorem call_rule(k:Nat)(hk:k<8)(args:Array Value)(w:World):(callFunc (ruleF k) args).run prog w=.ok (.enter (ruleF k) args) w:=call_rule0 args w k hk
theorem infoRu:(prog.info? 162).map (·.size)=some 2:=kR
@[go_sem ↓] theorem loadRu_rw(a:Addr):loadVar 162 a=ldS 162 a:=rfl
@[go_sem ↓] theorem storeRu_rw(a:Addr)(v:Value):storeVar 162 a v=stS 162 a v:=rfl
@[go_sem] theorem loadRu_run(w:World)(g o:Nat):(ldS 162 ⟨g,o,none⟩).run prog w=match rowAt w g o 2 with | some cs=>.ok (.agg cs) w | none=>(loadVar 162 ⟨g,o,none⟩).run prog w :=
 run_ldS underlying162 rfl infoRu w g o
@[go_sem] theorem storeRu_run(w:World)(g:Nat)(hg:g=w.heap.size)(z:Array Value)(hz:z.size=2)(b k:Nat)(e:TypeId):(stS 162 ⟨g,0,none⟩ (.agg (ruleC b k))).run prog (w.alloc (.cells z e))=.ok () (w.alloc (.cells (ruleC b k) e)) :=
 hg ▸ run_stS_new infoRu w z (ruleC b k) hz rfl (by intro u hu;simp[ruleC]at hu;rcases hu with rfl | rfl <;> rfl)
theorem hd_check(w:World)(h:HdV)(A:Option Addr)(c:Nat)(hT:TagsIn w A h.ps.length h.ps)(hn:h.ps.length<=1000000)(ht:h.tp.size<=9223372036854775807) :
  Calls prog 65 #[.agg (hdC (hdO h A c))] w λe w'=>e=.returned (.int .i64 (hdE h))/\Below w.heap.size w w':=by
 have hB:Below w.heap.size w (w.alloc (.cells (hdC (hdO h A c)) 49)):=bA;have hr:rowAt (w.alloc (.cells (hdC (hdO h A c)) 49)) w.heap.size 0 38=some (hdC (hdO h A c)):=by simp[go_sem]
 have R:=SlR.below hT hB;have cr:=rules_any (w.alloc (.cells (hdC (hdO h A c)) 49)) ⟨w.heap.size,0,none⟩;rw[(sI:(w.alloc (.cells (hdC (hdO h A c)) 49)).heap.size=w.heap.size+1)]at cr;go_enter func65,ntmps65
 go_wp2_with fail
 go_step3
 go_wp2_with fail
 go_step3
 (go_wp2_with fail);refine cr.mono ?_;rintro e w1 ⟨rfl,rfl⟩;clear cr;go_upto_region 3 with fail
 obtain⟨g,hg⟩:=eX w.heap.size
 have Hg:=dH hg;obtain⟨W,hW⟩:=eR (((w.alloc (.cells (hdC (hdO h A c)) 49)).alloc (.cells #[.pointer (some ⟨w.heap.size,0,none⟩)] 160)).alloc (.cells (rulesC (w.heap.size+1)) 162))
 have y:Below (w.alloc (.cells (hdC (hdO h A c)) 49)).heap.size (w.alloc (.cells (hdC (hdO h A c)) 49)) W:=by rw[hW];exact(bA).alloc sI _
 have d:∀k,k<8->rowAt W (g+1+1) (k*2) 2=some (ruleC (g+1) k):=λk hk=>by
  have hn:=heap_alloc_new ((w.alloc (.cells (hdC (hdO h A c)) 49)).alloc (.cells #[.pointer (some ⟨w.heap.size,0,none⟩)] 160)) (.cells (rulesC (w.heap.size+1)) 162);rw[(sI:((w.alloc (.cells (hdC (hdO h A c)) 49)).alloc (.cells #[.pointer (some ⟨w.heap.size,0,none⟩)] 160)).heap.size=w.heap.size+1+1),<-hW,hg]at hn;unfold rowAt;rw[hn];simp only;rw[if_pos (by show k*2+2<=16;omega),rulesC_row _ _ hk]
 have m:W.cell? ⟨g+1,0,none⟩=some (.pointer (some ⟨g,0,none⟩)):=by
  have hn:=heap_alloc_new (w.alloc (.cells (hdC (hdO h A c)) 49)) (.cells #[.pointer (some ⟨w.heap.size,0,none⟩)] 160);rw[(sI:(w.alloc (.cells (hdC (hdO h A c)) 49)).heap.size=w.heap.size+1)]at hn;have D:=(Below.heap_alloc ((w.alloc (.cells (hdC (hdO h A c)) 49)).alloc (.cells #[.pointer (some ⟨w.heap.size,0,none⟩)] 160)) (.cells (rulesC (w.heap.size+1)) 162) (w.heap.size+1) sI).trans hn;rw[<-hW]at D;rw[hg]at D;rw[cell_of_row W (g+1) 0 _ _ _ D];rfl
 have hd:HdAt W (g+1) g h A c:=⟨m,by rw[hg]at hr;exact(rowAt_of_block (y.block g sO) _ _).trans hr,SlR.below R y,hn,ht⟩
 have T:Below g w W:=by rw[<-hg];exact hB.trans (y.mono sI)
 have N:g+1+1<W.heap.size:=rowAt_lt (d 0 oM);rw[<-hW];simp only[hg];clear hW hr R hB y m hT hg;obtain⟨b,hb⟩:=eX (g+1)
 obtain⟨gr,M⟩:=eX (b+1)
 simp only[hb,M]at d hd N |-;have a1:g<b:=oM;have a2:b<gr:=oM;have HE:=dH (firstHE_all h);clear hb M;go_loopw [3,5,8] (λev _ n wr=>∃k:Nat,k<=8/\n=.int .i64 k/\ev=.int .i64 0/\Hid (hdE h=firstHE h (8-k))/\Below W.heap.size W wr) (λ_ _ n _=>8-(intOf n).toNat)
 case atStart=>exact⟨0,oM,rfl,rfl,(show _=_ from HE.out.symm),Below.refl _ _⟩
 case round =>
  obtain⟨k,hk,rfl,rfl,hE,j⟩:=hrel;by_cases s:k<8
  ·have r:=hE.out;rw[firstHE_step h s]at r;have X:=(rowAt_of_block (j.block gr N) (k*2) 2).trans (d k s);have F:Below wr.heap.size wr (wr.alloc (.cells (ruleC b k) 162)):=bA;have O:=(hd.below j).below F;have cr:=rule_any _ b g h A c O k s;obtain⟨B,hB⟩:=eX (ruleB h k)
   obtain⟨E,I⟩:=eX (ruleE k)
   have Z:(wr.alloc (.cells (ruleC b k) 162)).cell? ⟨wr.heap.size,0,none⟩=some (.func (.func (ruleF k)) #[] #[.pointer (some ⟨b,0,none⟩)]):=by simp[go_sem,ruleC]
   have L:(wr.alloc (.cells (ruleC b k) 162)).cell? ⟨wr.heap.size,1,none⟩=some (.int .i64 E):=by simp[go_sem,ruleC,I]
   rw[hB]at cr r;rw[I]at r;have V:=dH r;have U:=call_rule k s #[.pointer (some ⟨b,0,none⟩)] (wr.alloc (.cells (ruleC b k) 162));clear r hB I hE;(go_wp2_with fail);refine cr.mono ?_;rintro e w5 ⟨rfl,H⟩;have Y:=(H.cell (p:=⟨wr.heap.size,1,none⟩) sI).trans L;have G:Below W.heap.size W w5:=bel2 (bel2 j F) H;clear cr U Z L X O F H j;cases B with
   | true =>
    have f:hdE h=E:=by rw[V.out,if_pos rfl]
    have J:=dH f;have t:Below g w w5:=T.trans (G.mono oM);have a0:=dH t;clear f t G;(go_wp2_with fail);rw[Exit.noGoto_ret];go_ret;exact⟨ret_int J.out.symm,by rw[Hg.out];exact a0.out⟩
   | false =>
    have f:Hid (hdE h=firstHE h (8-(k+1))):=(show _=_ by rw[V.out,if_neg sI])
    (go_wp2_with fail);go_roundw
    case rel=>exact⟨k+1,oM,by go_num,rfl,f,G⟩
    case measure=>exact sZ
  ·have f:hdE h=0:=by rw[hE.out,(oM:8-k=0)];rfl
   have J:=dH f;have t:Below g w wr:=T.trans (j.mono oM);clear f;(go_wp2_with fail);rw[Exit.noGoto_ret];go_ret;exact⟨ret_int J.out.symm,by rw[Hg.out];exact t⟩







theorem beL_size(m n:Nat):(⟨(beL m n).toArray⟩:ByteArray).size=m:=by
 show(beL m n).toArray.size=m;simp[beL_length]
theorem checkB_size{s:ByteArray}(h:checkB s=0):s.size<=12:=by
 by_cases hf:formedB s=true
 ·exact(formedB_size hf).2
 ·have h1:kindB s=0:=if_neg hf;have h2:checkB s=9:=if_pos h1;rw[h2]at h;exact absurd h (by decide)
theorem hd_put(w:World)(h:HdV)(A:Option Addr)(c:Nat)(hT:TagsIn w A h.ps.length h.ps)(hn:h.ps.length<=1000000)(ht:h.tp.size<=9223372036854775807) :
  Calls prog 27 #[.agg (hdC (hdO h A c))] w λe w'=>∃s:ByteArray,e=.returned (.tuple #[.string s,.int .i64 (hdE h)])/\(hdE h=0->s.data.toList=hdB h)/\Below w.heap.size w w':=by
 have hB:Below w.heap.size w (w.alloc (.cells (hdC (hdO h A c)) 49)):=bA;have hr:rowAt (w.alloc (.cells (hdC (hdO h A c)) 49)) w.heap.size 0 38=some (hdC (hdO h A c)):=by simp[go_sem]
 have b7:=SlR.below hT hB;have cc:=hd_check _ h A c b7 hn ht;obtain⟨E,hE⟩:=eX (hdE h)
 rw[hE]at cc |-;have HE:=dH hE;obtain⟨W,hW⟩:=eR (w.alloc (.cells (hdC (hdO h A c)) 49))
 rw[<-hW]at hB hr b7 cc;have HW:=dH hW;obtain⟨g,hg⟩:=eX w.heap.size
 have Hg:=dH hg;have h3:g<W.heap.size:=by rw[hW,<-hg];simp
 rw[hg]at hB hr;clear hE hW hT;go_enter func27,ntmps27
 go_upto_region 1 with fail
 rw[<-HW.out];clear hg;(go_wp2_with fail);refine cc.mono ?_;rintro e w2 ⟨rfl,d6⟩;have d8:Below g w w2:=hB.trans (d6.mono oM);clear cc;by_cases h0:E=0
 ·subst h0;have L:=hdE_ok HE.out;have d1:=(rowAt_of_block (d6.block g h3) 0 38).trans hr;have b6:=SlR.below b7 d6;have f4:g<w2.heap.size:=rowAt_lt d1;obtain⟨H,hH⟩:∃H:Nat,h.ht=H:=⟨h.ht.toNat,oH L.ht⟩
  obtain⟨au,d7⟩:∃au:Nat,h.au=au:=⟨h.au.toNat,oH L.au⟩
  obtain⟨sq,d0⟩:∃sq:Nat,h.sq=sq:=⟨h.sq.toNat,oH L.sq⟩
  obtain⟨sz,c9⟩:∃sz:Nat,h.sz=sz:=⟨h.sz.toNat,oH L.sz⟩
  have i5:=checkB_size L.tp;have g9:=L.ps;have b1:H<256 ^ 4:=oH L.ht;have b3:au<256 ^ 1:=oH L.au;have b4:sq<256 ^ 4:=oH L.sq;have b5:sz<256 ^ 2:=oH L.sz;have f6:hdB h=beL 1 h.ps.length++h.ps.flatMap Id32.l++beL 4 H++beL 1 h.tp.size++h.tp.data.toList++beL 1 au++beL 4 sq++beL 2 sz++h.cm.l:=by
   unfold hdB;rw[hH,d7,d0,c9];rfl
  have g6:=dH f6;have cl:∀(w':World),w'.heap[g]?=w2.heap[g]?->w'.cell? ⟨g,0,none⟩=some (.slice A h.ps.length c)/\w'.cell? ⟨g,1,none⟩=some (.int .i64 H)/\w'.cell? ⟨g,2,none⟩=some (.string h.tp)/\w'.cell? ⟨g,3,none⟩=some (.int .i64 au)/\w'.cell? ⟨g,4,none⟩=some (.int .i64 sq)/\w'.cell? ⟨g,5,none⟩=some (.int .i64 sz)/\rowAt w' g 6 32=some (idC h.cm):=λw' hw=>by
   have X:=(rowAt_of_block hw 0 38).trans d1;have x0:=rowAt_cell X (j:=0) oM;have x1:=rowAt_cell X (j:=1) oM;have x2:=rowAt_cell X (j:=2) oM;have x3:=rowAt_cell X (j:=3) oM;have x4:=rowAt_cell X (j:=4) oM;have x5:=rowAt_cell X (j:=5) oM;have x6:=rowAt_sub X (j:=6) (m:=32) oM;simp only[hdC_g0,hdC_g1,hdC_g2,hdC_g3,hdC_g4,hdC_g5,Nat.zero_add]at x0 x1 x2 x3 x4 x5 x6;rw[hdC_e6]at x6;simp only[hdO,hH,d7,d0,c9]at x0 x1 x2 x3 x4 x5 x6;exact⟨x0,x1,x2,x3,x4,x5,x6⟩
  have c6:=dH cl;obtain⟨x0,_⟩:=cl w2 rfl;obtain⟨S,g0⟩:=eX h.ps
  rw[g0]at b6 x0 g9 g6 c6;clear cl f6 d1 hH d7 d0 c9 L g0 hr b7;go_upto_region 4 with fail
  refine lX w2 ?_;intro a3 hS;have c0:=sub_cell x0;refine lQ ?_;intro K hK;refine(wnew _).mono ?_;rintro e w3 ⟨rfl,e8,f8⟩;have h6:=hS.size;replace hS:=bel_next hS f8;refine⟨_,rfl,hS,hK _ _ ?_⟩;clear hK K;refine lQ ?_;intro K hK;refine(wnum _ _ _ _ _ _ e8 S.length 1 oM oM sI).mono ?_;rintro e W3 ⟨rfl,AW,a8,c7,f0,a0⟩;simp only[nil_append]at c7;have I:WrAt W3 (w2.heap.size+1) w2.heap.size AW a8 (beL 1 S.length):=c7;have a4:Keep [] w2 w3:=Keep.of_below hS;have F:Below w2.heap.size w2 W3:=(hS:Below w2.heap.size w2 w3).trans (f0.below a4.size (by show ∀x∈w2.heap.size :: blk none,_;simp[blk]));refine⟨_,rfl,F,hK _ _ ?_⟩;clear hK K;refine lZ ?_;refine wpLx_nil ?_;intro hS;clear a3 hS c0 e8 f8 f0 a4 h6 c7;obtain⟨gw,d2⟩:=eX w2.heap.size
  have d9:∀x∈blk AW,gw<x:=λx hx=>(oH ((I.own.at_base hx).1));have g5:Below g w W3:=d8.trans (F.mono oM);have d4:=F.block g f4;have h4:=SlR.below b6 F;have f9:∀x∈blk A,x<gw\/S.length=0:=λx hx=>by
   by_cases h0:S.length=0
   ·exact .inr h0
   ·left
    obtain⟨q,o,rfl,hq⟩:=TagsIn.get b6 (i:=0) oM oM;simp[blk]at hx;subst hx;have:=rowAt_lt hq;omega
  have i1:=dH f9;have i6:g<gw:=oM;rw[d2]at I F;simp only[d2];have h2:gw<W3.heap.size:=I.lt;clear d2 f9 b6 d8 f4 F a0;obtain⟨_,_,_⟩:=c6.out W3 d4;go_upto_region 6 with fail
  go_loopw [7,21] (λ_ i wr=>∃k:Nat,k<=S.length/\i=.int .i64 (k:Nat)/\WStep W3 (gw+1) gw AW (beL 1 S.length++(S.take k).flatMap Id32.l) wr) (λ_ i _=>S.length-(intOf i).toNat)
  case atStart=>exact⟨0,zL,rfl,AW,a8,by simpa using I,Keep.refl _ _,λx hx=>.inl hx⟩
  case round =>
   clear I;obtain⟨k,hk,rfl,A4,a9,O,U,J⟩:=hrel;by_cases b0:k<S.length
   ·have a6:∀x∈blk A,x∉gw :: blk AW:=λx hx=>by
     have h1:=i1.out x hx;simp only[mem_cons,not_or];exact⟨oM,λhy=>oH (d9 x hy)⟩
    have g1:=h4.kept U a6;obtain⟨q,o,rfl,hr⟩:=TagsIn.get g1 b0 b0;have c8:(S.take (k+1)).flatMap Id32.l=(S.take k).flatMap Id32.l++(S[k]).l:=by rw[take_add_one,getElem?_eq_getElem b0,flatMap_append];simp only[Option.toList_some,flatMap_cons,flatMap_nil,append_nil]
    have b2:=flatMap_len Id32.l 32 (S.take k) (λx hx=>by rw[x.h];exact lR);have e9:(S.take k).length=k:=sO;rw[e9]at b2;obtain⟨x,hx⟩:=eX (S[k]'b0)
    rw[hx]at hr c8;have h9:=dH c8;clear hx c8 g1 e9 a6;have d5:(beL 1 S.length++(S.take k).flatMap Id32.l).length<=300000000:=by rw[length_append,beL_length];omega
    obtain⟨h8,Y⟩:=eX (beL 1 S.length++(S.take k).flatMap Id32.l)
    have e6:=dH Y;rw[Y]at O d5;clear Y b2;have f7:Below wr.heap.size wr (wr.alloc (.cells (idC x) 23)):=bA;have R:=O.below f7;have Z:Keep [] wr (wr.alloc (.cells (idC x) 23)):=Keep.alloc _ _;have a7:rowAt (wr.alloc (.cells (idC x) 23)) wr.heap.size 0 32=some (idC x):=by simp[go_sem]
    have N:∀c,(convert 103 9 (.slice (some ⟨wr.heap.size,0,none⟩) 32 c)).run prog (wr.alloc (.cells (idC x) 23))=.ok (.string ⟨x.l.toArray⟩) (wr.alloc (.cells (idC x) 23)):=λc=>id_string a7;have e3:(⟨x.l.toArray⟩:ByteArray).size=32:=by show x.l.toArray.size=32;simp[x.h]
    have e4:(⟨x.l.toArray⟩:ByteArray).data.toList=x.l:=sI;have cw:=wraw _ (gw+1) gw A4 a9 h8 R ⟨x.l.toArray⟩ (by rw[e3];omega);rw[e4]at cw;clear e3 e4 a7;(go_wp2_with fail);refine cw.mono ?_;rintro e w6 ⟨rfl,t⟩;have V:=wstep_trans O U J (wstep_trans R (Z.mono (S':=gw :: blk A4) sI) iL t);rw[<-e6.out,append_assoc,<-h9.out]at V;have i0:=dH V;clear t V N cw f7 R Z O U J;(go_wp2_with fail);go_roundw
    case rel=>exact⟨k+1,oM,by go_num,i0.out⟩
    case measure=>exact sZ
   ·have f1:S.take k=S:=take_of_length_le oM;rw[f1]at O;obtain⟨P0,b9⟩:=eX (beL 1 S.length++S.flatMap Id32.l)
    have b2:=flatMap_len Id32.l 32 S (λx hx=>by rw[x.h];exact lR);have i7:P0.length<=200:=by rw[<-b9,length_append,beL_length];omega
    rw[b9]at O;have i3:=dH b9;have e2:∀x∈blk A4,gw<x:=λx hx=>(oH ((O.own.at_base hx).1));have f3:g∉gw :: blk AW:=by
     simp only[mem_cons,not_or];exact⟨oM,λhy=>oH (d9 g hy)⟩
    have T:g∉gw :: blk A4:=by
     simp only[mem_cons,not_or];exact⟨oM,λhy=>oH (e2 g hy)⟩
    have d3:=(U.block g oM f3).trans d4;have g4:Below g w wr:=g5.trans (U.below (B:=g) oM (λx hx=>by
     rcases mem_cons.1 hx with rfl | hx
     ·omega
     ·have:=d9 x hx;omega))
    have g7:gw<wr.heap.size:=O.lt;obtain⟨_,x1,x2,_⟩:=c6.out wr d3;have e1:h.tp.data.toList.length=h.tp.size:=Array.length_toList;have E1:=dH e1;clear f1 b9 b2 e1 U J d4 g5 f3;go_upto_region 10 with fail
    have t:WStep wr (gw+1) gw A4 P0 wr.drew:=⟨A4,a9,O.kept (Keep.drew wr) sI sI,(Keep.drew wr).mono sI,λx hx=>.inl hx⟩
    refine kX (gw :: blk A4) wr ?_;intro a3 hS;have c1:=ksub_cell x1 T;have c2:=ksub_cell x2 T;refine lQ ?_;intro K hK;obtain⟨Ai,G,r,D,d⟩:=t;refine(wnum _ _ _ _ _ _ r H 4 oM b1 oM).mono ?_;rintro e w' ⟨rfl,f⟩;replace t:=wstep_trans r D d f;have hS:=t.choose_spec.choose_spec.2.1;refine⟨_,rfl,hS,hK _ _ ?_⟩;clear hK K r D d f;refine lQ ?_;intro K hK;obtain⟨Ai,G,r,D,d⟩:=t;refine(wnum _ _ _ _ _ _ r h.tp.size 1 oM oM (by rw[length_append,beL_length];omega)).mono ?_;rintro e w' ⟨rfl,f⟩;replace t:=wstep_trans r D d f;have hS:=t.choose_spec.choose_spec.2.1;refine⟨_,rfl,hS,hK _ _ ?_⟩;clear hK K r D d f;refine lQ ?_;intro K hK;obtain⟨Ai,G,r,D,d⟩:=t;refine(wraw _ _ _ _ _ _ r h.tp (by simp only[length_append,beL_length];omega)).mono ?_;rintro e w' ⟨rfl,f⟩;replace t:=wstep_trans r D d f;have hS:=t.choose_spec.choose_spec.2.1;refine⟨_,rfl,hS,hK _ _ ?_⟩;clear hK K r D d f;refine lZ ?_;refine wpLx_nil ?_;intro hS;obtain⟨A5,e5,R,Z,a2⟩:=t;obtain⟨w5,rfl⟩:∃w5,w5=w':=⟨w',rfl⟩
    have a5:=(Z.block g oM T).trans d3;have g3:Below g w w5:=g4.trans (Z.below (B:=g) oM (λx hx=>by
     rcases mem_cons.1 hx with rfl | hx
     ·omega
     ·have:=e2 x hx;omega))
    obtain⟨_,_,_,x3,x4,x5,x6⟩:=c6.out w5 a5;obtain⟨P1,b8⟩:=eX (P0++beL 4 H++beL 1 h.tp.size++h.tp.data.toList)
    have h5:P1.length<=300:=by rw[<-b8];simp only[length_append,beL_length];have:=E1.out;omega
    rw[b8]at R;have i2:=dH b8;have e0:∀x∈blk A5,gw<x:=λx hx=>(oH ((R.own.at_base hx).1));have M:g∉gw :: blk A5:=by
     simp only[mem_cons,not_or];exact⟨oM,λhy=>oH (e0 g hy)⟩
    have g8:gw<w5.heap.size:=R.lt;clear b8 a3 hS c1 c2 Z a2 d3 g4 O e2 T x1 x2;go_upto_region 11 with fail
    have N:∀(y:Subtype (Kp (gw :: blk A5) w5)) c,(convert 103 9 (.slice (some ⟨g,6,none⟩) 32 c)).run prog y.1=.ok (.string ⟨h.cm.l.toArray⟩) y.1:=λy c=>id_string (ksub_row x6 M y);have e3:(⟨h.cm.l.toArray⟩:ByteArray).size=32:=by show h.cm.l.toArray.size=32;simp[h.cm.h]
    have e4:(⟨h.cm.l.toArray⟩:ByteArray).data.toList=h.cm.l:=sI;have E3:=dH e3;have E4:=dH e4;clear e3 e4;have t:WStep w5 (gw+1) gw A5 P1 w5.drew:=⟨A5,e5,R.kept (Keep.drew w5) sI sI,(Keep.drew w5).mono sI,λx hx=>.inl hx⟩
    refine kX (gw :: blk A5) w5 ?_;intro a3 hS;have c3:=ksub_cell x3 M;have c4:=ksub_cell x4 M;have c5:=ksub_cell x5 M;refine lQ ?_;intro K hK;obtain⟨Ai,G,r,D,d⟩:=t;refine(wnum _ _ _ _ _ _ r au 1 oM b3 oM).mono ?_;rintro e w' ⟨rfl,f⟩;replace t:=wstep_trans r D d f;have hS:=t.choose_spec.choose_spec.2.1;refine⟨_,rfl,hS,hK _ _ ?_⟩;clear hK K r D d f;refine lQ ?_;intro K hK;obtain⟨Ai,G,r,D,d⟩:=t;refine(wnum _ _ _ _ _ _ r sq 4 oM b4 (by rw[length_append,beL_length];omega)).mono ?_;rintro e w' ⟨rfl,f⟩;replace t:=wstep_trans r D d f;have hS:=t.choose_spec.choose_spec.2.1;refine⟨_,rfl,hS,hK _ _ ?_⟩;clear hK K r D d f;refine lQ ?_;intro K hK;obtain⟨Ai,G,r,D,d⟩:=t;refine(wnum _ _ _ _ _ _ r sz 2 oM b5 (by simp only[length_append,beL_length];omega)).mono ?_;rintro e w' ⟨rfl,f⟩;replace t:=wstep_trans r D d f;have hS:=t.choose_spec.choose_spec.2.1;refine⟨_,rfl,hS,hK _ _ ?_⟩;clear hK K r D d f;refine lQ ?_;intro K hK;obtain⟨Ai,G,r,D,d⟩:=t;refine(wraw _ _ _ _ _ _ r ⟨h.cm.l.toArray⟩ (by rw[E3.out];simp only[length_append,beL_length];omega)).mono ?_;rintro e w' ⟨rfl,f⟩;replace t:=wstep_trans r D d f;have hS:=t.choose_spec.choose_spec.2.1;refine⟨_,rfl,hS,hK _ _ ?_⟩;clear hK K r D d f;refine lZ ?_;refine wpLx_nil ?_;intro hS;obtain⟨A6,h7,e7,f2,a1⟩:=t;obtain⟨w6,rfl⟩:∃w6,w6=w':=⟨w',rfl⟩
    have g2:Below g w w6:=g3.trans (f2.below (B:=g) oM (λx hx=>by
     rcases mem_cons.1 hx with rfl | hx
     ·omega
     ·have:=e0 x hx;omega))
    have f5:P1++beL 1 au++beL 4 sq++beL 2 sz++(⟨h.cm.l.toArray⟩:ByteArray).data.toList=hdB h:=by
     rw[g6.out,E4.out,<-i2.out,<-i3.out]
    rw[f5]at e7;have i4:=dH g2;clear a3 hS c3 c4 c5 f2 a1 a5 g3 R e0 M x3 x4 x5 x6 N f5 g2;(go_wp2_with fail);refine(wdone _ _ _ _ _ _ e7).mono ?_;rintro e w7 ⟨rfl,rfl⟩;(go_wp2_with fail);go_ret2;refine⟨_,rfl,?_,by rw[Hg.out];exact i4.out⟩;first | trivial | rfl | simp
 ·have hb:(E != 0)=true:=by rw[bne_iff_ne];exact h0
  have H0:=dH h0;clear h0;(go_wp2_with fail);go_ret2;exact⟨⟨#[]⟩,rfl,λh=>absurd h H0.out,by rw[Hg.out];exact d8⟩
theorem hd_ident(w:World)(h:HdV)(A:Option Addr)(c:Nat)(hv:ShaVars w)(hT:TagsIn w A h.ps.length h.ps)(hn:h.ps.length<=1000000)(ht:h.tp.size<=9223372036854775807) :
  Calls prog 63 #[.agg (hdC (hdO h A c))] w λe w'=>e=.returned (.tuple #[.agg (idC (hdI h)),.int .i64 (hdE h)])/\Below w.heap.size w w':=by
 have hB:Below w.heap.size w ((w.alloc (.cells (hdC (hdO h A c)) 49)).alloc (.cells (idC id0) 23)):=(bA).alloc sI _;have hr:rowAt ((w.alloc (.cells (hdC (hdO h A c)) 49)).alloc (.cells (idC id0) 23)) w.heap.size 0 38=some (hdC (hdO h A c)):=by
  rw[rowAt_of_block (Below.heap_alloc _ _ _ sI)];simp[go_sem]
 have hid:=heap_alloc_new (w.alloc (.cells (hdC (hdO h A c)) 49)) (.cells (idC id0) 23);rw[(sI:(w.alloc (.cells (hdC (hdO h A c)) 49)).heap.size=w.heap.size+1)]at hid;have cp:=hd_put _ h A c (SlR.below hT hB) hn ht;have y:=hv.below hB;obtain⟨W,hW⟩:=eR ((w.alloc (.cells (hdC (hdO h A c)) 49)).alloc (.cells (idC id0) 23))
 rw[<-hW]at hB hr hid cp y;have HW:=dH hW;obtain⟨g,hg⟩:=eX w.heap.size
 have Hg:=dH hg;have O:g+1<W.heap.size:=by rw[hW,<-hg];simp
 rw[hg]at hB hr hid;obtain⟨E,hE⟩:=eX (hdE h)
 have hI:hdI h=if E=0 then shaI (hdB h)else id0:=by rw[<-hE];rfl
 have D:E=0->(hdB h).length<=1000000:=λe0=>by
  have J:=hdE_ok (hE.trans e0);have h1:=checkB_size J.tp;have h2:=J.ps;have h3:=flatMap_len Id32.l 32 h.ps (λx hx=>by rw[x.h];exact lR);have h4:h.tp.data.toList.length=h.tp.size:=Array.length_toList;have h5:(h.ps.flatMap (·.l)).length<=h.ps.length*32:=h3;unfold hdB;simp only[length_append,beL_length,h4,h.cm.h];omega
 rw[hE]at cp;obtain⟨I,F⟩:=eX (hdI h)
 rw[F]at hI;rw[F,hE];have HI:=dH hI;clear hW hT hE hI F hv;go_enter func63,ntmps63
 go_upto_region 1 with fail
 rw[<-HW.out];clear hg;(go_wp2_with fail);refine cp.mono ?_;rintro e w2 ⟨s,rfl,hs,m⟩;have d:=(m.block (g+1) O).trans hid;have t:Below g w w2:=hB.trans (m.mono oM);have R:g+1<w2.heap.size:=oH m.size;have L:=y.below m;clear cp hr hid m y;by_cases h0:E=0
 ·have T:(E != 0)=false:=by rw[bne_eq_false_iff_eq];exact h0
  have B:=hs h0;have N:s.size<=1000000:=by have h1:=D h0;rw[<-B]at h1;exact h1
  have cs:=sha_sum w2 s L N;rw[B]at cs;have G:Hid (I=shaI (hdB h)):=(show _=_ by rw[HI.out,if_pos h0])
  have H0:=dH h0;clear hs B h0 D;(go_wp2_with fail);refine cs.mono ?_;rintro e w3 ⟨rfl,r⟩;have f:=(r.block (g+1) R).trans d;have M:=run_stS_at (P:=prog) infoId w3 (g+1) (idC id0) (idC (shaI (hdB h))) _ f sI sI (idC_one _);have j:=dH (setRow_heap w3 (g+1) _ (idC (shaI (hdB h))) _ _ f);have hk:Keep [g+1] w3 (w3.setRow (g+1) (idC (shaI (hdB h)))):=⟨rfl,rfl,rfl,by simp[setRow],λx _ hx=>setRow_other w3 (g+1) x _ (by simpa using hx)⟩
  have k:Below g w (w3.setRow (g+1) (idC (shaI (hdB h)))):=(t.trans (r.mono oM)).trans (hk.below (oH r.size) sI);have H:=dH k;clear hk k f d r t cs;(go_wp2_with fail);refine bodyPost_ret (results_ct results63 _ _ (g+1) 23 (idC (shaI (hdB h))) (0,0) _ rfl j.out underlying23 rfl (by rw[idC_size];exact infoId)) rfl ?_;exact⟨by rw[G.out,H0.out];rfl,by rw[Hg.out];exact H.out⟩
 ·have T:(E != 0)=true:=by rw[bne_iff_ne];exact h0
  have G:Hid (I=id0):=(show _=_ by rw[HI.out,if_neg h0])
  have M:=run_stS_at (P:=prog) infoId w2 (g+1) (idC id0) (idC id0) _ d sI sI (idC_one _);have j:=dH (setRow_heap w2 (g+1) _ (idC id0) _ _ d);have hk:Keep [g+1] w2 (w2.setRow (g+1) (idC id0)):=⟨rfl,rfl,rfl,by simp[setRow],λx _ hx=>setRow_other w2 (g+1) x _ (by simpa using hx)⟩
  have k:Below g w (w2.setRow (g+1) (idC id0)):=t.trans (hk.below oM sI);have H:=dH k;clear hk k d t hs h0 D;(go_wp2_with fail);refine bodyPost_ret (results_ct results63 _ _ (g+1) 23 (idC id0) (0,0) _ rfl j.out underlying23 rfl (by rw[idC_size];exact infoId)) rfl ?_;exact⟨by rw[G.out];rfl,by rw[Hg.out];exact H.out⟩
structure HdIn where
 h:HdV
 A:Option Addr
 c:Nat
abbrev hdR(x:HdIn):Array Value:=hdC (hdO x.h x.A x.c)
abbrev hdVA(x:HdIn):Value:=.agg (hdR x)
section
abbrev okStr(k:ByteArray):Prop:=k.size<=maxLen
def psF(N:List (Id32×HdIn)):List Nat:=N.flatMap λp=>blk p.2.A
abbrev dagC(bh bp bt bc:Nat):Array Value:=#[.map (some bh),.map (some bp),.map (some bt),.map (some bc)]
structure DagIn(w:World)(g:Nat)(D:List HdX)(bh bp bt bc:Nat)(N:List (Id32×HdIn))(Tm:List (ByteArray×Sl))(Cm:List (Id32×Sl)):Prop where
 heap:w.heap[g]?=some (.cells (dagC bh bp bt bc) 223 (0,0))
 hs:∃es clk,MapAt w bh idV hdVA okId N es clk
 perm:(N.map λp=>(⟨p.1,p.2.h⟩:HdX)).Perm D
 ps:∀p∈N,Own w 0 23 32 p.2.A p.2.h.ps.length p.2.c (p.2.h.ps.map idC)
 par:IdSet w bp (parX D)
 tm:SlMap w bt Value.string okStr Tm (tpsX D)
 cm:SlMap w bc idV okId Cm (cmsX D)
 ne:[bh,bp,bt,bc].Nodup
 dis:(∀y∈psF N,y∉slF Tm/\y∉slF Cm)/\∀y∈slF Tm,y∉slF Cm
structure DagH(w:World)(g:Nat)(D:List HdX)(bh bp bt bc:Nat)(N:List (Id32×HdIn)):Prop where
 heap:w.heap[g]?=some (.cells (dagC bh bp bt bc) 223 (0,0))
 hs:∃es clk,MapAt w bh idV hdVA okId N es clk
 perm:(N.map λp=>(⟨p.1,p.2.h⟩:HdX)).Perm D
def DagHs(w:World)(g:Nat)(D:List HdX):Prop:=∃bh bp bt bc N,DagH w g D bh bp bt bc N
def DagAt(w:World)(g:Nat)(F:List Nat)(D:List HdX):Prop :=
 ∃bh bp bt bc N Tm Cm,DagIn w g D bh bp bt bc N Tm Cm/\F=g :: bh :: bp :: bt :: bc :: (psF N++slF Tm++slF Cm)
section
variable {w w':World} {g:Nat} {F:List Nat} {D:List HdX} {bh bp bt bc:Nat} {N:List (Id32×HdIn)} {Tm:List (ByteArray×Sl)} {Cm:List (Id32×Sl)}
theorem own_cells{B n cap y:Nat}{E:TypeId}(h:Own w B E k A n cap L)(hy:y∈blk A):∃cur,w.heap[y]?=some (.cells cur E (0,0)):=by
 obtain⟨⟨_,h2⟩,_,_⟩:=h;rcases h2 with⟨e,_⟩ | ⟨g,c,cur,e,_,hg,_⟩
 ·injection e with e;rw[e]at hy;simp[blk]at hy
 ·injection e with e;rw[e]at hy
  have e2:y=g:=by simpa[blk]using hy
  exact⟨cur,by rw[e2];exact hg⟩
theorem idset_heap{b:Nat}{L:List Id32}(h:IdSet w b L):∃es d,w.heap[b]?=some (.map es d):=by
 obtain⟨M,es,d,hm,_⟩:=h;exact⟨es,d,hm.heap⟩
theorem DagIn.kinds(h:DagIn w g D bh bp bt bc N Tm Cm):(∀y,y=bh\/y=bp\/y=bt\/y=bc->∃es clk,w.heap[y]?=some (.map es clk))/\∀y∈psF N++slF Tm++slF Cm,∃cur,w.heap[y]?=some (.cells cur 23 (0,0)):=by
 obtain⟨e1,c1,m1⟩:=h.hs;obtain⟨e3,c3,m3⟩:=h.tm.map;obtain⟨e4,c4,m4⟩:=h.cm.map;refine⟨?_,λy hy=>?_⟩
 ·rintro y (rfl | rfl | rfl | rfl)
  ·exact⟨_,_,m1.heap⟩
  ·exact idset_heap h.par
  ·exact⟨_,_,m3.heap⟩
  ·exact⟨_,_,m4.heap⟩
 ·rcases mem_append.1 hy with hy | hy
  ·rcases mem_append.1 hy with hy | hy
   ·obtain⟨q,hq,hy⟩:=mem_flatMap.1 hy;exact own_cells (h.ps q hq) hy
   ·obtain⟨q,hq,hy⟩:=mem_flatMap.1 hy;exact own_cells (h.tm.own q hq) hy
  ·obtain⟨q,hq,hy⟩:=mem_flatMap.1 hy;exact own_cells (h.cm.own q hq) hy
theorem DagIn.kept{S:List Nat}(h:DagIn w g D bh bp bt bc N Tm Cm)(k:Keep S w w')(hF:∀x∈g :: bh :: bp :: bt :: bc :: (psF N++slF Tm++slF Cm),x∉S):DagIn w' g D bh bp bt bc N Tm Cm:=by
 obtain⟨es,d,hm⟩:=h.hs;simp only[mem_cons,mem_append]at hF;exact⟨(k.block g (aG h.heap).1 (hF g (.inl rfl))).trans h.heap,⟨es,d,hm.kept k (hF bh sI)⟩,h.perm,λp hp=>(h.ps p hp).kept k λy hy=>hF y (.inr (.inr (.inr (.inr (.inr (.inl (.inl (mem_flatMap.2 ⟨p,hp,hy⟩)))))))),
  h.par.kept k (hF bp sI),h.tm.kept k (hF bt sI) λy hy=>hF y (.inr (.inr (.inr (.inr (.inr (.inl (.inr hy))))))),h.cm.kept k (hF bc sI) λy hy=>hF y (.inr (.inr (.inr (.inr (.inr (.inr hy)))))),h.ne,h.dis⟩
theorem DagIn.lt(h:DagIn w g D bh bp bt bc N Tm Cm):∀x∈g :: bh :: bp :: bt :: bc :: (psF N++slF Tm++slF Cm),x<w.heap.size:=by
 obtain⟨h1,h2⟩:=h.kinds;intro x hx;rcases mem_cons.1 hx with e | hx
 ·rw[e];exact(aG h.heap).1
 have d:∀y,y=bh\/y=bp\/y=bt\/y=bc->y<w.heap.size:=λy hy=>(by obtain⟨_,_,hh⟩:=h1 y hy;exact(aG hh).1);simp only[mem_cons]at hx;rcases hx with e | e | e | e | hx
 ·exact d x (.inl e)
 ·exact d x (.inr (.inl e))
 ·exact d x (.inr (.inr (.inl e)))
 ·exact d x (.inr (.inr (.inr e)))
 ·obtain⟨_,hh⟩:=h2 x hx;exact(aG hh).1
theorem DagAt.kept{S:List Nat}(h:DagAt w g F D)(k:Keep S w w')(hF:∀x∈F,x∉S):DagAt w' g F D:=by
 obtain⟨bh,bp,bt,bc,N,Tm,Cm,h,rfl⟩:=h;exact⟨bh,bp,bt,bc,N,Tm,Cm,h.kept k hF,rfl⟩
theorem DagAt.below(h:DagAt w g F D)(k:Below w.heap.size w w'):DagAt w' g F D:=h.kept (Keep.of_below k) sI
theorem DagAt.lt(h:DagAt w g F D):∀x∈F,x<w.heap.size:=by
 obtain⟨bh,bp,bt,bc,N,Tm,Cm,h,rfl⟩:=h;exact h.lt
theorem zeroHdV(w:World):(zeroValue 49).run prog w=.ok (.agg (hdC hd0)) w:=zeroHd_run w
theorem DagIn.toH(h:DagIn w g D bh bp bt bc N Tm Cm):DagH w g D bh bp bt bc N:=⟨h.heap,h.hs,h.perm⟩
theorem DagH.kept{S:List Nat}(h:DagH w g D bh bp bt bc N)(k:Keep S w w')(h1:g∉S)(h2:bh∉S):DagH w' g D bh bp bt bc N:=by
 obtain⟨es,d,hm⟩:=h.hs;exact⟨(k.block g (aG h.heap).1 h1).trans h.heap,⟨es,d,hm.kept k h2⟩,h.perm⟩
theorem DagH.below(h:DagH w g D bh bp bt bc N)(hb:Below w.heap.size w w'):DagH w' g D bh bp bt bc N:=h.kept (Keep.of_below hb) sI sI
theorem DagHs.below(h:DagHs w g D)(hb:Below w.heap.size w w'):DagHs w' g D:=by
 obtain⟨bh,bp,bt,bc,N,h⟩:=h;exact⟨bh,bp,bt,bc,N,h.below hb⟩
theorem DagH.look(h:DagH w g D bh bp bt bc N)(hn:(idsX D).Nodup)(a:Id32) :
  (∃x:HdIn,(a,x)∈N/\hdOf D a=some x.h/\∀w2,Below w.heap.size w w2->∀cm,(Instr.lookup 219 (.map (some bh)) (.agg (idC a)) cm).run prog w2=.ok (if cm then .tuple #[.agg (hdR x),.bool true]else .agg (hdR x)) w2) \/
  (hdOf D a=none/\∀w2,Below w.heap.size w w2->∀cm,(Instr.lookup 219 (.map (some bh)) (.agg (idC a)) cm).run prog w2=.ok (if cm then .tuple #[.agg (hdC hd0),.bool false]else .agg (hdC hd0)) w2):=by
 obtain⟨es,f,hm⟩:=h.hs;by_cases hx:a∈N.map (·.1)
 ·obtain⟨q,hq,rfl⟩:=mem_map.1 hx;refine .inl ⟨q.2,hq,hdOf_mem (x:=⟨q.1,q.2.h⟩) hn (h.perm.mem_iff.1 (mem_map.2 ⟨q,hq,rfl⟩)),λw2 hb cm=>(hm.kept (Keep.of_below hb) sI).hit idKey underlying219 trivial hq cm⟩
 ·refine .inr ⟨hdOf_none.2 λd=>hx ?_,λw2 hb cm=>(hm.kept (Keep.of_below hb) sI).miss idKey underlying219 (zeroHdV w2) trivial hx cm⟩;have:=(h.perm.map (·.id)).mem_iff.2 d;rw[map_map]at this;exact this
theorem DagIn.look(h:DagIn w g D bh bp bt bc N Tm Cm)(hn:(idsX D).Nodup)(a:Id32) :
  (∃x:HdIn,(a,x)∈N/\hdOf D a=some x.h/\∀w2,Below w.heap.size w w2->∀cm,(Instr.lookup 219 (.map (some bh)) (.agg (idC a)) cm).run prog w2=.ok (if cm then .tuple #[.agg (hdR x),.bool true]else .agg (hdR x)) w2) \/
  (hdOf D a=none/\∀w2,Below w.heap.size w w2->∀cm,(Instr.lookup 219 (.map (some bh)) (.agg (idC a)) cm).run prog w2=.ok (if cm then .tuple #[.agg (hdC hd0),.bool false]else .agg (hdC hd0)) w2):=h.toH.look hn a
theorem ord_ahead(f:Id32->Int)(a b:Id32):ordX f a b=if aheadB (f a) a (f b) b then -1 else if aheadB (f b) b (f a) a then 1 else 0:=by
 rw[aheadB_ord,aheadB_ord];have h1:=(totX f).anti a b;have h2:ordX f a b = -1\/ordX f a b=0\/ordX f a b=1:=by
  unfold ordX orC;split
  ·exact cmpId_range a b
  ·exact cmpI_range _ _
 rcases h2 with h2 | h2 | h2
 ·rw[if_pos (by simp[h2]),h2]
 ·rw[if_neg (by simp[h2]),if_neg (by simp[h1,h2]),h2]
 ·rw[if_neg (by simp[h2]),if_pos (by simp[h1,h2]),h2]
end
theorem dag_none(w:World)(g b:Nat)(h:w.cell? ⟨g,0,none⟩=some (.map (some b))):Calls prog 170 #[.pointer (some ⟨g,0,none⟩)] w λe w'=>e=.returned (.bool false)/\w=w':=by
 have hn:=λr=>run_eql_map_nil (P:=prog) w 219 23 49 r underlying219;go_enter func170,ntmps170
 (go_wp2_with fail);go_ret;exact⟨rfl,rfl⟩
end
theorem DagH.lookHt{bh bp bt bc:Nat}{N:List (Id32×HdIn)}(h:DagH w g D bh bp bt bc N)(hn:(idsX D).Nodup)(a:Id32) :
  ∃v,(∀w2,Below w.heap.size w w2->(Instr.lookup 219 (.map (some bh)) (.agg (idC a)) false).run prog w2=.ok v w2)/\∀w2,(Instr.field 49 v 1).run prog w2=.ok (.int .i64 (htX D a)) w2:=by
 rcases h.look hn a with⟨x,_,he,hl⟩ | ⟨he,hl⟩
 ·exact⟨_,λw2 hb=>hl w2 hb false,λw2=>by
   have e:htX D a=x.h.ht:=by unfold htX;rw[he]
   rw[e];exact fieldHd_1 _ w2⟩
 ·exact⟨_,λw2 hb=>hl w2 hb false,λw2=>by
   have e:htX D a=0:=by unfold htX;rw[he]
   rw[e];exact fieldHd_1 _ w2⟩
theorem dag_order(w:World)(g:Nat)(D:List HdX)(h:DagHs w g D)(hn:(idsX D).Nodup)(a b:Id32) :
  Calls prog 172 #[.pointer (some ⟨g,0,none⟩),.agg (idC a),.agg (idC b)] w λe w'=>e=.returned (.int .i64 (ordX (htX D) a b))/\Below w.heap.size w w':=by
 obtain⟨bh,bp,bt,bc,N,h⟩:=h;obtain⟨va,I,V⟩:=h.lookHt hn a;obtain⟨vb,H,T⟩:=h.lookHt hn b;have hB:Below w.heap.size w ((w.alloc (.cells (idC a) 23)).alloc (.cells (idC b) 23)):=(bA).alloc sI _;have r:rowAt ((w.alloc (.cells (idC a) 23)).alloc (.cells (idC b) 23)) w.heap.size 0 32=some (idC a):=by
  rw[rowAt_of_block (Below.heap_alloc _ _ _ sI)];simp[go_sem]
 have m:rowAt ((w.alloc (.cells (idC a) 23)).alloc (.cells (idC b) 23)) (w.heap.size+1) 0 32=some (idC b):=by simp[go_sem]
 obtain⟨W,hW⟩:=eR ((w.alloc (.cells (idC a) 23)).alloc (.cells (idC b) 23))
 obtain⟨ga,A⟩:=eX w.heap.size
 rw[<-hW,A]at r m;rw[<-hW]at hB;have c0:W.cell? ⟨g,0,none⟩=some (.map (some bh)):=by rw[cell_of_row W g 0 _ _ _ ((hB.block g (aG h.heap).1).trans h.heap)];rfl
 have R:∀x:Subtype (Bel W),(Instr.lookup 219 (.map (some bh)) (.agg (idC a)) false).run prog x.1=.ok va x.1:=λx=>I x.1 (hB.trans (x.2.mono hB.size));have M:∀x:Subtype (Bel W),(Instr.lookup 219 (.map (some bh)) (.agg (idC b)) false).run prog x.1=.ok vb x.1:=λx=>H x.1 (hB.trans (x.2.mono hB.size));obtain⟨X,hX⟩:=eX (htX D a)
 obtain⟨Y,hY⟩:=eX (htX D b)
 have ho:=ord_ahead (htX D) a b;rw[hX,hY]at ho;rw[hX]at V;rw[hY]at T;obtain⟨O,hO⟩:=eX (ordX (htX D) a b)
 rw[hO]at ho |-;have HO:=dH ho;have HW:=dH hW;have HB:=dH hB;have Z:=dH A;clear ho hO hX hY hW hB A h I H;go_enter func172,ntmps172
 go_upto_region 1 with fail
 rw[<-HW.out,Z.out];refine lX W ?_;intro L hS;have b1:=sub_cell c0;have b2:=sub_row r;have b3:=sub_row m;refine lZ ?_;refine wpLx_nil ?_;intro hS;have f:rowAt W.drew ga 0 32=some (idC a):=r;have d:rowAt W.drew (ga+1) 0 32=some (idC b):=m;obtain⟨t1,y⟩:=eX (aheadB X a Y b)
 obtain⟨t2,F⟩:=eX (aheadB Y b X a)
 have c1:=hahead X a Y b W.drew;rw[y]at c1;have E:=dH y;have B:=dH F;clear L hS b1 b2 b3 R M c0 y F r m;(go_wp2_with fail);refine c1.mono ?_;rintro e w1 ⟨rfl,s⟩;have t:Below w.heap.size w w1:=HB.out.drew.trans (s.mono HB.out.drew.size);have k:=((Keep.of_below s).row (rowAt_lt f) sI _ _).trans f;have j:=((Keep.of_below s).row (rowAt_lt d) sI _ _).trans d;clear c1 f d s;cases t1 with
 | true =>
  clear k j;(go_wp2_with fail);go_ret;exact⟨ret_int (by rw[HO.out,if_pos E.out]),t⟩
 | false =>
  have c2:=hahead Y b X a w1;rw[B.out]at c2;(go_wp2_with fail);refine c2.mono ?_;rintro e w2 ⟨rfl,G⟩;have J:Below w.heap.size w w2:=t.trans (G.mono t.size);clear c2 k j G t;cases t2 with
  | true =>
   (go_wp2_with fail);go_ret;exact⟨ret_int (by rw[HO.out,if_neg (by rw[E.out];decide),if_pos B.out]),J⟩
  | false =>
   (go_wp2_with fail);go_ret;exact⟨ret_int (by rw[HO.out,if_neg (by rw[E.out];decide),if_neg (by rw[B.out];decide)]),J⟩
theorem isFn_order:IsFn 172:=λargs w=>by kernel_rfl
theorem weighs_order(h:DagHs w g D)(hn:(idsX D).Nodup)(t:Id32):Weighs 172 #[.pointer (some ⟨g,0,none⟩)] #[] w t (λx=>ordX (htX D) x t) :=
 λx w' hb=>dag_order w' g D (h.below hb) hn x t
theorem dag_put(w:World)(g:Nat)(D:List HdX)(h:DagHs w g D)(hn:(idsX D).Nodup)(s:Sl)(L:List Id32)(ho:Own w 0 23 32 s.A s.n s.c (L.map idC))(T:s.n<=100000)(x:Id32)(hr:Ris (ordX (htX D)) L)(hx:x∉L) :
  Calls prog 193 #[.pointer (some ⟨g,0,none⟩),slV s,.agg (idC x)] w λe w'=>∃s':Sl,e=.returned (slV s')/\s'.n=s.n+1/\Own w' 0 23 32 s'.A s'.n s'.c ((insC (ordX (htX D)) L x).map idC)/\Keep (blk s.A) w w'/\∀y∈blk s'.A,y∈blk s.A\/w.heap.size<=y:=by
 obtain⟨A,n,cap⟩:=s;have k:L.length=n:=by simpa using ho.len
 have hB:Below w.heap.size w (w.alloc (.cells (idC x) 23)):=bA;have d:rowAt (w.alloc (.cells (idC x) 23)) w.heap.size 0 32=some (idC x):=by simp[go_sem]
 obtain⟨W,hW⟩:=eR (w.alloc (.cells (idC x) 23))
 rw[<-hW]at hB d;have E:=ho.below hB;have c1:=bsearch_any 172 #[.pointer (some ⟨g,0,none⟩)] #[] isFn_order (λy=>ordX (htX D) y x) x W (weighs_order (h.below hB) hn x) A n cap L E.slr (by show n<=1000000;have:n<=100000:=T;omega) (λa b hb a1 U=>(totX (htX D)).trans _ _ _ (ris_get hr a1 hb) U);obtain⟨ga,G⟩:=eX w.heap.size
 rw[G]at d;have HW:=dH hW;have a3:=dH G;have J:=dH k;have Hx:=dH hx;have HB:=dH hB;have F:ga<W.heap.size:=rowAt_lt d;have a2:∀y∈blk A,y<ga:=λy hy=>(oH ((ho.at_base (x:=y) hy).2));unfold slV;clear hW G k hx hB h hr ho;go_enter func193,ntmps193
 (go_wp2_with fail);rw[<-HW.out,a3.out];refine c1.mono ?_;rintro e w1 ⟨i,b,rfl,hi,V,Y,_,f⟩;have R:=E.below f;have Z:rowAt w1 ga 0 32=some (idC x):=((Keep.of_below f).row (rowAt_lt d) sI _ _).trans d;have B:Below w1.heap.size w1 (w1.alloc (.cells (idC x) 23)):=bA;have hq:=heap_alloc_new w1 (.cells (idC x) 23);obtain⟨W2,H⟩:=eR (w1.alloc (.cells (idC x) 23))
 rw[<-H]at B hq;have m:insC (ordX (htX D)) L x=L.take i++x :: L.drop i:=insC_at L x i (by have:=J.out;have:i<=n:=hi;omega) (λj hj a0=>V j hj a0) (λhk=>by
  have h1:=Y i hk lR;have h2:ordX (htX D) L[i] x≠0:=λe=>Hx.out (by rw[<-((totX (htX D)).zero _ _).1 e];exact getElem_mem hk);have h3:0<=ordX (htX D) L[i] x:=h1;omega)
 have a5:=f.size;have c2:=insert_id W2 0 A n cap L (R.below B) i hi x w1.heap.size hq (λhm=>oH (a2 _ hm)) (by have:n<=100000:=T;omega) zL;have r:Below w.heap.size w W2:=HB.out.trans ((f.mono HB.out.size).trans (B.mono (Nat.le_trans HB.out.size f.size)));have a4:=dH H;have M:=dH m;have t:=dH r;clear c1 V Y f B hq H m r R E d F;(go_wp2_with fail);rw[<-a4.out];refine c2.mono ?_;rintro e w3 ⟨A3,I,rfl,O,X,N⟩;have HF:=dH (And.intro O (And.intro (Keep.trans ((Keep.of_below t.out).mono (S':=blk A) sI) X (λy hy=>.inl hy)) (λy (hy:y∈blk A3)=>(N y hy).elim (λh=>(Or.inl h:y∈blk A\/w.heap.size<=y)) (λh=>Or.inr (Nat.le_trans t.out.size h)))));clear c2 O X N;(go_wp2_with fail);go_ret;exact⟨⟨A3,n+1,I⟩,rfl,rfl,by rw[M.out];exact HF.out.1,HF.out.2.1,HF.out.2.2⟩
theorem DagIn.c0{bh bp bt bc:Nat}{N:List (Id32×HdIn)}(h:DagIn w g D bh bp bt bc N Tm Cm)(w2:World)(hb:Below w.heap.size w w2) :
  w2.cell? ⟨g,0,none⟩=some (.map (some bh))/\w2.cell? ⟨g,1,none⟩=some (.map (some bp))/\w2.cell? ⟨g,2,none⟩=some (.map (some bt))/\w2.cell? ⟨g,3,none⟩=some (.map (some bc)):=by
 have hh:=(hb.block g (aG h.heap).1).trans h.heap;refine⟨?_,?_,?_,?_⟩ <;> (rw[cell_of_row w2 g _ _ _ _ hh];rfl)
theorem storeHd_drew(w:World)(g:Nat)(hg:g=w.heap.size)(z:Array Value)(hz:z.size=38)(x:Hd)(h:x.ps.oneCell'=true)(e:TypeId):(stS 49 ⟨g,0,none⟩ (.agg (hdC x))).run prog (w.alloc (.cells z e)).drew=.ok () (w.alloc (.cells (hdC x) e)).drew :=
 storeHd_run w.drew g hg z hz x h e
theorem d0_one:hd0.ps.oneCell'=true:=rfl
theorem dO_one(x:HdIn):(hdO x.h x.A x.c).ps.oneCell'=true:=rfl
theorem hdOf_isSome{i:Id32}:(hdOf D i).isSome=decide (i∈idsX D):=by
 by_cases h:i∈idsX D
 ·rw[decide_eq_true h];cases e:hdOf D i with
  | none=>exact absurd h (hdOf_none.1 e)
  | some x=>rfl
 ·rw[hdOf_none.2 h,decide_eq_false h];rfl
theorem dag_has(w:World)(g:Nat)(F:List Nat)(D:List HdX)(h:DagAt w g F D)(hn:(idsX D).Nodup)(a:Id32) :
  Calls prog 192 #[.pointer (some ⟨g,0,none⟩),.agg (idC a)] w λe w'=>e=.returned (.bool (decide (a∈idsX D)))/\Below w.heap.size w w':=by
 rw[<-hdOf_isSome];obtain⟨bh,bp,bt,bc,N,Tm,Cm,h,rfl⟩:=h;have hB:Below w.heap.size w (w.alloc (.cells (idC a) 23)):=bA;have d:rowAt (w.alloc (.cells (idC a) 23)) w.heap.size 0 32=some (idC a):=by simp[go_sem]
 obtain⟨W,hW⟩:=eR (w.alloc (.cells (idC a) 23))
 obtain⟨ga,f⟩:=eX w.heap.size
 rw[<-hW]at d hB;rw[f]at d;have c0:=(h.c0 W hB).1;have r:∃(v:Hd) (b:Bool),v.ps.oneCell'=true/\b=(hdOf D a).isSome/\∀x:Subtype (Bel W),(Instr.lookup 219 (.map (some bh)) (.agg (idC a)) true).run prog x.1=.ok (.tuple #[.agg (hdC v),.bool b]) x.1:=by
  rcases h.look hn a with⟨x,_,he,hl⟩ | ⟨he,hl⟩
  ·exact⟨_,true,dO_one x,by rw[he];rfl,λy=>hl y.1 (hB.trans (y.2.mono hB.size)) true⟩
  ·exact⟨_,false,d0_one,by rw[he];rfl,λy=>hl y.1 (hB.trans (y.2.mono hB.size)) true⟩
 obtain⟨v,b,hv,hb,hl⟩:=r;rw[<-hb];have c1:=dag_none W g bh c0;have HW:=dH hW;have HB:=dH hB;have t:=dH f;clear hW hB f h hb;go_enter func192,ntmps192
 (go_wp2_with fail);rw[<-HW.out,t.out];refine c1.mono ?_;rintro e w' ⟨rfl,rfl⟩;clear c1;go_upto_region 3 with fail
 refine lX W ?_;intro m hS;have b1:=sub_cell c0;have b2:=sub_row d;refine lZ ?_;have j:=hS;refine lH ?_;intro K hK;refine step_keep (bel_alloc hS _) (λhS=>?_);refine hK _ _ ?_;clear hK K;have k:=storeHd_drew W W.heap.size rfl (hdC hd0) rfl v hv 49;refine lH ?_;intro K hK;refine step_keep (bel_alloc j (.cells (hdC v) 49)) (λhS=>?_);refine hK _ _ ?_;clear hK K;refine lZ ?_;refine wpLx_nil ?_;intro hS;have s:=bel2 HB.out hS;clear m hS j b1 b2 hl k;(go_wp2_with fail);go_ret;exact⟨rfl,s⟩
theorem kRow(w:World)(g:Nat)(c:Array Value):Keep [g] w (w.setRow g c):=⟨rfl,rfl,rfl,by simp[setRow],λx _ hx=>setRow_other w g x _ (by simpa using hx)⟩
theorem dag_copied(w:World)(x:HdIn)(hT:TagsIn w x.A x.h.ps.length x.h.ps)(hn:x.h.ps.length<=1000000)(hA:x.A=none->x.c=0) :
  Calls prog 181 #[.agg (hdR x)] w λe w'=>∃A' c',e=.returned (.agg (hdR ⟨x.h,A',c'⟩))/\Own w' w.heap.size 23 32 A' x.h.ps.length c' (x.h.ps.map idC)/\Below w.heap.size w w':=by
 have hB:Below w.heap.size w ((w.alloc (.cells (hdR x) 49)).alloc (.cells (hdC hd0) 49)):=(bA).alloc sI _;have x1:((w.alloc (.cells (hdR x) 49)).alloc (.cells (hdC hd0) 49)).heap[w.heap.size+1]?=some (.cells (hdC hd0) 49 (0,0)):=by
  have:=heap_alloc_new (w.alloc (.cells (hdR x) 49)) (.cells (hdC hd0) 49)
  rwa [(sI:(w.alloc (.cells (hdR x) 49)).heap.size=w.heap.size+1)]at this
 have x0:((w.alloc (.cells (hdR x) 49)).alloc (.cells (hdC hd0) 49)).heap[w.heap.size]?=some (.cells (hdR x) 49 (0,0)):=by
  rw[Below.heap_alloc _ _ _ sI];exact heap_alloc_new _ _
 obtain⟨W,hW⟩:=eR ((w.alloc (.cells (hdR x) 49)).alloc (.cells (hdC hd0) 49))
 obtain⟨ga,d⟩:=eX w.heap.size
 rw[<-hW]at hB x0 x1;rw[d]at x0 x1;have y0:W.cell? ⟨ga,0,none⟩=some (.slice x.A x.h.ps.length x.c):=by rw[cell_of_row W ga 0 _ _ _ x0];simp[hdR,hdO,hdC]
 have c1:=clone_ids W x.A x.h.ps.length x.c x.h.ps (SlR.below hT hB) hn hA;have HW:=dH hW;have HB:=dH hB;have g:=dH d;clear hW hB d;go_enter func181,ntmps181
 (go_wp2_with fail);rw[<-HW.out,g.out];refine c1.mono ?_;rintro e w1 ⟨A',c',rfl,ho,hb⟩;have z0:=(hb.block ga (aG x0).1).trans x0;have z1:=(hb.block (ga+1) (aG x1).1).trans x1;have fz:w1.frozen? ⟨ga,0,none⟩=false:=by simp[frozen?,z0]
 have cz:w1.cell? ⟨ga,0,none⟩=some (.slice x.A x.h.ps.length x.c):=((hb.cell (p:=⟨ga,0,none⟩) (aG x0).1)).trans y0;have q0:=heap_setCell_same z0 0 (.slice A' x.h.ps.length c');have e0:(hdR x).setIfInBounds 0 (.slice A' x.h.ps.length c')=hdR ⟨x.h,A',c'⟩:=by
  simp[hdR,hdO,hdC]
 rw[e0]at q0;have q1:(w1.setCell ⟨ga,0,none⟩ (.slice A' x.h.ps.length c')).heap[ga+1]?=some (.cells (hdC hd0) 49 (0,0)):=(Below.heap_setCell w1 ⟨ga,0,none⟩ _ (ga+1) sI).trans z1;have hr:rowAt (w1.setCell ⟨ga,0,none⟩ (.slice A' x.h.ps.length c')) ga 0 38=some (hdR ⟨x.h,A',c'⟩):=by unfold rowAt;rw[q0];simp[hdR]
 have r:=run_stS_at (P:=prog) infoHd (w1.setCell ⟨ga,0,none⟩ (.slice A' x.h.ps.length c')) (ga+1) (hdC hd0) (hdR ⟨x.h,A',c'⟩) _ q1 sI (by simp[hdR]) (hdC_one _ (dO_one ⟨x.h,A',c'⟩));have f:=dH (setRow_heap (w1.setCell ⟨ga,0,none⟩ (.slice A' x.h.ps.length c')) (ga+1) _ (hdR ⟨x.h,A',c'⟩) _ _ q1);have hk:Keep [ga,ga+1] w1 ((w1.setCell ⟨ga,0,none⟩ (.slice A' x.h.ps.length c')).setRow (ga+1) (hdR ⟨x.h,A',c'⟩)):=Keep.trans (S:=[ga,ga+1]) (S':=[ga+1]) ((Keep.setCell w1 ⟨ga,0,none⟩ _).mono sI) (kRow _ _ _) sI;have j:Below w.heap.size w ((w1.setCell ⟨ga,0,none⟩ (.slice A' x.h.ps.length c')).setRow (ga+1) (hdR ⟨x.h,A',c'⟩)):=(HB.out.trans (hb.mono HB.out.size)).trans (hk.below (Nat.le_trans HB.out.size hb.size) (oS g.out));have s:ga+1<W.heap.size:=(aG x1).1;have k:=dH ((ho.kept hk (λy hy=>oS (ho.at_base hy))).mono (by have:=g.out;omega:w.heap.size<=W.heap.size));have m:=dH j;clear hk j c1 ho hb z0 z1 q0 q1 e0 x0 x1 y0;(go_wp2_with fail);refine bodyPost_ret (results_cell_row results181 _ _ (ga+1) 49 (hdR ⟨x.h,A',c'⟩) (0,0) _ rfl f.out underlying49 rfl (by rw[hdC_size];exact infoHd)) rfl ?_;exact⟨A',c',rfl,k.out,m.out⟩
theorem Own.cap0{B E:Nat}{n cap:Nat}(h:Own w B E k A n cap L)(hA:A=none):cap=0:=by
 obtain⟨⟨_,h2⟩,_,_⟩:=h;rcases h2 with⟨e,_⟩ | ⟨g,c,cur,e,_⟩
 ·injection e
 ·injection e with e;rw[hA]at e;cases e
theorem dag_committed(w:World)(g:Nat)(F:List Nat)(D:List HdX)(h:DagAt w g F D)(c:Id32)(hD:D.length<=1000000) :
  Calls prog 126 #[.pointer (some ⟨g,0,none⟩),.agg (idC c)] w λe w'=>∃s:Sl,e=.returned (slV s)/\s.n=(cmsX D c).length/\Own w' w.heap.size 23 32 s.A s.n s.c ((cmsX D c).map idC)/\Below w.heap.size w w':=by
 obtain⟨bh,bp,bt,bc,N,Tm,Cm,h,rfl⟩:=h;have hB:Below w.heap.size w (w.alloc (.cells (idC c) 23)):=bA;have f:rowAt (w.alloc (.cells (idC c) 23)) w.heap.size 0 32=some (idC c):=by simp[go_sem]
 obtain⟨W,hW⟩:=eR (w.alloc (.cells (idC c) 23))
 obtain⟨ga,j⟩:=eX w.heap.size
 rw[<-hW]at f hB;rw[j]at f;obtain⟨c0,_,_,c3⟩:=h.c0 W hB;obtain⟨⟨A,n,cap⟩,hl,ho,_⟩:=h.cm.get idKey underlying221 (k:=c) trivial;have d:(cmsX D c).length=n:=by simpa using ho.len
 have t:∀x:Subtype (Bel W),(Instr.lookup 221 (.map (some bc)) (.agg (idC c)) false).run prog x.1=.ok (.slice A n cap) x.1:=λx=>hl x.1 (hB.trans (x.2.mono hB.size));have hn:n<=1000000:=by rw[<-d];exact Nat.le_trans (by unfold cmsX;simpa using length_filter_le _ D) hD
 have cN:=dag_none W g bh c0;have cc:=fun (V:World) (hV:Below W.heap.size W V)=>clone_ids V A n cap (cmsX D c) (SlR.below ho.slr (hB.trans (hV.mono hB.size))) hn ho.cap0;have m:=dH d;have HW:=dH hW;have HB:=dH hB;have B:=dH j;unfold slV;clear h hl ho d hW hB j;go_enter func126,ntmps126
 (go_wp2_with fail);rw[<-HW.out,B.out];refine cN.mono ?_;rintro e w' ⟨rfl,rfl⟩;clear cN;go_upto_region 3 with fail
 refine lX W ?_;intro r hS;have b1:=sub_cell c3;have b2:=sub_row f;refine lQ ?_;intro K hK;refine(cc _ hS).mono ?_;rintro e w1 ⟨A',c',rfl,ho,hb⟩;have HF:=dH (ho.mono (Nat.le_trans HB.out.size (show W.heap.size<=_ from hS.size)));replace hS:=bel_next hS hb;refine⟨_,rfl,hS,hK _ _ ?_⟩;clear hK K hb ho;refine lZ ?_;refine wpLx_nil ?_;intro hS;have y:=dH (bel2 HB.out hS);clear r hS b1 b2 t cc;(go_wp2_with fail);go_ret;exact⟨⟨A',n,c'⟩,rfl,m.out.symm,HF.out,y.out⟩
theorem idset_new(w:World):IdSet (w.alloc (.map #[] 0)) w.heap.size []:=⟨[],_,_,MapAt.new w w.heap.size rfl,sI⟩
theorem dag_new(w:World):Calls prog 152 #[] w λe w'=>∃g F,e=.returned (.pointer (some ⟨g,0,none⟩))/\DagAt w' g F []/\(∀x∈F,w.heap.size<=x)/\Below w.heap.size w w':=by
 have y:=@run_makeMap prog;go_enter func152,ntmps152
 (go_wp2_with fail);go_ret;have k1:=Keep.alloc w (.map #[] 0);have m1:=MapAt.new (kv:=idV) (vv:=hdVA) (ok:=okId) w w.heap.size rfl;obtain⟨w1,s⟩:=eR (w.alloc (.map #[] 0))
 have z1:w1.heap.size=w.heap.size+1:=by rw[s];simp
 rw[<-s]at m1 k1 |-;have k2:=Keep.alloc w1 (.map #[] 0);have m2:=idset_new w1;obtain⟨w2,r⟩:=eR (w1.alloc (.map #[] 0))
 have z2:w2.heap.size=w.heap.size+1+1:=by rw[r];simp[z1]
 rw[<-r]at m2 k2 |-;have k3:=Keep.alloc w2 (.map #[] 0);have m3:=SlMap.new (kv:=Value.string) (ok:=okStr) w2 w2.heap.size rfl;obtain⟨w3,m⟩:=eR (w2.alloc (.map #[] 0))
 have z3:w3.heap.size=w.heap.size+1+1+1:=by rw[m];simp[z2]
 rw[<-m]at m3 k3 |-;have k4:=Keep.alloc w3 (.map #[] 0);have m4:=SlMap.new (kv:=idV) (ok:=okId) w3 w3.heap.size rfl;obtain⟨w4,k⟩:=eR (w3.alloc (.map #[] 0))
 have z4:w4.heap.size=w.heap.size+1+1+1+1:=by rw[k];simp[z3]
 rw[<-k]at m4 k4 |-;rw[z1]at m2;rw[z2]at m3;rw[z3]at m4;have k5:=Keep.alloc w4 (.cells (dagC w.heap.size (w.heap.size+1) (w.heap.size+1+1) (w.heap.size+1+1+1)) 223);have hg:=heap_alloc_new w4 (.cells (dagC w.heap.size (w.heap.size+1) (w.heap.size+1+1) (w.heap.size+1+1+1)) 223 (0,0));rw[z4]at hg;have d:=Keep.trans k4 k5 sI;have f:=Keep.trans k3 d sI;have j:=Keep.trans k2 f sI;have t:=Keep.trans k1 j sI;refine⟨w.heap.size+1+1+1+1,_,rfl,⟨w.heap.size,w.heap.size+1,w.heap.size+1+1,w.heap.size+1+1+1,[],[],[],⟨hg,⟨_,_,m1.kept j sI⟩,Perm.refl _,sI,m2.kept f sI,m3.kept d sI sI,m4.kept k5 sI sI,sO,by simp[psF,slF]⟩,rfl⟩,λx hx=>?_,t.below lR sI⟩;simp[psF,slF]at hx;omega
end Go.Proofs.YtplpiicfkbpkaaaGreatDoor
