/- Part 11 of the texts that lead to this claim: the walks of the functions and the plain law, in order. -/
import Derived.Test.YtplpiicfkbpkaaaGreatDoorMk10
import Derived.Test.YtplpiicfkbpkaaaGreatDoorRows
import Derived.Lib.LaidTab
import Derived.LaidLaws
import Derived.LaidHandle
import Derived.Stop.Joined
import Derived.SevenTiedAt
namespace Go.Proofs.YtplpiicfkbpkaaaGreatDoor
open Go.RowKit
open List hiding and get max min or set
open Go.Proofs.Tryz
open World
set_option maxRecDepth 100000
set_option maxHeartbeats 8000000
variable {W w:World}{g n:Nat}{F M d:List Nat}{X:StX}{N:List (VwX×VwP)}{S':List Pay}{e:Int}{P:Program}{H:Type}{args:Array Value}
theorem isFn_mine:IsFn 199:=λargs w=>by kernel_rfl
theorem mine1(w:World)(gb g bo:Nat)(O:List Id32)(hb:w.cell? ⟨gb,0,none⟩=some (.pointer (some ⟨g,0,none⟩)))(h2:w.cell? ⟨g,2,none⟩=some (.map (some bo)))(ho:IdSet w bo O)(x:Id32) :
  Calls prog 199 #[.agg (idC x),.pointer (some ⟨gb,0,none⟩)] w λe w'=>e=.returned (.bool (decide (x∈O)))/\Below w.heap.size w w':=by
 have hB:Below w.heap.size w (w.alloc (.cells (idC x) 23)):=bA;have hr:rowAt (w.alloc (.cells (idC x) 23)) w.heap.size 0 32=some (idC x):=by simp[go_sem]
 obtain⟨W,hW⟩:=eR (w.alloc (.cells (idC x) 23))
 obtain⟨ga,d⟩:=eX w.heap.size
 rw[<-hW]at hB hr;rw[d]at hr;have c0:=(hB.cell (p:=⟨gb,0,none⟩) (block_lt_of_cell? w _ hb)).trans hb;have c2:=(hB.cell (p:=⟨g,2,none⟩) (block_lt_of_cell? w _ h2)).trans h2;have hk:∀y:Subtype (Bel W),(Instr.lookup 82 (.map (some bo)) (.agg (idC x)) false).run prog y.1=.ok (.bool (decide (x∈O))) y.1:=λy=>ilook ((ho.below hB).below y.2);obtain⟨t,ht⟩:=eX (decide (x∈O))
 rw[ht]at hk |-;have HW:=dH hW;have j:=dH d;have HB:=dH hB;clear hW d hB ht hb h2;go_enter func199,ntmps199
 go_upto_region 1 with fail
 rw[<-HW.out,j.out];refine lX W ?_;intro k hS;have b1:=sub_cell c0;have b2:=sub_cell c2;have b3:=sub_row hr;refine lZ ?_;refine wpLx_nil ?_;intro hS;have f:=bel2 HB.out hS;(go_wp2_with fail);go_ret;exact⟨rfl,f⟩
theorem mine_any(X:StX)(c:Id32):((cmsX X.D c).any λi=>decide (i∈X.O))=mineX X c:=rfl
theorem st_mine(w:World)(g gd gs bo bv:Nat)(Fd Fs M:List Nat)(N:List (VwX×VwP))(n:Nat)(X:StX)(h:StIn w g gd gs bo bv Fd Fs M N X)(hX:X.D.length<=1000000)(c:Id32) :
  Calls prog 125 #[.pointer (some ⟨g,0,none⟩),.agg (idC c)] w λe w'=>e=.returned (.bool (mineX X c))/\Below w.heap.size w w':=by
 have hB:Below w.heap.size w ((w.alloc (.cells #[.pointer (some ⟨g,0,none⟩)] 31)).alloc (.cells (idC c) 23)):=(bA).alloc sI _;have x0:((w.alloc (.cells #[.pointer (some ⟨g,0,none⟩)] 31)).alloc (.cells (idC c) 23)).cell? ⟨w.heap.size,0,none⟩=some (.pointer (some ⟨g,0,none⟩)):=by simp[go_sem]
 have hr:rowAt ((w.alloc (.cells #[.pointer (some ⟨g,0,none⟩)] 31)).alloc (.cells (idC c) 23)) (w.heap.size+1) 0 32=some (idC c):=by
  have:=heap_alloc_new (w.alloc (.cells #[.pointer (some ⟨g,0,none⟩)] 31)) (.cells (idC c) 23);unfold rowAt;rw[(sI:w.heap.size+1=(w.alloc (.cells #[.pointer (some ⟨g,0,none⟩)] 31)).heap.size),this];simp[go_sem]
 obtain⟨W,hW⟩:=eR ((w.alloc (.cells #[.pointer (some ⟨g,0,none⟩)] 31)).alloc (.cells (idC c) 23))
 obtain⟨ga,f⟩:=eX w.heap.size
 rw[<-hW]at hB hr x0;rw[f]at hr x0;have d:=h.kept (Keep.of_below hB) sI sI;have c0:W.cell? ⟨g,0,none⟩=some (.pointer (some ⟨gd,0,none⟩)):=by rw[cell_of_row W g 0 _ _ _ d.heap];rfl
 have c2:W.cell? ⟨g,2,none⟩=some (.map (some bo)):=by rw[cell_of_row W g 2 _ _ _ d.heap];rfl
 have cC:=dag_committed W.drew gd Fd X.D ((d.dag).below ((Below.refl _ _).drew)) c hX;obtain⟨m,hm⟩:=eX (mineX X c)
 have Hm:=dH hm;rw[hm];have hT:∀V,Below W.heap.size W V->∀A n cap R,TagsIn V A n R->n<=1000000->Calls prog 80 #[.slice A n cap,.func (.func 199) #[] #[.pointer (some ⟨ga,0,none⟩)]] V λe w'=>e=.returned (.bool (R.any λi=>decide (i∈X.O)))/\Below V.heap.size V w':=λV hV A n cap R hR hn =>
  contains_any 199 #[] #[.pointer (some ⟨ga,0,none⟩)] isFn_mine [] V (λi=>decide (i∈X.O)) (λx w' hk=>by
   have k2:Keep [] W w':=Keep.trans (Keep.of_below hV) hk sI;exact mine1 w' ga g bo X.O ((k2.cell (p:=⟨ga,0,none⟩) (block_lt_of_cell? W _ x0) sI).trans x0) ((k2.cell (p:=⟨g,2,none⟩) (block_lt_of_cell? W _ c2) sI).trans c2) (d.own.kept k2 sI) x) A n cap R V (Keep.refl _ _) hR hn
 have HT:=dH hT;have HW:=dH hW;have y:=dH f;have HB:=dH hB;clear hT hW f hB d h hm;have s:=cmsX_len (D:=X.D) c;go_enter func125,ntmps125
 go_upto_region 1 with fail
 rw[<-HW.out,y.out];refine lX W ?_;intro k hS;have b1:=sub_cell x0;have b2:=sub_cell c0;have b3:=sub_row hr;refine lQ ?_;intro K hK;refine cC.mono ?_;rintro e w1 ⟨⟨A,n,cap⟩,rfl,hn,ho,hb⟩;have r:n<=1000000:=by have:n=(cmsX X.D c).length:=hn;omega
 have j:=bel_next hS hb;have cK:=HT.out w1 j A n cap (cmsX X.D c) ho.slr r;rw[mine_any,Hm.out]at cK;replace hS:=j;refine⟨_,rfl,hS,hK _ _ ?_⟩;clear hK K j;unfold slV;refine lZ ?_;refine lC (cK) ?_;clear hS;intro w' hS;refine lZ ?_;refine wpLx_nil ?_;intro hS;have t:=bel2 HB.out hS;clear k hS b1 b2 b3 cC cK;(go_wp2_with fail);go_ret;exact⟨rfl,t⟩
section
structure StNx(w:World)(g:Nat)(F M:List Nat)(Y:StX)(w':World)(F' M':List Nat):Prop where
 st:StateAt w' g F' M' Y
 mm:∀y∈M,y∈M'
 ff:∀y∈F',y∈F\/w.heap.size<=y
 fm:∀y∈M',y∈M\/w.heap.size<=y
 kp:Keep F w w'
theorem StNx.trans{w w1 w2:World}{g:Nat}{F M F1 M1 F2 M2:List Nat}{Y Z:StX}(h:StNx w g F M Y w1 F1 M1)(k:StNx w1 g F1 M1 Z w2 F2 M2):StNx w g F M Z w2 F2 M2:=by
 have d:=h.kp.size;refine⟨k.st,λy hy=>k.mm y (h.mm y hy),λy hy=>?_,λy hy=>?_,Keep.trans h.kp k.kp h.ff⟩
 ·rcases k.ff y hy with e | e
  ·exact h.ff y e
  ·exact .inr oM
 ·rcases k.fm y hy with e | e
  ·exact h.fm y e
  ·exact .inr oM
theorem StNx.keep{w':World}{Y:StX}(h:StateAt w g F M X)(h':StateAt w' g F M Y)(k:Keep F w w'):StNx w g F M Y w' F M:=⟨h',λ_ hy=>hy,λ_ hy=>.inl hy,λ_ hy=>.inl hy,k⟩
theorem StNx.below{w w':World}{g:Nat}{F M:List Nat}{X:StX}(h:StateAt w g F M X)(k:Below w.heap.size w w'):StNx w g F M X w' F M:=StNx.keep h (h.below k) ((Keep.of_below k).mono sI)
theorem StNx.vars{w':World}{F' M':List Nat}{Y:StX}(k:StNx w g F M Y w' F' M')(h:StateAt w g F M X)(hv:Vars w):Vars w':=hv.kept k.kp h.no
structure StSp(w:World)(g gd gs bo bv:Nat)(Fd Fs F M:List Nat)(N:List (VwX×VwP))(X:StX):Prop where
 st:StIn w g gd gs bo bv Fd Fs M N X
 fe:F=(stFs g bo bv Fd Fs N).flatten
 fm:∀x∈F,x∈M
 ml:∀x∈M,x<w.heap.size
 no:NoVars F
theorem StSp.at_{gd gs bo bv:Nat}{Fd Fs:List Nat}(h:StSp w g gd gs bo bv Fd Fs F M N X):StateAt w g F M X:=⟨gd,gs,bo,bv,Fd,Fs,N,h.st,h.fe,h.fm,h.ml,h.no⟩
theorem StateAt.sp(h:StateAt w g F M X):∃gd gs bo bv Fd Fs N,StSp w g gd gs bo bv Fd Fs F M N X:=by
 obtain⟨gd,gs,bo,bv,Fd,Fs,N,h1,h2,h3,h4,h5⟩:=h;exact⟨gd,gs,bo,bv,Fd,Fs,N,h1,h2,h3,h4,h5⟩
section
variable {w w':World} {g gd gs bo bv:Nat} {Fd Fs F M S:List Nat} {N:List (VwX×VwP)} {X:StX}
theorem StSp.kept(h:StSp w g gd gs bo bv Fd Fs F M N X)(k:Below w.heap.size w w'):StSp w' g gd gs bo bv Fd Fs F M N X:=⟨h.st.kept (Keep.of_below k) sI sI,h.fe,h.fm,λx hx=>Nat.lt_of_lt_of_le (h.ml x hx) k.size,h.no⟩
theorem StSp.mem{x:Nat}(h:StSp w g gd gs bo bv Fd Fs F M N X)(hx:x=g\/x=bo\/x=bv\/x∈Fd\/x∈Fs\/∃p∈N,x∈vwF p):x∈F:=by rw[h.fe];exact stFs_mem.2 hx
theorem StSp.newSto(h:StSp w g gd gs bo bv Fd Fs F M N X){q':Int}(hq:q'=X.q)(hs:StoAt w' gs d q' S')(hf:∀x∈d,x∈Fs\/w.heap.size<=x)(hk:Keep Fs w w')(hv:Vars w) :
  ∃F' M',StSp w' g gd gs bo bv Fd d F' M' N ⟨X.q,X.D,X.O,S',X.V⟩/\StNx w g F M ⟨X.q,X.D,X.O,S',X.V⟩ w' F' M':=by
 subst hq;have hd:=h.st.dis;unfold stFs at hd;have j:=(show Apart (([g] :: [bo] :: [bv] :: [Fd])++Fs :: N.map vwF)from hd).ne;have f:∀x∈(stFs g bo bv Fd d N).flatten,x∈F\/w.heap.size<=x:=λx hx=>by
  rcases stFs_mem.1 hx with e | e | e | e | e | e
  ·exact .inl (h.mem (.inl e))
  ·exact .inl (h.mem (.inr (.inl e)))
  ·exact .inl (h.mem (.inr (.inr (.inl e))))
  ·exact .inl (h.mem (.inr (.inr (.inr (.inl e)))))
  ·rcases hf x e with e | e
   ·exact .inl (h.mem (.inr (.inr (.inr (.inr (.inl e))))))
   ·exact .inr e
  ·exact .inl (h.mem (.inr (.inr (.inr (.inr (.inr e))))))
 have s:∀x∈Fs,x∈F:=λx hx=>h.mem (.inr (.inr (.inr (.inr (.inl hx)))));have r:∀x∈(stFs g bo bv Fd d N).flatten++M,x∈M\/w.heap.size<=x:=λx hx=>by
  rcases mem_append.1 hx with hx | hx
  ·exact(f x hx).imp (h.fm x) id
  ·exact .inl hx
 have hm:=h.st.moreM (M':=(stFs g bo bv Fd d N).flatten++M) (λx hx=>mem_append_right _ hx) r;obtain⟨R,es,B,A,t⟩:=hm.vs;have m:StIn w' g gd gs bo bv Fd d ((stFs g bo bv Fd d N).flatten++M) N ⟨X.q,X.D,X.O,S',X.V⟩:=by
  refine⟨(hk.block g (aG hm.heap).1 (j [g] sI g sI)).trans hm.heap,hm.dag.kept hk (j Fd sI),hs,hm.own.kept hk (j [bo] sI bo sI),⟨R,es,B,A.kept hk (j [bv] sI bv sI),t⟩,λp hp=>(hm.vw p hp).kept hk (j (vwF p) (mem_append_right _ (mem_map_of_mem hp))) (λx hx=>.inl (mem_append_right _ (h.fm x (s x hx)))),hm.vx,?_⟩;show Apart (([g] :: [bo] :: [bv] :: [Fd])++d :: N.map vwF);exact Apart.set (a:=Fs) (n:=w.heap.size) hd (λb hb x hx=>h.st.lt b (by
   unfold stFs;rcases mem_append.1 hb with hb | hb
   ·simp only[mem_cons,not_mem_nil,or_false]at hb |-;rcases hb with e | e | e | e <;> simp[e]
   ·simp only[mem_cons];exact .inr (.inr (.inr (.inr (.inr hb))))) x hx) hf
 have k:StSp w' g gd gs bo bv Fd d _ _ N ⟨X.q,X.D,X.O,S',X.V⟩:=⟨m,rfl,λx hx=>mem_append_left _ hx,λx hx=>by
  rcases mem_append.1 hx with hx | hx
  ·obtain⟨b,hb,hx⟩:=mem_flatten.1 hx;exact m.lt b hb x hx
  ·exact Nat.lt_of_lt_of_le (h.ml x hx) hk.size,NoVars.more hv h.no f⟩
 exact⟨_,_,k,k.at_,λy hy=>mem_append_right _ hy,f,r,hk.mono (λx hx=>.inl (s x hx))⟩
theorem StSp.newDag(h:StSp w g gd gs bo bv Fd Fs F M N X){D':List HdX}(hs:DagAt w' gd d D')(hf:∀x∈d,x∈Fd\/w.heap.size<=x)(hk:Keep Fd w w')(hv:Vars w) :
  ∃F' M',StSp w' g gd gs bo bv d Fs F' M' N ⟨X.q,D',X.O,X.S,X.V⟩/\StNx w g F M ⟨X.q,D',X.O,X.S,X.V⟩ w' F' M':=by
 have hd:=h.st.dis;unfold stFs at hd;have j:=(show Apart (([g] :: [bo] :: [[bv]])++Fd :: Fs :: N.map vwF)from hd).ne;have f:∀x∈(stFs g bo bv d Fs N).flatten,x∈F\/w.heap.size<=x:=λx hx=>by
  rcases stFs_mem.1 hx with e | e | e | e | e | e
  ·exact .inl (h.mem (.inl e))
  ·exact .inl (h.mem (.inr (.inl e)))
  ·exact .inl (h.mem (.inr (.inr (.inl e))))
  ·rcases hf x e with e | e
   ·exact .inl (h.mem (.inr (.inr (.inr (.inl e)))))
   ·exact .inr e
  ·exact .inl (h.mem (.inr (.inr (.inr (.inr (.inl e))))))
  ·exact .inl (h.mem (.inr (.inr (.inr (.inr (.inr e))))))
 have s:∀x∈Fd,x∈F:=λx hx=>h.mem (.inr (.inr (.inr (.inl hx))));have r:∀x∈(stFs g bo bv d Fs N).flatten++M,x∈M\/w.heap.size<=x:=λx hx=>by
  rcases mem_append.1 hx with hx | hx
  ·exact(f x hx).imp (h.fm x) id
  ·exact .inl hx
 have hm:=h.st.moreM (M':=(stFs g bo bv d Fs N).flatten++M) (λx hx=>mem_append_right _ hx) r;obtain⟨R,es,B,A,t⟩:=hm.vs;have m:StIn w' g gd gs bo bv d Fs ((stFs g bo bv d Fs N).flatten++M) N ⟨X.q,D',X.O,X.S,X.V⟩:=by
  refine⟨(hk.block g (aG hm.heap).1 (j [g] sI g sI)).trans hm.heap,hs,hm.sto.kept hk (j Fs sI),hm.own.kept hk (j [bo] sI bo sI),⟨R,es,B,A.kept hk (j [bv] sI bv sI),t⟩,λp hp=>(hm.vw p hp).kept hk (j (vwF p) (mem_append_right _ (mem_cons_of_mem _ (mem_map_of_mem hp)))) (λx hx=>.inl (mem_append_right _ (h.fm x (s x hx)))),hm.vx,?_⟩;show Apart (([g] :: [bo] :: [[bv]])++d :: Fs :: N.map vwF);exact Apart.set (a:=Fd) (n:=w.heap.size) hd (λb hb x hx=>h.st.lt b (by
   unfold stFs;rcases mem_append.1 hb with hb | hb
   ·simp only[mem_cons,not_mem_nil,or_false]at hb |-;rcases hb with e | e | e <;> simp[e]
   ·simp only[mem_cons]at hb |-;exact .inr (.inr (.inr (.inr hb)))) x hx) hf
 have k:StSp w' g gd gs bo bv d Fs _ _ N ⟨X.q,D',X.O,X.S,X.V⟩:=⟨m,rfl,λx hx=>mem_append_left _ hx,λx hx=>by
  rcases mem_append.1 hx with hx | hx
  ·obtain⟨b,hb,hx⟩:=mem_flatten.1 hx;exact m.lt b hb x hx
  ·exact Nat.lt_of_lt_of_le (h.ml x hx) hk.size,NoVars.more hv h.no f⟩
 exact⟨_,_,k,k.at_,λy hy=>mem_append_right _ hy,f,r,hk.mono (λx hx=>.inl (s x hx))⟩
theorem StSp.newOwn(h:StSp w g gd gs bo bv Fd Fs F M N X){O':List Id32}(hs:IdSet w' bo O')(hk:Keep [bo] w w') :
  StSp w' g gd gs bo bv Fd Fs F M N ⟨X.q,X.D,O',X.S,X.V⟩/\StNx w g F M ⟨X.q,X.D,O',X.S,X.V⟩ w' F M:=by
 have hd:=h.st.dis;unfold stFs at hd;have d:=(show Apart (([[g]]) ++ [bo] :: [bv] :: Fd :: Fs :: N.map vwF)from hd).ne;have j:bo∈F:=h.mem (.inr (.inl rfl));obtain⟨R,es,s,m,k⟩:=h.st.vs;have r:StIn w' g gd gs bo bv Fd Fs M N ⟨X.q,X.D,O',X.S,X.V⟩ :=
  ⟨(hk.block g (aG h.st.heap).1 (d [g] sI g sI)).trans h.st.heap,h.st.dag.kept hk (d Fd sI),h.st.sto.kept hk (d Fs sI),hs,⟨R,es,s,m.kept hk (d [bv] sI bv sI),k⟩,λp hp=>(h.st.vw p hp).kept hk (d (vwF p) (mem_append_right _ (by simp only[mem_cons];exact .inr (.inr (.inr (mem_map_of_mem hp)))))) (λx hx=>.inl (h.fm x (by rw[mem_singleton.1 hx];exact j))),h.st.vx,h.st.dis⟩
 have f:StSp w' g gd gs bo bv Fd Fs F M N ⟨X.q,X.D,O',X.S,X.V⟩:=⟨r,h.fe,h.fm,λx hx=>Nat.lt_of_lt_of_le (h.ml x hx) hk.size,h.no⟩
 exact⟨f,StNx.keep h.at_ f.at_ (hk.mono (λx hx=>.inl (by rw[mem_singleton.1 hx];exact j)))⟩
end
end
theorem StOk.small(h:StOk n X):bytesX X.S<=1000000:=by have:=h.bytes;have:=h.q1;omega
theorem StPre.sto(h:StPre n X)(hb:∀p∈S',p.body.size<=512):StPre n ⟨X.q,X.D,X.O,S',X.V⟩:=⟨h.nd,h.ok,h.len,hb,h.nv,h.vw⟩
theorem pinX_body{S:List Pay}{c:Id32}(hb:∀p∈S,p.body.size<=512):∀p∈pinX S c,p.body.size<=512:=by
 intro p hp;obtain⟨q,hq,rfl⟩:=mem_map.1 hp;have:=hb q hq;split <;> exact this
theorem st_folds(w:World)(g gd gs bo bv:Nat)(Fd Fs F M:List Nat)(N:List (VwX×VwP))(n:Nat)(X:StX)(h:StSp w g gd gs bo bv Fd Fs F M N X)(hv:Vars w)(hX:StPre n X)(hn:n<=800)(A:Option Addr)(m c:Nat)(L:List Id32)(hL:TagsIn w A m L)(hm:m<=1000000)(hA:∀y∈blk A,y∉F) :
  Calls prog 123 #[.pointer (some ⟨g,0,none⟩),.slice A m c] w λe w'=>e=.returned (.tuple #[])/\StNx w g F M (foldsX X L) w' F M :=
 (st_fold w g F M n X h.at_ hv hX hn A m c L hL hm hA).mono λ_ _ ⟨h1,h2,h3⟩=>⟨h1,StNx.keep h.at_ h2 h3⟩
theorem st_pay(w:World)(g:Nat)(F M:List Nat)(n:Nat)(X:StX)(h:StateAt w g F M X)(hv:Vars w)(hX:StOk n X)(hn:n<=800)(b:ByteArray)(hb:b.size<=1000000) :
  Calls prog 71 #[.pointer (some ⟨g,0,none⟩),.string b] w λe w'=>e=.returned (.int .i64 (putE X.S X.q b))/\∃F' M',StNx w g F M (paySX X b) w' F' M':=by
 obtain⟨gd,gs,bo,bv,Fd,Fs,N,h⟩:=h.sp;have c1:w.cell? ⟨g,1,none⟩=some (.pointer (some ⟨gs,0,none⟩)):=by rw[cell_of_row w g 1 _ _ _ h.st.heap];rfl
 have cP:=sto_put w gs Fs X.q X.S b h.st.sto hv.sha hb (by have:=hX.q0;have:=hX.q1;omega) hX.small;obtain⟨E,hE⟩:=eX (putE X.S X.q b)
 rw[hE]at cP |-;have HX:=dH hX;have Hs:=dH h;have HE:=dH hE;have Hv:=dH hv;clear hX h hE hv;go_enter func71,ntmps71
 (go_wp2_with fail);refine cP.mono ?_;rintro e w1 ⟨rfl,⟨r,T,d3⟩,d1⟩;obtain⟨F1,M1,Z,a0⟩:=Hs.out.newSto rfl T d3 d1 Hv.out;obtain⟨I,hI⟩:∃I,(if E=0 then shaI b.data.toList else id0)=I:=⟨_,rfl⟩
 rw[hI];have k:=dH Z;have b3:=dH a0;have HI:=dH hI;clear cP T d3 d1 Z a0 c1 hI;have a8:Below w1.heap.size w1 (w1.alloc (.cells (idC I) 23)):=bA;have L:rowAt (w1.alloc (.cells (idC I) 23)) w1.heap.size 0 32=some (idC I):=by simp[go_sem]
 by_cases b5:E=0
 ·subst b5;have eI:I=shaI b.data.toList:=by rw[<-HI.out,if_pos rfl]
  obtain⟨e1,c9,e0,d9⟩:=putX_ok HX.out b HE.out;have f:StPre n ⟨X.q,X.D,X.O,putX X.S X.q b,X.V⟩:=HX.out.pre.sto λp hp=>(c9 p hp).2.2;have U:bytesX (putX X.S X.q b)<=1000000:=oH HX.out.q1;have hW:=k.out.kept a8;have b4:=b3.out.trans (StNx.below k.out.at_ a8);obtain⟨W,c2⟩:=eR (w1.alloc (.cells (idC I) 23))
  obtain⟨ga,b9⟩:=eX w1.heap.size
  rw[<-c2]at L hW b4;rw[b9]at L;have a5:ga∉F1:=λhx=>(oH (k.out.at_.lt ga hx));have cM:=st_mine W g gd gs bo bv Fd r M1 N n _ hW.st (Nat.le_trans HX.out.len oM) I;obtain⟨m,hm⟩:=eX (mineX ⟨X.q,X.D,X.O,putX X.S X.q b,X.V⟩ I)
  rw[hm]at cM;have HW:=dH hW;have e3:=dH b4;have e6:=dH c2;have e5:=dH b9;have Hm:=dH hm;have J:=dH f;have c4:=dH U;have c8:=dH a5;have d6:=dH eI;have d8:=dH (b4.vars Hs.out.at_ Hv.out);clear hW b4 c2 b9 hm f U e1 c9 e0 d9 eI HI a5 a8;(go_wp2_with fail);rw[<-e6.out,e5.out];refine cM.mono ?_;rintro e w2 ⟨rfl,a7⟩;have d:=((Keep.of_below a7).row (rowAt_lt L) sI _ _).trans L;have j:=dH (HW.out.kept a7);have d5:=dH (e3.out.trans (StNx.below HW.out.at_ a7));have c3:=dH (d8.out.below a7);clear cM L a7;cases m with
  | false =>
   have c0:w2.cell? ⟨g,0,none⟩=some (.pointer (some ⟨gd,0,none⟩)):=by rw[cell_of_row w2 g 0 _ _ _ (j).out.st.heap];rfl
   have cC:=dag_committed w2.drew gd Fd X.D (((j).out.st.dag).below ((Below.refl _ _).drew)) I (oH HX.out.len);have c7:=dH (j).out.at_.lt;have cF:=dH (fun (V:World) (hV:Below w2.heap.size w2 V) (A:Option Addr) (m c:Nat) (hL:TagsIn V A m (cmsX X.D I)) (hm:m<=1000000) (hA:∀y∈blk A,y∉F1)=>st_folds V g gd gs bo bv Fd r F1 M1 N n _ ((j).out.kept hV) ((c3).out.below hV) (J.out) hn A m c (cmsX X.D I) hL hm hA);have b8:=cmsX_len (D:=X.D) I;have a4:=HX.out.len;go_upto_region 6 with fail
   refine wp_region_treef (.loose 0 (.loose 1 (.loose 2 (.loose 3 (.loose 4 (.loose 5 (.one 6 (.one 7 .done)))))))) (Kp [] w2) false kR kR kR kR kR (kp_drew [] w2) ?_;have a1:=kp_some [] w2;have hS:=kp_drew [] w2;have b1:=ksub_cell c0 (S:=[]) sI;have b2:=ksub_row d (S:=[]) sI;refine tZ ?_;refine tH ?_;intro K hK;refine cC.mono ?_;rintro e w5 ⟨⟨A5,n5,c5⟩,rfl,a3,s,a6⟩;replace hS:=kp_below hS a6;refine⟨_,rfl,hS,hK _ _ ?_⟩;clear hK K;unfold slV;refine wpTx_end rfl ?_ kR ?_;(focus(simp only[chainOp];done));intro K hK;go_simp;have H:Below w2.heap.size w2 w5:=Keep.below (S:=[]) hS lR sI;refine(cF.out w5 H A5 n5 c5 s.slr (by have:n5=(cmsX X.D I).length:=a3;omega) (λy hy b6=>by have h1:=(s.at_base hy).1;have h2:=c7.out y b6;have h3:w2.heap.size<=y:=h1;omega)).mono ?_;rintro e w6 ⟨rfl,a2⟩;refine⟨_,rfl,hK _ _ ?_⟩;clear hK K;have c6:=dH (StNx.trans (StNx.below (j).out.at_ H) a2);clear a2 H hS a1 b1 b2 cF cC s a6 a3;(go_wp2_with fail);go_ret;refine⟨rfl,F1,M1,?_⟩;have e:paySX X b=foldsX ⟨X.q,X.D,X.O,putX X.S X.q b,X.V⟩ (cmsX X.D I):=by
    unfold paySX;rw[if_neg (by rw[HE.out];decide),<-d6.out,if_neg (by rw[show mineX X I=false from Hm.out];decide)]
   rw[e];exact d5.out.trans c6.out
  | true =>
   have c1:w2.cell? ⟨g,1,none⟩=some (.pointer (some ⟨gs,0,none⟩)):=by rw[cell_of_row w2 g 1 _ _ _ j.out.st.heap];rfl
   have cN:=sto_pin w2.drew gs r X.q (putX X.S X.q b) I (j.out.st.sto.kept (Keep.drew w2) sI) c4.out;have d2:g∉r:=by
    have hd:=j.out.st.dis;unfold stFs at hd;exact(show Apart (([g] :: [bo] :: [bv] :: [Fd])++r :: N.map vwF)from hd).ne [g] sI g sI
   have G:ga∉r:=λhx=>c8.out (j.out.mem (.inr (.inr (.inr (.inr (.inl hx))))));go_upto_region 5 with fail
   refine kX r w2 ?_;intro a1 hS;have b1:=ksub_cell c1 d2;have b2:=ksub_row d G;refine lQ ?_;intro K hK;refine cN.mono ?_;rintro e w3 ⟨⟨E3,rfl⟩,R,d0⟩;have d4:=kp_next hS d0 iL;refine⟨_,rfl,d4,hK _ _ ?_⟩;clear hK K;refine lZ ?_;refine wpLx_nil ?_;intro hS;have B:Keep r w2 w3:=hS;obtain⟨F3,M3,Y,t⟩:=j.out.newSto rfl R iL B c3.out;have b7:=(B.row (rowAt_lt d) G _ _).trans d;have a9:=dH Y;have e4:=dH (d5.out.trans t);have e2:=dH (t.vars j.out.at_ c3.out);have b0:=dH (J.out.sto (pinX_body (c:=I) J.out.body));clear a1 hS d4 b1 b2 cN R d0 B Y t d c1 d2 G;have c0:w3.cell? ⟨g,0,none⟩=some (.pointer (some ⟨gd,0,none⟩)):=by rw[cell_of_row w3 g 0 _ _ _ (a9).out.st.heap];rfl
   have cC:=dag_committed w3.drew gd Fd X.D (((a9).out.st.dag).below ((Below.refl _ _).drew)) I (oH HX.out.len);have c7:=dH (a9).out.at_.lt;have cF:=dH (fun (V:World) (hV:Below w3.heap.size w3 V) (A:Option Addr) (m c:Nat) (hL:TagsIn V A m (cmsX X.D I)) (hm:m<=1000000) (hA:∀y∈blk A,y∉F3)=>st_folds V g gd gs bo bv Fd r F3 M3 N n _ ((a9).out.kept hV) ((e2).out.below hV) (b0.out) hn A m c (cmsX X.D I) hL hm hA);have b8:=cmsX_len (D:=X.D) I;have a4:=HX.out.len;go_upto_region 6 with fail
   refine wp_region_treef (.loose 0 (.loose 1 (.loose 2 (.loose 3 (.loose 4 (.loose 5 (.one 6 (.one 7 .done)))))))) (Kp [] w3) false kR kR kR kR kR (kp_drew [] w3) ?_;have a1:=kp_some [] w3;have hS:=kp_drew [] w3;have b1:=ksub_cell c0 (S:=[]) sI;have b2:=ksub_row b7 (S:=[]) sI;refine tZ ?_;refine tH ?_;intro K hK;refine cC.mono ?_;rintro e w5 ⟨⟨A5,n5,c5⟩,rfl,a3,s,a6⟩;replace hS:=kp_below hS a6;refine⟨_,rfl,hS,hK _ _ ?_⟩;clear hK K;unfold slV;refine wpTx_end rfl ?_ kR ?_;(focus(simp only[chainOp];done));intro K hK;go_simp;have H:Below w3.heap.size w3 w5:=Keep.below (S:=[]) hS lR sI;refine(cF.out w5 H A5 n5 c5 s.slr (by have:n5=(cmsX X.D I).length:=a3;omega) (λy hy b6=>by have h1:=(s.at_base hy).1;have h2:=c7.out y b6;have h3:w3.heap.size<=y:=h1;omega)).mono ?_;rintro e w6 ⟨rfl,a2⟩;refine⟨_,rfl,hK _ _ ?_⟩;clear hK K;have c6:=dH (StNx.trans (StNx.below (a9).out.at_ H) a2);clear a2 H hS a1 b1 b2 cF cC s a6 a3;(go_wp2_with fail);go_ret;refine⟨rfl,F3,M3,?_⟩;have e:paySX X b=foldsX ⟨X.q,X.D,X.O,pinX (putX X.S X.q b) I,X.V⟩ (cmsX X.D I):=by
    unfold paySX;rw[if_neg (by rw[HE.out];decide),<-d6.out,if_pos (show mineX X I=true from Hm.out)]
   rw[e];exact e4.out.trans c6.out
 ·have hb:(E != 0)=true:=by simpa using b5
  have d7:=dH b5;have hn:=dH (b3.out.trans (StNx.below k.out.at_ a8));clear b5 L a8;(go_wp2_with fail);go_ret;refine⟨rfl,F1,M1,?_⟩;have e:paySX X b=⟨X.q,X.D,X.O,putX X.S X.q b,X.V⟩:=by
   unfold paySX;rw[if_pos (by rw[HE.out];exact d7.out),show putX X.S X.q b=X.S from if_neg (λhh=>d7.out (HE.out.symm.trans hh.1))]
  rw[e];exact hn.out
theorem hd_id(w:World)(g:Nat)(l:List UInt8)(e:Int)(h:RdAt w g l e) :
  Calls prog 190 #[.pointer (some ⟨g,0,none⟩)] w λen w'=>en=.returned (.agg (idC (idOf (rawV 32 l e))))/\RdStep w g (rawL 32 l e) (rawE 32 l e) w':=by
 have s:Below w.heap.size w ((w.alloc (.cells (idC id0) 23)).alloc (.cells (idC id0) 23)):=(bA).alloc sI _;have F:((w.alloc (.cells (idC id0) 23)).alloc (.cells (idC id0) 23)).heap[w.heap.size]?=some (.cells (idC id0) 23 (0,0)):=by
  rw[Below.heap_alloc _ _ _ sI];exact heap_alloc_new w _
 have r:((w.alloc (.cells (idC id0) 23)).alloc (.cells (idC id0) 23)).heap[w.heap.size+1]?=some (.cells (idC id0) 23 (0,0)):=by
  have:=heap_alloc_new (w.alloc (.cells (idC id0) 23)) (.cells (idC id0) 23);simpa using this
 have Y:=h.lt;have t:=h.below s;have k:((w.alloc (.cells (idC id0) 23)).alloc (.cells (idC id0) 23)).heap.size=w.heap.size+2:=sI;have G:=dH k;clear k h;go_enter func190,ntmps190
 go_upto_region 2 with fail
 obtain⟨ga,O⟩:=eX w.heap.size
 have a1:=dH O;obtain⟨W,hW⟩:=eR ((w.alloc (.cells (idC id0) 23)).alloc (.cells (idC id0) 23))
 rw[<-hW]at s F r t G |-;rw[O]at F r Y |-;clear hW;have E:ga+1<W.heap.size:=(aG r).1;have c1:=rd_raw32 W.drew g l e (t.kept (Keep.drew W) sI);refine kX [g,ga+1] W ?_;intro X hS;refine lQ ?_;intro K hK;refine c1.mono ?_;rintro en w1 ⟨rfl,L,D⟩;replace hS:=kp_next hS D sI;have m:w1.heap[ga+1]?=_:=(D.block (ga+1) (by show _<W.drew.heap.size;exact E) sO).trans r;refine⟨_,rfl,hS,hK _ _ ?_⟩;clear hK K c1;obtain⟨w2,m2,Z,f,B⟩:=copy_idb (rawV 32 l e) (rawV_32 _ _) 3 32 m;refine lH ?_;intro K hK;refine step_keep (kp_next hS B sI) (λR=>?_);refine hK _ _ ?_;clear hK K;refine wpLx_nil ?_;intro hS;have y:Keep [g,ga+1] W w2:=R;have J:=L.kept B sO;have j:=(y.block ga oM sO).trans F;clear Z hS R X D B L t m;obtain⟨d,hd⟩:=eX (idOf (rawV 32 l e))
 rw[hd]at f;have Hd:=dH hd;clear hd;have V:rowAt w2 (ga+1) 0 32=some (idC d):=by unfold rowAt;rw[f];simp[go_sem]
 have T:=run_stS_at (P:=prog) infoId w2 ga (idC id0) (idC d) _ j sI sI (idC_one _);have A:Keep [ga] w2 (w2.setRow ga (idC d)):=⟨rfl,rfl,rfl,by simp[setRow],λx _ hx=>setRow_other w2 ga x _ (by simpa using hx)⟩
 have H:=dH (setRow_heap w2 ga _ (idC d) _ _ j);have I:=J.kept A sO;have N:Keep [g,ga,ga+1] w (w2.setRow ga (idC d)):=Keep.trans (Keep.trans ((Keep.of_below s).mono (S':=[g,ga,ga+1]) sI) (y.mono (S':=[g,ga,ga+1]) sI) iL) (A.mono (S':=[g,ga,ga+1]) sI) iL;have M:Keep [g] w (w2.setRow ga (idC d)):=N.narrow (λx hx=>by have:=a1.out;simp at hx |-;omega);have U:=dH I;have a0:=dH M;clear I J N M A j f s y;(go_wp2_with fail);exact bodyPost_ret (results_cell_row results190 _ _ ga 23 (idC d) (0,0) _ rfl H.out underlying23 rfl (by rw[idC_size];exact infoId)) rfl ⟨by rw[Hd.out],U.out,a0.out⟩
theorem hd_set0(x:Hd)(v:Value):(hdC x).setIfInBounds 0 v=hdC { x with ps:=v }:=by simp[hdC]
theorem hd_set1(x:Hd)(v:Int):(hdC x).setIfInBounds 1 (.int .i64 v)=hdC { x with ht:=v }:=by simp[hdC]
theorem hd_set2(x:Hd)(v:ByteArray):(hdC x).setIfInBounds 2 (.string v)=hdC { x with tp:=v }:=by simp[hdC]
theorem hd_set3(x:Hd)(v:Int):(hdC x).setIfInBounds 3 (.int .i64 v)=hdC { x with au:=v }:=by simp[hdC]
theorem hd_set4(x:Hd)(v:Int):(hdC x).setIfInBounds 4 (.int .i64 v)=hdC { x with sq:=v }:=by simp[hdC]
theorem hd_set5(x:Hd)(v:Int):(hdC x).setIfInBounds 5 (.int .i64 v)=hdC { x with sz:=v }:=by simp[hdC]
theorem rawL_err{l:List UInt8}(h:e≠0):rawL n l e=l:=by unfold rawL;rw[if_neg λhh=>h hh.1]
theorem rawE_err{l:List UInt8}(h:e≠0):rawE n l e=e:=by unfold rawE;rw[if_neg h]
theorem rawE_zero{l:List UInt8}(h:rawE n l e=0):e=0:=by
 by_cases he:e=0
 ·exact he
 ·rwa [rawE_err he]at h
theorem hof_step{N k:Nat}(hk:k<N){G L:List Id32}{l:List UInt8}{s:RdsG Id32}(hs:s=loopG idP (N-k) ⟨G,l,e⟩)(hG:e=0->G=L) :
  ∃G',s=loopG idP (N-(k+1)) ⟨G',rawL 32 l e,rawE 32 l e⟩/\(rawE 32 l e=0->G'=L ++ [idOf (rawV 32 l e)]):=by
 rw[(oM:N-k=(N-(k+1))+1)]at hs;by_cases he:e=0
 ·rw[loopG_step _ _ he]at hs;exact⟨G ++ [idOf (rawV 32 l e)],hs,λ_=>by rw[hG he]⟩
 ·rw[loopG_stop _ _ he]at hs;refine⟨G,?_,λh=>absurd (rawE_zero h) he⟩;rw[rawL_err he,rawE_err he,loopG_stop _ _ he];exact hs
theorem hd_set6(x:Hd)(d:Id32):((hdC x).toList.take (0+6)++(idC d).toList++(hdC x).toList.drop (0+6+(idC d).toList.length)).toArray=hdC { x with cm:=d }:=by
 apply Array.ext';have h1:(idC d).toList.length=32:=sI;have h2:(idC x.cm).toList.length=32:=sI;rw[h1];simp[hdC,take_append,drop_append,h2]
theorem store_cm{x:Hd}(d:Id32)(h:w.heap[g]?=some (.cells (hdC x) 49 (0,0))) :
  (stS 23 ⟨g,6,none⟩ (.agg (idC d))).run prog w=.ok () (w.setRow g (hdC { x with cm:=d })):=by
 have f:=run_storeCells_at prog g 6 49 (idC d).toList 0 (hdC x) w h sI (idC_one d);rw[hd_set6]at f;unfold stS storeVar;have hi:=infoId;cases hinfo:prog.info? 23 with
 | none=>rw[hinfo]at hi;cases hi
 | some i =>
  rw[hinfo]at hi;have hk:i.size=32:=by simpa using hi
  simp[Value.cells,sizeOf,typeInfo,hinfo,hk];simpa using f
theorem header_of(w:World)(b:ByteArray)(hb:b.size<=9223372036854775807) :
  Calls prog 120 #[.string b] w λe w'=>∃x:HdIn,e=.returned (.tuple #[.agg (hdR x),.int .i64 (hofE b.data.toList)])/\(hofE b.data.toList=0->x.h=hofH b.data.toList/\Own w' w.heap.size 23 32 x.A x.h.ps.length x.c (x.h.ps.map idC))/\Below w.heap.size w w':=by
 obtain⟨l,hl⟩:=eX b.data.toList
 have b8:l.length=b.size:=by rw[<-hl];rfl
 have hB:Below w.heap.size w (w.alloc (.cells (hdC hd0) 49)):=bA;have hr:=heap_alloc_new w (.cells (hdC hd0) 49);have cO:=rd_open b (w.alloc (.cells (hdC hd0) 49)) hb;rw[hl]at cO |-;rw[(sI:(w.alloc (.cells (hdC hd0) 49)).heap.size=w.heap.size+1)]at cO;obtain⟨W0,d6⟩:=eR (w.alloc (.cells (hdC hd0) 49))
 have a3:W0.heap.size=w.heap.size+1:=by rw[d6];simp
 obtain⟨ga,d4⟩:=eX w.heap.size
 rw[d4]at a3;have i6:=dH a3;clear a3;rw[<-d6]at hB hr cO;rw[d4]at hr cO;have o8:=dH d6;have i9:=dH d4;have HB:=dH hB;have c7:=dH b8;clear d6 d4 hB hl b8;by_cases a6:256<b.size
 ·have hE:hofE l=3:=by unfold hofE;rw[if_pos (by rw[c7.out];exact a6)]
  have HE:=dH hE;have hd:decide ((256:Int)<b.size)=true:=sO;have b5:=storeHd_run w w.heap.size rfl (hdC hd0) sI hd0 d0_one 49;have b6:=heap_alloc_new w (.cells (hdC hd0) 49);have n2:=dH (show Below w.heap.size w (w.alloc (.cells (hdC hd0) 49))from bA);have O:=dH b6;clear hE a6 hr cO b6;go_enter func120,ntmps120
  (go_wp2_with fail);refine bodyPost_ret (results_ct results120 _ _ w.heap.size 49 (hdC hd0) (0,0) _ rfl O.out underlying49 rfl (by rw[hdC_size];exact infoHd)) rfl ?_;exact⟨⟨⟨[],0,⟨#[]⟩,0,0,0,id0⟩,none,0⟩,by rw[HE.out];rfl,λh=>absurd h (by rw[HE.out];decide),n2.out⟩
 ·have hd:decide ((256:Int)<b.size)=false:=sO;have j2:l.length<=256:=oH c7.out;have HE:=dH (show hofE l=if endE (hofV l).2.1 (hofV l).2.2≠0 then endE (hofV l).2.1 (hofV l).2.2 else hdE (hofV l).1 by unfold hofE;rw[if_neg oM]);clear a6;go_enter func120,ntmps120
  (go_wp2_with fail);rw[<-o8.out,i9.out];refine cO.mono ?_;rintro e w1 ⟨rfl,i5,c4⟩;replace c4:Below W0.heap.size W0 w1:=by rw[i6.out];exact c4
  have j0:=(c4.block ga (aG hr).1).trans hr;have b2:ga+1<w1.heap.size:=i5.lt;have d5:Below w1.heap.size w1 (w1.alloc (.cells (hdC hd0) 49)):=bA;have c0:=heap_alloc_new w1 (.cells (hdC hd0) 49);have c9:=(d5.block ga oM).trans j0;have d8:=i5.below d5;have j:=bel2 (bel2 HB.out c4) d5;obtain⟨W,hW⟩:=eR (w1.alloc (.cells (hdC hd0) 49))
  obtain⟨gh,g6⟩:=eX w1.heap.size
  rw[<-hW]at c0 c9 d8 j;rw[g6]at c0 b2;obtain⟨gr,g4⟩:=eX (ga+1)
  rw[g4]at d8 b2 |-;have HW:=dH hW;have o5:=dH g6;have i8:=dH g4;clear hW g6 hr j0 i5 c4 d5 cO g4;(go_wp2_with fail);rw[<-HW.out,o5.out];refine(rd_num W gr 1 l 0 d8 oM).mono ?_;rintro e w3 ⟨rfl,s,f⟩;have m6:=numV_lt 1 l 0;obtain⟨n,hn⟩:=eX (numV 1 l 0)
  obtain⟨l1,g1⟩:=eX (rawL 1 l 0)
  obtain⟨e1,i1⟩:=eX (rawE 1 l 0)
  have hP:hofP l=loopG idP n ⟨[],l1,e1⟩:=by rw[<-hn,<-g1,<-i1];rfl
  rw[hn]at m6 |-;rw[g1,i1]at s;have HP:=dH hP;have m:=(f.block gh (aG c0).1 sO).trans c0;have D:=(f.block ga (aG c9).1 (oS i8.out)).trans c9;have m8:w.heap.size<gr:=by have:=i8.out;have:=i9.out;omega
  have n0:ga<gr:=oH i8.out;have j7:Below w.heap.size w w3:=j.trans (f.below (B:=w.heap.size) j.size sO);have m9:gh<w3.heap.size:=(aG m).1;have a7:=dH (show w.heap.size<=ga from by have:=i9.out;omega);clear hn g1 i1 hP f c0 c9 j d8;(go_wp2_with fail);go_loopw [15] (λi wr=>∃(k:Nat) (L:List Id32) (G:List Id32) (l2:List UInt8) (e2:Int) (A:Option Addr) (cap:Nat),k<=n/\i=.int .i64 k/\L.length=k/\Hid (hofP l=loopG idP (n-k) ⟨G,l2,e2⟩)/\Hid (e2=0->G=L)/\wr.heap[gh]?=some (.cells (hdC ⟨.slice A L.length cap,0,⟨#[]⟩,0,0,0,id0⟩) 49 (0,0))/\wr.heap[ga]?=some (.cells (hdC hd0) 49 (0,0))/\RdAt wr gr l2 e2/\Own wr w3.heap.size 23 32 A L.length cap (L.map idC)/\Below w.heap.size w wr/\w3.heap.size<=wr.heap.size) (λi _=>n-(intOf i).toNat)
  case atStart=>exact⟨0,[],[],l1,e1,none,0,zL,rfl,rfl,HP,(show _=_->_=_ from λ_=>rfl),m,D,s,Own.nil _ _ _ _,j7,lR⟩
  case round =>
   clear m D s j7;obtain⟨k,L,G,l2,e2,A,cap,hk,rfl,hL,d3,hG,hg,hr,hE,hO,j,b3⟩:=hrel;have HL:=dH hL;have j9:L.length<=255:=oM;clear hL;by_cases m7:k<n
   ·obtain⟨G',h1,h2⟩:=hof_step m7 d3.out hG.out;have n7:=dH h1;have HG:=dH h2;have c6:∀x∈blk A,w3.heap.size<=x/\x<wr.heap.size:=λx hx=>hO.at_base hx;have j1:gh∉gr :: blk A:=by
     intro hm;rcases mem_cons.1 hm with h1 | h1
     ·omega
     ·have:=(c6 _ h1).1;omega
    have n1:gr∉blk A:=λh1=>(oH ((c6 _ h1).1));have g7:ga∉gr :: blk A:=by
     intro hm;rcases mem_cons.1 hm with h1 | h1
     ·omega
     ·have:=(c6 _ h1).1;omega
    have x0:wr.cell? ⟨gh,0,none⟩=some (.slice A L.length cap):=by rw[cell_of_row wr gh _ _ _ _ hg];simp[go_sem]
    have k3:=hd_id wr.drew gr l2 e2 (hE.kept (Keep.drew wr) sI);clear h1 h2 d3 hG;go_upto_region 7 with fail
    refine kF (gr :: blk A) wr ?_;intro m4 hS;have b1:=ksub_cell x0 j1;refine lQ ?_;intro K hK;refine k3.mono ?_;rintro en w4 ⟨rfl,F,g2⟩;replace hS:=kp_next hS g2 sI;refine⟨_,rfl,hS,hK _ _ ?_⟩;clear hK K k3;refine lQ ?_;intro K hK;refine step_keep (kp_alloc hS _) (λhS=>?_);refine hK _ _ ?_;clear hK K;obtain⟨d,hd⟩:=eX (idOf (rawV 32 l2 e2))
    rw[hd]at hS |-;have Hd:=dH hd;clear hd;have Z:Keep [gr] wr w4:=Keep.trans ((Keep.drew wr).mono (S':=[gr]) sI) g2 iL;have t:=Keep.alloc w4 (.cells (idC d) 23);have a1:=(hO.kept Z (λx hx=>oS ((c6 x hx).1))).kept t sI;have a0:rowAt (w4.alloc (.cells (idC d) 23)) w4.heap.size 0 32=some (idC d):=by simp[go_sem]
    have m1:=Z.size;have k1:w3.heap.size<=(w4.alloc (.cells (idC d) 23)).heap.size:=sO;refine Lx_append einfoId rfl a1 rfl a0 (idC_one _) oM oM k1 ?_;intro A2 Y w5 X j6 b4;have a4:Keep (blk A) w4 w5:=Keep.trans (t.mono (S':=blk A) sI) j6 iL;have a5:Keep (gr :: blk A) wr w5:=Keep.trans (Z.mono (S':=gr :: blk A) sI) (a4.mono (S':=gr :: blk A) (λx hx=>.inl (mem_cons_of_mem _ hx))) iL;refine step_keep a5 (λn3=>?_);refine lZ ?_;have g5:gh<wr.heap.size:=(aG hg).1;have U:=(a5.block gh g5 j1).trans hg;have b7:=(a5.block ga oM g7).trans hr;have f0:w5.frozen? ⟨gh,0,none⟩=false:=by simp[frozen?,U]
    have d0:w5.cell? ⟨gh,0,none⟩=some (.slice A L.length cap):=by rw[cell_of_row w5 gh _ _ _ _ U];simp[go_sem]
    refine wpLx_end ?_ ?_;(focus(simp only[chainOp];done));intro K hK;go_simp;refine hK _ _ ?_;clear hK K;have b9:=heap_setCell_same U 0 (.slice A2 (L.length+1) Y);rw[hd_set0]at b9;have g:=Keep.setCell w5 ⟨gh,0,none⟩ (.slice A2 (L.length+1) Y);have d7:=(RdAt.kept F a4 n1).kept g sO;have f4:=(g.block ga (oH a5.size) sO).trans b7;have k2:∀x∈blk A2,x∉[gh]:=λx hx=>(oS ((X.at_base hx).1));have a2:=X.kept g k2;have n4:Below w.heap.size w (w5.setCell ⟨gh,0,none⟩ (.slice A2 (L.length+1) Y)):=by
     have h1:Below w.heap.size w w5:=j.trans (a5.below (B:=w.heap.size) j.size (λx hx=>by
      rcases mem_cons.1 hx with h | h
      ·omega
      ·have:=(c6 x h).1;omega))
     exact h1.trans (g.below (B:=w.heap.size) h1.size sO)
    have f1:w3.heap.size<=(w5.setCell ⟨gh,0,none⟩ (.slice A2 (L.length+1) Y)).heap.size:=by have:=a5.size;have:=g.size;omega
    have j3:(L ++ [d]).length=L.length+1:=sI;rw[(sI:L.map idC ++ [idC d]=(L ++ [d]).map idC)]at a2;have i7:=dH j3;rw[Hd.out]at HG;clear j3 f0 d0 b1 m4 hS a5 n3 Z a4 g2 j6 b4 X a1 a0 t U b7 g F k1 hO hE hg hr x0 k2 j;(go_wp2_with fail);go_roundw
    case rel=>exact⟨k+1,L ++ [d],G',rawL 32 l2 e2,rawE 32 l2 e2,A2,Y,oM,by go_num,by rw[i7.out,HL.out],n7,HG,(by rw[i7.out];exact b9),f4,d7,(by rw[i7.out];exact a2),n4,f1⟩
    case measure=>exact sZ
   ·have j8:hofP l=⟨G,l2,e2⟩:=by rw[d3.out,(oM:n-k=0)];rfl
    have o9:=dH j8;clear j8 d3;obtain⟨W,rfl⟩:∃W:World,W=wr:=⟨_,rfl⟩
    clear b3;(go_wp2_with fail);refine(rd_num _ gr 4 _ _ hE oM).mono ?_;rintro e w7 ⟨rfl,s,f⟩;obtain⟨ht,g3⟩:∃nv:Nat,numV 4 l2 e2=nv:=⟨_,rfl⟩
    obtain⟨l3,g0⟩:=eX (rawL 4 l2 e2)
    obtain⟨e3,i0⟩:=eX (rawE 4 l2 e2)
    rw[g3];rw[g0,i0]at s;have o4:=dH g3;have o3:=dH g0;have l0:=dH i0;clear g3 g0 i0;have J:=Own.kept hO f (λx hx=>oS ((hO.at_base hx).1));have m:=(f.block gh (aG hg).1 sO).trans hg;have D:=(f.block ga (aG hr).1 sO).trans hr;have x0:w7.cell? ⟨gh,1,none⟩=some (.int .i64 0):=by rw[cell_of_row w7 gh _ _ _ _ m];simp[go_sem]
    have f0:w7.frozen? ⟨gh,1,none⟩=false:=by simp[frozen?,m]
    have r:=heap_setCell_same m 1 (.int .i64 (ht:Nat));rw[hd_set1]at r;have g:=Keep.setCell w7 ⟨gh,1,none⟩ (.int .i64 (ht:Nat));have F:=RdAt.kept s g sO;have H:=(g.block ga (aG D).1 sO).trans D;have I:=Own.kept J g (λx hx=>oS ((J.at_base hx).1));have t:Below w.heap.size w (w7.setCell ⟨gh,1,none⟩ (.int .i64 (ht:Nat))):=(j.trans (f.below (B:=w.heap.size) j.size sO)).trans (g.below (B:=w.heap.size) (Nat.le_trans j.size f.size) sO);clear hE s f hg m hr D hO J g j;go_upto_region 10 with fail
    obtain⟨W',N⟩:=eR (w7.setCell ⟨gh,1,none⟩ (.int .i64 (ht:Nat)))
    rw[<-N]at r F H I t |-;clear N x0 f0;obtain⟨W,rfl⟩:∃W:World,W=W':=⟨_,rfl⟩
    have hE:=F;have hg:=r;have hr:=H;have hO:=I;have j:=t;clear F r H I t;(go_wp2_with fail);refine(rd_num1 _ gr l3 e3 hE).mono ?_;rintro e w6 ⟨rfl,d7,j5⟩;have m5:=numV_lt 1 l3 e3;(go_wp2_with fail);refine(rd_raw _ gr _ _ _ d7 oM).mono ?_;rintro e w7 ⟨rfl,s,j4⟩;have f:Keep [gr] W w7:=Keep.trans j5 j4 iL;replace s:RdAt w7 gr (txL l3 e3) (txE l3 e3):=s;obtain⟨tp,e9⟩:=eX (mkB (rawV (numV 1 l3 e3) (rawL 1 l3 e3) (rawE 1 l3 e3)))
    have k4:=dH (show txV l3 e3=tp from e9);rw[e9];obtain⟨l4,f9⟩:=eX (txL l3 e3)
    obtain⟨e4,h9⟩:=eX (txE l3 e3)
    rw[f9,h9]at s;have o2:=dH f9;have k9:=dH h9;clear f9 h9 e9 j5 j4 d7 m5;have J:=Own.kept hO f (λx hx=>oS ((hO.at_base hx).1));have m:=(f.block gh (aG hg).1 sO).trans hg;have D:=(f.block ga (aG hr).1 sO).trans hr;have x0:w7.cell? ⟨gh,2,none⟩=some (.string ⟨#[]⟩):=by rw[cell_of_row w7 gh _ _ _ _ m];simp[go_sem]
    have f0:w7.frozen? ⟨gh,2,none⟩=false:=by simp[frozen?,m]
    have r:=heap_setCell_same m 2 (.string tp);rw[hd_set2]at r;have g:=Keep.setCell w7 ⟨gh,2,none⟩ (.string tp);have F:=RdAt.kept s g sO;have H:=(g.block ga (aG D).1 sO).trans D;have I:=Own.kept J g (λx hx=>oS ((J.at_base hx).1));have t:Below w.heap.size w (w7.setCell ⟨gh,2,none⟩ (.string tp)):=(j.trans (f.below (B:=w.heap.size) j.size sO)).trans (g.below (B:=w.heap.size) (Nat.le_trans j.size f.size) sO);clear hE s f hg m hr D hO J g j;go_upto_region 11 with fail
    obtain⟨W',N⟩:=eR (w7.setCell ⟨gh,2,none⟩ (.string tp))
    rw[<-N]at r F H I t |-;clear N x0 f0;obtain⟨W,rfl⟩:∃W:World,W=W':=⟨_,rfl⟩
    have hE:=F;have hg:=r;have hr:=H;have hO:=I;have j:=t;clear F r H I t;(go_wp2_with fail);refine(rd_num _ gr 1 _ _ hE oM).mono ?_;rintro e w7 ⟨rfl,s,f⟩;obtain⟨au,i3⟩:∃nv:Nat,numV 1 l4 e4=nv:=⟨_,rfl⟩
    obtain⟨l5,f8⟩:=eX (rawL 1 l4 e4)
    obtain⟨e5,h8⟩:=eX (rawE 1 l4 e4)
    rw[i3];rw[f8,h8]at s;have o7:=dH i3;have o1:=dH f8;have k8:=dH h8;clear i3 f8 h8;have J:=Own.kept hO f (λx hx=>oS ((hO.at_base hx).1));have m:=(f.block gh (aG hg).1 sO).trans hg;have D:=(f.block ga (aG hr).1 sO).trans hr;have x0:w7.cell? ⟨gh,3,none⟩=some (.int .i64 0):=by rw[cell_of_row w7 gh _ _ _ _ m];simp[go_sem]
    have f0:w7.frozen? ⟨gh,3,none⟩=false:=by simp[frozen?,m]
    have r:=heap_setCell_same m 3 (.int .i64 (au:Nat));rw[hd_set3]at r;have g:=Keep.setCell w7 ⟨gh,3,none⟩ (.int .i64 (au:Nat));have F:=RdAt.kept s g sO;have H:=(g.block ga (aG D).1 sO).trans D;have I:=Own.kept J g (λx hx=>oS ((J.at_base hx).1));have t:Below w.heap.size w (w7.setCell ⟨gh,3,none⟩ (.int .i64 (au:Nat))):=(j.trans (f.below (B:=w.heap.size) j.size sO)).trans (g.below (B:=w.heap.size) (Nat.le_trans j.size f.size) sO);clear hE s f hg m hr D hO J g j;go_upto_region 12 with fail
    obtain⟨W',N⟩:=eR (w7.setCell ⟨gh,3,none⟩ (.int .i64 (au:Nat)))
    rw[<-N]at r F H I t |-;clear N x0 f0;obtain⟨W,rfl⟩:∃W:World,W=W':=⟨_,rfl⟩
    have hE:=F;have hg:=r;have hr:=H;have hO:=I;have j:=t;clear F r H I t;(go_wp2_with fail);refine(rd_num _ gr 4 _ _ hE oM).mono ?_;rintro e w7 ⟨rfl,s,f⟩;obtain⟨sq,f2⟩:∃nv:Nat,numV 4 l5 e5=nv:=⟨_,rfl⟩
    obtain⟨l6,f7⟩:=eX (rawL 4 l5 e5)
    obtain⟨e6,h0⟩:=eX (rawE 4 l5 e5)
    rw[f2];rw[f7,h0]at s;have n6:=dH f2;have o0:=dH f7;have k7:=dH h0;clear f2 f7 h0;have J:=Own.kept hO f (λx hx=>oS ((hO.at_base hx).1));have m:=(f.block gh (aG hg).1 sO).trans hg;have D:=(f.block ga (aG hr).1 sO).trans hr;have x0:w7.cell? ⟨gh,4,none⟩=some (.int .i64 0):=by rw[cell_of_row w7 gh _ _ _ _ m];simp[go_sem]
    have f0:w7.frozen? ⟨gh,4,none⟩=false:=by simp[frozen?,m]
    have r:=heap_setCell_same m 4 (.int .i64 (sq:Nat));rw[hd_set4]at r;have g:=Keep.setCell w7 ⟨gh,4,none⟩ (.int .i64 (sq:Nat));have F:=RdAt.kept s g sO;have H:=(g.block ga (aG D).1 sO).trans D;have I:=Own.kept J g (λx hx=>oS ((J.at_base hx).1));have t:Below w.heap.size w (w7.setCell ⟨gh,4,none⟩ (.int .i64 (sq:Nat))):=(j.trans (f.below (B:=w.heap.size) j.size sO)).trans (g.below (B:=w.heap.size) (Nat.le_trans j.size f.size) sO);clear hE s f hg m hr D hO J g j;go_upto_region 13 with fail
    obtain⟨W',N⟩:=eR (w7.setCell ⟨gh,4,none⟩ (.int .i64 (sq:Nat)))
    rw[<-N]at r F H I t |-;clear N x0 f0;obtain⟨W,rfl⟩:∃W:World,W=W':=⟨_,rfl⟩
    have hE:=F;have hg:=r;have hr:=H;have hO:=I;have j:=t;clear F r H I t;(go_wp2_with fail);refine(rd_num _ gr 2 _ _ hE oM).mono ?_;rintro e w7 ⟨rfl,s,f⟩;obtain⟨sz,b3⟩:∃nv:Nat,numV 2 l6 e6=nv:=⟨_,rfl⟩
    obtain⟨l7,f6⟩:=eX (rawL 2 l6 e6)
    obtain⟨e7,g9⟩:=eX (rawE 2 l6 e6)
    rw[b3];rw[f6,g9]at s;have n5:=dH b3;have n9:=dH f6;have k6:=dH g9;clear b3 f6 g9;have J:=Own.kept hO f (λx hx=>oS ((hO.at_base hx).1));have m:=(f.block gh (aG hg).1 sO).trans hg;have D:=(f.block ga (aG hr).1 sO).trans hr;have x0:w7.cell? ⟨gh,5,none⟩=some (.int .i64 0):=by rw[cell_of_row w7 gh _ _ _ _ m];simp[go_sem]
    have f0:w7.frozen? ⟨gh,5,none⟩=false:=by simp[frozen?,m]
    have r:=heap_setCell_same m 5 (.int .i64 (sz:Nat));rw[hd_set5]at r;have g:=Keep.setCell w7 ⟨gh,5,none⟩ (.int .i64 (sz:Nat));have F:=RdAt.kept s g sO;have H:=(g.block ga (aG D).1 sO).trans D;have I:=Own.kept J g (λx hx=>oS ((J.at_base hx).1));have t:Below w.heap.size w (w7.setCell ⟨gh,5,none⟩ (.int .i64 (sz:Nat))):=(j.trans (f.below (B:=w.heap.size) j.size sO)).trans (g.below (B:=w.heap.size) (Nat.le_trans j.size f.size) sO);clear hE s f hg m hr D hO J g j;go_upto_region 14 with fail
    obtain⟨W',N⟩:=eR (w7.setCell ⟨gh,5,none⟩ (.int .i64 (sz:Nat)))
    rw[<-N]at r F H I t |-;clear N x0 f0;obtain⟨W,rfl⟩:∃W:World,W=W':=⟨_,rfl⟩
    have hE:=F;have hg:=r;have hr:=H;have hO:=I;have j:=t;clear F r H I t;(go_wp2_with fail);refine(hd_id _ gr l7 e7 hE).mono ?_;rintro e w7 ⟨rfl,s,f⟩;obtain⟨d,i2⟩:=eX (idOf (rawV 32 l7 e7))
    obtain⟨l8,f5⟩:=eX (rawL 32 l7 e7)
    obtain⟨e8,b0⟩:=eX (rawE 32 l7 e7)
    rw[i2];rw[f5,b0]at s;have o6:=dH i2;have n8:=dH f5;have k5:=dH b0;have J:=Own.kept hO f (λx hx=>oS ((hO.at_base hx).1));have m:=(f.block gh (aG hg).1 sO).trans hg;have D:=(f.block ga (aG hr).1 sO).trans hr;have b5:=store_cm d m;have r:=setRow_heap w7 gh _ (hdC ⟨.slice A L.length cap,ht,tp,au,sq,sz,d⟩) _ _ m;have g:=kRow w7 gh (hdC ⟨.slice A L.length cap,ht,tp,au,sq,sz,d⟩);have F:=RdAt.kept s g sO;have H:=(g.block ga (aG D).1 sO).trans D;have I:=Own.kept J g (λx hx=>oS ((J.at_base hx).1));have t:Below w.heap.size w (w7.setRow gh (hdC ⟨.slice A L.length cap,ht,tp,au,sq,sz,d⟩)):=(j.trans (f.below (B:=w.heap.size) j.size sO)).trans (g.below (B:=w.heap.size) (Nat.le_trans j.size f.size) sO);clear i2 f5 b0 hE s f hg m hr D hO J g j;go_upto_region 15 with fail
    obtain⟨W',N⟩:=eR (w7.setRow gh (hdC ⟨.slice A L.length cap,ht,tp,au,sq,sz,d⟩))
    rw[<-N]at r F H I t |-;clear N b5;obtain⟨V,rfl⟩:∃V:World,V=W':=⟨_,rfl⟩
    have hV:hofV l=(⟨G,ht,tp,au,sq,sz,d⟩,l8,e8):=by
     unfold hofV;rw[o9.out];unfold hofT;simp only[o4.out,o3.out,l0.out,k4.out,o2.out,k9.out,o7.out,o1.out,k8.out,n6.out,o0.out,k7.out,n5.out,n9.out,k6.out,o6.out,n8.out,k5.out]
    have hz:e8=0->e2=0:=λh=>by
     have h7:=rawE_zero (k5.out.trans h);have h6:=rawE_zero (k6.out.trans h7);have h5:=rawE_zero (k7.out.trans h6);have h4:=rawE_zero (k8.out.trans h5);have h3:=rawE_zero (rawE_zero (show rawE (numV 1 l3 e3) (rawL 1 l3 e3) (rawE 1 l3 e3)=0 from k9.out.trans h4));exact rawE_zero (l0.out.trans h3)
    rw[hV]at HE;have HV:=dH hV;have Hz:=dH hz;clear hV hz;(go_wp2_with fail);refine(rd_end V gr l8 e8 F).mono ?_;rintro e w8 ⟨rfl,c2⟩;obtain⟨E,i4⟩:=eX (endE l8 e8)
    rw[i4];have e0:=dH i4;have g8:=(c2.block gh (aG r).1).trans r;have a9:=(c2.block ga (aG H).1).trans H;have d2:=I.below c2;have c3:=bel2 t c2;clear i4 r H I t c2 F;by_cases c5:E=0
    ·subst c5;have b0:e8=0:=by
      have:=e0.out;unfold endE at this;by_cases h:e8=0
      ·exact h
      ·rw[if_neg h]at this;exact absurd this h
     have k0:G=L:=hG.out (Hz.out b0);have l9:=dH k0;have f3:rowAt w8 gh 0 38=some (hdC ⟨.slice A L.length cap,ht,tp,au,sq,sz,d⟩):=by unfold rowAt;rw[g8];simp[go_sem]
     have cK:=hd_check w8 ⟨L,ht,tp,au,sq,sz,d⟩ A cap d2.slr (by show L.length<=_;omega) (by show tp.size<=_;have:=txV_size l3 e3;rw[k4.out]at this;omega);obtain⟨C,hC⟩:=eX (hdE ⟨L,ht,tp,au,sq,sz,d⟩)
     rw[hC]at cK;have HC:=dH hC;have M:hofE l=C:=by
      rw[HE.out,if_neg (by show ¬endE l8 e8≠0;rw[e0.out];decide)];show hdE ⟨G,ht,tp,au,sq,sz,d⟩=C;rw[l9.out];exact HC.out
     have T:=dH M;clear hC M k0 b0;have cK:Calls prog 65 #[.agg (hdC ⟨.slice A L.length cap,ht,tp,au,sq,sz,d⟩)] w8 λe w'=>e=.returned (.int .i64 C)/\Below w8.heap.size w8 w':=cK;(go_wp2_with fail);refine cK.mono ?_;rintro e w9 ⟨rfl,c1⟩;have m2:=((Keep.of_below c1).row (rowAt_lt f3) sI _ _).trans f3;have a8:=(c1.block ga (aG a9).1).trans a9;have d1:=d2.below c1;have R:=bel2 c3 c1;clear cK f3 a9 g8 d2 c3 c1;by_cases d9:C=0
     ·subst d9;have b5:=run_stS_at (P:=prog) infoHd w9 ga (hdC hd0) (hdC ⟨.slice A L.length cap,ht,tp,au,sq,sz,d⟩) _ a8 sI sI (hdC_one _ rfl);have O:=dH (setRow_heap w9 ga _ (hdC ⟨.slice A L.length cap,ht,tp,au,sq,sz,d⟩) _ _ a8);have hk:=kRow w9 ga (hdC ⟨.slice A L.length cap,ht,tp,au,sq,sz,d⟩);have c8:=dH (R.trans (hk.below R.size (by simp;exact a7.out)));have m3:=dH ((d1.kept hk (λy hy=>oS (d1.at_base hy))).mono (B':=w.heap.size) oM);clear hk a8 d1 R;(go_wp2_with fail);refine bodyPost_ret (results_ct results120 _ _ ga 49 (hdC ⟨.slice A L.length cap,ht,tp,au,sq,sz,d⟩) (0,0) _ rfl O.out underlying49 rfl (by rw[hdC_size];exact infoHd)) rfl ?_;exact⟨⟨⟨L,ht,tp,au,sq,sz,d⟩,A,cap⟩,by rw[T.out];rfl,λ_=>⟨by show _=(hofV l).1;rw[HV.out,l9.out],m3.out⟩,c8.out⟩
     ·have p3:(C != 0)=true:=by simpa using d9
      have p0:=dH d9;have b5:=run_stS_at (P:=prog) infoHd w9 ga (hdC hd0) (hdC hd0) _ a8 sI sI (hdC_one _ d0_one);have O:=dH (setRow_heap w9 ga _ (hdC hd0) _ _ a8);have hk:=kRow w9 ga (hdC hd0);have c8:=dH (R.trans (hk.below R.size (by simp;exact a7.out)));clear hk a8 d1 R d9;(go_wp2_with fail);refine bodyPost_ret (results_ct results120 _ _ ga 49 (hdC hd0) (0,0) _ rfl O.out underlying49 rfl (by rw[hdC_size];exact infoHd)) rfl ?_;exact⟨⟨⟨[],0,⟨#[]⟩,0,0,0,id0⟩,none,0⟩,by rw[T.out];rfl,λh=>absurd (T.out.symm.trans h) p0.out,c8.out⟩
    ·have p2:(E==0)=false:=by simpa using c5
     have p1:(E != 0)=true:=by simpa using c5
     have m0:=dH c5;have M:hofE l=E:=by
      rw[HE.out,if_pos (show endE l8 e8≠0 by rw[e0.out];exact m0.out)];exact e0.out
     have T:=dH M;have b5:=run_stS_at (P:=prog) infoHd w8 ga (hdC hd0) (hdC hd0) _ a9 sI sI (hdC_one _ d0_one);have O:=dH (setRow_heap w8 ga _ (hdC hd0) _ _ a9);have hk:=kRow w8 ga (hdC hd0);have c8:=dH (c3.trans (hk.below c3.size (by simp;exact a7.out)));clear hk a9 d2 c3 g8 c5 M;(go_wp2_with fail);refine bodyPost_ret (results_ct results120 _ _ ga 49 (hdC hd0) (0,0) _ rfl O.out underlying49 rfl (by rw[hdC_size];exact infoHd)) rfl ?_;exact⟨⟨⟨[],0,⟨#[]⟩,0,0,0,id0⟩,none,0⟩,by rw[T.out];rfl,λh=>absurd (T.out.symm.trans h) m0.out,c8.out⟩
theorem StPre.add(h:StOk n X){y:HdV}(hv:verX X.D y=0)(O':List Id32)(hb:∀p∈S',p.body.size<=512):StPre (n+1) ⟨X.q,addX X.D y,O',S',X.V⟩:=by
 obtain⟨a1,a2,a3,a4,a5,a6⟩:=addX_ok h hv;exact⟨a1,a3,a4,hb,h.nv,λv d=>(h.vw v d).grow λx hx=>addX_mem.2 (.inl hx)⟩
def hedE(X:StX)(l:List UInt8):Int:=if hofE l≠0 then hofE l else verX X.D (hofH l)
def hedX(X:StX)(l:List UInt8)(own:Bool):StX:=if hofE l≠0 then X else headX X (hofH l) own
theorem stId_at(w:World)(g:Nat)(d0:Id32)(h:w.heap[g]?=some (.cells (idC d0) 23 (0,0)))(d:Id32) :
  ∃w2,(stS 23 ⟨g,0,none⟩ (.agg (idC d))).run prog w=.ok () w2/\rowAt w2 g 0 32=some (idC d)/\Keep [g] w w2 :=
 ⟨_,run_stS_at (P:=prog) infoId w g (idC d0) (idC d) _ h sI sI (idC_one _),by unfold rowAt;rw[setRow_heap w g _ (idC d) _ _ h];simp,kRow w g (idC d)⟩
theorem tags_one(w:World)(i:Id32):TagsIn (w.alloc (.cells (idC i) 23)) (some ⟨w.heap.size,0,none⟩) 1 [i] :=
 ⟨rfl,λ_=>⟨_,_,rfl,λj hj=>by
  have e:j=0:=by simpa using hj
  subst e;simp[go_sem]⟩⟩
theorem st_header(w:World)(g:Nat)(F M:List Nat)(n:Nat)(X:StX)(h:StateAt w g F M X)(hv:Vars w)(hX:StOk n X)(hn:n<=700)(b:ByteArray)(hb:b.size<=1000000)(own:Bool) :
  Calls prog 70 #[.pointer (some ⟨g,0,none⟩),.string b,.bool own] w λe w'=>e=.returned (.int .i64 (hedE X b.data.toList))/\∃F' M',StNx w g F M (hedX X b.data.toList own) w' F' M':=by
 obtain⟨gd,gs,bo,bv,Fd,Fs,N,h⟩:=h.sp;have cO:=header_of w b oM;obtain⟨l,hl⟩:=eX b.data.toList
 rw[hl]at cO |-;obtain⟨E,hE⟩:=eX (hofE l)
 rw[hE]at cO;have HX:=dH hX;have Hs:=dH h;have HE:=dH hE;have Hv:=dH hv;clear hX h hE hv hl;go_enter func70,ntmps70
 (go_wp2_with fail);refine cO.mono ?_;rintro e w1 ⟨x,rfl,f2,d0⟩;have c9:Below w1.heap.size w1 (w1.alloc (.cells (hdC (hdO x.h x.A x.c)) 49)):=bA;have e8:=storeHd_run w1 w1.heap.size rfl (hdC hd0) sI (hdO x.h x.A x.c) (dO_one x) 49;have t:rowAt (w1.alloc (.cells (hdC (hdO x.h x.A x.c)) 49)) w1.heap.size 0 38=some (hdR x):=by simp[go_sem,hdR]
 by_cases d2:E=0
 ·subst d2;obtain⟨g5,b6⟩:=f2 rfl;have f:=b6.below c9;obtain⟨W,hW⟩:=eR (w1.alloc (.cells (hdC (hdO x.h x.A x.c)) 49))
  obtain⟨gh,e3⟩:=eX w1.heap.size
  have c8:=bel2 d0 c9;rw[<-hW]at c8 t f;rw[e3]at t;have d:=dH (Hs.out.kept c8);have f6:hofH l=x.h:=g5.symm;have c7:hdE x.h=0:=by rw[<-f6];exact hofE_ok HE.out
  have HW:=dH hW;have j3:=dH e3;have j4:=dH c8;have g3:=dH f6;have i2:=dH c7;have g8:=λy=>λhy=>Hs.out.ml y (Hs.out.fm y (Hs.out.mem (x:=y) hy));have d4:=dH (show w.heap.size<=gh by rw[<-e3];exact d0.size);have i1:=dH g8;have e7:=dH (Hv.out.below c8);clear hW e3 c8 f6 c7 d0 c9 f2 g5 b6 g8;have i7:=(hdE_ok i2.out).ps;have cA:=fun (V:World) (hV:Below W.heap.size W V)=>dag_add V gd Fd n X (d.out.st.dag.below hV) HX.out oM (e7.out.below hV).sha x (SlR.below f.slr hV) oM (okStr_kind (hdE_tp i2.out)) f.cap0 (λy hy a7=>by have h1:=(f.at_base hy).1;have h2:=i1.out y (.inr (.inr (.inr (.inl a7))));omega);obtain⟨VE,f5⟩:=eX (verX X.D x.h)
  obtain⟨I,hI⟩:∃I,(if VE=0 then hdI x.h else id0)=I:=⟨_,rfl⟩
  unfold AddRes at cA;rw[f5,hI]at cA;have a4:=dH f5;have HI:=dH hI;have c0:W.cell? ⟨g,0,none⟩=some (.pointer (some ⟨gd,0,none⟩)):=by rw[cell_of_row W g 0 _ _ _ d.out.st.heap];rfl
  clear f5 hI i7;go_upto_region 4 with fail
  rw[<-HW.out,j3.out];have h4:g∉Fd:=by
   have hd:=Hs.out.st.dis;unfold stFs at hd;exact(show Apart (([g] :: [bo] :: [[bv]])++Fd :: Fs :: N.map vwF)from hd).ne [g] sI g sI
  have U:gh∉Fd:=λhy=>(by have h1:=i1.out gh (.inr (.inr (.inr (.inl hy))));have h2:=d4.out;omega);have c5:gh∉F:=λhy=>(by have h1:=Hs.out.at_.lt gh hy;have h2:=d4.out;omega);have g2:=dH c5;clear c5
  go_cut [9,8] (λp ev wx=>∃gi F',p=.pointer (some ⟨gi,0,none⟩)/\ev=.int .i64 VE/\rowAt wx gi 0 32=some (idC I)/\Hid (DagAt wx gd F' (addX X.D x.h))/\Hid (∀y∈F',y∈Fd\/W.heap.size<=y)/\gi∉F'/\W.heap.size<=gi/\Keep Fd W wx)
  case first =>
   refine wp_region_tree (.loose 0 (.loose 1 (.loose 2 (.loose 3 (.loose 4 (.two 5 (.loose 6 (.loose 7 (.loose 8 (.one 9 (.one 10 (.loose 11 .done)))))) 9 (.one 5 (.loose 6 (.loose 7 (.loose 8 (.one 10 (.loose 11 .done)))))))))))) (Kp Fd W) false kR kR kR kR (kp_drew Fd W) ?_;have d9:=kp_some Fd W;have hS:=kp_drew Fd W;have b1:=ksub_cell c0 h4;have b2:=ksub_row t U;refine tZ ?_;refine wpTx_two ?_ ?_
   ·skip;refine tH ?_;intro K hK;refine(cA _ ((Below.refl _ _).drew)).mono ?_;rintro e w3 ⟨F',rfl,hD,a5,e0⟩;replace hS:=kp_next hS e0 (λy hy=>.inl hy);refine⟨_,rfl,hS,hK _ _ ?_⟩;clear hK K;refine tZ ?_;have j:Below w3.heap.size w3 (w3.alloc (.cells (idC id0) 23)):=bA;have xz:=heap_alloc_new w3 (.cells (idC id0) 23);have g6:=Keep.size hS;have Hn:=dH (kp_below hS j);refine tH ?_;intro K hK;refine step_keep Hn.out (λa1=>?_);refine hK _ _ ?_;clear hK K hS;have hS:=a1;obtain⟨w4,f1,k,Y⟩:=stId_at _ _ _ xz I;have H4:=dH (kp_next hS Y (λy hy=>.inr (by rw[mem_singleton.1 hy];exact g6)));have HD:=dH ((hD.below j).kept Y (λy hy d6=>by rw[mem_singleton]at d6;have:=hD.lt y hy;omega));have a6:=dH (show ∀y∈F',y∈Fd\/W.heap.size<=y from a5);have Z:w3.heap.size∉F':=λhy=>(oH (hD.lt _ hy));refine tH ?_;intro K hK;refine step_keep H4.out (λa1=>?_);refine hK _ _ ?_;clear hK K hS;have hS:=a1;refine tZ ?_;refine wpTx_done ?_;intro hS;clear xz j f1 Y hD a5;go_wp2_with fail
    go_meet
    exact⟨_,F',rfl,rfl,k,HD,a6,Z,g6,H4.out⟩
   ·skip;have i3:=dH (show Below W.heap.size W (W.drew.alloc (.cells (idC id0) 23))from((Below.refl _ _).drew).alloc lR _);have xz:(W.drew.alloc (.cells (idC id0) 23)).heap[W.heap.size]?=some (.cells (idC id0) 23 (0,0)):=heap_alloc_new W.drew (.cells (idC id0) 23);have a9:(W.drew.alloc (.cells (idC id0) 23)).heap.size=W.heap.size+1:=sI;have a2:=dH a9;clear a9;have j2:=dH ((Keep.of_below i3.out).mono (S':=Fd) sI);have h6:W.heap.size∉Fd:=λhy=>(oH (d.out.st.dag.lt _ hy));refine tH ?_;intro K hK;refine step_keep j2.out (λa1=>?_);refine hK _ _ ?_;clear hK K hS;have hS:=a1;refine tH ?_;intro K hK;refine(cA _ i3.out).mono ?_;rintro e w3 ⟨F',rfl,hD,a5,e0⟩;have H1:=dH (kp_next hS e0 (λy hy=>.inl hy));refine⟨_,rfl,H1.out,hK _ _ ?_⟩;clear hK K hS;have hS:=H1.out;refine tZ ?_;have g4:=(e0.block W.heap.size (by rw[a2.out];omega) h6).trans xz;obtain⟨w4,f1,k,Y⟩:=stId_at _ _ _ g4 I;have Z:W.heap.size∉F':=λhy=>by
     rcases a5 _ hy with e | e
     ·exact h6 e
     ·rw[a2.out]at e;omega
    have H4:=dH (kp_next hS Y (λy hy=>.inr (by rw[mem_singleton.1 hy];exact lR)));have HD:=dH (hD.kept Y (λy hy d6=>by rw[mem_singleton]at d6;rw[d6]at hy;exact Z hy));have a6:=dH (show ∀y∈F',y∈Fd\/W.heap.size<=y from λy hy=>(a5 y hy).imp id (λe=>by rw[a2.out]at e;omega));refine tH ?_;intro K hK;refine step_keep H4.out (λa1=>?_);refine hK _ _ ?_;clear hK K hS;have hS:=a1;refine tZ ?_;refine wpTx_done ?_;intro hS;clear xz g4 f1 Y hD a5;go_wp2_with fail
    go_meet
    exact⟨_,F',rfl,rfl,k,HD,a6,Z,lR,H4.out⟩
  case rest =>
  obtain⟨gi,e5,rfl,rfl,d7,HD,a6,Z,f3,hk⟩:=hcut;obtain⟨V,rfl⟩:=eR wc
  obtain⟨F1,M1,e9,d8⟩:=d.out.newDag HD.out a6.out hk e7.out;have c6:gh∉F1:=λhy=>by
   rcases d8.ff gh hy with e | e
   ·exact g2.out e
   ·have:=rowAt_lt t;omega
  have b9:gi∉F1:=λhy=>by
   rw[e9.fe]at hy;rcases stFs_mem.1 hy with e | e | e | e | e | e
   ·have:=d.out.ml _ (d.out.fm _ (d.out.mem (.inl e)));omega
   ·have:=d.out.ml _ (d.out.fm _ (d.out.mem (.inr (.inl e))));omega
   ·have:=d.out.ml _ (d.out.fm _ (d.out.mem (.inr (.inr (.inl e)))));omega
   ·exact Z e
   ·have:=d.out.ml _ (d.out.fm _ (d.out.mem (.inr (.inr (.inr (.inr (.inl e)))))));omega
   ·have:=d.out.ml _ (d.out.fm _ (d.out.mem (.inr (.inr (.inr (.inr (.inr e)))))));omega
  have f0:=(hk.row (rowAt_lt t) U _ _).trans t;have r:=dH e9;have f9:=dH ((StNx.below Hs.out.at_ j4.out).trans d8);have h9:=dH (d8.vars d.out.at_ e7.out);have H:hedE X l=VE:=by unfold hedE;rw[if_neg (by rw[HE.out];decide),g3.out];exact a4.out
  have a3:=dH H;clear cA e9 d8 hk t h4 U Z f3 HD a6 c0 H;by_cases m:VE=0
  ·subst m;have h8:I=hdI x.h:=by rw[<-HI.out,if_pos rfl]
   have i4:=dH h8;have b5:=StPre.add HX.out a4.out X.O HX.out.pre.body;have G:hedX X l own=headX X x.h own:=by unfold hedX;rw[if_neg (by rw[HE.out];decide),g3.out]
   have d5:=dH G;have f8:=dH b5;have e6:=hdR_cm f0;clear h8 b5 G HI;cases own with
   | false =>
    (go_wp2_with fail);have j:Below V.heap.size V (V.alloc (.cells (idC I) 23)):=bA;refine(st_folds _ g gd gs bo bv e5 Fs F1 M1 N (n+1) _ ((r).out.kept j) ((h9).out.below j) (f8).out oM _ 1 _ [I] (tags_one V I) oM (λy hy a7=>absurd ((r).out.at_.lt y a7) (by rw[show y=V.heap.size by simpa[blk]using hy];exact Nat.lt_irrefl _))).mono ?_;rintro e w9 ⟨rfl,b7⟩;have g0:=dH (StNx.trans (StNx.below (r).out.at_ j) b7);clear b7 j;(go_wp2_with fail);go_ret;refine⟨by rw[a3.out];rfl,F1,M1,?_⟩;rw[d5.out];unfold headX;rw[if_neg (by rw[a4.out];decide),if_neg (by decide),<-i4.out];exact f9.out.trans g0.out
   | true =>
    have c2:V.cell? ⟨g,2,none⟩=some (.map (some bo)):=by rw[cell_of_row V g 2 _ _ _ r.out.st.heap];rfl
    have hd:=r.out.st.dis;unfold stFs at hd;have f4:g∉[bo]:=(show Apart (([[g]]) ++ [bo] :: [bv] :: e5 :: Fs :: N.map vwF)from hd).ne [g] sI g sI;have h3:g∉Fs:=(show Apart (([g] :: [bo] :: [bv] :: [e5])++Fs :: N.map vwF)from hd).ne [g] sI g sI;have a0:bo∈F1:=r.out.mem (.inr (.inl rfl));have B:gi∉[bo]:=λhy=>b9 (by rw[mem_singleton.1 hy];exact a0);have c4:gh∉[bo]:=λhy=>c6 (by rw[mem_singleton.1 hy];exact a0);have b8:gi∉Fs:=λhy=>b9 (r.out.mem (.inr (.inr (.inr (.inr (.inl hy))))));have c3:gh∉Fs:=λhy=>c6 (r.out.mem (.inr (.inr (.inr (.inr (.inl hy))))));have g1:=dH (And.intro h3 (And.intro b8 c3));clear hd a0 h3 b8 c3;obtain⟨w5,i6,g7,h0⟩:=iput (x:=I) (r.out.st.own.kept (Keep.drew V) sI);go_upto_region 8 with fail
    refine kX [bo] V ?_;intro d9 hS;have b1:=ksub_cell c2 f4;have b2:=ksub_row d7 B;refine lQ ?_;intro K hK;refine step_keep (kp_next hS h0 sI) (λhS=>?_);refine hK _ _ ?_;clear hK K;refine wpLx_nil ?_;intro hS;have s:Keep [bo] V w5:=hS;obtain⟨b4,R⟩:=r.out.newOwn g7 s;have J:=(s.row (rowAt_lt d7) B _ _).trans d7;have a8:=(s.row (rowAt_lt e6) c4 _ _).trans e6;have e4:=dH b4;have j1:=dH (f9.out.trans R);have i0:=dH (R.vars r.out.at_ h9.out);clear d9 hS b1 b2 i6 g7 h0 s b4 R d7 e6 c2;have c1:w5.cell? ⟨g,1,none⟩=some (.pointer (some ⟨gs,0,none⟩)):=by rw[cell_of_row w5 g 1 _ _ _ e4.out.st.heap];rfl
    have cN:=sto_pin w5.drew gs Fs X.q X.S x.h.cm (e4.out.st.sto.kept (Keep.drew w5) sI) HX.out.small;go_upto_region 9 with fail
    refine kX Fs w5 ?_;intro d9 hS;have b1:=ksub_cell c1 g1.out.1;have b2:=ksub_row a8 g1.out.2.2;refine lQ ?_;intro K hK;refine cN.mono ?_;rintro e w6 ⟨⟨E3,rfl⟩,b0,g9⟩;have h7:=kp_next hS g9 iL;refine⟨_,rfl,h7,hK _ _ ?_⟩;clear hK K;refine lZ ?_;refine wpLx_nil ?_;intro hS;have T:Keep Fs w5 w6:=hS;obtain⟨F3,M3,b3,L⟩:=e4.out.newSto rfl b0 iL T i0.out;have i5:=(T.row (rowAt_lt J) g1.out.2.1 _ _).trans J;have f7:=dH b3;have j0:=dH (j1.out.trans L);have i8:=dH (L.vars e4.out.at_ i0.out);have d3:=dH (StPre.add HX.out a4.out (I :: X.O) (pinX_body (c:=x.h.cm) HX.out.pre.body));clear d9 hS h7 b1 b2 cN b0 g9 T b3 L J c1 a8;(go_wp2_with fail);have j:Below w6.heap.size w6 (w6.alloc (.cells (idC I) 23)):=bA;refine(st_folds _ g gd gs bo bv e5 Fs F3 M3 N (n+1) _ ((f7).out.kept j) ((i8).out.below j) (d3).out oM _ 1 _ [I] (tags_one w6 I) oM (λy hy a7=>absurd ((f7).out.at_.lt y a7) (by rw[show y=w6.heap.size by simpa[blk]using hy];exact Nat.lt_irrefl _))).mono ?_;rintro e w9 ⟨rfl,b7⟩;have g0:=dH (StNx.trans (StNx.below (f7).out.at_ j) b7);clear b7 j;(go_wp2_with fail);go_ret;refine⟨by rw[a3.out];rfl,F3,M3,?_⟩;rw[d5.out];unfold headX;rw[if_neg (by rw[a4.out];decide),if_pos rfl,<-i4.out];exact j0.out.trans g0.out
  ·have j6:(VE != 0)=true:=by simpa using m
   have h5:hedX X l own=X:=by
    unfold hedX;rw[if_neg (by rw[HE.out];decide),g3.out];exact if_pos (by rw[a4.out];exact m)
   have d1:addX X.D x.h=X.D:=if_neg λhh=>m (a4.out.symm.trans hh.1);have e8:StNx w g F M X V F1 M1:=by have:=f9.out;rw[d1]at this;exact this
   have i9:=dH e8;have j5:=dH h5;clear e8 h5 d1 m;(go_wp2_with fail);go_ret;exact⟨by rw[a3.out];rfl,F1,M1,by rw[j5.out];exact i9.out⟩
 ·have j7:(E != 0)=true:=by simpa using d2
  have e1:hedE X l=E:=by unfold hedE;rw[if_pos (by rw[HE.out];exact d2),HE.out]
  have e2:hedX X l own=X:=by unfold hedX;rw[if_pos (by rw[HE.out];exact d2)]
  have H1:=dH e1;have H2:=dH e2;have Hb:=dH (bel2 d0 c9);clear e1 e2 d2 f2 d0 c9 t;(go_wp2_with fail);go_ret;exact⟨by rw[H1.out];rfl,F,M,by rw[H2.out];exact StNx.below Hs.out.at_ Hb.out⟩


structure Prt where
 tp:Bool
 cm:Bool
 bd:Int
 em:Bool
def prtC(x:Prt):Array Value:=#[.bool x.tp] ++ #[.bool x.cm] ++ #[.int .i64 x.bd] ++ #[.bool x.em]
@[simp] theorem prtC_size(x:Prt):(prtC x).size=4:=by simp[prtC]
@[go_sem] theorem prtC_g0(x:Prt):(prtC x)[0]?=some (.bool x.tp):=by first | (simp[prtC,Array.getElem?_append];done) | (rw[show prtC x=((#[]:Array Value)) ++ #[.bool x.tp]++(#[.bool x.cm] ++ #[.int .i64 x.bd] ++ #[.bool x.em])from by apply Array.ext';simp[prtC]];exact arr_at _ _ _ _ sI)
@[go_sem] theorem prtC_gg0(x:Prt)(h:0<(prtC x).size):(prtC x)[0]'h=.bool x.tp:=Option.some.inj ((Array.getElem?_eq_getElem h).symm.trans (prtC_g0 x))
@[go_sem] theorem prtC_g1(x:Prt):(prtC x)[1]?=some (.bool x.cm):=by first | (simp[prtC,Array.getElem?_append];done) | (rw[show prtC x=(#[.bool x.tp]) ++ #[.bool x.cm]++(#[.int .i64 x.bd] ++ #[.bool x.em])from by apply Array.ext';simp[prtC]];exact arr_at _ _ _ _ sI)
@[go_sem] theorem prtC_gg1(x:Prt)(h:1<(prtC x).size):(prtC x)[1]'h=.bool x.cm:=Option.some.inj ((Array.getElem?_eq_getElem h).symm.trans (prtC_g1 x))
@[go_sem] theorem prtC_g2(x:Prt):(prtC x)[2]?=some (.int .i64 x.bd):=by first | (simp[prtC,Array.getElem?_append];done) | (rw[show prtC x=(#[.bool x.tp] ++ #[.bool x.cm]) ++ #[.int .i64 x.bd]++(#[.bool x.em])from by apply Array.ext';simp[prtC]];exact arr_at _ _ _ _ sI)
@[go_sem] theorem prtC_gg2(x:Prt)(h:2<(prtC x).size):(prtC x)[2]'h=.int .i64 x.bd:=Option.some.inj ((Array.getElem?_eq_getElem h).symm.trans (prtC_g2 x))
@[go_sem] theorem prtC_g3(x:Prt):(prtC x)[3]?=some (.bool x.em):=by first | (simp[prtC,Array.getElem?_append];done) | (rw[show prtC x=(#[.bool x.tp] ++ #[.bool x.cm] ++ #[.int .i64 x.bd]) ++ #[.bool x.em]++((#[]:Array Value))from by apply Array.ext';simp[prtC]];exact arr_at _ _ _ _ sI)
@[go_sem] theorem prtC_gg3(x:Prt)(h:3<(prtC x).size):(prtC x)[3]'h=.bool x.em:=Option.some.inj ((Array.getElem?_eq_getElem h).symm.trans (prtC_g3 x))
@[go_sem] theorem prtC_all(x:Prt):(prtC x).extract 0 4=prtC x:=by have:=Array.extract_size (xs:=prtC x);rwa [prtC_size]at this
theorem prtC_one(x:Prt):∀u∈(prtC x).toList,u.oneCell'=true:=by
 intro u hu;simp only[prtC,Array.toList_append,mem_append]at hu;rcases hu with((hu | hu) | hu) | hu
 ·simp at hu;subst hu;rfl
 ·simp at hu;subst hu;rfl
 ·simp at hu;subst hu;rfl
 ·simp at hu;subst hu;rfl
def prt0:Prt:=⟨false,false,0,false⟩
theorem Prt_ext{x y:Prt}(h:x.tp=y.tp/\x.cm=y.cm/\x.bd=y.bd/\x.em=y.em):x=y:=by cases x;cases y;simp_all
instance:DecidableEq Prt:=λx y=>if h:x.tp=y.tp/\x.cm=y.cm/\x.bd=y.bd/\x.em=y.em then isTrue (Prt_ext h)else isFalse (λe=>h (by subst e;simp))
theorem infoPrt:(prog.info? 119).map (·.size)=some 4:=kR
@[go_sem ↓] theorem zeroPrt_run(w:World):(zeroValue 119).run prog w=.ok (.agg (prtC prt0)) w:=by
 have h:(prog.info? 119).bind (·.zero)=some (.agg (prtC prt0)):=kR;cases hi:prog.info? 119 with
 | none=>rw[hi]at h;cases h
 | some i =>
  rw[hi]at h;have hz:i.zero=some (.agg (prtC prt0)):=h;simp[zeroValue,typeInfo,hi,hz]
@[go_sem ↓] theorem loadPrt_rw(a:Addr):loadVar 119 a=ldS 119 a:=rfl
@[go_sem ↓] theorem storePrt_rw(a:Addr)(v:Value):storeVar 119 a v=stS 119 a v:=rfl
@[go_sem] theorem loadPrt_run(w:World)(g o:Nat):(ldS 119 ⟨g,o,none⟩).run prog w=match rowAt w g o 4 with | some cs=>.ok (.agg cs) w | none=>(loadVar 119 ⟨g,o,none⟩).run prog w :=
 run_ldS underlying119 rfl infoPrt w g o
@[go_sem] theorem storePrt_run(w:World)(g:Nat)(hg:g=w.heap.size)(z:Array Value)(hz:z.size=4)(x:Prt)(e:TypeId):(stS 119 ⟨g,0,none⟩ (.agg (prtC x))).run prog (w.alloc (.cells z e))=.ok () (w.alloc (.cells (prtC x) e)) :=
 hg ▸ run_stS_new infoPrt w z (prtC x) hz (prtC_size x) (prtC_one x)
@[go_sem ↓] theorem buildPrt_rw(parts:Array (Nat×Value)):Instr.build 119 parts=bdS 119 parts:=rfl
structure Ent where
 k:Int
 t:ByteArray
 b:ByteArray
 c:Id32
def entC(x:Ent):Array Value:=#[.int .i64 x.k] ++ #[.string x.t] ++ #[.string x.b]++idC x.c
@[simp] theorem entC_size(x:Ent):(entC x).size=35:=by simp[entC]
@[go_sem] theorem entC_g0(x:Ent):(entC x)[0]?=some (.int .i64 x.k):=by first | (simp[entC,Array.getElem?_append];done) | (rw[show entC x=((#[]:Array Value)) ++ #[.int .i64 x.k]++(#[.string x.t] ++ #[.string x.b]++idC x.c)from by apply Array.ext';simp[entC]];exact arr_at _ _ _ _ sI)
@[go_sem] theorem entC_gg0(x:Ent)(h:0<(entC x).size):(entC x)[0]'h=.int .i64 x.k:=Option.some.inj ((Array.getElem?_eq_getElem h).symm.trans (entC_g0 x))
@[go_sem] theorem entC_g2(x:Ent):(entC x)[2]?=some (.string x.b):=by first | (simp[entC,Array.getElem?_append];done) | (rw[show entC x=(#[.int .i64 x.k] ++ #[.string x.t]) ++ #[.string x.b]++(idC x.c)from by apply Array.ext';simp[entC]];exact arr_at _ _ _ _ sI)
@[go_sem] theorem entC_gg2(x:Ent)(h:2<(entC x).size):(entC x)[2]'h=.string x.b:=Option.some.inj ((Array.getElem?_eq_getElem h).symm.trans (entC_g2 x))
@[go_sem] theorem entC_e3(x:Ent):(entC x).extract 3 35=idC x.c:=by
 have h:entC x=(#[.int .i64 x.k] ++ #[.string x.t] ++ #[.string x.b])++idC x.c++((#[]:Array Value)):=by first | (simp[entC,Array.append_assoc];done) | (apply Array.ext';simp[entC];done)
 rw[h];exact arr_mid _ _ _ _ _ sI sI
@[go_sem] theorem entC_all(x:Ent):(entC x).extract 0 35=entC x:=by have:=Array.extract_size (xs:=entC x);rwa [entC_size]at this
theorem entC_one(x:Ent):∀u∈(entC x).toList,u.oneCell'=true:=by
 intro u hu;simp only[entC,Array.toList_append,mem_append]at hu;rcases hu with((hu | hu) | hu) | hu
 ·simp at hu;subst hu;rfl
 ·simp at hu;subst hu;rfl
 ·simp at hu;subst hu;rfl
 ·exact idC_one _ u hu
def ent0:Ent:=⟨0,⟨#[]⟩,⟨#[]⟩,id0⟩
theorem Ent_ext{x y:Ent}(h:x.k=y.k/\x.t=y.t/\x.b=y.b/\x.c=y.c):x=y:=by cases x;cases y;simp_all
instance:DecidableEq Ent:=λx y=>if h:x.k=y.k/\x.t=y.t/\x.b=y.b/\x.c=y.c then isTrue (Ent_ext h)else isFalse (λe=>h (by subst e;simp))
theorem infoEnt:(prog.info? 25).map (·.size)=some 35:=kR
@[go_sem ↓] theorem zeroEnt_run(w:World):(zeroValue 25).run prog w=.ok (.agg (entC ent0)) w:=by
 have h:(prog.info? 25).bind (·.zero)=some (.agg (entC ent0)):=kR;cases hi:prog.info? 25 with
 | none=>rw[hi]at h;cases h
 | some i =>
  rw[hi]at h;have hz:i.zero=some (.agg (entC ent0)):=h;simp[zeroValue,typeInfo,hi,hz]
@[go_sem ↓] theorem loadEnt_rw(a:Addr):loadVar 25 a=ldS 25 a:=rfl
@[go_sem ↓] theorem storeEnt_rw(a:Addr)(v:Value):storeVar 25 a v=stS 25 a v:=rfl
@[go_sem] theorem loadEnt_run(w:World)(g o:Nat):(ldS 25 ⟨g,o,none⟩).run prog w=match rowAt w g o 35 with | some cs=>.ok (.agg cs) w | none=>(loadVar 25 ⟨g,o,none⟩).run prog w :=
 run_ldS underlying25 rfl infoEnt w g o
@[go_sem] theorem storeEnt_run(w:World)(g:Nat)(hg:g=w.heap.size)(z:Array Value)(hz:z.size=35)(x:Ent)(e:TypeId):(stS 25 ⟨g,0,none⟩ (.agg (entC x))).run prog (w.alloc (.cells z e))=.ok () (w.alloc (.cells (entC x) e)) :=
 hg ▸ run_stS_new infoEnt w z (entC x) hz (entC_size x) (entC_one x)
@[go_sem ↓] theorem buildEnt_rw(parts:Array (Nat×Value)):Instr.build 25 parts=bdS 25 parts:=rfl
def entP(k:Int):Prt:=if k=7 then⟨true,false,1048512,true⟩ else if k=5\/k=6 then⟨true,false,0,false⟩ else if k=4 then⟨false,true,0,false⟩ else if k=1\/k=2 then⟨false,false,256,false⟩ else if k=3 then⟨false,false,512,false⟩ else⟨false,false,0,false⟩
@[go_sem] theorem prtC_s0(x:Prt)(v:Bool):(prtC x).setIfInBounds 0 (.bool v)=prtC { x with tp:=v }:=by simp[prtC]
@[go_sem] theorem prtC_s1(x:Prt)(v:Bool):(prtC x).setIfInBounds 1 (.bool v)=prtC { x with cm:=v }:=by simp[prtC]
@[go_sem] theorem prtC_s2(x:Prt)(v:Int):(prtC x).setIfInBounds 2 (.int .i64 v)=prtC { x with bd:=v }:=by simp[prtC]
@[go_sem] theorem prtC_s3(x:Prt)(v:Bool):(prtC x).setIfInBounds 3 (.bool v)=prtC { x with em:=v }:=by simp[prtC]
theorem prt_two(w:World)(p q:Prt) :
  (stS 119 ⟨w.heap.size,0,none⟩ (.agg (prtC p))).run prog ((w.alloc (.cells (prtC prt0) 119)).alloc (.cells (prtC q) 119))=.ok () (((w.alloc (.cells (prtC prt0) 119)).alloc (.cells (prtC q) 119)).setRow w.heap.size (prtC p)) /\
  (((w.alloc (.cells (prtC prt0) 119)).alloc (.cells (prtC q) 119)).setRow w.heap.size (prtC p)).heap[w.heap.size]?=some (.cells (prtC p) 119 (0,0)) /\
  Below w.heap.size w (((w.alloc (.cells (prtC prt0) 119)).alloc (.cells (prtC q) 119)).setRow w.heap.size (prtC p)):=by
 have x0:((w.alloc (.cells (prtC prt0) 119)).alloc (.cells (prtC q) 119)).heap[w.heap.size]?=some (.cells (prtC prt0) 119 (0,0)):=by
  rw[Below.heap_alloc _ _ _ sI];exact heap_alloc_new _ _
 have hB:Below w.heap.size w ((w.alloc (.cells (prtC prt0) 119)).alloc (.cells (prtC q) 119)):=(bA).alloc sI _;have hk:Keep [w.heap.size] ((w.alloc (.cells (prtC prt0) 119)).alloc (.cells (prtC q) 119)) (((w.alloc (.cells (prtC prt0) 119)).alloc (.cells (prtC q) 119)).setRow w.heap.size (prtC p)):=⟨rfl,rfl,rfl,by simp[setRow],λx _ hx=>setRow_other _ _ x _ (by simpa using hx)⟩
 exact⟨run_stS_at infoPrt _ _ (prtC prt0) (prtC p) _ x0 sI sI (prtC_one p),setRow_heap _ _ _ (prtC p) _ _ x0,hB.trans (hk.below hB.size sI)⟩
theorem ent_of(k:Int)(w:World):Calls prog 78 #[.int .i64 k] w λe w'=>e=.returned (.tuple #[.agg (prtC (entP k)),.bool (decide (1<=k/\k<=7))])/\Below w.heap.size w w':=by
 have h2:=λp q=>(prt_two w p q).1;have h3:=dH (λp q=>(prt_two w p q).2);have hk:k=7\/k=5\/k=6\/k=4\/k=1\/k=2\/k=3\/(k≠7/\k≠5/\k≠6/\k≠4/\k≠1/\k≠2/\k≠3):=oM;rcases hk with rfl | rfl | rfl | rfl | rfl | rfl | rfl | ⟨n7,n5,n6,n4,n1,n2,n3⟩
 ·go_enter func78,ntmps78
  (go_wp2_with fail);refine bodyPost_ret (results_ct results78 _ _ w.heap.size 119 (prtC (entP 7)) (0,0) _ rfl (h3.out _ _).1 underlying119 rfl (by rw[prtC_size];exact infoPrt)) rfl ?_;exact⟨rfl,(h3.out _ _).2⟩
 ·go_enter func78,ntmps78
  (go_wp2_with fail);refine bodyPost_ret (results_ct results78 _ _ w.heap.size 119 (prtC (entP 5)) (0,0) _ rfl (h3.out _ _).1 underlying119 rfl (by rw[prtC_size];exact infoPrt)) rfl ?_;exact⟨rfl,(h3.out _ _).2⟩
 ·go_enter func78,ntmps78
  (go_wp2_with fail);refine bodyPost_ret (results_ct results78 _ _ w.heap.size 119 (prtC (entP 6)) (0,0) _ rfl (h3.out _ _).1 underlying119 rfl (by rw[prtC_size];exact infoPrt)) rfl ?_;exact⟨rfl,(h3.out _ _).2⟩
 ·go_enter func78,ntmps78
  (go_wp2_with fail);refine bodyPost_ret (results_ct results78 _ _ w.heap.size 119 (prtC (entP 4)) (0,0) _ rfl (h3.out _ _).1 underlying119 rfl (by rw[prtC_size];exact infoPrt)) rfl ?_;exact⟨rfl,(h3.out _ _).2⟩
 ·go_enter func78,ntmps78
  (go_wp2_with fail);refine bodyPost_ret (results_ct results78 _ _ w.heap.size 119 (prtC (entP 1)) (0,0) _ rfl (h3.out _ _).1 underlying119 rfl (by rw[prtC_size];exact infoPrt)) rfl ?_;exact⟨rfl,(h3.out _ _).2⟩
 ·go_enter func78,ntmps78
  (go_wp2_with fail);refine bodyPost_ret (results_ct results78 _ _ w.heap.size 119 (prtC (entP 2)) (0,0) _ rfl (h3.out _ _).1 underlying119 rfl (by rw[prtC_size];exact infoPrt)) rfl ?_;exact⟨rfl,(h3.out _ _).2⟩
 ·go_enter func78,ntmps78
  (go_wp2_with fail);refine bodyPost_ret (results_ct results78 _ _ w.heap.size 119 (prtC (entP 3)) (0,0) _ rfl (h3.out _ _).1 underlying119 rfl (by rw[prtC_size];exact infoPrt)) rfl ?_;exact⟨rfl,(h3.out _ _).2⟩
 ·have e:entP k=prt0:=by unfold entP;rw[if_neg n7,if_neg oM,if_neg n4,if_neg oM,if_neg n3];rfl
  have hd:decide (1<=k/\k<=7)=false:=sO;rw[e,hd];have b7:(k==7)=false:=by simpa using n7
  have b5:(k==5)=false:=by simpa using n5
  have b6:(k==6)=false:=by simpa using n6
  have b4:(k==4)=false:=by simpa using n4
  have b1:(k==1)=false:=by simpa using n1
  have b2:(k==2)=false:=by simpa using n2
  have b3:(k==3)=false:=by simpa using n3
  clear n7 n5 n6 n4 n1 n2 n3 e hd;go_enter func78,ntmps78
  (go_wp2_with fail);refine bodyPost_ret (results_ct results78 _ _ w.heap.size 119 (prtC prt0) (0,0) _ rfl (h3.out _ _).1 underlying119 rfl (by rw[prtC_size];exact infoPrt)) rfl ?_;exact⟨rfl,(h3.out _ _).2⟩
theorem ba_empty(b:ByteArray):b.size=0↔b.toList.isEmpty=true:=by
 rw[isEmpty_iff,<-length_eq_zero_iff,ByteArray.toList_eq];exact Iff.rfl
theorem ent_check(x:EntX)(w:World)(hb:x.b.size<=9223372036854775807)(ht:x.t.size<=9223372036854775807) :
  Calls prog 32 #[.agg (entC ⟨x.k,x.t,x.b,x.c⟩)] w λe w'=>e=.returned (.int .i64 (entE x))/\Below w.heap.size w w':=by
 obtain⟨k,t,b,c⟩:=x;have hB:Below w.heap.size w (w.alloc (.cells (entC ⟨k,t,b,c⟩) 25)):=bA;have c1:=ent_of k (w.alloc (.cells (entC ⟨k,t,b,c⟩) 25));have hr:rowAt (w.alloc (.cells (entC ⟨k,t,b,c⟩) 25)) w.heap.size 0 35=some (entC ⟨k,t,b,c⟩):=by simp[go_sem]
 obtain⟨ga,I⟩:=eX w.heap.size
 obtain⟨W,hW⟩:=eR (w.alloc (.cells (entC ⟨k,t,b,c⟩) 25))
 rw[<-hW]at hB c1 hr;rw[I]at hr;have q0:W.cell? ⟨ga,0,none⟩=some (.int .i64 k):=by have:=rowAt_cell hr (j:=0) oM;rw[Nat.zero_add]at this;rw[this];simp[entC]
 obtain⟨ok,G⟩:∃ok,decide (1<=k/\k<=7)=ok:=⟨_,rfl⟩
 obtain⟨E,hE⟩:=eX (entE ⟨k,t,b,c⟩)
 obtain⟨p,hp⟩:=eX (entP k)
 rw[G,hp]at c1;rw[hE];have HW:=dH hW;have X:=dH I;have HB:=dH hB;have M:=dH G;have HE:=dH hE;have Hp:=dH hp;clear hW I hB G hE hp;go_enter func32,ntmps32
 (go_wp2_with fail);rw[<-HW.out,X.out];refine c1.mono ?_;rintro e w1 ⟨rfl,A⟩;have F:=((Keep.of_below A).row (rowAt_lt hr) sI _ _).trans hr;have J:Below w.heap.size w (w1.alloc (.cells (prtC p) 119)):=(HB.out.trans (A.mono HB.out.size)).alloc (Nat.le_trans HB.out.size A.size) _;have L:ga<w1.heap.size:=rowAt_lt F;have y:=((Keep.alloc w1 (.cells (prtC p) 119)).row L sI _ _).trans F;have f1:(w1.alloc (.cells (prtC p) 119)).cell? ⟨ga,1,none⟩=some (.string t):=by have:=rowAt_cell y (j:=1) oM;rw[Nat.zero_add]at this;rw[this];simp[entC]
 have f2:(w1.alloc (.cells (prtC p) 119)).cell? ⟨ga,2,none⟩=some (.string b):=by have:=rowAt_cell y (j:=2) oM;rw[Nat.zero_add]at this;rw[this];simp[entC]
 have f3:rowAt (w1.alloc (.cells (prtC p) 119)) ga 3 32=some (idC c):=by have:=rowAt_sub y (j:=3) (m:=32) oM;rw[Nat.zero_add]at this;rw[this];exact congrArg some (entC_e3 _)
 obtain⟨W2,D⟩:=eR (w1.alloc (.cells (prtC p) 119))
 have s:rowAt W2 w1.heap.size 0 4=some (prtC p):=by rw[D];simp[go_sem]
 obtain⟨gp,H⟩:=eX w1.heap.size
 rw[<-D]at J f1 f2 f3;rw[H]at s;have p0:W2.cell? ⟨gp,0,none⟩=some (.bool p.tp):=by have:=rowAt_cell s (j:=0) oM;rw[Nat.zero_add]at this;rw[this];simp[prtC]
 have p1:W2.cell? ⟨gp,1,none⟩=some (.bool p.cm):=by have:=rowAt_cell s (j:=1) oM;rw[Nat.zero_add]at this;rw[this];simp[prtC]
 have p2:W2.cell? ⟨gp,2,none⟩=some (.int .i64 p.bd):=by have:=rowAt_cell s (j:=2) oM;rw[Nat.zero_add]at this;rw[this];simp[prtC]
 have p3:W2.cell? ⟨gp,3,none⟩=some (.bool p.em):=by have:=rowAt_cell s (j:=3) oM;rw[Nat.zero_add]at this;rw[this];simp[prtC]
 have N:=dH D;have R:=dH H;have f:=dH J;clear c1 hr F y s D H J q0 A L;cases ok with
 | false =>
  (go_wp2_with fail);go_ret;exact⟨ret_int (by rw[<-HE.out];unfold entE;rw[if_pos (by have:=of_decide_eq_false M.out;show k<1\/7<k;omega)]),by rw[<-N.out];exact f.out⟩
 | true =>
  go_upto_region 4 with fail
  rw[<-N.out,R.out];have O:(p=⟨true,false,1048512,true⟩/\k=7)\/(p=⟨true,false,0,false⟩/\(k=5\/k=6))\/(p=⟨false,true,0,false⟩/\k=4)\/(p=⟨false,false,256,false⟩/\(k=1\/k=2))\/(p=⟨false,false,512,false⟩/\k=3):=by
   have h1:=of_decide_eq_true M.out;have hk:k=7\/k=5\/k=6\/k=4\/k=1\/k=2\/k=3:=oM;rw[<-Hp.out];rcases hk with rfl | rfl | rfl | rfl | rfl | rfl | rfl <;> simp[entP]
  rcases O with⟨rfl,hk⟩ | ⟨rfl,hk⟩ | ⟨rfl,hk⟩ | ⟨rfl,hk⟩ | ⟨rfl,hk⟩
  ·subst hk;obtain⟨B,r⟩:=eX b.toList.isEmpty
   have d:Hid (b.size=0↔B=true):=dH (by rw[<-r];exact ba_empty b);obtain⟨C,hC⟩:=eX (c==id0)
   have ck:=check_any t W2 ht;obtain⟨Z,hZ⟩:=eX (checkB t)
   rw[hZ]at ck;obtain⟨V,hV⟩:=eX (Z != 0)
   have HZ:=dH hZ;clear hZ;cases B <;> cases C <;> cases V
   all_goals
    go_wp2_with fail
    all_goals first
    | (go_ret;refine⟨ret_int ?_,f.out⟩;rw[<-HE.out];have h2:=d.out;have h3:=HZ.out;unfold entE;first | (simp_all;done) | (simp_all;omega))
    | (refine ck.mono ?_;rintro e w9 ⟨rfl,g⟩;have g2:=(g.cell (p:=⟨ga,2,none⟩) (block_lt_of_cell? W2 _ f2)).trans f2;have r2:=(g.cell (p:=⟨gp,2,none⟩) (block_lt_of_cell? W2 _ p2)).trans p2;have r3:=(g.cell (p:=⟨gp,3,none⟩) (block_lt_of_cell? W2 _ p3)).trans p3;go_wp2_with fail;all_goals (go_ret;refine⟨ret_int ?_,f.out.trans (g.mono f.out.size)⟩;rw[<-HE.out];have h2:=d.out;have h3:=HZ.out;unfold entE;first | (simp_all;done) | (simp_all;omega)))
  ·rcases hk with rfl | rfl
   all_goals
    obtain⟨B,r⟩:=eX b.toList.isEmpty
    have d:Hid (b.size=0↔B=true):=dH (by rw[<-r];exact ba_empty b);obtain⟨C,hC⟩:=eX (c==id0)
    have ck:=check_any t W2 ht;obtain⟨Z,hZ⟩:=eX (checkB t)
    rw[hZ]at ck;obtain⟨V,hV⟩:=eX (Z != 0)
    have HZ:=dH hZ;clear hZ;cases B <;> cases C <;> cases V
    all_goals
     go_wp2_with fail
     all_goals first
     | (go_ret;refine⟨ret_int ?_,f.out⟩;rw[<-HE.out];have h2:=d.out;have h3:=HZ.out;unfold entE;first | (simp_all;done) | (simp_all;omega))
     | (refine ck.mono ?_;rintro e w9 ⟨rfl,g⟩;have g2:=(g.cell (p:=⟨ga,2,none⟩) (block_lt_of_cell? W2 _ f2)).trans f2;have r2:=(g.cell (p:=⟨gp,2,none⟩) (block_lt_of_cell? W2 _ p2)).trans p2;have r3:=(g.cell (p:=⟨gp,3,none⟩) (block_lt_of_cell? W2 _ p3)).trans p3;go_wp2_with fail;all_goals (go_ret;refine⟨ret_int ?_,f.out.trans (g.mono f.out.size)⟩;rw[<-HE.out];have h2:=d.out;have h3:=HZ.out;unfold entE;first | (simp_all;done) | (simp_all;omega)))
  ·subst hk;obtain⟨T,hT⟩:=eX t.toList.isEmpty
   obtain⟨B,r⟩:=eX b.toList.isEmpty
   have HT:Hid (t.size=0↔T=true):=dH (by rw[<-hT];exact ba_empty t);have d:Hid (b.size=0↔B=true):=dH (by rw[<-r];exact ba_empty b);cases T <;> cases B
   all_goals
    go_wp2_with fail
    all_goals
     go_ret;refine⟨ret_int ?_,f.out⟩;rw[<-HE.out];have h1:=HT.out;have h2:=d.out;unfold entE
     simp_all
  ·rcases hk with rfl | rfl
   all_goals
    obtain⟨T,hT⟩:=eX t.toList.isEmpty
    obtain⟨B,r⟩:=eX b.toList.isEmpty
    have HT:Hid (t.size=0↔T=true):=dH (by rw[<-hT];exact ba_empty t);have d:Hid (b.size=0↔B=true):=dH (by rw[<-r];exact ba_empty b);obtain⟨C,hC⟩:=eX (c==id0)
    cases T <;> cases B <;> cases C
    all_goals
     go_wp2_with fail
     all_goals
      go_ret;refine⟨ret_int ?_,f.out⟩;rw[<-HE.out];have h1:=HT.out;have h2:=d.out;unfold entE;first | (simp_all;done) | (simp_all;omega)
  ·subst hk;obtain⟨T,hT⟩:=eX t.toList.isEmpty
   obtain⟨B,r⟩:=eX b.toList.isEmpty
   have HT:Hid (t.size=0↔T=true):=dH (by rw[<-hT];exact ba_empty t);have d:Hid (b.size=0↔B=true):=dH (by rw[<-r];exact ba_empty b);obtain⟨C,hC⟩:=eX (c==id0)
   cases T <;> cases B <;> cases C
   all_goals
    go_wp2_with fail
    all_goals
     go_ret;refine⟨ret_int ?_,f.out⟩;rw[<-HE.out];have h1:=HT.out;have h2:=d.out;unfold entE;first | (simp_all;done) | (simp_all;omega)
section
section
variable {X:StX} {t b:ByteArray} {c:Id32}
theorem appS_1(h:entE ⟨1,t,b,c⟩=0):AppS X ⟨1,t,b,c⟩ (hedE X b.data.toList) (hedX X b.data.toList true):=by
 unfold AppS;rw[if_neg (by rw[h];decide),if_pos (by dsimp only;decide)];unfold hedE hedX;split <;> exact⟨rfl,rfl⟩
theorem appS_3(h:entE ⟨3,t,b,c⟩=0):AppS X ⟨3,t,b,c⟩ (putE X.S X.q b) (paySX X b):=by
 unfold AppS;rw[if_neg (by rw[h];decide),if_neg (by dsimp only;decide),if_pos rfl];exact⟨rfl,rfl⟩
end
end
theorem st_new(w:World)(q:Int)(hv:Vars w) :
  Calls prog 87 #[.int .i64 q] w λe w'=>(if 0<=q/\q<=4096 then ∃g F,e=.returned (.tuple #[.pointer (some ⟨g,0,none⟩),.int .i64 0])/\StateAt w' g F F ⟨q,[],[],[],[]⟩/\(∀x∈F,w.heap.size<=x)else e=.returned (.tuple #[.pointer none,.int .i64 1]))/\Below w.heap.size w w':=by
 have c1:=sto_new w q;have a0:=@run_makeMap prog;by_cases h:0<=q/\q<=4096
 ·simp only[if_pos h]at c1 |-;have Hv:=dH hv;clear hv;go_enter func87,ntmps87
  (go_wp2_with fail);refine c1.mono ?_;rintro e w1 ⟨gs,Fs,rfl,B,I,k⟩;have cD:=dag_new w1;have O:=dH B;have U:=dH I;have t:=dH k;clear c1 B I k;(go_wp2_with fail);refine cD.mono ?_;rintro e w2 ⟨gd,Fd,rfl,G,J,H⟩;have R:=dH G;have V:=dH J;have T:=dH H;clear cD G J H;(go_wp2_with fail);go_ret2;obtain⟨w3,s⟩:=eR (w2.alloc (.map #[] 0))
  obtain⟨w4,r⟩:=eR (w3.alloc (.map #[] 0))
  obtain⟨w5,m⟩:=eR (w4.alloc (.cells (stC gd gs w2.heap.size (w2.heap.size+1)) 85))
  have z3:w3.heap.size=w2.heap.size+1:=by rw[s];simp
  have z4:w4.heap.size=w2.heap.size+1+1:=by rw[r];simp[z3]
  have z5:w5.heap.size=w2.heap.size+1+1+1:=by rw[m];simp[z4]
  have Y:Below w2.heap.size w2 w3:=by rw[s];exact bA
  have L:Below w3.heap.size w3 w4:=by rw[r];exact bA
  have A:Below w4.heap.size w4 w5:=by rw[m];exact bA
  have M:=bel2 (bel2 Y L) A;have N:=bel2 T.out M;have Z:=bel2 t.out N;have hO:IdSet w5 w2.heap.size []:=((by rw[s];exact SetAt.new w2 w2.heap.size rfl:IdSet w3 w2.heap.size []).below L).below A;have X:MapAt w4 (w2.heap.size+1) Value.string ptrVal okStr ([]:List (ByteArray×Nat)) #[] 0:=by rw[r,<-z3];exact MapAt.new w3 w3.heap.size rfl
  have hV:MapAt w5 (w2.heap.size+1) Value.string ptrVal okStr ([]:List (ByteArray×Nat)) #[] 0:=X.kept (Keep.of_below A) sI;have hg:w5.heap[w2.heap.size+1+1]?=some (.cells (stC gd gs w2.heap.size (w2.heap.size+1)) 85 (0,0)):=by rw[m,<-z4];exact heap_alloc_new _ _
  show(∃g F,_/\StateAt ((((w2.alloc (.map #[] 0)).alloc (.map #[] 0)).alloc (.cells (stC gd gs w2.heap.size (w2.heap.size+1)) 85))) g F F _/\_)/\_;rw[<-s,<-r,<-m];have s0:=t.out.size;have s1:=T.out.size;have j:=R.out.lt;have f:=O.out.lt;have D:StIn w5 (w2.heap.size+1+1) gd gs w2.heap.size (w2.heap.size+1) Fd Fs (stFs (w2.heap.size+1+1) w2.heap.size (w2.heap.size+1) Fd Fs []).flatten [] ⟨q,[],[],[],[]⟩:=by
   refine⟨hg,R.out.below M,O.out.kept (Keep.of_below N) sI,hO,⟨[],#[],0,hV,Perm.refl _⟩,sI,rfl,?_⟩;unfold Apart stFs;simp only[map_nil,pairwise_cons,mem_cons,not_mem_nil,or_false,false_imp_iff,implies_true,Pairwise.nil,and_true];refine⟨λb hb x hx d=>?_,λb hb x hx d=>?_,λb hb x hx d=>?_,λb hb x hx d=>?_⟩
   ·subst hx;rcases hb with rfl | rfl | rfl | rfl
    ·rw[mem_singleton]at d;omega
    ·rw[mem_singleton]at d;omega
    ·have:=j _ d;omega
    ·have:=f _ d;omega
   ·subst hx;rcases hb with rfl | rfl | rfl
    ·rw[mem_singleton]at d;omega
    ·have:=j _ d;omega
    ·have:=f _ d;omega
   ·subst hx;rcases hb with rfl | rfl
    ·have:=j _ d;omega
    ·have:=f _ d;omega
   ·subst hb;have h1:=V.out x hx;have h2:=f _ d;omega
  have E:∀x∈(stFs (w2.heap.size+1+1) w2.heap.size (w2.heap.size+1) Fd Fs []).flatten,w.heap.size<=x:=λx hx=>by
   rcases stFs_mem.1 hx with e | e | e | e | e | ⟨p,hp,e⟩
   ·omega
   ·omega
   ·omega
   ·have:=V.out x e;omega
   ·exact U.out x e
   ·simp at hp
  refine⟨⟨_,_,rfl,⟨gd,gs,_,_,Fd,Fs,[],D,rfl,λ_ hx=>hx,λx hx=>?_,?_⟩,E⟩,Z⟩
  ·obtain⟨b,hb,hx⟩:=mem_flatten.1 hx;exact D.lt b hb x hx
  ·exact NoVars.more Hv.out (F:=[]) ⟨sI,sI,sI⟩ (λy hy=>.inr (E y hy))
 ·simp only[if_neg h]at c1 |-;clear h;go_enter func87,ntmps87
  (go_wp2_with fail);refine c1.mono ?_;rintro e w1 ⟨rfl,k⟩;have t:=dH k;clear k c1;(go_wp2_with fail);go_ret2;exact⟨rfl,t.out⟩
theorem st_held(w:World)(g:Nat)(F M:List Nat)(X:StX)(h:StateAt w g F M X)(hn:X.S.length<=1000000) :
  Calls prog 34 #[.pointer (some ⟨g,0,none⟩)] w λe w'=>∃A cap,e=.returned (.slice A X.S.length cap)/\Own w' w.heap.size 23 32 A X.S.length cap ((X.S.map (·.c)).map idC)/\Below w.heap.size w w':=by
 obtain⟨gd,gs,bo,bv,Fd,Fs,N,h⟩:=h.sp;have c0:w.cell? ⟨g,0,none⟩=some (.pointer (some ⟨gd,0,none⟩)):=by rw[cell_of_row w g 0 _ _ _ h.st.heap];rfl
 have c1:w.cell? ⟨g,1,none⟩=some (.pointer (some ⟨gs,0,none⟩)):=by rw[cell_of_row w g 1 _ _ _ h.st.heap];rfl
 have cN:=st_none w g gd c0;have cA:=sto_all w gs Fs X.q X.S h.st.sto hn;clear h;go_enter func34,ntmps34
 (go_wp2_with fail);refine cN.mono ?_;rintro e w1 ⟨rfl,rfl⟩;clear cN;(go_wp2_with fail);refine cA.mono ?_;rintro e w2 ⟨A,cap,rfl,ho,hb⟩;have HF:=dH (And.intro ho hb);clear cA ho hb;(go_wp2_with fail);go_ret;exact⟨A,cap,rfl,HF.out.1,HF.out.2⟩

theorem beN_len(M n:Nat):(beL M n).length=M:=by
 have:(⟨(beL M n).toArray⟩:ByteArray).size=M:=beL_size M n;exact this
theorem hof_put{h:HdV}(he:hdE h=0):hofE (hdB h)=0/\hofH (hdB h)=h:=by
 have ok:=hdE_ok he;have f:h.tp.size<=12:=kindB_small (hdE_tp he);obtain⟨ps,ht,tp,au,sq,sz,cm⟩:=h;have k:ps.length<=4:=ok.ps;have b1:=ok.ht;have b2:=ok.au;have b3:=ok.sq;have b4:=ok.sz;dsimp only at b1 b2 b3 b4 f;have h1:((ht.toNat:Nat):Int)=ht:=Int.toNat_of_nonneg oM;have h2:((au.toNat:Nat):Int)=au:=Int.toNat_of_nonneg oM;have h3:((sq.toNat:Nat):Int)=sq:=Int.toNat_of_nonneg oM;have h4:((sz.toNat:Nat):Int)=sz:=Int.toNat_of_nonneg oM;have e:hdB ⟨ps,ht,tp,au,sq,sz,cm⟩=beL 1 ps.length++(ps.flatMap (·.l)++(beL 4 ht.toNat++(beL 1 tp.size++(tp.data.toList++(beL 1 au.toNat++(beL 4 sq.toNat++(beL 2 sz.toNat++(cm.l ++ [])))))))):=by
  unfold hdB;simp
 have hV:hofV (hdB ⟨ps,ht,tp,au,sq,sz,cm⟩)=(⟨ps,ht,tp,au,sq,sz,cm⟩,[],0):=by
  rw[e];unfold hofV hofP;obtain⟨n1,n2,n3⟩:=num_put (M:=1) (n:=ps.length) oM (ps.flatMap (·.l)++(beL 4 ht.toNat++(beL 1 tp.size++(tp.data.toList++(beL 1 au.toNat++(beL 4 sq.toNat++(beL 2 sz.toNat++(cm.l ++ []))))))));rw[n1,n2,n3,show(λx:Id32=>x.l)=idP.put from rfl,loopG_put idLaw ps [] _ (λ_ _=>trivial)];unfold hofT;obtain⟨a1,a2,a3⟩:=num_put (M:=4) (n:=ht.toNat) oM (beL 1 tp.size++(tp.data.toList++(beL 1 au.toNat++(beL 4 sq.toNat++(beL 2 sz.toNat++(cm.l ++ []))))));obtain⟨t1,t2,t3⟩:=tx_put (s:=tp) oM (beL 1 au.toNat++(beL 4 sq.toNat++(beL 2 sz.toNat++(cm.l ++ []))));obtain⟨u1,u2,u3⟩:=num_put (M:=1) (n:=au.toNat) oM (beL 4 sq.toNat++(beL 2 sz.toNat++(cm.l ++ [])));obtain⟨s1,s2,s3⟩:=num_put (M:=4) (n:=sq.toNat) oM (beL 2 sz.toNat++(cm.l ++ []));obtain⟨z1,z2,z3⟩:=num_put (M:=2) (n:=sz.toNat) oM (cm.l ++ []);obtain⟨c1,c2,c3⟩:=id_back (d:=cm) [];simp only[a1,a2,a3,t1,t2,t3,u1,u2,u3,s1,s2,s3,z1,z2,z3,c1,c2,c3,h1,h2,h3,h4,nil_append]
 have j:(hdB ⟨ps,ht,tp,au,sq,sz,cm⟩).length<=256:=by
  have hf:∀L:List Id32,(L.flatMap (·.l)).length=32*L.length:=λL=>by
   induction L with
   | nil=>rfl
   | cons x L ih=>rw[flatMap_cons,length_append,ih,x.h,length_cons];omega
  have g:tp.data.toList.length=tp.size:=rfl;rw[e];simp only[length_append,beN_len,hf,g,cm.h,length_nil];omega
 refine⟨?_,by unfold hofH;rw[hV]⟩;unfold hofE;rw[if_neg oM,hV];show(if endE [] 0≠0 then endE [] 0 else hdE ⟨ps,ht,tp,au,sq,sz,cm⟩)=0;rw[if_neg (by decide)];exact he
theorem awT_kind:kindB awT=1:=by decide +kernel
theorem aw_ent3(b:ByteArray)(h:b.size=5):entE ⟨3,⟨#[]⟩,b,id0⟩=0:=by
 unfold entE;rw[if_neg (by dsimp only;omega),if_neg (by dsimp only;simp;decide),if_neg (by dsimp only;omega),if_neg (by dsimp only;omega),if_neg (by dsimp only;omega)]



abbrev entR(x:EntX):Array Value:=entC ⟨x.k,x.t,x.b,x.c⟩
section
open Go.RowKit Go.WideShapes
theorem opens_slice{T E:TypeId}{α:Type}{e:α->Array Value}{ok:α->Prop}{k:Nat}(u:P.underlying T=some (.slice E))(o:Opens P w E e ok)(hk:P.cellsOf E=k)(y:0<k) :
  Opens P w T (λs:Option Addr×Nat×Nat×List α=>#[.slice s.1 s.2.1 s.2.2.1]) (λs=>SlR w s.1 s.2.1 k (s.2.2.2.map e)/\s.2.1<=s.2.2.1/\s.2.2.1<=maxLen):=by
 intro H enc base r F G cs x h;rcases Go.Deep.open_slice u h with⟨h0,hx⟩ | ⟨a,len,cap',m,f,D,Pl,hcs,hb,hlc,hcm,hm,hx,hel⟩
 ·exact⟨(none,0,0,[]),h0,⟨rfl,λh=>(Nat.lt_irrefl 0 h).elim⟩,lR,zL⟩
 ·have I:len<=m:=by rw[hm];split <;> omega
  have j:∀i,i<len->∃x:α,w.cells? base (a.add (i*k)) k=some (e x).toList/\ok x:=by
   intro i hi;obtain⟨J,h1,h2⟩:=hel i oM;rw[hk]at h1;obtain⟨x,rfl,hx⟩:=o _ _ _ _ _ _ _ h2;exact⟨x,h1,hx⟩
  clear hel;by_cases hn:len=0
  ·subst hn;exact⟨(some a,0,cap',[]),hcs,⟨rfl,λh=>(Nat.lt_irrefl 0 h).elim⟩,oM,oM⟩
  ·obtain⟨x0,d,_⟩:=j 0 oM
   haveI:Inhabited α:=⟨x0⟩
   obtain⟨R,hR⟩:=Go.Deep.choose_lt j;have t:a.spot=none:=by
    unfold cells? at d;split at d
    ·have:=mapM_some_get d 0 0 (by simp[y]);have A:(e x0).toList.length=k:=by simpa using mapM_some_length d
     rw[getElem?_eq_getElem oM]at this;have:=cell?_spot this;simpa[Addr.add]using this
    ·cases d
   obtain⟨g,o',sp⟩:=a;simp only at t;subst t;refine⟨(some ⟨g,o',none⟩,len,cap',(List.range len).map R),hcs,⟨sI,λ_=>⟨g,o',rfl,?_⟩⟩,oM,oM⟩;intro i hi;have B:i<len:=by simpa using hi
   have h1:=(hR i B).1;have e1:(⟨g,o',none⟩:Addr).add (i*k)=⟨g,o'+i*k,none⟩:=by
    unfold Addr.add;split
    ·rename_i e;rw[e];rfl
    ·rfl
   rw[e1]at h1;rw[rowAt_of_cells h1 y]
   simp
end
section
open Go.ChangeShapes Go.WideShapes Go.RowKit
theorem laidMet_tail{n:String}{d:DataW Unit}{r:List (String×DataW Unit)}(h:laidMet P ((n,d) :: r) w):laidMet P r w:=by
 obtain⟨ps,⟨g,t,cs,f,p,q,_,_,_,_,hr,rfl⟩,hn,hc⟩:=h;exact⟨q,hr,(nodup_append.1 hn).2.1,λb off hm=>hc b off (mem_append_right _ hm)⟩
def laid3:List (String×DataW Unit):=[("petrel/sha.first",Rows.laid_petrel_sha_first),("petrel/sha.k",Rows.laid_petrel_sha_k),("petrel/op.parts",Rows.laid_petrel_op_parts)]
theorem laid_first:(Rows.laid_petrel_sha_first:DataW Unit)=Lib.tabData .u32 (hU.map nU):=kR
theorem laid_k:(Rows.laid_petrel_sha_k:DataW Unit)=Lib.tabData .u32 (kU.map nU):=kR
theorem nU_getD(L:List UInt32)(k:Nat)(hk:k<L.length):(L.map nU).getD k 0=nU (L.getD k 0):=by
 simp[getD,hk]
theorem shaVars_of_laid(h:laidMetH prog laid3 W):ShaVars W:=by
 have h':laidMet prog laid3 W:=h;unfold laid3 at h';have h2:=laidMet_tail h';rw[laid_first]at h';rw[laid_k]at h2;have hT:=Lib.tabIs_of_head (P:=prog) (g:=0) (t:=189) (e:=188) (n:=8) kR kR underlying189 underlying188 kR kR h';have d:=Lib.tabIs_of_head (P:=prog) (g:=2) (t:=277) (e:=188) (n:=64) kR kR underlying277 underlying188 kR kR h2;refine⟨λk hk=>?_,λk hk=>?_⟩
 ·rw[hT.cell (g:=0) kR k (by rw[length_map];exact hk),nU_getD _ _ (by exact hk)]
 ·rw[d.cell (g:=2) kR k (by rw[length_map];exact hk),nU_getD _ _ (by exact hk)]
def laidWorld3(P:Program)(os:Os):World :=
 (((holding P os ⟨#[],#[],[]⟩).setRow 0 ((hU.map λu=>Value.int .u32 (nU u)).toArray)).setRow 2 ((kU.map λu=>Value.int .u32 (nU u)).toArray)).setRow 1 #[.int .i64 0,.int .i64 1,.int .i64 4,.int .i64 20,.int .i64 7,.int .i64 22,.int .i64 12,.int .i64 8]
theorem trodVars_nil{enc:TypeId×Value->H}{g:Nat->Bool}{gs:List (DataW H)}{q:List MemPlace}(hV:DataW.TrodVars enc P w g [] gs q):gs = []/\q = []:=by
 cases gs with
 | nil=>exact⟨rfl,hV⟩
 | cons g r=>exact absurd hV (by intro h;cases h)
end
section
open Go.ChangeShapes Go.WideShapes Go.ChangeAt Go.RowKit Go.WideMaps Go.WideElems
theorem maxLen_leE:maxLen<=9223372036854775807:=by decide
theorem opensEnt:Opens prog w 25 entR (λx=>x.b.size<=9223372036854775807/\x.t.size<=9223372036854775807):=by
 intro H enc base j k m cs x h;obtain⟨xs,n,rfl,_,g,d,f⟩:=DataW.trod_struct underlying25 h;have hc:prog.cellsOf 25=35:=kR;rw[hc]at g;obtain⟨a0,h0,_⟩:=opens_field d f (opens_int underlying3) 0 0 1 _ rfl rfl rfl kR;obtain⟨a1,h1,k1⟩:=opens_field d f (opens_string underlying9) 1 1 1 _ rfl rfl rfl kR;obtain⟨a2,h2,k2⟩:=opens_field d f (opens_string underlying9) 2 2 1 _ rfl rfl rfl kR;obtain⟨a3,h3,_⟩:=opens_field d f opensId 3 3 32 _ rfl rfl rfl kR;have r:=maxLen_leE;refine⟨⟨a0,a1,a2,a3⟩,?_,(by simp only;omega),(by simp only;omega)⟩;have e0:cs.drop 0=(cs.drop 0).take 1++cs.drop 1:=take_seg;have e1:cs.drop 1=(cs.drop 1).take 1++cs.drop 2:=take_seg;have e2:cs.drop 2=(cs.drop 2).take 1++cs.drop 3:=take_seg;have e3:cs.drop 3=(cs.drop 3).take 32++cs.drop 35:=take_seg;have en:cs.drop 35 = []:=drop_eq_nil_of_le oM;refine e0.trans ?_;rw[h0,e1,h1,e2,h2,e3,h3,en];simp[entC]
theorem parts_of_laid3(h:laidMetH prog laid3 W):PartsVar W:=by
 have h0:laidMet prog laid3 W:=h;unfold laid3 at h0;have h':laidMet prog [("petrel/op.parts",Lib.tabData .i64 [0,1,4,20,7,22,12,8])] W:=laidMet_tail (laidMet_tail h0);have hT:=Lib.tabIs_of_head (P:=prog) (g:=1) (t:=226) (e:=3) (n:=8) kR kR underlying226 underlying3 kR kR h';intro k hk;have hc:=hT.cell (g:=1) kR k (by simpa using hk);rw[hc];have h8:k=0\/k=1\/k=2\/k=3\/k=4\/k=5\/k=6\/k=7:=oM;rcases h8 with rfl | rfl | rfl | rfl | rfl | rfl | rfl | rfl <;> rfl
theorem trodAll_three{enc:TypeId×Value->H}{base:Nat}{d:Nat->Bool}{f:Bool}{t0 t1 t2:TypeId}{ds:List (DataW H)}{ps:List MemPlace}(h:DataW.TrodAll enc P w base d f [t0,t1,t2] args.toList ds ps) :
  ∃(v0 v1 v2:Value) (d0 d1 d2:DataW H) (p0 p1 p2:List MemPlace),args = #[v0,v1,v2]/\ds = [d0,d1,d2]/\ps=p0++(p1++p2)/\DataW.Trod enc P w base d f t0 v0 d0 p0/\DataW.Trod enc P w base d f t1 v1 d1 p1/\DataW.Trod enc P w base d f t2 v2 d2 p2:=by
 obtain⟨v0,m,d0,t,p0,q0,g,rfl,rfl,h0,r0⟩:=Go.ChangeShapes.trodAll_cons h;obtain⟨v1,k,d1,s,p1,q1,rfl,rfl,rfl,h1,r1⟩:=Go.ChangeShapes.trodAll_cons r0;obtain⟨v2,j,d2,r,p2,q2,rfl,rfl,rfl,h2,r2⟩:=Go.ChangeShapes.trodAll_cons r1;obtain⟨rfl,rfl,rfl⟩:=Go.ChangeShapes.trodAll_nil r2;exact⟨v0,v1,v2,d0,d1,d2,p0,p1,p2,by cases args;simp_all,rfl,sI,h0,h1,h2⟩
end
end Go.Proofs.YtplpiicfkbpkaaaGreatDoor
