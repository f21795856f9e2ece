/- Part 11 of the texts that lead to this claim: the walks of the functions and the plain law, in order. -/
import Derived.Test.YtgfpjjppeldhbaaGreatDoorMv10
import Derived.IntWalk
namespace Go.Proofs.YtgfpjjppeldhbaaGreatDoor
open Go.RowKit
set_option maxRecDepth 100000
set_option maxHeartbeats 8000000
theorem QD(X:List Row):∀r∈X.map y4,∀u∈r.toList,u.oneCell'=true:=by
 intro r hr;obtain⟨x,_,rfl⟩:=List.mem_map.1 hr;exact j9 x
theorem dK{g:Nat}{w W w':World}(h:z6 [] w W)(k:z6 [g] W w'):z6 [g] w w':=z6.trans (h.mono sI) k iL
theorem rvdoes_2(m:yW)(o:OpV)(A:Option Addr)(c:Nat)(w:World)(g:Nat)(t:ByteArray)(I:List zE)(x:RV)(h:qV w g t I x)(hk:o.k=2)(E:o.key.size<=16)(r:o.val.size<=16)(s:o.refs.length<=8)(N:-2147483648<=o.n)(R:o.n<2147483648)(hA:zY w A o.refs.length o.refs)(a1:g∉blk A)(U:mV x)(hl:x.len<=10000) :
  Calls Tryz.prog 73 #[.pointer (some ⟨g,0,none⟩),.agg (zN m),.agg (opC o A c)] w λe w'=>e=.returned (.tuple #[])/\qV w' g t I (wR m o x)/\z6 [g] w w':=by
 obtain⟨k,n,key,val,ref,refs⟩:=o;dsimp only at hk E r s N R hA;subst hk;obtain⟨si,sa,sg,sl,sm,so,ss,sd,h⟩:=h;have D:Below w.heap.size w ((w.alloc (.cells (zN m) 41)).alloc (.cells (zB ⟨(2:Int),n,key,val,ref,.slice A refs.length c⟩) 52)):=(bA).alloc sI _;have rm:z7 ((w.alloc (.cells (zN m) 41)).alloc (.cells (zB ⟨(2:Int),n,key,val,ref,.slice A refs.length c⟩) 52)) w.heap.size 0 34=some (zN m):=by simp[go_sem]
 have ro:z7 ((w.alloc (.cells (zN m) 41)).alloc (.cells (zB ⟨(2:Int),n,key,val,ref,.slice A refs.length c⟩) 52)) (w.heap.size+1) 0 37=some (zB ⟨(2:Int),n,key,val,ref,.slice A refs.length c⟩):=by simp[go_sem]
 have X:=h.lt;have y:=h.lens;unfold opC;rw[show((2:Nat):Int)=(2:Int)from rfl];go_enter Tryz.func73,Tryz.ntmps73
 go_upto_region 1 with fail
 have H:=h.below D;have Y:zY ((w.alloc (.cells (zN m) 41)).alloc (.cells (zB ⟨(2:Int),n,key,val,ref,.slice A refs.length c⟩) 52)) A refs.length refs:=SlR.below hA D;obtain⟨gm,F⟩:=eX w.heap.size
 obtain⟨W,hW⟩:=eX ((w.alloc (.cells (zN m) 41)).alloc (.cells (zB ⟨(2:Int),n,key,val,ref,.slice A refs.length c⟩) 52))
 rw[hW]at D rm ro H Y;rw[hW];have a2:=dH F;rw[F]at rm ro X |-;clear hW F h hA;have m0:z7 W gm 0 32=some (idC m.id):=by have:=zX rm (j:=0) (m:=32) oM;rwa [qZ]at this
 have m1:W.cell? ⟨gm,32,none⟩=some (.int .i64 m.h):=by have:=z8 rm (j:=32) oM;rwa [kP,Nat.zero_add]at this
 have o0:W.cell? ⟨gm+1,0,none⟩=some (.int .i64 (2:Int)):=by have:=z8 ro (j:=0) oM;rwa [qK]at this
 have o1:W.cell? ⟨gm+1,1,none⟩=some (.int .i64 n):=by have:=z8 ro (j:=1) oM;rwa [j6]at this
 have o2:W.cell? ⟨gm+1,2,none⟩=some (.string key):=by have:=z8 ro (j:=2) oM;rwa [jB]at this
 have o3:W.cell? ⟨gm+1,3,none⟩=some (.string val):=by have:=z8 ro (j:=3) oM;rwa [jA]at this
 have o4:z7 W (gm+1) 4 32=some (idC ref):=by have:=zX ro (j:=4) (m:=32) oM;rwa [jO]at this
 have o5:W.cell? ⟨gm+1,36,none⟩=some (.slice A refs.length c):=by have:=z8 ro (j:=36) oM;rwa [qM]at this
 have a0:g<W.heap.size:=H.lt;have V:gm<W.heap.size:=zD rm;have T:gm+1<W.heap.size:=zD ro;have L:z6 [] w W:=z6.of_below D;have Z:=dH L;clear rm ro D L;unfold RV.len at hl;obtain⟨l1,l2,l3,l4,l5,l6,l7⟩:=y;have hX:=H.below (w':=W.drew) ((Below.refl _ _).drew);have cc:=radd3 m.id val W.drew g _ sa.A sa.n sa.c x.adds hX.hp rfl hX.adds.1.rd hX.adds.1.nil hX.adds.2 r oM;go_upto_region 5 with fail
 refine kX [g] W ?_;intro M hS;have q0:=y9 m0 (S:=[g]) sO;have q1:=zP m1 (S:=[g]) sO;have p1:=zP o1 (S:=[g]) sO;have p2:=zP o2 (S:=[g]) sO;have p3:=zP o3 (S:=[g]) sO;have p4:=y9 o4 (S:=[g]) sO;have p5:=zP o5 (S:=[g]) sO;refine lZ ?_;refine lH ?_;intro K hK;refine cc.mono ?_;rintro e w3 ⟨A',cap',rfl,J,d,f⟩;have B:z6 [g] W w3:=z6.trans ((z6.drew W).mono sI) f iL;refine⟨_,rfl,B,hK _ _ ?_⟩;clear hK K;have G:qV w3 g t I (wR m ⟨2,n,key,val,ref,refs⟩ x):=hX.set (sa':=⟨A',sa.n+1,cap'⟩) f J (λh=>h.keep f) (λ_=>⟨d.slw,λhx=>by have:=(d.at_base hx).1;have:W.drew.heap.size=W.heap.size:=rfl;omega⟩) (λh=>h.keep f) (λh=>h.keep f) (λh=>h.keep f) (λh=>h.keep f) (λh=>h.keep f) (λh=>h.keep f);have O:=dK Z.out B;clear cc d J;clear q0 q1 p1 p2 p3 p4 p5;refine lZ ?_;refine zC ?_;intro hS;clear M hS;(go_wp2_with fail);go_end0;exact⟨rfl,G,O⟩
theorem rvdoes_1(m:yW)(o:OpV)(A:Option Addr)(c:Nat)(w:World)(g:Nat)(t:ByteArray)(I:List zE)(x:RV)(h:qV w g t I x)(hk:o.k=1)(D:o.key.size<=16)(B:o.val.size<=16)(f:o.refs.length<=8)(L:-2147483648<=o.n)(N:o.n<2147483648)(hA:zY w A o.refs.length o.refs)(a1:g∉blk A)(U:mV x)(hl:x.len<=10000) :
  Calls Tryz.prog 73 #[.pointer (some ⟨g,0,none⟩),.agg (zN m),.agg (opC o A c)] w λe w'=>e=.returned (.tuple #[])/\qV w' g t I (wR m o x)/\z6 [g] w w':=by
 obtain⟨k,n,key,val,ref,refs⟩:=o;dsimp only at hk D B f L N hA;subst hk;obtain⟨si,sa,sg,sl,sm,so,ss,sd,h⟩:=h;have s:Below w.heap.size w ((w.alloc (.cells (zN m) 41)).alloc (.cells (zB ⟨(1:Int),n,key,val,ref,.slice A refs.length c⟩) 52)):=(bA).alloc sI _;have rm:z7 ((w.alloc (.cells (zN m) 41)).alloc (.cells (zB ⟨(1:Int),n,key,val,ref,.slice A refs.length c⟩) 52)) w.heap.size 0 34=some (zN m):=by simp[go_sem]
 have ro:z7 ((w.alloc (.cells (zN m) 41)).alloc (.cells (zB ⟨(1:Int),n,key,val,ref,.slice A refs.length c⟩) 52)) (w.heap.size+1) 0 37=some (zB ⟨(1:Int),n,key,val,ref,.slice A refs.length c⟩):=by simp[go_sem]
 have T:=h.lt;have r:=h.lens;unfold opC;rw[show((1:Nat):Int)=(1:Int)from rfl];go_enter Tryz.func73,Tryz.ntmps73
 go_upto_region 1 with fail
 have y:=h.below s;have X:zY ((w.alloc (.cells (zN m) 41)).alloc (.cells (zB ⟨(1:Int),n,key,val,ref,.slice A refs.length c⟩) 52)) A refs.length refs:=SlR.below hA s;obtain⟨gm,E⟩:=eX w.heap.size
 obtain⟨W,hW⟩:=eX ((w.alloc (.cells (zN m) 41)).alloc (.cells (zB ⟨(1:Int),n,key,val,ref,.slice A refs.length c⟩) 52))
 rw[hW]at s rm ro y X;rw[hW];have a2:=dH E;rw[E]at rm ro T |-;clear hW E h hA;have m0:z7 W gm 0 32=some (idC m.id):=by have:=zX rm (j:=0) (m:=32) oM;rwa [qZ]at this
 have m1:W.cell? ⟨gm,32,none⟩=some (.int .i64 m.h):=by have:=z8 rm (j:=32) oM;rwa [kP,Nat.zero_add]at this
 have o0:W.cell? ⟨gm+1,0,none⟩=some (.int .i64 (1:Int)):=by have:=z8 ro (j:=0) oM;rwa [qK]at this
 have o1:W.cell? ⟨gm+1,1,none⟩=some (.int .i64 n):=by have:=z8 ro (j:=1) oM;rwa [j6]at this
 have o2:W.cell? ⟨gm+1,2,none⟩=some (.string key):=by have:=z8 ro (j:=2) oM;rwa [jB]at this
 have o3:W.cell? ⟨gm+1,3,none⟩=some (.string val):=by have:=z8 ro (j:=3) oM;rwa [jA]at this
 have o4:z7 W (gm+1) 4 32=some (idC ref):=by have:=zX ro (j:=4) (m:=32) oM;rwa [jO]at this
 have o5:W.cell? ⟨gm+1,36,none⟩=some (.slice A refs.length c):=by have:=z8 ro (j:=36) oM;rwa [qM]at this
 have a0:g<W.heap.size:=y.lt;have R:gm<W.heap.size:=zD rm;have O:gm+1<W.heap.size:=zD ro;have H:z6 [] w W:=z6.of_below s;have Z:=dH H;clear rm ro s H;unfold RV.len at hl;obtain⟨l1,l2,l3,l4,l5,l6,l7⟩:=r;have hX:=y.below (w':=W.drew) ((Below.refl _ _).drew);have hw:IntKind.i64.wrap (x.tal+n)=wrap64 (x.tal+n):=IntWalk.i64_left _;have c2:W.cell? ⟨g,2,none⟩=some (.int .i64 x.tal):=y.cell 2 rfl;have hgd:W.drew.heap[g]?=some (.cells (rvC t si x.tal sa sg sl sm so ss sd) 69 (0,0)):=y.hp;have V:W.drew.frozen? ⟨g,2,none⟩=false:=by simp[World.frozen?,hgd]
 have Y:W.drew.cell? ⟨g,2,none⟩=some (.int .i64 x.tal):=c2;go_upto_region 3 with fail
 refine kF [] W ?_;intro J hS;have p1:=zP o1 (S:=[]) sI;have p2:=zP c2 (S:=[]) sI;refine lZ ?_;refine vI ?_ ?_;(focus(simp only[yO];done));intro K hK;go_simp;refine hK _ _ ?_;clear hK K;have d:=z6.setCell W.drew ⟨g,2,none⟩ (.int .i64 (wrap64 (x.tal+n)));have G:=zA hgd 2 (.int .i64 (wrap64 (x.tal+n)));have F:qV (W.drew.setCell ⟨g,2,none⟩ (.int .i64 (wrap64 (x.tal+n)))) g t I (wR m ⟨1,n,key,val,ref,refs⟩ x):=hX.set d G (λh=>h.keep d) (λh=>h.keep d) (λh=>h.keep d) (λh=>h.keep d) (λh=>h.keep d) (λh=>h.keep d) (λh=>h.keep d) (λh=>h.keep d);have M:z6 [g] w (W.drew.setCell ⟨g,2,none⟩ (.int .i64 (wrap64 (x.tal+n)))):=dK Z.out (z6.trans ((z6.drew W).mono (S':=[g]) sI) d iL);clear p1 p2 J hS d G Y V hgd c2;(go_wp2_with fail);go_end0;exact⟨rfl,F,M⟩
theorem rvdoes_3(m:yW)(o:OpV)(A:Option Addr)(c:Nat)(w:World)(g:Nat)(t:ByteArray)(I:List zE)(x:RV)(h:qV w g t I x)(hk:o.k=3)(E:o.key.size<=16)(r:o.val.size<=16)(s:o.refs.length<=8)(O:-2147483648<=o.n)(T:o.n<2147483648)(hA:zY w A o.refs.length o.refs)(a1:g∉blk A)(U:mV x)(hl:x.len<=10000) :
  Calls Tryz.prog 73 #[.pointer (some ⟨g,0,none⟩),.agg (zN m),.agg (opC o A c)] w λe w'=>e=.returned (.tuple #[])/\qV w' g t I (wR m o x)/\z6 [g] w w':=by
 obtain⟨k,n,key,val,ref,refs⟩:=o;dsimp only at hk E r s O T hA;subst hk;obtain⟨si,sa,sg,sl,sm,so,ss,sd,h⟩:=h;have D:Below w.heap.size w ((w.alloc (.cells (zN m) 41)).alloc (.cells (zB ⟨(3:Int),n,key,val,ref,.slice A refs.length c⟩) 52)):=(bA).alloc sI _;have rm:z7 ((w.alloc (.cells (zN m) 41)).alloc (.cells (zB ⟨(3:Int),n,key,val,ref,.slice A refs.length c⟩) 52)) w.heap.size 0 34=some (zN m):=by simp[go_sem]
 have ro:z7 ((w.alloc (.cells (zN m) 41)).alloc (.cells (zB ⟨(3:Int),n,key,val,ref,.slice A refs.length c⟩) 52)) (w.heap.size+1) 0 37=some (zB ⟨(3:Int),n,key,val,ref,.slice A refs.length c⟩):=by simp[go_sem]
 have Y:=h.lt;have y:=h.lens;unfold opC;rw[show((3:Nat):Int)=(3:Int)from rfl];go_enter Tryz.func73,Tryz.ntmps73
 go_upto_region 1 with fail
 have H:=h.below D;have M:zY ((w.alloc (.cells (zN m) 41)).alloc (.cells (zB ⟨(3:Int),n,key,val,ref,.slice A refs.length c⟩) 52)) A refs.length refs:=SlR.below hA D;obtain⟨gm,F⟩:=eX w.heap.size
 obtain⟨W,hW⟩:=eX ((w.alloc (.cells (zN m) 41)).alloc (.cells (zB ⟨(3:Int),n,key,val,ref,.slice A refs.length c⟩) 52))
 rw[hW]at D rm ro H M;rw[hW];have a2:=dH F;rw[F]at rm ro Y |-;clear hW F h hA;have m0:z7 W gm 0 32=some (idC m.id):=by have:=zX rm (j:=0) (m:=32) oM;rwa [qZ]at this
 have m1:W.cell? ⟨gm,32,none⟩=some (.int .i64 m.h):=by have:=z8 rm (j:=32) oM;rwa [kP,Nat.zero_add]at this
 have o0:W.cell? ⟨gm+1,0,none⟩=some (.int .i64 (3:Int)):=by have:=z8 ro (j:=0) oM;rwa [qK]at this
 have o1:W.cell? ⟨gm+1,1,none⟩=some (.int .i64 n):=by have:=z8 ro (j:=1) oM;rwa [j6]at this
 have o2:W.cell? ⟨gm+1,2,none⟩=some (.string key):=by have:=z8 ro (j:=2) oM;rwa [jB]at this
 have o3:W.cell? ⟨gm+1,3,none⟩=some (.string val):=by have:=z8 ro (j:=3) oM;rwa [jA]at this
 have o4:z7 W (gm+1) 4 32=some (idC ref):=by have:=zX ro (j:=4) (m:=32) oM;rwa [jO]at this
 have o5:W.cell? ⟨gm+1,36,none⟩=some (.slice A refs.length c):=by have:=z8 ro (j:=36) oM;rwa [qM]at this
 have a0:g<W.heap.size:=H.lt;have X:gm<W.heap.size:=zD rm;have V:gm+1<W.heap.size:=zD ro;have L:z6 [] w W:=z6.of_below D;have Z:=dH L;clear rm ro D L;unfold RV.len at hl;obtain⟨l1,l2,l3,l4,l5,l6,l7⟩:=y;have hX:=H.below (w':=W.drew) ((Below.refl _ _).drew);have cc:=rrem3 val A refs.length c refs W.drew g _ sg.A sg.n sg.c x.gone hX.hp rfl hX.gone.1.rd hX.gone.1.nil (SlR.below M (yZ W)) r oM oM;go_upto_region 7 with fail
 refine kX [g] W ?_;intro N hS;have q0:=y9 m0 (S:=[g]) sO;have q1:=zP m1 (S:=[g]) sO;have p1:=zP o1 (S:=[g]) sO;have p2:=zP o2 (S:=[g]) sO;have p3:=zP o3 (S:=[g]) sO;have p4:=y9 o4 (S:=[g]) sO;have p5:=zP o5 (S:=[g]) sO;refine lZ ?_;refine lH ?_;intro K hK;refine cc.mono ?_;rintro e w3 ⟨A',cap',rfl,J,d,f⟩;have B:z6 [g] W w3:=z6.trans ((z6.drew W).mono sI) f iL;refine⟨_,rfl,B,hK _ _ ?_⟩;clear hK K;have G:qV w3 g t I (wR m ⟨3,n,key,val,ref,refs⟩ x):=hX.set (sg':=⟨A',sg.n+refs.length,cap'⟩) f J (λh=>h.keep f) (λh=>h.keep f) (λ_=>⟨d.slw,λhx=>by have:=(d.at_base hx).1;have:W.drew.heap.size=W.heap.size:=rfl;omega⟩) (λh=>h.keep f) (λh=>h.keep f) (λh=>h.keep f) (λh=>h.keep f) (λh=>h.keep f);have R:=dK Z.out B;clear cc J d;clear q0 q1 p1 p2 p3 p4 p5;refine lZ ?_;refine zC ?_;intro hS;clear N hS;(go_wp2_with fail);go_end0;exact⟨rfl,G,R⟩
theorem rvdoes_5(m:yW)(o:OpV)(A:Option Addr)(c:Nat)(w:World)(g:Nat)(t:ByteArray)(I:List zE)(x:RV)(h:qV w g t I x)(hk:o.k=5)(B:o.key.size<=16)(r:o.val.size<=16)(s:o.refs.length<=8)(V:-2147483648<=o.n)(Y:o.n<2147483648)(hA:zY w A o.refs.length o.refs)(a1:g∉blk A)(a5:mV x)(hl:x.len<=10000) :
  Calls Tryz.prog 73 #[.pointer (some ⟨g,0,none⟩),.agg (zN m),.agg (opC o A c)] w λe w'=>e=.returned (.tuple #[])/\qV w' g t I (wR m o x)/\z6 [g] w w':=by
 obtain⟨k,n,key,val,ref,refs⟩:=o;dsimp only at hk B r s V Y hA;subst hk;obtain⟨si,sa,sg,sl,sm,so,ss,sd,h⟩:=h;have E:Below w.heap.size w ((w.alloc (.cells (zN m) 41)).alloc (.cells (zB ⟨(5:Int),n,key,val,ref,.slice A refs.length c⟩) 52)):=(bA).alloc sI _;have rm:z7 ((w.alloc (.cells (zN m) 41)).alloc (.cells (zB ⟨(5:Int),n,key,val,ref,.slice A refs.length c⟩) 52)) w.heap.size 0 34=some (zN m):=by simp[go_sem]
 have ro:z7 ((w.alloc (.cells (zN m) 41)).alloc (.cells (zB ⟨(5:Int),n,key,val,ref,.slice A refs.length c⟩) 52)) (w.heap.size+1) 0 37=some (zB ⟨(5:Int),n,key,val,ref,.slice A refs.length c⟩):=by simp[go_sem]
 have a0:=h.lt;have y:=h.lens;unfold opC;rw[show((5:Nat):Int)=(5:Int)from rfl];go_enter Tryz.func73,Tryz.ntmps73
 go_upto_region 1 with fail
 have H:=h.below E;have O:zY ((w.alloc (.cells (zN m) 41)).alloc (.cells (zB ⟨(5:Int),n,key,val,ref,.slice A refs.length c⟩) 52)) A refs.length refs:=SlR.below hA E;obtain⟨gm,F⟩:=eX w.heap.size
 obtain⟨W,hW⟩:=eX ((w.alloc (.cells (zN m) 41)).alloc (.cells (zB ⟨(5:Int),n,key,val,ref,.slice A refs.length c⟩) 52))
 rw[hW]at E rm ro H O;rw[hW];have a7:=dH F;rw[F]at rm ro a0 |-;clear hW F h hA;have m0:z7 W gm 0 32=some (idC m.id):=by have:=zX rm (j:=0) (m:=32) oM;rwa [qZ]at this
 have m1:W.cell? ⟨gm,32,none⟩=some (.int .i64 m.h):=by have:=z8 rm (j:=32) oM;rwa [kP,Nat.zero_add]at this
 have o0:W.cell? ⟨gm+1,0,none⟩=some (.int .i64 (5:Int)):=by have:=z8 ro (j:=0) oM;rwa [qK]at this
 have o1:W.cell? ⟨gm+1,1,none⟩=some (.int .i64 n):=by have:=z8 ro (j:=1) oM;rwa [j6]at this
 have o2:W.cell? ⟨gm+1,2,none⟩=some (.string key):=by have:=z8 ro (j:=2) oM;rwa [jB]at this
 have o3:W.cell? ⟨gm+1,3,none⟩=some (.string val):=by have:=z8 ro (j:=3) oM;rwa [jA]at this
 have o4:z7 W (gm+1) 4 32=some (idC ref):=by have:=zX ro (j:=4) (m:=32) oM;rwa [jO]at this
 have o5:W.cell? ⟨gm+1,36,none⟩=some (.slice A refs.length c):=by have:=z8 ro (j:=36) oM;rwa [qM]at this
 have a6:g<W.heap.size:=H.lt;have U:gm<W.heap.size:=zD rm;have Z:gm+1<W.heap.size:=zD ro;have N:z6 [] w W:=z6.of_below E;have a4:=dH N;clear rm ro E N;unfold RV.len at hl;obtain⟨l1,l2,l3,l4,l5,l6,l7⟩:=y;have hX:=H.below (w':=W.drew) ((Below.refl _ _).drew);have a2:g∉blk A:=a1;have cc:=rmset6 ⟨m.id,key,val⟩ A refs.length c refs W.drew g _ sm.A sm.n sm.c x.mL so.A so.n so.c x.mO hX.hp rfl rfl hX.mL.1.rd hX.mL.1.nil hX.mO.1.rd hX.mO.2 (SlR.below O (yZ W)) a2 B r oM oM oM;go_upto_region 11 with fail
 refine kX [g] W ?_;intro T hS;have q0:=y9 m0 (S:=[g]) sO;have q1:=zP m1 (S:=[g]) sO;have p1:=zP o1 (S:=[g]) sO;have p2:=zP o2 (S:=[g]) sO;have p3:=zP o3 (S:=[g]) sO;have p4:=y9 o4 (S:=[g]) sO;have p5:=zP o5 (S:=[g]) sO;refine lZ ?_;refine lH ?_;intro K hK;refine cc.mono ?_;rintro e w3 ⟨A3,L,A9,J,rfl,M,d,R,a3,f⟩;have D:z6 [g] W w3:=z6.trans ((z6.drew W).mono sI) f iL;refine⟨_,rfl,D,hK _ _ ?_⟩;clear hK K;have G:qV w3 g t I (wR m ⟨5,n,key,val,ref,refs⟩ x):=hX.set (sm':=⟨A3,sm.n+1,L⟩) (so':=⟨A9,(yB zI (x.mO++refs)).length,J⟩) f M (λh=>h.keep f) (λh=>h.keep f) (λh=>h.keep f) (λh=>h.keep f) (λ_=>⟨d.slw,λhx=>by have:=(d.at_base hx).1;have:W.drew.heap.size=W.heap.size:=rfl;omega⟩) (λ_=>⟨R,λhx=>by have:=a3 g hx;have:W.drew.heap.size=W.heap.size:=rfl;omega⟩) (λh=>h.keep f) (λh=>h.keep f);have X:=dK a4.out D;clear cc M d R;clear q0 q1 p1 p2 p3 p4 p5;refine lZ ?_;refine zC ?_;intro hS;clear T hS;(go_wp2_with fail);go_end0;exact⟨rfl,G,X⟩
theorem rvdoes_6(m:yW)(o:OpV)(A:Option Addr)(c:Nat)(w:World)(g:Nat)(t:ByteArray)(I:List zE)(x:RV)(h:qV w g t I x)(hk:o.k=6)(E:o.key.size<=16)(f:o.val.size<=16)(s:o.refs.length<=8)(R:-2147483648<=o.n)(V:o.n<2147483648)(hA:zY w A o.refs.length o.refs)(a2:g∉blk A)(N:mV x)(hl:x.len<=10000) :
  Calls Tryz.prog 73 #[.pointer (some ⟨g,0,none⟩),.agg (zN m),.agg (opC o A c)] w λe w'=>e=.returned (.tuple #[])/\qV w' g t I (wR m o x)/\z6 [g] w w':=by
 obtain⟨k,n,key,val,ref,refs⟩:=o;dsimp only at hk E f s R V hA;subst hk;obtain⟨si,sa,sg,sl,sm,so,ss,sd,h⟩:=h;have D:Below w.heap.size w ((w.alloc (.cells (zN m) 41)).alloc (.cells (zB ⟨(6:Int),n,key,val,ref,.slice A refs.length c⟩) 52)):=(bA).alloc sI _;have rm:z7 ((w.alloc (.cells (zN m) 41)).alloc (.cells (zB ⟨(6:Int),n,key,val,ref,.slice A refs.length c⟩) 52)) w.heap.size 0 34=some (zN m):=by simp[go_sem]
 have ro:z7 ((w.alloc (.cells (zN m) 41)).alloc (.cells (zB ⟨(6:Int),n,key,val,ref,.slice A refs.length c⟩) 52)) (w.heap.size+1) 0 37=some (zB ⟨(6:Int),n,key,val,ref,.slice A refs.length c⟩):=by simp[go_sem]
 have Z:=h.lt;have y:=h.lens;unfold opC;rw[show((6:Nat):Int)=(6:Int)from rfl];go_enter Tryz.func73,Tryz.ntmps73
 go_upto_region 1 with fail
 have J:=h.below D;have U:zY ((w.alloc (.cells (zN m) 41)).alloc (.cells (zB ⟨(6:Int),n,key,val,ref,.slice A refs.length c⟩) 52)) A refs.length refs:=SlR.below hA D;obtain⟨gm,F⟩:=eX w.heap.size
 obtain⟨W,hW⟩:=eX ((w.alloc (.cells (zN m) 41)).alloc (.cells (zB ⟨(6:Int),n,key,val,ref,.slice A refs.length c⟩) 52))
 rw[hW]at D rm ro J U;rw[hW];have a3:=dH F;rw[F]at rm ro Z |-;clear hW F h hA;have m0:z7 W gm 0 32=some (idC m.id):=by have:=zX rm (j:=0) (m:=32) oM;rwa [qZ]at this
 have m1:W.cell? ⟨gm,32,none⟩=some (.int .i64 m.h):=by have:=z8 rm (j:=32) oM;rwa [kP,Nat.zero_add]at this
 have o0:W.cell? ⟨gm+1,0,none⟩=some (.int .i64 (6:Int)):=by have:=z8 ro (j:=0) oM;rwa [qK]at this
 have o1:W.cell? ⟨gm+1,1,none⟩=some (.int .i64 n):=by have:=z8 ro (j:=1) oM;rwa [j6]at this
 have o2:W.cell? ⟨gm+1,2,none⟩=some (.string key):=by have:=z8 ro (j:=2) oM;rwa [jB]at this
 have o3:W.cell? ⟨gm+1,3,none⟩=some (.string val):=by have:=z8 ro (j:=3) oM;rwa [jA]at this
 have o4:z7 W (gm+1) 4 32=some (idC ref):=by have:=zX ro (j:=4) (m:=32) oM;rwa [jO]at this
 have o5:W.cell? ⟨gm+1,36,none⟩=some (.slice A refs.length c):=by have:=z8 ro (j:=36) oM;rwa [qM]at this
 have a1:g<W.heap.size:=J.lt;have Y:gm<W.heap.size:=zD rm;have X:gm+1<W.heap.size:=zD ro;have M:z6 [] w W:=z6.of_below D;have a0:=dH M;clear rm ro D M;unfold RV.len at hl;obtain⟨l1,l2,l3,l4,l5,l6,l7⟩:=y;have hX:=J.below (w':=W.drew) ((Below.refl _ _).drew);have cc:=rsins8 ⟨m.id,m.h,ref,val⟩ W.drew g _ ss.A ss.n ss.c x.sL hX.hp rfl hX.sL.1 hX.sL.2 N.sL (Nat.le_trans f oM) oM;go_upto_region 13 with fail
 refine kX [g] W ?_;intro O hS;have q0:=y9 m0 (S:=[g]) sO;have q1:=zP m1 (S:=[g]) sO;have p1:=zP o1 (S:=[g]) sO;have p2:=zP o2 (S:=[g]) sO;have p3:=zP o3 (S:=[g]) sO;have p4:=y9 o4 (S:=[g]) sO;have p5:=zP o5 (S:=[g]) sO;refine lZ ?_;refine lH ?_;intro K hK;refine cc.mono ?_;rintro e w3 ⟨A',n',cap',rfl,L,r,G,d⟩;have B:z6 [g] W w3:=z6.trans ((z6.drew W).mono sI) d iL;refine⟨_,rfl,B,hK _ _ ?_⟩;clear hK K;have H:qV w3 g t I (wR m ⟨6,n,key,val,ref,refs⟩ x):=hX.set (ss':=⟨A',n',cap'⟩) d L (λh=>h.keep d) (λh=>h.keep d) (λh=>h.keep d) (λh=>h.keep d) (λh=>h.keep d) (λh=>h.keep d) (λ_=>⟨r,G⟩) (λh=>h.keep d);have T:=dK a0.out B;clear cc L r;clear q0 q1 p1 p2 p3 p4 p5;refine lZ ?_;refine zC ?_;intro hS;clear O hS;(go_wp2_with fail);go_end0;exact⟨rfl,H,T⟩
theorem rvdoes_7(m:yW)(o:OpV)(A:Option Addr)(c:Nat)(w:World)(g:Nat)(t:ByteArray)(I:List zE)(x:RV)(h:qV w g t I x)(hk:o.k=7)(E:o.key.size<=16)(D:o.val.size<=16)(r:o.refs.length<=8)(R:-2147483648<=o.n)(V:o.n<2147483648)(hA:zY w A o.refs.length o.refs)(a2:g∉blk A)(N:mV x)(hl:x.len<=10000) :
  Calls Tryz.prog 73 #[.pointer (some ⟨g,0,none⟩),.agg (zN m),.agg (opC o A c)] w λe w'=>e=.returned (.tuple #[])/\qV w' g t I (wR m o x)/\z6 [g] w w':=by
 obtain⟨k,n,key,val,ref,refs⟩:=o;dsimp only at hk E D r R V hA;subst hk;obtain⟨si,sa,sg,sl,sm,so,ss,sd,h⟩:=h;have B:Below w.heap.size w ((w.alloc (.cells (zN m) 41)).alloc (.cells (zB ⟨(7:Int),n,key,val,ref,.slice A refs.length c⟩) 52)):=(bA).alloc sI _;have rm:z7 ((w.alloc (.cells (zN m) 41)).alloc (.cells (zB ⟨(7:Int),n,key,val,ref,.slice A refs.length c⟩) 52)) w.heap.size 0 34=some (zN m):=by simp[go_sem]
 have ro:z7 ((w.alloc (.cells (zN m) 41)).alloc (.cells (zB ⟨(7:Int),n,key,val,ref,.slice A refs.length c⟩) 52)) (w.heap.size+1) 0 37=some (zB ⟨(7:Int),n,key,val,ref,.slice A refs.length c⟩):=by simp[go_sem]
 have Z:=h.lt;have s:=h.lens;unfold opC;rw[show((7:Nat):Int)=(7:Int)from rfl];go_enter Tryz.func73,Tryz.ntmps73
 go_upto_region 1 with fail
 have J:=h.below B;have U:zY ((w.alloc (.cells (zN m) 41)).alloc (.cells (zB ⟨(7:Int),n,key,val,ref,.slice A refs.length c⟩) 52)) A refs.length refs:=SlR.below hA B;obtain⟨gm,F⟩:=eX w.heap.size
 obtain⟨W,hW⟩:=eX ((w.alloc (.cells (zN m) 41)).alloc (.cells (zB ⟨(7:Int),n,key,val,ref,.slice A refs.length c⟩) 52))
 rw[hW]at B rm ro J U;rw[hW];have a3:=dH F;rw[F]at rm ro Z |-;clear hW F h hA;have m0:z7 W gm 0 32=some (idC m.id):=by have:=zX rm (j:=0) (m:=32) oM;rwa [qZ]at this
 have m1:W.cell? ⟨gm,32,none⟩=some (.int .i64 m.h):=by have:=z8 rm (j:=32) oM;rwa [kP,Nat.zero_add]at this
 have o0:W.cell? ⟨gm+1,0,none⟩=some (.int .i64 (7:Int)):=by have:=z8 ro (j:=0) oM;rwa [qK]at this
 have o1:W.cell? ⟨gm+1,1,none⟩=some (.int .i64 n):=by have:=z8 ro (j:=1) oM;rwa [j6]at this
 have o2:W.cell? ⟨gm+1,2,none⟩=some (.string key):=by have:=z8 ro (j:=2) oM;rwa [jB]at this
 have o3:W.cell? ⟨gm+1,3,none⟩=some (.string val):=by have:=z8 ro (j:=3) oM;rwa [jA]at this
 have o4:z7 W (gm+1) 4 32=some (idC ref):=by have:=zX ro (j:=4) (m:=32) oM;rwa [jO]at this
 have o5:W.cell? ⟨gm+1,36,none⟩=some (.slice A refs.length c):=by have:=z8 ro (j:=36) oM;rwa [qM]at this
 have a1:g<W.heap.size:=J.lt;have Y:gm<W.heap.size:=zD rm;have X:gm+1<W.heap.size:=zD ro;have M:z6 [] w W:=z6.of_below B;have a0:=dH M;clear rm ro B M;unfold RV.len at hl;obtain⟨l1,l2,l3,l4,l5,l6,l7⟩:=s;have hX:=J.below (w':=W.drew) ((Below.refl _ _).drew);have cc:=rsdel8 ref W.drew g _ sd.A sd.n sd.c x.sG hX.hp rfl hX.sG.1 hX.sG.2 N.sG oM;go_upto_region 15 with fail
 refine kX [g] W ?_;intro O hS;have q0:=y9 m0 (S:=[g]) sO;have q1:=zP m1 (S:=[g]) sO;have p1:=zP o1 (S:=[g]) sO;have p2:=zP o2 (S:=[g]) sO;have p3:=zP o3 (S:=[g]) sO;have p4:=y9 o4 (S:=[g]) sO;have p5:=zP o5 (S:=[g]) sO;refine lZ ?_;refine lH ?_;intro K hK;refine cc.mono ?_;rintro e w3 ⟨A',cap',rfl,L,f,G,d⟩;have y:z6 [g] W w3:=z6.trans ((z6.drew W).mono sI) d iL;refine⟨_,rfl,y,hK _ _ ?_⟩;clear hK K;have H:qV w3 g t I (wR m ⟨7,n,key,val,ref,refs⟩ x):=hX.set (sd':=⟨A',(xS zI x.sG ref).length,cap'⟩) d L (λh=>h.keep d) (λh=>h.keep d) (λh=>h.keep d) (λh=>h.keep d) (λh=>h.keep d) (λh=>h.keep d) (λh=>h.keep d) (λ_=>⟨f,G⟩);have T:=dK a0.out y;clear cc L f;clear q0 q1 p1 p2 p3 p4 p5;refine lZ ?_;refine zC ?_;intro hS;clear O hS;(go_wp2_with fail);go_end0;exact⟨rfl,H,T⟩
theorem rvdoes_4(m:yW)(o:OpV)(A:Option Addr)(c:Nat)(w:World)(g:Nat)(t:ByteArray)(I:List zE)(x:RV)(h:qV w g t I x)(hk:o.k=4)(b5:o.key.size<=16)(b4:o.val.size<=16)(a3:o.refs.length<=8)(c5:-2147483648<=o.n)(c6:o.n<2147483648)(hA:zY w A o.refs.length o.refs)(d8:g∉blk A)(d4:mV x)(hl:x.len<=10000) :
  Calls Tryz.prog 73 #[.pointer (some ⟨g,0,none⟩),.agg (zN m),.agg (opC o A c)] w λe w'=>e=.returned (.tuple #[])/\qV w' g t I (wR m o x)/\z6 [g] w w':=by
 obtain⟨k,n,key,val,ref,refs⟩:=o;dsimp only at hk b5 b4 a3 c5 c6 hA;subst hk;obtain⟨si,sa,sg,sl,sm,so,ss,sd,h⟩:=h;have a8:Below w.heap.size w ((w.alloc (.cells (zN m) 41)).alloc (.cells (zB ⟨(4:Int),n,key,val,ref,.slice A refs.length c⟩) 52)):=(bA).alloc sI _;have rm:z7 ((w.alloc (.cells (zN m) 41)).alloc (.cells (zB ⟨(4:Int),n,key,val,ref,.slice A refs.length c⟩) 52)) w.heap.size 0 34=some (zN m):=by simp[go_sem]
 have ro:z7 ((w.alloc (.cells (zN m) 41)).alloc (.cells (zB ⟨(4:Int),n,key,val,ref,.slice A refs.length c⟩) 52)) (w.heap.size+1) 0 37=some (zB ⟨(4:Int),n,key,val,ref,.slice A refs.length c⟩):=by simp[go_sem]
 have c9:=h.lt;have a4:=h.lens;unfold opC;rw[show((4:Nat):Int)=(4:Int)from rfl];go_enter Tryz.func73,Tryz.ntmps73
 go_upto_region 1 with fail
 have Y:=h.below a8;have d3:zY ((w.alloc (.cells (zN m) 41)).alloc (.cells (zB ⟨(4:Int),n,key,val,ref,.slice A refs.length c⟩) 52)) A refs.length refs:=SlR.below hA a8;obtain⟨gm,b6⟩:=eX w.heap.size
 obtain⟨W,hW⟩:=eX ((w.alloc (.cells (zN m) 41)).alloc (.cells (zB ⟨(4:Int),n,key,val,ref,.slice A refs.length c⟩) 52))
 rw[hW]at a8 rm ro Y d3;rw[hW];have d9:=dH b6;rw[b6]at rm ro c9 |-;clear hW b6 h hA;have m0:z7 W gm 0 32=some (idC m.id):=by have:=zX rm (j:=0) (m:=32) oM;rwa [qZ]at this
 have m1:W.cell? ⟨gm,32,none⟩=some (.int .i64 m.h):=by have:=z8 rm (j:=32) oM;rwa [kP,Nat.zero_add]at this
 have o0:W.cell? ⟨gm+1,0,none⟩=some (.int .i64 (4:Int)):=by have:=z8 ro (j:=0) oM;rwa [qK]at this
 have o1:W.cell? ⟨gm+1,1,none⟩=some (.int .i64 n):=by have:=z8 ro (j:=1) oM;rwa [j6]at this
 have o2:W.cell? ⟨gm+1,2,none⟩=some (.string key):=by have:=z8 ro (j:=2) oM;rwa [jB]at this
 have o3:W.cell? ⟨gm+1,3,none⟩=some (.string val):=by have:=z8 ro (j:=3) oM;rwa [jA]at this
 have o4:z7 W (gm+1) 4 32=some (idC ref):=by have:=zX ro (j:=4) (m:=32) oM;rwa [jO]at this
 have o5:W.cell? ⟨gm+1,36,none⟩=some (.slice A refs.length c):=by have:=z8 ro (j:=36) oM;rwa [qM]at this
 have b1:g<W.heap.size:=Y.lt;have c8:gm<W.heap.size:=zD rm;have c7:gm+1<W.heap.size:=zD ro;have c3:z6 [] w W:=z6.of_below a8;have c1:=dH c3;clear rm ro a8 c3;unfold RV.len at hl;obtain⟨l1,l2,l3,l4,l5,l6,l7⟩:=a4;have hX:=Y.below (w':=W.drew) ((Below.refl _ _).drew);obtain⟨AX,nX,cX⟩:=sl;obtain⟨xr,b3⟩:∃xr:Row,xr=⟨key,val,n,m.id⟩:=⟨_,rfl⟩
 have d1:∀w0:World,(bdS 207 #[(0,.string key),(1,.string val),(2,.int .i64 n),(3,.agg (idC m.id))]).run Tryz.prog w0=.ok (.agg (y4 xr)) w0:=λw0=>(by rw[b3];exact buildRow key val n m.id w0);have c4:(⟨4,n,key,val,ref,refs⟩:OpV).key=key:=rfl;have HX:=dH Y;have b8:=dH b3;have b2:(rvC t si x.tal sa sg ⟨AX,nX,cX⟩ sm so ss sd)[5]?=some (.slice AX nX cX):=rfl;have b0:W.heap[g]?=some (.cells (rvC t si x.tal sa sg ⟨AX,nX,cX⟩ sm so ss sd) 69 (0,0)):=Y.hp;have h1:SlR W AX nX 35 (x.last.map y4):=Y.last.1.rd;have f1:AX=none->cX=0:=Y.last.1.nil;have d0:W.cell? ⟨g,5,none⟩=some (.slice AX nX cX):=Y.cell 5 rfl;have d7:nX<=100000:=by have e:x.last.length=nX:=l3;omega
 obtain⟨cs,U⟩:=eX (rvC t si x.tal sa sg ⟨AX,nX,cX⟩ sm so ss sd)
 have a0:=dH U;rw[U]at b2 b0;obtain⟨X,b7⟩:=eX x.last
 rw[b7]at h1;have c2:=dH b7;have c0:=dH b1;clear Y hX U b7 b3 c4 l1 l2 l3 l4 l5 l6 l7 hl;go_upto_region 9 with fail
 have q0:=y9 m0 (S:=[]) sI;have p1:=zP o1 (S:=[]) sI;have p2:=zP o2 (S:=[]) sI;have p3:=zP o3 (S:=[]) sI;have p5:=zP d0 (S:=[]) sI;refine d6 (.loose 0 (.loose 2 (.loose 3 (.loose 4 (.loose 5 (.loose 7 (.loose 8 (.loose 9 (.loose 10 (.loose 11 (.loose 12 (.loose 13 (.loose 14 (.loose 15 (.two 1 (.two 6 (.one 16 (.one 17 (.loose 18 (.loose 19 (.one 20 .done))))) 16 (.one 6 (.one 17 (.loose 18 (.loose 19 (.one 20 .done)))))) 16 (.one 1 (.one 6 (.one 17 (.loose 18 (.loose 19 (.one 20 .done))))))))))))))))))))) (Kp [] W) false kR kR kR kR kR (bN [] W) ?_;have d5:=nC [] W;have hS:=bN [] W;refine tZ ?_;refine tJ ?_ ?_
 ·
  refine tH ?_;intro K hK;refine zG (xP hS _) (λD=>?_);refine hK _ _ ?_;clear hK K;replace hS:=D;clear D;refine tJ ?_ ?_
  ·have a2:SlR (W.drew.alloc (.cells #[] 207)) AX nX 35 (X.map y4):=h1.kept hS sI;refine dL qU rfl rfl (Own.empty W.drew W.heap.size 207 35 lR) rfl a2 f1 (QD X) oM oM sI ?_;intro A2 a9 w2 r V J;simp only[Nat.zero_add,List.nil_append]at r |-;refine zG (z6.trans hS V (by simp[blk])) (λD=>?_);replace hS:=D;clear D;refine tH ?_;intro K hK;refine zG (xP hS _) (λD=>?_);refine hK _ _ ?_;clear hK K;replace hS:=D;clear D;have d2:Below w2.heap.size w2 (w2.alloc (.cells (y4 xr) 207)):=bA;have G:=r.below d2;have L:z7 (w2.alloc (.cells (y4 xr) 207)) w2.heap.size 0 35=some (y4 xr):=by simp[go_sem]
   have a1:=hS.size;refine b9 qU rfl rfl G rfl L (j9 _) oM oM a1 ?_;intro A3 d w3 y Z H;refine zG (z6.trans hS Z (λx hx=>.inr ((r.at_base hx).1))) (λD=>?_);replace hS:=D;clear D;refine tZ ?_;have O:w3.heap[g]?=some (.cells cs 69 (0,0)):=(hS.block g b1 sI).trans b0;have a7:w3.cell? ⟨g,5,none⟩=some (.slice AX nX cX):=by rw[cell_of_row w3 g 5 _ _ _ O];exact b2
   have a6:w3.frozen? ⟨g,5,none⟩=false:=by simp[World.frozen?,O]
   refine fE rfl ?_ kR ?_;(focus(simp only[yO];done));intro K hK;go_simp;refine hK _ _ ?_;clear hK K;have F:=y.kept (z6.setCell w3 ⟨g,5,none⟩ (.slice A3 (nX+1) d)) (λx hx=>oS ((y.at_base hx).1));have N:(w3.setCell ⟨g,5,none⟩ (.slice A3 (nX+1) d)).heap[g]?=some (.cells (cs.setIfInBounds 5 (.slice A3 (nX+1) d)) 69 (0,0)):=zA O 5 _;have s:(X.map y4) ++ [y4 xr]=(X ++ [xr]).map y4:=sI;have f:Own (w3.setCell ⟨g,5,none⟩ (.slice A3 (nX+1) d)) W.heap.size 207 35 A3 (nX+1) d ((X ++ [xr]).map y4):=by rw[<-s];exact F
   have B:z6 [g] W (w3.setCell ⟨g,5,none⟩ (.slice A3 (nX+1) d)):=z6.trans (hS.mono (S':=[g]) sI) (z6.setCell w3 ⟨g,5,none⟩ _) sI;clear F y r G hS O a7 a6 Z V H J s;have E:=B;have R:=N;rw[<-a0.out]at R;rw[<-c2.out,b8.out]at f;have M:qV (w3.setCell ⟨g,5,none⟩ (.slice A3 (nX+1) d)) g t I (wR m ⟨4,n,key,val,ref,refs⟩ x):=HX.out.set (sl':=⟨A3,nX+1,d⟩) E R (λh=>h.keep E) (λh=>h.keep E) (λh=>h.keep E) (λ_=>⟨f.slw,λhx=>by have:=(f.at_base hx).1;have:=c0.out;omega⟩) (λh=>h.keep E) (λh=>h.keep E) (λh=>h.keep E) (λh=>h.keep E);have a5:=dK c1.out B;clear f R N E B q0 p1 p2 p3 p5;(go_wp2_with fail);go_end0;exact⟨rfl,M,a5⟩
  ·
   refine tH ?_;intro K hK;refine zG (xP hS _) (λD=>?_);refine hK _ _ ?_;clear hK K;replace hS:=D;clear D;have a2:SlR ((W.drew.alloc (.cells #[] 207)).alloc (.cells (y4 xr) 207)) AX nX 35 (X.map y4):=h1.kept hS sI;have T:=(Own.empty W.drew W.heap.size 207 35 lR).below ((Below.refl _ _).alloc lR (.cells (y4 xr) 207));refine dL qU rfl rfl T rfl a2 f1 (QD X) oM oM sO ?_;intro A2 a9 w2 r V J;simp only[Nat.zero_add,List.nil_append]at r |-;refine zG (z6.trans hS V (by simp[blk])) (λD=>?_);replace hS:=D;clear D;have G:=r;have L:z7 w2 (W.heap.size+1) 0 35=some (y4 xr):=(V.row sI (by simp[blk]) 0 35).trans (by simp[go_sem]);have a1:=hS.size;refine b9 qU rfl rfl G rfl L (j9 _) oM oM a1 ?_;intro A3 d w3 y Z H;refine zG (z6.trans hS Z (λx hx=>.inr ((r.at_base hx).1))) (λD=>?_);replace hS:=D;clear D;refine tZ ?_;have O:w3.heap[g]?=some (.cells cs 69 (0,0)):=(hS.block g b1 sI).trans b0;have a7:w3.cell? ⟨g,5,none⟩=some (.slice AX nX cX):=by rw[cell_of_row w3 g 5 _ _ _ O];exact b2
   have a6:w3.frozen? ⟨g,5,none⟩=false:=by simp[World.frozen?,O]
   refine fE rfl ?_ kR ?_;(focus(simp only[yO];done));intro K hK;go_simp;refine hK _ _ ?_;clear hK K;have F:=y.kept (z6.setCell w3 ⟨g,5,none⟩ (.slice A3 (nX+1) d)) (λx hx=>oS ((y.at_base hx).1));have N:(w3.setCell ⟨g,5,none⟩ (.slice A3 (nX+1) d)).heap[g]?=some (.cells (cs.setIfInBounds 5 (.slice A3 (nX+1) d)) 69 (0,0)):=zA O 5 _;have s:(X.map y4) ++ [y4 xr]=(X ++ [xr]).map y4:=sI;have f:Own (w3.setCell ⟨g,5,none⟩ (.slice A3 (nX+1) d)) W.heap.size 207 35 A3 (nX+1) d ((X ++ [xr]).map y4):=by rw[<-s];exact F
   have B:z6 [g] W (w3.setCell ⟨g,5,none⟩ (.slice A3 (nX+1) d)):=z6.trans (hS.mono (S':=[g]) sI) (z6.setCell w3 ⟨g,5,none⟩ _) sI;clear F y r G hS O a7 a6 Z V H J s;have E:=B;have R:=N;rw[<-a0.out]at R;rw[<-c2.out,b8.out]at f;have M:qV (w3.setCell ⟨g,5,none⟩ (.slice A3 (nX+1) d)) g t I (wR m ⟨4,n,key,val,ref,refs⟩ x):=HX.out.set (sl':=⟨A3,nX+1,d⟩) E R (λh=>h.keep E) (λh=>h.keep E) (λh=>h.keep E) (λ_=>⟨f.slw,λhx=>by have:=(f.at_base hx).1;have:=c0.out;omega⟩) (λh=>h.keep E) (λh=>h.keep E) (λh=>h.keep E) (λh=>h.keep E);have a5:=dK c1.out B;clear f R N E B q0 p1 p2 p3 p5;(go_wp2_with fail);go_end0;exact⟨rfl,M,a5⟩
 ·
  refine tH ?_;intro K hK;refine zG (xP hS _) (λD=>?_);refine hK _ _ ?_;clear hK K;replace hS:=D;clear D;refine tH ?_;intro K hK;refine zG (xP hS _) (λD=>?_);refine hK _ _ ?_;clear hK K;replace hS:=D;clear D;have a2:SlR ((W.drew.alloc (.cells (y4 xr) 207)).alloc (.cells #[] 207)) AX nX 35 (X.map y4):=h1.kept hS sI;have T:Own ((W.drew.alloc (.cells (y4 xr) 207)).alloc (.cells #[] 207)) W.heap.size 207 35 (some ⟨W.heap.size+1,0,none⟩) 0 0 []:=by
   have:=Own.empty (W.drew.alloc (.cells (y4 xr) 207)) W.heap.size 207 35 sI;simpa using this
  refine dL qU rfl rfl T rfl a2 f1 (QD X) oM oM sO ?_;intro A2 a9 w2 r V J;simp only[Nat.zero_add,List.nil_append]at r |-;refine zG (z6.trans hS V (by simp[blk])) (λD=>?_);replace hS:=D;clear D;have G:=r;have L:z7 w2 W.heap.size 0 35=some (y4 xr):=(V.row sO (by simp[blk]) 0 35).trans (by simp[go_sem]);have a1:=hS.size;refine b9 qU rfl rfl G rfl L (j9 _) oM oM a1 ?_;intro A3 d w3 y Z H;refine zG (z6.trans hS Z (λx hx=>.inr ((r.at_base hx).1))) (λD=>?_);replace hS:=D;clear D;refine tZ ?_;have O:w3.heap[g]?=some (.cells cs 69 (0,0)):=(hS.block g b1 sI).trans b0;have a7:w3.cell? ⟨g,5,none⟩=some (.slice AX nX cX):=by rw[cell_of_row w3 g 5 _ _ _ O];exact b2
  have a6:w3.frozen? ⟨g,5,none⟩=false:=by simp[World.frozen?,O]
  refine fE rfl ?_ kR ?_;(focus(simp only[yO];done));intro K hK;go_simp;refine hK _ _ ?_;clear hK K;have F:=y.kept (z6.setCell w3 ⟨g,5,none⟩ (.slice A3 (nX+1) d)) (λx hx=>oS ((y.at_base hx).1));have N:(w3.setCell ⟨g,5,none⟩ (.slice A3 (nX+1) d)).heap[g]?=some (.cells (cs.setIfInBounds 5 (.slice A3 (nX+1) d)) 69 (0,0)):=zA O 5 _;have s:(X.map y4) ++ [y4 xr]=(X ++ [xr]).map y4:=sI;have f:Own (w3.setCell ⟨g,5,none⟩ (.slice A3 (nX+1) d)) W.heap.size 207 35 A3 (nX+1) d ((X ++ [xr]).map y4):=by rw[<-s];exact F
  have B:z6 [g] W (w3.setCell ⟨g,5,none⟩ (.slice A3 (nX+1) d)):=z6.trans (hS.mono (S':=[g]) sI) (z6.setCell w3 ⟨g,5,none⟩ _) sI;clear F y r G hS O a7 a6 Z V H J s;have E:=B;have R:=N;rw[<-a0.out]at R;rw[<-c2.out,b8.out]at f;have M:qV (w3.setCell ⟨g,5,none⟩ (.slice A3 (nX+1) d)) g t I (wR m ⟨4,n,key,val,ref,refs⟩ x):=HX.out.set (sl':=⟨A3,nX+1,d⟩) E R (λh=>h.keep E) (λh=>h.keep E) (λh=>h.keep E) (λ_=>⟨f.slw,λhx=>by have:=(f.at_base hx).1;have:=c0.out;omega⟩) (λh=>h.keep E) (λh=>h.keep E) (λh=>h.keep E) (λh=>h.keep E);have a5:=dK c1.out B;clear f R N E B q0 p1 p2 p3 p5;(go_wp2_with fail);go_end0;exact⟨rfl,M,a5⟩
def xX(k:Nat):ByteArray:=if k=1 then⟨#[78]⟩ else if k=2 then⟨#[86]⟩ else if k=3 then⟨#[86,83]⟩ else if k=4 then⟨#[75,86,78]⟩ else if k=5 then⟨#[75,86,83]⟩ else if k=6 then⟨#[82,86]⟩ else if k=7 then⟨#[82]⟩ else⟨#[]⟩
theorem gC(k:Nat)(w:World)(hk:k<=9223372036854775807):Calls Tryz.prog 66 #[.int .i64 k] w λe w'=>e=.returned (.string (xX k))/\w=w':=by
 by_cases h:k<=7
 ·have h8:k=0\/k=1\/k=2\/k=3\/k=4\/k=5\/k=6\/k=7:=oM;rcases h8 with rfl | rfl | rfl | rfl | rfl | rfl | rfl | rfl
  all_goals
   go_enter Tryz.func66,Tryz.ntmps66
   (go_wp2_with fail);go_ret;exact⟨rfl,rfl⟩
 ·have hs:xX k=⟨#[]⟩:=by unfold xX;rw[if_neg oM,if_neg oM,if_neg oM,if_neg oM,if_neg oM,if_neg oM,if_neg oM]
  have Hs:=dH hs;have h1:((k:Int)==1)=false:=sO;have h2:((k:Int)==2)=false:=sO;have h3:((k:Int)==3)=false:=sO;have h4:((k:Int)==4)=false:=sO;have h5:((k:Int)==5)=false:=sO;have h6:((k:Int)==6)=false:=sO;have h7:((k:Int)==7)=false:=sO;clear hs h;go_enter Tryz.func66,Tryz.ntmps66
  (go_wp2_with fail);go_ret;exact⟨by rw[Hs.out];rfl,rfl⟩
theorem J9(k:Nat)(w:World)(hk:k<=9223372036854775807):Calls Tryz.prog 28 #[.int .i64 k] w λe w'=>e=.returned (.int .i64 (kL k))/\w=w':=by
 have hb:kL k=if k=1 then 1 else if k=2\/k=3 then 2 else if k=4 then 3 else if k=5 then 4 else if k=6\/k=7 then 5 else 0:=rfl;have Hb:=dH hb;clear hb;go_enter Tryz.func28,Tryz.ntmps28
 go_wp2_with fail
 all_goals
  go_ret;exact⟨yA (by rw[Hb.out];simp at *;omega),rfl⟩
section
open Go.RowKit
structure OfS where
 n:Int
 key:ByteArray
 val:ByteArray
 ref:zE
 refs:List zE
 l:List UInt8
 e:Int
def ofS0(l:List UInt8)(e:Int):OfS:=⟨0,⟨#[]⟩,⟨#[]⟩,id0,[],l,e⟩
def pM(N:Nat)(s:ZD):ZD:=kH N s
def wH(k:Nat)(s:OfS)(c:UInt8):OfS :=
 if c=78 then⟨if k=1 then(yK 4 s.l s.e:Int)-2147483648 else(yK 4 s.l s.e:Int),s.key,s.val,s.ref,s.refs,zK 4 s.l s.e,zM 4 s.l s.e⟩
 else if c=75 then⟨s.n,txV s.l s.e,s.val,s.ref,s.refs,txL s.l s.e,txE s.l s.e⟩
 else if c=86 then⟨s.n,s.key,txV s.l s.e,s.ref,s.refs,txL s.l s.e,txE s.l s.e⟩
 else if c=82 then⟨s.n,s.key,s.val,q3 (yV 32 s.l s.e),s.refs,zK 32 s.l s.e,zM 32 s.l s.e⟩
 else⟨s.n,s.key,s.val,s.ref,(pM (yK 1 s.l s.e) ⟨s.refs,zK 1 s.l s.e,zM 1 s.l s.e⟩).ids,(pM (yK 1 s.l s.e) ⟨s.refs,zK 1 s.l s.e,zM 1 s.l s.e⟩).l,(pM (yK 1 s.l s.e) ⟨s.refs,zK 1 s.l s.e,zM 1 s.l s.e⟩).e⟩
section
variable (k:Nat) (n:Int) (key val:ByteArray) (ref:zE) (refs:List zE) (l:List UInt8) (e:Int)
theorem of_78:wH k ⟨n,key,val,ref,refs,l,e⟩ 78=⟨if k=1 then(yK 4 l e:Int)-2147483648 else(yK 4 l e:Int),key,val,ref,refs,zK 4 l e,zM 4 l e⟩:=rfl
theorem of_75:wH k ⟨n,key,val,ref,refs,l,e⟩ 75=⟨n,txV l e,val,ref,refs,txL l e,txE l e⟩:=rfl
theorem of_86:wH k ⟨n,key,val,ref,refs,l,e⟩ 86=⟨n,key,txV l e,ref,refs,txL l e,txE l e⟩:=rfl
theorem of_82:wH k ⟨n,key,val,ref,refs,l,e⟩ 82=⟨n,key,val,q3 (yV 32 l e),refs,zK 32 l e,zM 32 l e⟩:=rfl
theorem of_83:wH k ⟨n,key,val,ref,refs,l,e⟩ 83=⟨n,key,val,ref,(pM (yK 1 l e) ⟨refs,zK 1 l e,zM 1 l e⟩).ids,(pM (yK 1 l e) ⟨refs,zK 1 l e,zM 1 l e⟩).l,(pM (yK 1 l e) ⟨refs,zK 1 l e,zM 1 l e⟩).e⟩:=rfl
end
def OfS.op(k:Nat)(s:OfS):OpR:=⟨⟨k,s.n,s.key,s.val,s.ref,s.refs⟩,s.l,s.e⟩
theorem of_run(k:Nat)(l:List UInt8)(e:Int)(h1:1<=k)(h7:k<=7):((xX k).data.toList.foldl (wH k) (ofS0 l e)).op k=yX k l e:=by
 have h:k=1\/k=2\/k=3\/k=4\/k=5\/k=6\/k=7:=oM;rcases h with rfl | rfl | rfl | rfl | rfl | rfl | rfl <;> rfl
theorem has_size(k:Nat):(xX k).size<=3:=by
 unfold xX
 repeat' split
 all_goals decide
theorem js(k:Nat):∀c∈(xX k).data.toList,c=78\/c=75\/c=86\/c=82\/c=83:=by
 unfold xX
 repeat' split
 all_goals decide
theorem X5(k:Nat):(xX k).toList.isEmpty=decide (k=0\/7<k):=by
 rw[ByteArray.toList_eq];by_cases h:k<=7
 ·have h8:k=0\/k=1\/k=2\/k=3\/k=4\/k=5\/k=6\/k=7:=oM;rcases h8 with rfl | rfl | rfl | rfl | rfl | rfl | rfl | rfl <;> rfl
 ·have hs:xX k=⟨#[]⟩:=by unfold xX;rw[if_neg oM,if_neg oM,if_neg oM,if_neg oM,if_neg oM,if_neg oM,if_neg oM]
  rw[hs,decide_eq_true oM];rfl
theorem KN(k:Nat)(l:List UInt8)(e:Int)(h1:1<=k)(h7:k<=7):(yX k l e).o.key.size<=9223372036854775807/\(yX k l e).o.val.size<=9223372036854775807:=by
 have hz:(⟨#[]⟩:ByteArray).size=0:=rfl;have ht:=λl e=>dV l e;have h:k=1\/k=2\/k=3\/k=4\/k=5\/k=6\/k=7:=oM;rcases h with rfl | rfl | rfl | rfl | rfl | rfl | rfl
 ·exact⟨by show(⟨#[]⟩:ByteArray).size<=_;omega,by show(⟨#[]⟩:ByteArray).size<=_;omega⟩
 ·exact⟨by show(⟨#[]⟩:ByteArray).size<=_;omega,Nat.le_trans (ht _ _) oM⟩
 ·exact⟨by show(⟨#[]⟩:ByteArray).size<=_;omega,Nat.le_trans (ht _ _) oM⟩
 ·exact⟨Nat.le_trans (ht _ _) oM,Nat.le_trans (ht _ _) oM⟩
 ·exact⟨Nat.le_trans (ht _ _) oM,Nat.le_trans (ht _ _) oM⟩
 ·exact⟨by show(⟨#[]⟩:ByteArray).size<=_;omega,Nat.le_trans (ht _ _) oM⟩
 ·exact⟨by show(⟨#[]⟩:ByteArray).size<=_;omega,by show(⟨#[]⟩:ByteArray).size<=_;omega⟩
end
theorem YB(w:World)(A B:Option Addr)(n m cap cap':Nat)(X Y:List zE)(hx:zY w A n X)(hy:zY w B m Y)(hn:n<=1000000)(hm:m<=1000000) :
  Calls Tryz.prog 32 #[.slice A n cap,.slice B m cap'] w λe w'=>e=.returned (.bool (decide (X=Y)))/\Below w.heap.size w w':=by
 have s:=hx.len;have r:=hy.len;have j:=dH s;have g:=dH r;by_cases G:n=m
 ·subst G;clear s r;go_enter Tryz.func32,Tryz.ntmps32
  (go_wp2_with fail);go_loopw [5] (λi wr=>∃k:Nat,k<=n/\i=.int .i64 k/\Hid (X.take k=Y.take k)/\Below w.heap.size w wr) (λi _=>n-(intOf i).toNat)
  case atStart=>exact⟨0,zL,rfl,rfl,Below.refl _ _⟩
  case round =>
   obtain⟨k,hk,rfl,H,hb⟩:=hrel;by_cases d:k<n
   ·obtain⟨q,o,rfl,hr⟩:=zY.get (SlR.below hx hb) d (by rw[j.out];exact d);obtain⟨q2,o2,rfl,F⟩:=zY.get (SlR.below hy hb) d (by rw[g.out];exact d);have hX:X.take (k+1)=X.take k ++ [X[k]'(by rw[j.out];exact d)]:=by rw[List.take_add_one,List.getElem?_eq_getElem (by rw[j.out];exact d)];rfl
    have hY:Y.take (k+1)=Y.take k ++ [Y[k]'(by rw[g.out];exact d)]:=by rw[List.take_add_one,List.getElem?_eq_getElem (by rw[g.out];exact d)];rfl
    obtain⟨x,D⟩:=eX (X[k]'(by rw[j.out];exact d))
    obtain⟨y,t⟩:=eX (Y[k]'(by rw[g.out];exact d))
    rw[D]at hr hX;rw[t]at F hY;have HX:=dH hX;have HY:=dH hY;clear hX hY;have O:=dH D;have N:=dH t;clear D t;go_upto_region 6 with fail
    refine lX wr ?_;intro f hS;have b1:=zU hr;have b2:=zU F;refine lZ ?_;refine zC ?_;intro hS;clear f hS b1 b2 hr F;have I:Below w.heap.size w wr.drew:=hb.drew;cases hpe:(x==y)with
    | true =>
     have e:=beq_iff_eq.1 hpe;have E:=dH e;clear e;(go_wp2_with fail);go_roundw
     case rel=>exact⟨k+1,oM,by go_num,(show X.take (k+1)=Y.take (k+1) by rw[HX.out,HY.out,H.out,E.out]),I⟩
     case measure=>exact sZ
    | false =>
     have f:X≠Y:=by
      intro e;subst e;have:x=y:=O.out.symm.trans N.out;rw[beq_iff_eq.2 this]at hpe;cases hpe
     have hd:=dH (decide_eq_false f);clear f;(go_wp2_with fail);go_ret;exact⟨yF (by rw[hd.out]),I⟩
   ·have M:k=n:=oM;have e:X=Y:=by
     have:=H.out
     rwa [List.take_of_length_le (by rw[j.out];omega),List.take_of_length_le (by rw[g.out];omega)]at this
    have E:=dH (decide_eq_true e);clear e M;(go_wp2_with fail);go_ret;exact⟨yF (by rw[E.out]),hb⟩
 ·have f:X≠Y:=by intro e;subst e;exact G (s.symm.trans r)
  have hd:=dH (decide_eq_false f);have L:(n==m)=false:=by simpa using G
  have J:((n:Int)==(m:Int))=false:=by rw[beq_eq_false_iff_ne];omega
  clear s r f;go_enter Tryz.func32,Tryz.ntmps32
  (go_wp2_with fail);go_ret;exact⟨yF (by rw[hd.out]),Below.refl _ _⟩
theorem ris_sort(R:List zE):decide (R=yB zI R)=vO R:=by
 rw[Bool.eq_iff_iff,decide_eq_true_eq,n6];exact⟨λh=>by rw[h];exact xJ q6 R,λh=>(fT q6 h).symm⟩
theorem ZR(w:World)(A:Option Addr)(n cap:Nat)(R:List zE)(h:zY w A n R)(hn:n<=1000000) :
  Calls Tryz.prog 97 #[.slice A n cap] w λe w'=>e=.returned (.bool (vO R))/\Below w.heap.size w w':=by
 have d:=h.len;have f:=xF (c:=zI) R;rw[d]at f;have c1:=rset w A n cap R h hn;have c2:=λw1 (hb:Below w.heap.size w w1) A' cap' (hs:ZC w1 A' (yB zI R).length cap' (yB zI R))=>YB w1 A A' n (yB zI R).length cap cap' R (yB zI R) (SlR.below h hb) hs.rd hn oM;have Hs:=dH (ris_sort R);clear d f;go_enter Tryz.func97,Tryz.ntmps97
 (go_wp2_with fail);refine c1.mono ?_;rintro e w1 ⟨A',cap',rfl,hs,_,g⟩;(go_wp2_with fail);refine(c2 w1 g A' cap' hs).mono ?_;rintro e w2 ⟨rfl,j⟩;(go_wp2_with fail);go_ret;exact⟨yF (by rw[Hs.out]),yE g j⟩
def inB(s:ByteArray)(c:Int):Bool:=s.data.toList.any λb=>((b.toNat:Int)==c)
theorem qL(s:ByteArray)(c:Int)(w:World)(hs:s.size<=9223372036854775807):Calls Tryz.prog 144 #[.string s,.int .u8 c] w λe w'=>e=.returned (.bool (inB s c))/\w=w':=by
 have f:s.data.toList.length=s.size:=Array.length_toList;have j:inB s c=(s.data.toList.drop 0).any λb=>((b.toNat:Int)==c):=rfl;have m:=dH j;clear j;go_enter Tryz.func144,Tryz.ntmps144
 (go_wp2_with fail);go_loopw [5] (λi wr=>∃k:Nat,k<=s.size/\i=.int .i64 k/\wr=w/\Hid (inB s c=(s.data.toList.drop k).any λb=>((b.toNat:Int)==c))) (λi _=>s.size-(intOf i).toNat)
 case atStart=>exact⟨0,zL,rfl,rfl,m⟩
 case round =>
  obtain⟨k,hk,rfl,rfl,hd⟩:=hrel;by_cases g:k<s.size
  ·have hg:s.data.toList.drop k=s[k]'g :: s.data.toList.drop (k+1):=by
    rw[List.drop_eq_getElem_cons (show k<s.data.toList.length by rw[f];exact g)];rfl
   have d:=hd.out;rw[hg,List.any_cons]at d;obtain⟨b,hb⟩:=eX (s[k]'g)
   rw[hb]at d;cases hc:((b.toNat:Int)==c)with
   | true =>
    rw[hc,Bool.true_or]at d;have Hd:=dH d;clear hd d hg;(go_wp2_with fail);go_ret;exact⟨yF (by rw[Hd.out]),rfl⟩
   | false =>
    rw[hc,Bool.false_or]at d;have Hd:=dH d;clear hd d hg;(go_wp2_with fail);go_roundw
    case rel=>exact⟨k+1,oM,by go_num,trivial,Hd⟩
    case measure=>exact sZ
  ·have d:=hd.out;rw[List.drop_eq_nil_of_le (by rw[f];omega)]at d;have Hd:=dH d;clear hd d;(go_wp2_with fail);go_ret;exact⟨yF (by rw[Hd.out];rfl),rfl⟩
theorem kS:(⟨#[]⟩:ByteArray).size=0:=rfl
theorem YF(o:OpV)(A:Option Addr)(c:Nat)(w:World)(h:wF o)(hT:zY w A o.refs.length o.refs)(hl:o.refs.length<=1000000)(H:o.key.size<=9223372036854775807)(G:o.val.size<=9223372036854775807) :
  Calls Tryz.prog 70 #[.agg (opC o A c)] w λe w'=>e=.returned (.int .i64 (Z1 o))/\Below w.heap.size w w':=by
 have d:zY (w.alloc (.cells (opC o A c) 52)) A o.refs.length o.refs:=SlR.below hT (bA);have D:Z1 o=if 16<o.key.size\/16<o.val.size then 3 else if iV o=false then 5 else if 8<o.refs.length then 6 else if vO o.refs=false then 4 else 0:=rfl;have F:iV o=(!(decide (o.k=4)&&decide (o.n<0))&&(decide (o.n<2147483648)&&decide (-2147483648<=o.n))):=rfl;obtain⟨rb,E⟩:=eX (vO o.refs)
 rw[E]at D;rw[F]at D;obtain⟨k,n,key,val,ref,refs⟩:=o;unfold opC at d |-;unfold wF at h;dsimp only at *;have s:=dH D;have B:=dH E;clear D F E hT;rcases h with⟨rfl,rfl,rfl,rfl,rfl⟩ | ⟨rfl,rfl,rfl,rfl,rfl⟩ | ⟨rfl,rfl,rfl,rfl⟩ | ⟨rfl,rfl,rfl⟩ | ⟨rfl,rfl,rfl⟩ | ⟨rfl,rfl,rfl,rfl⟩ | ⟨rfl,rfl,rfl,rfl,rfl⟩
 ·show Calls Tryz.prog 70 #[.agg (zB ⟨1,n,⟨#[]⟩,⟨#[]⟩,id0,.slice A 0 c⟩)] w _;change zY (w.alloc (.cells (zB ⟨1,n,⟨#[]⟩,⟨#[]⟩,id0,.slice A 0 c⟩) 52)) A 0 []at d;have hB:Below w.heap.size w (w.alloc (.cells (zB ⟨1,n,⟨#[]⟩,⟨#[]⟩,id0,.slice A 0 c⟩) 52)):=bA;have hr:z7 (w.alloc (.cells (zB ⟨1,n,⟨#[]⟩,⟨#[]⟩,id0,.slice A 0 c⟩) 52)) w.heap.size 0 37=some (zB ⟨1,n,⟨#[]⟩,⟨#[]⟩,id0,.slice A 0 c⟩):=by simp[go_sem]
  have x0:=z8 hr (j:=0) oM;have x1:=z8 hr (j:=1) oM;have x2:=z8 hr (j:=2) oM;have x3:=z8 hr (j:=3) oM;have x5:=z8 hr (j:=36) oM;have x4:=zX hr (j:=4) (m:=32) oM;simp only[qK,j6,jB,jA,qM,jO,Nat.zero_add]at x0 x1 x2 x3 x4 x5;have c1:=gC 1 (w.alloc (.cells (zB ⟨1,n,⟨#[]⟩,⟨#[]⟩,id0,.slice A 0 c⟩) 52)) oM;have i1:=qL (xX 1) 78 (w.alloc (.cells (zB ⟨1,n,⟨#[]⟩,⟨#[]⟩,id0,.slice A 0 c⟩) 52)) (by decide);have i2:=qL (xX 1) 75 (w.alloc (.cells (zB ⟨1,n,⟨#[]⟩,⟨#[]⟩,id0,.slice A 0 c⟩) 52)) (by decide);have i3:=qL (xX 1) 86 (w.alloc (.cells (zB ⟨1,n,⟨#[]⟩,⟨#[]⟩,id0,.slice A 0 c⟩) 52)) (by decide);have i4:=qL (xX 1) 82 (w.alloc (.cells (zB ⟨1,n,⟨#[]⟩,⟨#[]⟩,id0,.slice A 0 c⟩) 52)) (by decide);have i5:=qL (xX 1) 83 (w.alloc (.cells (zB ⟨1,n,⟨#[]⟩,⟨#[]⟩,id0,.slice A 0 c⟩) 52)) (by decide);rw[show inB (xX 1) 78=true by decide +kernel]at i1;rw[show inB (xX 1) 75=false by decide +kernel]at i2;rw[show inB (xX 1) 86=false by decide +kernel]at i3;rw[show inB (xX 1) 82=false by decide +kernel]at i4;rw[show inB (xX 1) 83=false by decide +kernel]at i5;rw[show xX 1=⟨#[78]⟩ from rfl]at c1 i1 i2 i3 i4 i5;clear hr;go_enter Tryz.func70,Tryz.ntmps70
  go_upto_region 1 with fail
  obtain⟨ga,f⟩:=eX w.heap.size
  have y:=dH f;rw[f]at x0 x1 x2 x3 x4 x5 hB |-;obtain⟨W,hW⟩:=eR (w.alloc (.cells (zB ⟨1,n,⟨#[]⟩,⟨#[]⟩,id0,.slice A 0 c⟩) 52))
  rw[<-hW]at x0 x1 x2 x3 x4 x5 hB c1 i1 i2 i3 i4 i5 d |-;clear hW f;(go_wp2_with fail);refine c1.mono ?_;rintro e w1 ⟨rfl,rfl⟩;(go_wp2_with fail);refine i1.mono ?_;rintro e w1 ⟨rfl,rfl⟩;(go_wp2_with fail);refine i2.mono ?_;rintro e w1 ⟨rfl,rfl⟩;(go_wp2_with fail);refine i3.mono ?_;rintro e w1 ⟨rfl,rfl⟩;(go_wp2_with fail);refine i4.mono ?_;rintro e w1 ⟨rfl,rfl⟩;(go_wp2_with fail);refine i5.mono ?_;rintro e w1 ⟨rfl,rfl⟩;clear c1 i1 i2 i3 i4 i5;have g:=ZR W A _ c _ d hl;rw[B.out]at g;rw[<-y.out]at hB;go_wp2_with fail
  all_goals
   first
   | (go_ret;exact⟨yA (by rw[s.out];(try simp only[kS,List.length_nil]at *);(repeat' split) <;> (first | rfl | omega | (simp_all;done) | (simp_all;omega))),hB⟩)
   | (refine g.mono ?_;rintro e w2 ⟨rfl,r⟩
      have t:=yE hB r;clear d g x0 x1 x2 x3 x4 x5 r;cases rb <;> (go_wp2_with fail;go_ret;exact⟨yA (by rw[s.out];(try simp only[kS,List.length_nil]at *);(repeat' split) <;> (first | rfl | omega | (simp_all;done) | (simp_all;omega))),t⟩))
 ·show Calls Tryz.prog 70 #[.agg (zB ⟨2,0,⟨#[]⟩,val,id0,.slice A 0 c⟩)] w _;change zY (w.alloc (.cells (zB ⟨2,0,⟨#[]⟩,val,id0,.slice A 0 c⟩) 52)) A 0 []at d;have hB:Below w.heap.size w (w.alloc (.cells (zB ⟨2,0,⟨#[]⟩,val,id0,.slice A 0 c⟩) 52)):=bA;have hr:z7 (w.alloc (.cells (zB ⟨2,0,⟨#[]⟩,val,id0,.slice A 0 c⟩) 52)) w.heap.size 0 37=some (zB ⟨2,0,⟨#[]⟩,val,id0,.slice A 0 c⟩):=by simp[go_sem]
  have x0:=z8 hr (j:=0) oM;have x1:=z8 hr (j:=1) oM;have x2:=z8 hr (j:=2) oM;have x3:=z8 hr (j:=3) oM;have x5:=z8 hr (j:=36) oM;have x4:=zX hr (j:=4) (m:=32) oM;simp only[qK,j6,jB,jA,qM,jO,Nat.zero_add]at x0 x1 x2 x3 x4 x5;have c1:=gC 2 (w.alloc (.cells (zB ⟨2,0,⟨#[]⟩,val,id0,.slice A 0 c⟩) 52)) oM;have i1:=qL (xX 2) 78 (w.alloc (.cells (zB ⟨2,0,⟨#[]⟩,val,id0,.slice A 0 c⟩) 52)) (by decide);have i2:=qL (xX 2) 75 (w.alloc (.cells (zB ⟨2,0,⟨#[]⟩,val,id0,.slice A 0 c⟩) 52)) (by decide);have i3:=qL (xX 2) 86 (w.alloc (.cells (zB ⟨2,0,⟨#[]⟩,val,id0,.slice A 0 c⟩) 52)) (by decide);have i4:=qL (xX 2) 82 (w.alloc (.cells (zB ⟨2,0,⟨#[]⟩,val,id0,.slice A 0 c⟩) 52)) (by decide);have i5:=qL (xX 2) 83 (w.alloc (.cells (zB ⟨2,0,⟨#[]⟩,val,id0,.slice A 0 c⟩) 52)) (by decide);rw[show inB (xX 2) 78=false by decide +kernel]at i1;rw[show inB (xX 2) 75=false by decide +kernel]at i2;rw[show inB (xX 2) 86=true by decide +kernel]at i3;rw[show inB (xX 2) 82=false by decide +kernel]at i4;rw[show inB (xX 2) 83=false by decide +kernel]at i5;rw[show xX 2=⟨#[86]⟩ from rfl]at c1 i1 i2 i3 i4 i5;clear hr;go_enter Tryz.func70,Tryz.ntmps70
  go_upto_region 1 with fail
  obtain⟨ga,f⟩:=eX w.heap.size
  have y:=dH f;rw[f]at x0 x1 x2 x3 x4 x5 hB |-;obtain⟨W,hW⟩:=eR (w.alloc (.cells (zB ⟨2,0,⟨#[]⟩,val,id0,.slice A 0 c⟩) 52))
  rw[<-hW]at x0 x1 x2 x3 x4 x5 hB c1 i1 i2 i3 i4 i5 d |-;clear hW f;(go_wp2_with fail);refine c1.mono ?_;rintro e w1 ⟨rfl,rfl⟩;(go_wp2_with fail);refine i1.mono ?_;rintro e w1 ⟨rfl,rfl⟩;(go_wp2_with fail);refine i2.mono ?_;rintro e w1 ⟨rfl,rfl⟩;(go_wp2_with fail);refine i3.mono ?_;rintro e w1 ⟨rfl,rfl⟩;(go_wp2_with fail);refine i4.mono ?_;rintro e w1 ⟨rfl,rfl⟩;(go_wp2_with fail);refine i5.mono ?_;rintro e w1 ⟨rfl,rfl⟩;clear c1 i1 i2 i3 i4 i5;have g:=ZR W A _ c _ d hl;rw[B.out]at g;rw[<-y.out]at hB;go_wp2_with fail
  all_goals
   first
   | (go_ret;exact⟨yA (by rw[s.out];(try simp only[kS,List.length_nil]at *);(repeat' split) <;> (first | rfl | omega | (simp_all;done) | (simp_all;omega))),hB⟩)
   | (refine g.mono ?_;rintro e w2 ⟨rfl,r⟩
      have t:=yE hB r;clear d g x0 x1 x2 x3 x4 x5 r;cases rb <;> (go_wp2_with fail;go_ret;exact⟨yA (by rw[s.out];(try simp only[kS,List.length_nil]at *);(repeat' split) <;> (first | rfl | omega | (simp_all;done) | (simp_all;omega))),t⟩))
 ·show Calls Tryz.prog 70 #[.agg (zB ⟨3,0,⟨#[]⟩,val,id0,.slice A refs.length c⟩)] w _;change zY (w.alloc (.cells (zB ⟨3,0,⟨#[]⟩,val,id0,.slice A refs.length c⟩) 52)) A refs.length refs at d;have hB:Below w.heap.size w (w.alloc (.cells (zB ⟨3,0,⟨#[]⟩,val,id0,.slice A refs.length c⟩) 52)):=bA;have hr:z7 (w.alloc (.cells (zB ⟨3,0,⟨#[]⟩,val,id0,.slice A refs.length c⟩) 52)) w.heap.size 0 37=some (zB ⟨3,0,⟨#[]⟩,val,id0,.slice A refs.length c⟩):=by simp[go_sem]
  have x0:=z8 hr (j:=0) oM;have x1:=z8 hr (j:=1) oM;have x2:=z8 hr (j:=2) oM;have x3:=z8 hr (j:=3) oM;have x5:=z8 hr (j:=36) oM;have x4:=zX hr (j:=4) (m:=32) oM;simp only[qK,j6,jB,jA,qM,jO,Nat.zero_add]at x0 x1 x2 x3 x4 x5;have c1:=gC 3 (w.alloc (.cells (zB ⟨3,0,⟨#[]⟩,val,id0,.slice A refs.length c⟩) 52)) oM;have i1:=qL (xX 3) 78 (w.alloc (.cells (zB ⟨3,0,⟨#[]⟩,val,id0,.slice A refs.length c⟩) 52)) (by decide);have i2:=qL (xX 3) 75 (w.alloc (.cells (zB ⟨3,0,⟨#[]⟩,val,id0,.slice A refs.length c⟩) 52)) (by decide);have i3:=qL (xX 3) 86 (w.alloc (.cells (zB ⟨3,0,⟨#[]⟩,val,id0,.slice A refs.length c⟩) 52)) (by decide);have i4:=qL (xX 3) 82 (w.alloc (.cells (zB ⟨3,0,⟨#[]⟩,val,id0,.slice A refs.length c⟩) 52)) (by decide);have i5:=qL (xX 3) 83 (w.alloc (.cells (zB ⟨3,0,⟨#[]⟩,val,id0,.slice A refs.length c⟩) 52)) (by decide);rw[show inB (xX 3) 78=false by decide +kernel]at i1;rw[show inB (xX 3) 75=false by decide +kernel]at i2;rw[show inB (xX 3) 86=true by decide +kernel]at i3;rw[show inB (xX 3) 82=false by decide +kernel]at i4;rw[show inB (xX 3) 83=true by decide +kernel]at i5;rw[show xX 3=⟨#[86,83]⟩ from rfl]at c1 i1 i2 i3 i4 i5;clear hr;go_enter Tryz.func70,Tryz.ntmps70
  go_upto_region 1 with fail
  obtain⟨ga,f⟩:=eX w.heap.size
  have y:=dH f;rw[f]at x0 x1 x2 x3 x4 x5 hB |-;obtain⟨W,hW⟩:=eR (w.alloc (.cells (zB ⟨3,0,⟨#[]⟩,val,id0,.slice A refs.length c⟩) 52))
  rw[<-hW]at x0 x1 x2 x3 x4 x5 hB c1 i1 i2 i3 i4 i5 d |-;clear hW f;(go_wp2_with fail);refine c1.mono ?_;rintro e w1 ⟨rfl,rfl⟩;(go_wp2_with fail);refine i1.mono ?_;rintro e w1 ⟨rfl,rfl⟩;(go_wp2_with fail);refine i2.mono ?_;rintro e w1 ⟨rfl,rfl⟩;(go_wp2_with fail);refine i3.mono ?_;rintro e w1 ⟨rfl,rfl⟩;(go_wp2_with fail);refine i4.mono ?_;rintro e w1 ⟨rfl,rfl⟩;(go_wp2_with fail);refine i5.mono ?_;rintro e w1 ⟨rfl,rfl⟩;clear c1 i1 i2 i3 i4 i5;have g:=ZR W A _ c _ d hl;rw[B.out]at g;rw[<-y.out]at hB;go_wp2_with fail
  all_goals
   first
   | (go_ret;exact⟨yA (by rw[s.out];(try simp only[kS,List.length_nil]at *);(repeat' split) <;> (first | rfl | omega | (simp_all;done) | (simp_all;omega))),hB⟩)
   | (refine g.mono ?_;rintro e w2 ⟨rfl,r⟩
      have t:=yE hB r;clear d g x0 x1 x2 x3 x4 x5 r;cases rb <;> (go_wp2_with fail;go_ret;exact⟨yA (by rw[s.out];(try simp only[kS,List.length_nil]at *);(repeat' split) <;> (first | rfl | omega | (simp_all;done) | (simp_all;omega))),t⟩))
 ·show Calls Tryz.prog 70 #[.agg (zB ⟨4,n,key,val,id0,.slice A 0 c⟩)] w _;change zY (w.alloc (.cells (zB ⟨4,n,key,val,id0,.slice A 0 c⟩) 52)) A 0 []at d;have hB:Below w.heap.size w (w.alloc (.cells (zB ⟨4,n,key,val,id0,.slice A 0 c⟩) 52)):=bA;have hr:z7 (w.alloc (.cells (zB ⟨4,n,key,val,id0,.slice A 0 c⟩) 52)) w.heap.size 0 37=some (zB ⟨4,n,key,val,id0,.slice A 0 c⟩):=by simp[go_sem]
  have x0:=z8 hr (j:=0) oM;have x1:=z8 hr (j:=1) oM;have x2:=z8 hr (j:=2) oM;have x3:=z8 hr (j:=3) oM;have x5:=z8 hr (j:=36) oM;have x4:=zX hr (j:=4) (m:=32) oM;simp only[qK,j6,jB,jA,qM,jO,Nat.zero_add]at x0 x1 x2 x3 x4 x5;have c1:=gC 4 (w.alloc (.cells (zB ⟨4,n,key,val,id0,.slice A 0 c⟩) 52)) oM;have i1:=qL (xX 4) 78 (w.alloc (.cells (zB ⟨4,n,key,val,id0,.slice A 0 c⟩) 52)) (by decide);have i2:=qL (xX 4) 75 (w.alloc (.cells (zB ⟨4,n,key,val,id0,.slice A 0 c⟩) 52)) (by decide);have i3:=qL (xX 4) 86 (w.alloc (.cells (zB ⟨4,n,key,val,id0,.slice A 0 c⟩) 52)) (by decide);have i4:=qL (xX 4) 82 (w.alloc (.cells (zB ⟨4,n,key,val,id0,.slice A 0 c⟩) 52)) (by decide);have i5:=qL (xX 4) 83 (w.alloc (.cells (zB ⟨4,n,key,val,id0,.slice A 0 c⟩) 52)) (by decide);rw[show inB (xX 4) 78=true by decide +kernel]at i1;rw[show inB (xX 4) 75=true by decide +kernel]at i2;rw[show inB (xX 4) 86=true by decide +kernel]at i3;rw[show inB (xX 4) 82=false by decide +kernel]at i4;rw[show inB (xX 4) 83=false by decide +kernel]at i5;rw[show xX 4=⟨#[75,86,78]⟩ from rfl]at c1 i1 i2 i3 i4 i5;clear hr;go_enter Tryz.func70,Tryz.ntmps70
  go_upto_region 1 with fail
  obtain⟨ga,f⟩:=eX w.heap.size
  have y:=dH f;rw[f]at x0 x1 x2 x3 x4 x5 hB |-;obtain⟨W,hW⟩:=eR (w.alloc (.cells (zB ⟨4,n,key,val,id0,.slice A 0 c⟩) 52))
  rw[<-hW]at x0 x1 x2 x3 x4 x5 hB c1 i1 i2 i3 i4 i5 d |-;clear hW f;(go_wp2_with fail);refine c1.mono ?_;rintro e w1 ⟨rfl,rfl⟩;(go_wp2_with fail);refine i1.mono ?_;rintro e w1 ⟨rfl,rfl⟩;(go_wp2_with fail);refine i2.mono ?_;rintro e w1 ⟨rfl,rfl⟩;(go_wp2_with fail);refine i3.mono ?_;rintro e w1 ⟨rfl,rfl⟩;(go_wp2_with fail);refine i4.mono ?_;rintro e w1 ⟨rfl,rfl⟩;(go_wp2_with fail);refine i5.mono ?_;rintro e w1 ⟨rfl,rfl⟩;clear c1 i1 i2 i3 i4 i5;have g:=ZR W A _ c _ d hl;rw[B.out]at g;rw[<-y.out]at hB;go_wp2_with fail
  all_goals
   first
   | (go_ret;exact⟨yA (by rw[s.out];(try simp only[kS,List.length_nil]at *);(repeat' split) <;> (first | rfl | omega | (simp_all;done) | (simp_all;omega))),hB⟩)
   | (refine g.mono ?_;rintro e w2 ⟨rfl,r⟩
      have t:=yE hB r;clear d g x0 x1 x2 x3 x4 x5 r;cases rb <;> (go_wp2_with fail;go_ret;exact⟨yA (by rw[s.out];(try simp only[kS,List.length_nil]at *);(repeat' split) <;> (first | rfl | omega | (simp_all;done) | (simp_all;omega))),t⟩))
 ·show Calls Tryz.prog 70 #[.agg (zB ⟨5,0,key,val,id0,.slice A refs.length c⟩)] w _;change zY (w.alloc (.cells (zB ⟨5,0,key,val,id0,.slice A refs.length c⟩) 52)) A refs.length refs at d;have hB:Below w.heap.size w (w.alloc (.cells (zB ⟨5,0,key,val,id0,.slice A refs.length c⟩) 52)):=bA;have hr:z7 (w.alloc (.cells (zB ⟨5,0,key,val,id0,.slice A refs.length c⟩) 52)) w.heap.size 0 37=some (zB ⟨5,0,key,val,id0,.slice A refs.length c⟩):=by simp[go_sem]
  have x0:=z8 hr (j:=0) oM;have x1:=z8 hr (j:=1) oM;have x2:=z8 hr (j:=2) oM;have x3:=z8 hr (j:=3) oM;have x5:=z8 hr (j:=36) oM;have x4:=zX hr (j:=4) (m:=32) oM;simp only[qK,j6,jB,jA,qM,jO,Nat.zero_add]at x0 x1 x2 x3 x4 x5;have c1:=gC 5 (w.alloc (.cells (zB ⟨5,0,key,val,id0,.slice A refs.length c⟩) 52)) oM;have i1:=qL (xX 5) 78 (w.alloc (.cells (zB ⟨5,0,key,val,id0,.slice A refs.length c⟩) 52)) (by decide);have i2:=qL (xX 5) 75 (w.alloc (.cells (zB ⟨5,0,key,val,id0,.slice A refs.length c⟩) 52)) (by decide);have i3:=qL (xX 5) 86 (w.alloc (.cells (zB ⟨5,0,key,val,id0,.slice A refs.length c⟩) 52)) (by decide);have i4:=qL (xX 5) 82 (w.alloc (.cells (zB ⟨5,0,key,val,id0,.slice A refs.length c⟩) 52)) (by decide);have i5:=qL (xX 5) 83 (w.alloc (.cells (zB ⟨5,0,key,val,id0,.slice A refs.length c⟩) 52)) (by decide);rw[show inB (xX 5) 78=false by decide +kernel]at i1;rw[show inB (xX 5) 75=true by decide +kernel]at i2;rw[show inB (xX 5) 86=true by decide +kernel]at i3;rw[show inB (xX 5) 82=false by decide +kernel]at i4;rw[show inB (xX 5) 83=true by decide +kernel]at i5;rw[show xX 5=⟨#[75,86,83]⟩ from rfl]at c1 i1 i2 i3 i4 i5;clear hr;go_enter Tryz.func70,Tryz.ntmps70
  go_upto_region 1 with fail
  obtain⟨ga,f⟩:=eX w.heap.size
  have y:=dH f;rw[f]at x0 x1 x2 x3 x4 x5 hB |-;obtain⟨W,hW⟩:=eR (w.alloc (.cells (zB ⟨5,0,key,val,id0,.slice A refs.length c⟩) 52))
  rw[<-hW]at x0 x1 x2 x3 x4 x5 hB c1 i1 i2 i3 i4 i5 d |-;clear hW f;(go_wp2_with fail);refine c1.mono ?_;rintro e w1 ⟨rfl,rfl⟩;(go_wp2_with fail);refine i1.mono ?_;rintro e w1 ⟨rfl,rfl⟩;(go_wp2_with fail);refine i2.mono ?_;rintro e w1 ⟨rfl,rfl⟩;(go_wp2_with fail);refine i3.mono ?_;rintro e w1 ⟨rfl,rfl⟩;(go_wp2_with fail);refine i4.mono ?_;rintro e w1 ⟨rfl,rfl⟩;(go_wp2_with fail);refine i5.mono ?_;rintro e w1 ⟨rfl,rfl⟩;clear c1 i1 i2 i3 i4 i5;have g:=ZR W A _ c _ d hl;rw[B.out]at g;rw[<-y.out]at hB;go_wp2_with fail
  all_goals
   first
   | (go_ret;exact⟨yA (by rw[s.out];(try simp only[kS,List.length_nil]at *);(repeat' split) <;> (first | rfl | omega | (simp_all;done) | (simp_all;omega))),hB⟩)
   | (refine g.mono ?_;rintro e w2 ⟨rfl,r⟩
      have t:=yE hB r;clear d g x0 x1 x2 x3 x4 x5 r;cases rb <;> (go_wp2_with fail;go_ret;exact⟨yA (by rw[s.out];(try simp only[kS,List.length_nil]at *);(repeat' split) <;> (first | rfl | omega | (simp_all;done) | (simp_all;omega))),t⟩))
 ·show Calls Tryz.prog 70 #[.agg (zB ⟨6,0,⟨#[]⟩,val,ref,.slice A 0 c⟩)] w _;change zY (w.alloc (.cells (zB ⟨6,0,⟨#[]⟩,val,ref,.slice A 0 c⟩) 52)) A 0 []at d;have hB:Below w.heap.size w (w.alloc (.cells (zB ⟨6,0,⟨#[]⟩,val,ref,.slice A 0 c⟩) 52)):=bA;have hr:z7 (w.alloc (.cells (zB ⟨6,0,⟨#[]⟩,val,ref,.slice A 0 c⟩) 52)) w.heap.size 0 37=some (zB ⟨6,0,⟨#[]⟩,val,ref,.slice A 0 c⟩):=by simp[go_sem]
  have x0:=z8 hr (j:=0) oM;have x1:=z8 hr (j:=1) oM;have x2:=z8 hr (j:=2) oM;have x3:=z8 hr (j:=3) oM;have x5:=z8 hr (j:=36) oM;have x4:=zX hr (j:=4) (m:=32) oM;simp only[qK,j6,jB,jA,qM,jO,Nat.zero_add]at x0 x1 x2 x3 x4 x5;have c1:=gC 6 (w.alloc (.cells (zB ⟨6,0,⟨#[]⟩,val,ref,.slice A 0 c⟩) 52)) oM;have i1:=qL (xX 6) 78 (w.alloc (.cells (zB ⟨6,0,⟨#[]⟩,val,ref,.slice A 0 c⟩) 52)) (by decide);have i2:=qL (xX 6) 75 (w.alloc (.cells (zB ⟨6,0,⟨#[]⟩,val,ref,.slice A 0 c⟩) 52)) (by decide);have i3:=qL (xX 6) 86 (w.alloc (.cells (zB ⟨6,0,⟨#[]⟩,val,ref,.slice A 0 c⟩) 52)) (by decide);have i4:=qL (xX 6) 82 (w.alloc (.cells (zB ⟨6,0,⟨#[]⟩,val,ref,.slice A 0 c⟩) 52)) (by decide);have i5:=qL (xX 6) 83 (w.alloc (.cells (zB ⟨6,0,⟨#[]⟩,val,ref,.slice A 0 c⟩) 52)) (by decide);rw[show inB (xX 6) 78=false by decide +kernel]at i1;rw[show inB (xX 6) 75=false by decide +kernel]at i2;rw[show inB (xX 6) 86=true by decide +kernel]at i3;rw[show inB (xX 6) 82=true by decide +kernel]at i4;rw[show inB (xX 6) 83=false by decide +kernel]at i5;rw[show xX 6=⟨#[82,86]⟩ from rfl]at c1 i1 i2 i3 i4 i5;clear hr;go_enter Tryz.func70,Tryz.ntmps70
  go_upto_region 1 with fail
  obtain⟨ga,f⟩:=eX w.heap.size
  have y:=dH f;rw[f]at x0 x1 x2 x3 x4 x5 hB |-;obtain⟨W,hW⟩:=eR (w.alloc (.cells (zB ⟨6,0,⟨#[]⟩,val,ref,.slice A 0 c⟩) 52))
  rw[<-hW]at x0 x1 x2 x3 x4 x5 hB c1 i1 i2 i3 i4 i5 d |-;clear hW f;(go_wp2_with fail);refine c1.mono ?_;rintro e w1 ⟨rfl,rfl⟩;(go_wp2_with fail);refine i1.mono ?_;rintro e w1 ⟨rfl,rfl⟩;(go_wp2_with fail);refine i2.mono ?_;rintro e w1 ⟨rfl,rfl⟩;(go_wp2_with fail);refine i3.mono ?_;rintro e w1 ⟨rfl,rfl⟩;(go_wp2_with fail);refine i4.mono ?_;rintro e w1 ⟨rfl,rfl⟩;(go_wp2_with fail);refine i5.mono ?_;rintro e w1 ⟨rfl,rfl⟩;clear c1 i1 i2 i3 i4 i5;have g:=ZR W A _ c _ d hl;rw[B.out]at g;rw[<-y.out]at hB;go_wp2_with fail
  all_goals
   first
   | (go_ret;exact⟨yA (by rw[s.out];(try simp only[kS,List.length_nil]at *);(repeat' split) <;> (first | rfl | omega | (simp_all;done) | (simp_all;omega))),hB⟩)
   | (refine g.mono ?_;rintro e w2 ⟨rfl,r⟩
      have t:=yE hB r;clear d g x0 x1 x2 x3 x4 x5 r;cases rb <;> (go_wp2_with fail;go_ret;exact⟨yA (by rw[s.out];(try simp only[kS,List.length_nil]at *);(repeat' split) <;> (first | rfl | omega | (simp_all;done) | (simp_all;omega))),t⟩))
 ·show Calls Tryz.prog 70 #[.agg (zB ⟨7,0,⟨#[]⟩,⟨#[]⟩,ref,.slice A 0 c⟩)] w _;change zY (w.alloc (.cells (zB ⟨7,0,⟨#[]⟩,⟨#[]⟩,ref,.slice A 0 c⟩) 52)) A 0 []at d;have hB:Below w.heap.size w (w.alloc (.cells (zB ⟨7,0,⟨#[]⟩,⟨#[]⟩,ref,.slice A 0 c⟩) 52)):=bA;have hr:z7 (w.alloc (.cells (zB ⟨7,0,⟨#[]⟩,⟨#[]⟩,ref,.slice A 0 c⟩) 52)) w.heap.size 0 37=some (zB ⟨7,0,⟨#[]⟩,⟨#[]⟩,ref,.slice A 0 c⟩):=by simp[go_sem]
  have x0:=z8 hr (j:=0) oM;have x1:=z8 hr (j:=1) oM;have x2:=z8 hr (j:=2) oM;have x3:=z8 hr (j:=3) oM;have x5:=z8 hr (j:=36) oM;have x4:=zX hr (j:=4) (m:=32) oM;simp only[qK,j6,jB,jA,qM,jO,Nat.zero_add]at x0 x1 x2 x3 x4 x5;have c1:=gC 7 (w.alloc (.cells (zB ⟨7,0,⟨#[]⟩,⟨#[]⟩,ref,.slice A 0 c⟩) 52)) oM;have i1:=qL (xX 7) 78 (w.alloc (.cells (zB ⟨7,0,⟨#[]⟩,⟨#[]⟩,ref,.slice A 0 c⟩) 52)) (by decide);have i2:=qL (xX 7) 75 (w.alloc (.cells (zB ⟨7,0,⟨#[]⟩,⟨#[]⟩,ref,.slice A 0 c⟩) 52)) (by decide);have i3:=qL (xX 7) 86 (w.alloc (.cells (zB ⟨7,0,⟨#[]⟩,⟨#[]⟩,ref,.slice A 0 c⟩) 52)) (by decide);have i4:=qL (xX 7) 82 (w.alloc (.cells (zB ⟨7,0,⟨#[]⟩,⟨#[]⟩,ref,.slice A 0 c⟩) 52)) (by decide);have i5:=qL (xX 7) 83 (w.alloc (.cells (zB ⟨7,0,⟨#[]⟩,⟨#[]⟩,ref,.slice A 0 c⟩) 52)) (by decide);rw[show inB (xX 7) 78=false by decide +kernel]at i1;rw[show inB (xX 7) 75=false by decide +kernel]at i2;rw[show inB (xX 7) 86=false by decide +kernel]at i3;rw[show inB (xX 7) 82=true by decide +kernel]at i4;rw[show inB (xX 7) 83=false by decide +kernel]at i5;rw[show xX 7=⟨#[82]⟩ from rfl]at c1 i1 i2 i3 i4 i5;clear hr;go_enter Tryz.func70,Tryz.ntmps70
  go_upto_region 1 with fail
  obtain⟨ga,f⟩:=eX w.heap.size
  have y:=dH f;rw[f]at x0 x1 x2 x3 x4 x5 hB |-;obtain⟨W,hW⟩:=eR (w.alloc (.cells (zB ⟨7,0,⟨#[]⟩,⟨#[]⟩,ref,.slice A 0 c⟩) 52))
  rw[<-hW]at x0 x1 x2 x3 x4 x5 hB c1 i1 i2 i3 i4 i5 d |-;clear hW f;(go_wp2_with fail);refine c1.mono ?_;rintro e w1 ⟨rfl,rfl⟩;(go_wp2_with fail);refine i1.mono ?_;rintro e w1 ⟨rfl,rfl⟩;(go_wp2_with fail);refine i2.mono ?_;rintro e w1 ⟨rfl,rfl⟩;(go_wp2_with fail);refine i3.mono ?_;rintro e w1 ⟨rfl,rfl⟩;(go_wp2_with fail);refine i4.mono ?_;rintro e w1 ⟨rfl,rfl⟩;(go_wp2_with fail);refine i5.mono ?_;rintro e w1 ⟨rfl,rfl⟩;clear c1 i1 i2 i3 i4 i5;have g:=ZR W A _ c _ d hl;rw[B.out]at g;rw[<-y.out]at hB;go_wp2_with fail
  all_goals
   first
   | (go_ret;exact⟨yA (by rw[s.out];(try simp only[kS,List.length_nil]at *);(repeat' split) <;> (first | rfl | omega | (simp_all;done) | (simp_all;omega))),hB⟩)
   | (refine g.mono ?_;rintro e w2 ⟨rfl,r⟩
      have t:=yE hB r;clear d g x0 x1 x2 x3 x4 x5 r;cases rb <;> (go_wp2_with fail;go_ret;exact⟨yA (by rw[s.out];(try simp only[kS,List.length_nil]at *);(repeat' split) <;> (first | rfl | omega | (simp_all;done) | (simp_all;omega))),t⟩))
 @[go_sem] theorem buildRr_s(s:ByteArray)(w:World):(bdS 112 #[(0,.string s)]).run Tryz.prog w=.ok (.agg (rrC ⟨s,0⟩)) w:=kR
theorem rop_of(s:ByteArray)(w:World)(hs:s.size<=9223372036854775807) :
  Calls Tryz.prog 27 #[.string s] w (OfRes w s.data.toList):=by
 obtain⟨l,hl⟩:=eX s.data.toList
 have f6:s=mkB l:=by rw[<-hl];rfl
 have p0:l.length<=9223372036854775807:=by rw[<-hl];exact hs
 have i6:Below w.heap.size w ((w.alloc (.cells (zB yT) 52)).alloc (.cells (rrC ⟨mkB l,0⟩) 112)):=(bA).alloc sI _;have B:((w.alloc (.cells (zB yT) 52)).alloc (.cells (rrC ⟨mkB l,0⟩) 112)).heap[w.heap.size]?=some (.cells (zB yT) 52 (0,0)):=by
  rw[Below.heap_alloc _ _ _ sI];exact heap_alloc_new w _
 have d4:jQ ((w.alloc (.cells (zB yT) 52)).alloc (.cells (rrC ⟨mkB l,0⟩) 112)) (w.heap.size+1) l 0:=⟨p0,by
  have:=heap_alloc_new (w.alloc (.cells (zB yT) 52)) (.cells (rrC ⟨mkB l,0⟩) 112);simpa using this⟩
 rw[hl];subst f6;clear hl hs;have hE:opE l=if zM 1 l 0≠0 then zM 1 l 0
  else if yK 1 l 0=0\/7<yK 1 l 0 then 10
  else if j4 (yX (yK 1 l 0) (zK 1 l 0) 0).l (yX (yK 1 l 0) (zK 1 l 0) 0).e≠0 then j4 (yX (yK 1 l 0) (zK 1 l 0) 0).l (yX (yK 1 l 0) (zK 1 l 0) 0).e
  else vm (yX (yK 1 l 0) (zK 1 l 0) 0).o:=rfl
 have hO:opO l=(yX (yK 1 l 0) (zK 1 l 0) 0).o:=rfl;have m2:=yI 1 l 0;have p1:yK 1 l 0<256:=by simpa using m2
 have HE:=dH hE;have HO:=dH hO;clear hE hO m2;show Calls Tryz.prog 27 #[.string (mkB l)] w _;go_enter Tryz.func27,Tryz.ntmps27
 go_upto_region 2 with fail
 obtain⟨ga,k0⟩:=eX w.heap.size
 have e6:=dH k0;obtain⟨W,hW⟩:=eR ((w.alloc (.cells (zB yT) 52)).alloc (.cells (rrC ⟨mkB l,0⟩) 112))
 rw[<-hW]at i6 B d4 |-;rw[k0]at B d4 i6 |-;clear hW k0;obtain⟨gr,m4⟩:=eX (ga+1)
 have p4:ga<gr:=oM;rw[m4]at d4 |-;clear m4;(go_wp2_with fail);refine(pD W gr 1 l 0 d4 (.inl rfl)).mono ?_;rintro en w2 ⟨rfl,b3,b4⟩;have e0:=(b4.block ga (oH d4.lt) sO).trans B;have h4:Below ga w w2:=i6.trans (b4.below (oH d4.lt) sO);obtain⟨k,hk⟩:=eX (yK 1 l 0)
 rw[hk]at HE HO p1 |-;clear d4 b4 B i6 hk;have i5:Below w2.heap.size w2 (w2.alloc (.cells (zB ⟨k,0,⟨#[]⟩,⟨#[]⟩,id0,.slice none 0 0⟩) 52)):=bA;have F:(w2.alloc (.cells (zB ⟨k,0,⟨#[]⟩,⟨#[]⟩,id0,.slice none 0 0⟩) 52)).heap[w2.heap.size]?=some (.cells (zB ⟨k,0,⟨#[]⟩,⟨#[]⟩,id0,.slice none 0 0⟩) 52 (0,0)):=heap_alloc_new w2 _;have B:=(i5.block ga (aG e0).1).trans e0;have a7:=b3.below i5;have i8:=b3.lt;have U:Below ga w (w2.alloc (.cells (zB ⟨k,0,⟨#[]⟩,⟨#[]⟩,id0,.slice none 0 0⟩) 52)):=h4.trans (i5.mono oM);clear i5 e0 b3 h4;go_upto_region 3 with fail
 obtain⟨go,hgo⟩:=eX w2.heap.size
 obtain⟨W,hW⟩:=eR (w2.alloc (.cells (zB ⟨k,0,⟨#[]⟩,⟨#[]⟩,id0,.slice none 0 0⟩) 52))
 rw[<-hW]at F B a7 U |-;rw[hgo]at F i8 |-;clear hW hgo;obtain⟨c0,c1,m5⟩:=vJ a7;have l4:W.cell? ⟨go,0,none⟩=some (.int .i64 k):=by rw[cell_of_row W go 0 _ _ _ F];simp[go_sem]
 have d9:go<W.heap.size:=(aG F).1;by_cases he:zM 1 l 0=0
 ·have d1:=HE.out;rw[if_neg (by rw[he];simp)]at d1;rw[he]at a7 c1;have e7:=dH d1;clear d1 he HE;by_cases e9:k=0\/7<k
  ·have h2:=e7.out;rw[if_pos e9]at h2;have g9:=X5 k;rw[decide_eq_true e9]at g9;have h6:=gC k W oM;have X:=dH h2;clear h2 e7 HO e9;have b0:=yU (P:=Tryz.prog) yY W ga (zB yT) (zB yT) _ B sI sI (jT _ rfl);have M:=dH (setRow_heap W ga _ (zB yT) _ _ B);have Y:z6 [ga] W (W.setRow ga (zB yT)):=⟨rfl,rfl,rfl,by simp[World.setRow],λx _ hx=>setRow_other W ga x _ (by simpa using hx)⟩
   have a3:Below ga w (W.setRow ga (zB yT)):=U.trans (Y.below (oH a7.lt) sI);have c4:=dH a3;clear a3 Y B a7 U F;(go_wp2_with fail);refine h6.mono ?_;rintro en w3 ⟨rfl,rfl⟩;(go_wp2_with fail);refine bodyPost_ret (qH Tryz.results27 _ _ ga 52 (zB yT) (0,0) _ rfl M.out Tryz.underlying52 rfl (by first | (rw[qQ];exact yY) | (rw[bH];exact yY))) rfl ?_;exact⟨_,by rw[X.out];rfl,λh0=>absurd (X.out.symm.trans h0) oM,λ_=>rfl,by rw[e6.out];exact c4.out⟩
  ·have h2:=e7.out;rw[if_neg e9]at h2;have X:=dH h2;have i4:1<=k:=oM;have i3:k<=7:=oM;have j0:=pI k (zK 1 l 0) 0 i4 i3;have k3:=VW k (zK 1 l 0) 0 i4 i3;have i0:=of_run k (zK 1 l 0) 0 i4 i3;have y:=KN k (zK 1 l 0) 0 i4 i3;have g9:=X5 k;rw[decide_eq_false e9]at g9;have h6:=gC k W oM;have l5:=has_size k;have k4:=js k;obtain⟨S,hS⟩:=eX (xX k)
   rw[hS]at g9 h6 l5 k4 i0;obtain⟨R,hR⟩:=eX (yX k (zK 1 l 0) 0)
   rw[hR]at X HO j0 k3 i0 y;obtain⟨o,l2,e2⟩:=R;dsimp only at *;have n7:=dH j0;have q4:=dH k3;have n6:=dH i0;have o3:=dH y;have o0:=dH k4;clear h2 e7 e9 hR j0 k3 hS i0 k4 m5 c0 y;(go_wp2_with fail);refine h6.mono ?_;rintro en w3 ⟨rfl,rfl⟩;clear h6 c1;have h9:=dH U;clear U;(go_wp2_with fail);go_loopw [7,8,9] (λiv _ _ wr=>∃(i:Nat) (s:OfS) (A:Option Addr) (cap:Nat),i<=S.size/\iv=.int .i64 i/\Hid (S.data.toList.foldl (wH k) (ofS0 (zK 1 l 0) 0)=(S.data.toList.drop i).foldl (wH k) s)/\wr.heap[go]?=some (.cells (zB ⟨k,s.n,s.key,s.val,s.ref,.slice A s.refs.length cap⟩) 52 (0,0))/\wr.heap[ga]?=some (.cells (zB yT) 52 (0,0))/\jQ wr gr s.l s.e/\Own wr W.heap.size 39 32 A s.refs.length cap (s.refs.map idC)/\z6 [gr,go] W wr/\s.refs.length<=255*i) (λiv _ _ _=>S.size-(intOf iv).toNat)
   case atStart=>exact⟨0,ofS0 (zK 1 l 0) 0,none,0,zL,rfl,rfl,F,B,a7,Own.nil _ _ _ _,z6.refl _ _,lR⟩
   case round =>
    clear F B a7 l4;obtain⟨i,s,A,cap,hi,rfl,b2,F,B,hE,t,hK,o5⟩:=hrel;obtain⟨n1,E,D,H,f,l1,e1⟩:=s;dsimp only at *;by_cases l9:i<S.size
    ·have Z:i<S.data.toList.length:=by simpa using l9
     have k2:S.data.toList.drop i=S.data.toList[i]'Z :: S.data.toList.drop (i+1):=List.drop_eq_getElem_cons Z;have p3:S[i]'l9=S.data.toList[i]'Z:=by rw[Array.getElem_toList];rfl
     have f9:S.data.toList[i]'Z∈S.data.toList:=List.getElem_mem Z;have m7:=o0.out _ f9;obtain⟨c,hc⟩:=eX (S.data.toList[i]'Z)
     rw[hc]at k2 p3 m7;have a6:=b2.out;rw[k2,List.foldl_cons]at a6;have a5:=dH a6;clear k2 f9 hc b2 a6 Z;have f8:go∉[gr]:=sO;have e8:gr∉[go]:=sO;have i1:ga∉[gr,go]:=sO;have f4:∀x∈blk A,x∉[gr]:=λx hx=>(oS ((t.at_base hx).1));have c2:∀x∈blk A,x∉[go]:=λx hx=>(oS ((t.at_base hx).1));rcases m7 with rfl | rfl | rfl | rfl | rfl
     ·skip;(go_wp2_with fail);refine(pD _ gr 4 _ _ hE (.inr rfl)).mono ?_;rintro en w3 ⟨rfl,O,g⟩;have d5:=yI 4 l1 e1;obtain⟨nv,j2⟩:=eX (yK 4 l1 e1)
      rw[j2]at d5 |-;have d2:Hid (wH k ⟨n1,E,D,H,f,l1,e1⟩ 78=⟨if k=1 then(nv:Int)-2147483648 else(nv:Int),E,D,H,f,zK 4 l1 e1,zM 4 l1 e1⟩):=dH (by rw[of_78,j2]);clear j2;have o8:nv<4294967296:=by simpa using d5
      clear d5;have T:=(g.block go (aG F).1 f8).trans F;have V:∀j,w3.frozen? ⟨go,j,none⟩=false:=λj=>(by simp[World.frozen?,T]);have f0:=V 1;have m:=zA T 1 (.int .i64 nv);rw[n9]at m;have y:=z6.setCell w3 ⟨go,1,none⟩ (.int .i64 nv);have a9:=O.kept y e8;have G:=((z6.trans (g.mono (S':=[gr,go]) sI) (y.mono (S':=[gr,go]) sI) iL).block ga (aG B).1 i1).trans B;have r:=(t.kept g f4).kept y c2;have a0:z6 [gr,go] W (w3.setCell ⟨go,1,none⟩ (.int .i64 nv)):=z6.trans (z6.trans hK (g.mono (S':=[gr,go]) sI) iL) (y.mono (S':=[gr,go]) sI) iL;clear V y hE O g t hK B F;have x0:w3.cell? ⟨go,1,none⟩=some (.int .i64 n1):=by rw[cell_of_row w3 go _ _ _ _ T];simp[go_sem]
      clear T;go_upto_region 19 with fail
      obtain⟨W',m9⟩:=eR (w3.setCell ⟨go,1,none⟩ (.int .i64 nv))
      rw[<-m9]at m a9 G r a0 |-;clear m9 x0 f0;have y0:W'.cell? ⟨go,0,none⟩=some (.int .i64 k):=by rw[cell_of_row W' go _ _ _ _ m];simp[go_sem]
      cases hkb:((k:Int)==1)with
      | false =>
       have g3:k≠1:=by intro h;subst h;simp at hkb
       have c5:=d2.out;rw[if_neg g3]at c5;have e5:=dH c5;clear c5 g3 d2;(go_wp2_with fail);go_roundw
       case rel=>exact⟨i+1,⟨nv,E,D,H,f,zK 4 l1 e1,zM 4 l1 e1⟩,A,cap,oM,by go_num,(show _=_ by rw[a5.out,e5.out]),m,G,a9,r,a0,(by simp only;omega)⟩
       case measure=>exact sZ
      | true =>
       have g2:k=1:=by have:(k:Int)=1:=by simpa using hkb
                       omega
       have c5:=d2.out;rw[if_pos g2]at c5;have e5:=dH c5;clear c5 g2 d2;have f0:W'.frozen? ⟨go,1,none⟩=false:=by simp[World.frozen?,m]
       have x0:W'.cell? ⟨go,1,none⟩=some (.int .i64 nv):=by rw[cell_of_row W' go _ _ _ _ m];simp[go_sem]
       have hw:IntKind.i64.wrap ((nv:Int)-2147483648)=(nv:Int)-2147483648:=IntWalk.i64_in _ oM;have g7:=zA m 1 (.int .i64 ((nv:Int)-2147483648));rw[n9]at g7;have y:=z6.setCell W' ⟨go,1,none⟩ (.int .i64 ((nv:Int)-2147483648));have p9:=jQ.kept a9 y e8;have k1:=(y.block ga (aG G).1 sO).trans G;have f7:=r.kept y c2;have p8:z6 [gr,go] W (W'.setCell ⟨go,1,none⟩ (.int .i64 ((nv:Int)-2147483648))):=z6.trans a0 (y.mono (S':=[gr,go]) sI) iL;clear y a9 G r a0 m;(go_wp2_with fail);go_roundw
       case rel=>exact⟨i+1,⟨(nv:Int)-2147483648,E,D,H,f,zK 4 l1 e1,zM 4 l1 e1⟩,A,cap,oM,by go_num,(show _=_ by rw[a5.out,e5.out]),g7,k1,p9,f7,p8,(by simp only;omega)⟩
       case measure=>exact sZ
     ·skip;(go_wp2_with fail);refine(pD _ gr 1 _ _ hE (.inl rfl)).mono ?_;rintro en w2 ⟨rfl,b3,b4⟩;have j5:=yI 1 l1 e1;(go_wp2_with fail);refine(tA _ gr _ _ _ b3 oM).mono ?_;rintro en w3 ⟨rfl,O,g1⟩;replace O:jQ w3 gr (txL l1 e1) (txE l1 e1):=O;obtain⟨tv,d7⟩:=eX (mkB (yV (yK 1 l1 e1) (zK 1 l1 e1) (zM 1 l1 e1)))
      have k8:=dH (show txV l1 e1=tv from d7);rw[d7];have g:z6 [gr] wr w3:=z6.trans b4 g1 iL;clear b3 b4 g1 j5 d7;have T:=(g.block go (aG F).1 f8).trans F;have V:∀j,w3.frozen? ⟨go,j,none⟩=false:=λj=>(by simp[World.frozen?,T]);have f0:=V 2;have m:=zA T 2 (.string tv);rw[sK]at m;have y:=z6.setCell w3 ⟨go,2,none⟩ (.string tv);have a9:=O.kept y e8;have G:=((z6.trans (g.mono (S':=[gr,go]) sI) (y.mono (S':=[gr,go]) sI) iL).block ga (aG B).1 i1).trans B;have r:=(t.kept g f4).kept y c2;have a0:z6 [gr,go] W (w3.setCell ⟨go,2,none⟩ (.string tv)):=z6.trans (z6.trans hK (g.mono (S':=[gr,go]) sI) iL) (y.mono (S':=[gr,go]) sI) iL;clear V y hE O g t hK B F;have x0:w3.cell? ⟨go,2,none⟩=some (.string E):=by rw[cell_of_row w3 go _ _ _ _ T];simp[go_sem]
      clear T;(go_wp2_with fail);go_roundw
      case rel=>exact⟨i+1,⟨n1,tv,D,H,f,txL l1 e1,txE l1 e1⟩,A,cap,oM,by go_num,(show _=_ by rw[a5.out,of_75,k8.out]),m,G,a9,r,a0,(by simp only;omega)⟩
      case measure=>exact sZ
     ·skip;(go_wp2_with fail);refine(pD _ gr 1 _ _ hE (.inl rfl)).mono ?_;rintro en w2 ⟨rfl,b3,b4⟩;have j5:=yI 1 l1 e1;(go_wp2_with fail);refine(tA _ gr _ _ _ b3 oM).mono ?_;rintro en w3 ⟨rfl,O,g1⟩;replace O:jQ w3 gr (txL l1 e1) (txE l1 e1):=O;obtain⟨tv,d7⟩:=eX (mkB (yV (yK 1 l1 e1) (zK 1 l1 e1) (zM 1 l1 e1)))
      have k8:=dH (show txV l1 e1=tv from d7);rw[d7];have g:z6 [gr] wr w3:=z6.trans b4 g1 iL;clear b3 b4 g1 j5 d7;have T:=(g.block go (aG F).1 f8).trans F;have V:∀j,w3.frozen? ⟨go,j,none⟩=false:=λj=>(by simp[World.frozen?,T]);have f0:=V 3;have m:=zA T 3 (.string tv);rw[dN]at m;have y:=z6.setCell w3 ⟨go,3,none⟩ (.string tv);have a9:=O.kept y e8;have G:=((z6.trans (g.mono (S':=[gr,go]) sI) (y.mono (S':=[gr,go]) sI) iL).block ga (aG B).1 i1).trans B;have r:=(t.kept g f4).kept y c2;have a0:z6 [gr,go] W (w3.setCell ⟨go,3,none⟩ (.string tv)):=z6.trans (z6.trans hK (g.mono (S':=[gr,go]) sI) iL) (y.mono (S':=[gr,go]) sI) iL;clear V y hE O g t hK B F;have x0:w3.cell? ⟨go,3,none⟩=some (.string D):=by rw[cell_of_row w3 go _ _ _ _ T];simp[go_sem]
      clear T;(go_wp2_with fail);go_roundw
      case rel=>exact⟨i+1,⟨n1,E,tv,H,f,txL l1 e1,txE l1 e1⟩,A,cap,oM,by go_num,(show _=_ by rw[a5.out,of_86,k8.out]),m,G,a9,r,a0,(by simp only;omega)⟩
      case measure=>exact sZ
     ·skip;(go_wp2_with fail);refine(nS _ gr _ _ hE).mono ?_;rintro en w3 ⟨rfl,O,g⟩;obtain⟨d,hd⟩:=eX (q3 (yV 32 l1 e1))
      have d2:Hid (wH k ⟨n1,E,D,H,f,l1,e1⟩ 82=⟨n1,E,D,d,f,zK 32 l1 e1,zM 32 l1 e1⟩):=dH (by rw[of_82,hd]);rw[hd];clear hd;have T:=(g.block go (aG F).1 f8).trans F;have c5:=sB d T;have m:=setRow_heap w3 go _ (zB ⟨k,n1,E,D,d,.slice A f.length cap⟩) _ _ T;have y:z6 [go] w3 (w3.setRow go (zB ⟨k,n1,E,D,d,.slice A f.length cap⟩)):=⟨rfl,rfl,rfl,by simp[World.setRow],λx _ hx=>setRow_other w3 go x _ (by simpa using hx)⟩
      have a9:=jQ.kept O y e8;have G:=((z6.trans (g.mono (S':=[gr,go]) sI) (y.mono (S':=[gr,go]) sI) iL).block ga (aG B).1 i1).trans B;have r:=(t.kept g f4).kept y c2;have a0:z6 [gr,go] W (w3.setRow go (zB ⟨k,n1,E,D,d,.slice A f.length cap⟩)):=z6.trans (z6.trans hK (g.mono (S':=[gr,go]) sI) iL) (y.mono (S':=[gr,go]) sI) iL;clear y hE O g t hK B F T;(go_wp2_with fail);go_roundw
      case rel=>exact⟨i+1,⟨n1,E,D,d,f,zK 32 l1 e1,zM 32 l1 e1⟩,A,cap,oM,by go_num,(show _=_ by rw[a5.out,d2.out]),m,G,a9,r,a0,(by simp only;omega)⟩
      case measure=>exact sZ
     ·skip;(go_wp2_with fail);refine(pD _ gr 1 _ _ hE (.inl rfl)).mono ?_;rintro en w3 ⟨rfl,O,g⟩;have d5:=yI 1 l1 e1;obtain⟨N,hN⟩:=eX (yK 1 l1 e1)
      obtain⟨LR,k6⟩:=eX (pM N ⟨f,zK 1 l1 e1,zM 1 l1 e1⟩)
      have d2:Hid (wH k ⟨n1,E,D,H,f,l1,e1⟩ 83=⟨n1,E,D,H,LR.ids,LR.l,LR.e⟩):=dH (by rw[of_83,hN,k6]);have o2:=dH (show kH N ⟨f,zK 1 l1 e1,zM 1 l1 e1⟩=LR from k6);rw[hN]at d5 |-;clear hN k6;have o8:N<256:=by simpa using d5
      clear d5;have m:=(g.block go (aG F).1 f8).trans F;have G:=(g.block ga (aG B).1 sO).trans B;have r:=t.kept g f4;have a0:z6 [gr,go] W w3:=z6.trans hK (g.mono (S':=[gr,go]) sI) iL;clear hE g t hK B F f4 c2;obtain⟨W3,rfl⟩:∃W':World,W'=w3:=⟨_,rfl⟩
      (go_wp2_with fail);go_loopw [9] (λjv wr=>∃(j:Nat) (s:ZD) (A:Option Addr) (cap:Nat),j<=N/\jv=.int .i64 j/\s.ids.length=f.length+j/\Hid (LR=kH (N-j) s)/\wr.heap[go]?=some (.cells (zB ⟨k,n1,E,D,H,.slice A s.ids.length cap⟩) 52 (0,0))/\wr.heap[ga]?=some (.cells (zB yT) 52 (0,0))/\jQ wr gr s.l s.e/\Own wr W.heap.size 39 32 A s.ids.length cap (s.ids.map idC)/\z6 [gr,go] W wr) (λjv _=>N-(intOf jv).toNat)
      case atStart=>exact⟨0,⟨f,zK 1 l1 e1,zM 1 l1 e1⟩,A,cap,zL,rfl,rfl,(show _=_ from o2.out.symm),m,G,O,r,a0⟩
      case round =>
       clear m G O r a0 o2;obtain⟨j,s,A,cap,hj,rfl,f6,i2,F,B,hE,t,hK⟩:=hrel;obtain⟨ids,l3,e3⟩:=s;dsimp only at *;by_cases o9:j<N
       ·have d6:=i2.out;rw[(oM:N-j=(N-(j+1))+1)]at d6;have g0:LR=kH (N-(j+1)) ⟨ids ++ [q3 (yV 32 l3 e3)],zK 32 l3 e3,zM 32 l3 e3⟩:=d6;have n8:=dH g0;clear i2 d6 g0;have h5:∀x∈blk A,W.heap.size<=x/\x<wr.heap.size:=λx hx=>t.at_base hx;have l8:go∉gr :: blk A:=by
         intro hm;rcases List.mem_cons.1 hm with h1 | h1
         ·omega
         ·have:=(h5 _ h1).1;omega
        have p5:gr∉blk A:=λh1=>(oH ((h5 _ h1).1));have j9:ga∉gr :: blk A:=by
         intro hm;rcases List.mem_cons.1 hm with h1 | h1
         ·omega
         ·have:=(h5 _ h1).1;omega
        have x0:wr.cell? ⟨go,36,none⟩=some (.slice A ids.length cap):=by rw[cell_of_row wr go _ _ _ _ F];simp[go_sem]
        have n5:=nS wr.drew gr l3 e3 (hE.kept (z6.drew wr) sI);have p2:ids.length<=1275:=oM;have q5:=dH f6;have k7:=dH hK;clear f6 hK;go_upto_region 16 with fail
        refine kF (gr :: blk A) wr ?_;intro j3 hS;have b1:=zP x0 l8;refine lZ ?_;refine lH ?_;intro K hK;refine n5.mono ?_;rintro en w4 ⟨rfl,n3,j6⟩;replace hS:=xA hS j6 sI;refine⟨_,rfl,hS,hK _ _ ?_⟩;clear hK K n5;refine lZ ?_;refine lH ?_;intro K hK;refine zG (xP hS _) (λhS=>?_);refine hK _ _ ?_;clear hK K;obtain⟨d,hd⟩:=eX (q3 (yV 32 l3 e3))
        rw[hd]at hS |-;have Hd:=dH hd;clear hd;have b5:z6 [gr] wr w4:=z6.trans ((z6.drew wr).mono (S':=[gr]) sI) j6 iL;have k5:=z6.alloc w4 (.cells (idC d) 39);have c7:=(t.kept b5 (λx hx=>oS ((h5 x hx).1))).kept k5 sI;have c6:z7 (w4.alloc (.cells (idC d) 39)) w4.heap.size 0 32=some (idC d):=by simp[go_sem]
        have o4:=b5.size;have n4:W.heap.size<=(w4.alloc (.cells (idC d) 39)).heap.size:=oS k7.out.size;refine vW xI rfl c7 rfl c6 (xG _) oM oM n4 ?_;intro A2 c3 w5 I m3 f5;have d8:z6 (blk A) w4 w5:=z6.trans (k5.mono (S':=blk A) sI) m3 iL;have f3:z6 (gr :: blk A) wr w5:=z6.trans (b5.mono (S':=gr :: blk A) sI) (d8.mono (S':=gr :: blk A) (λx hx=>.inl (List.mem_cons_of_mem _ hx))) iL;refine zG f3 (λp7=>?_);refine lZ ?_;have j8:go<wr.heap.size:=(aG F).1;have j7:ga<wr.heap.size:=(aG B).1;have b6:=(f3.block go j8 l8).trans F;have L:=(f3.block ga j7 j9).trans B;have f0:w5.frozen? ⟨go,36,none⟩=false:=by simp[World.frozen?,b6]
        have d0:w5.cell? ⟨go,36,none⟩=some (.slice A ids.length cap):=by rw[cell_of_row w5 go _ _ _ _ b6];simp[go_sem]
        refine vI ?_ ?_;(focus(simp only[yO];done));intro K hK;go_simp;refine hK _ _ ?_;clear hK K;have m:=zA b6 36 (.slice A2 (ids.length+1) c3);rw[pJ]at m;have y:=z6.setCell w5 ⟨go,36,none⟩ (.slice A2 (ids.length+1) c3);have q0:=(jQ.kept n3 d8 p5).kept y e8;have G:=(y.block ga (oH f3.size) sO).trans L;have c2:∀x∈blk A2,x∉[go]:=λx hx=>(oS ((I.at_base hx).1));have J:=I.kept y c2;have a0:z6 [gr,go] W (w5.setCell ⟨go,36,none⟩ (.slice A2 (ids.length+1) c3)):=by
         have h1:z6 [gr,go] W w5:=(z6.trans (k7.out.mono (S':=gr :: go :: blk A) (by intro x hx;simp at hx |-;omega)) (f3.mono (S':=gr :: go :: blk A) (λx hx=>.inl (by rcases List.mem_cons.1 hx with h | h;exact List.mem_cons.2 (.inl h);exact List.mem_cons.2 (.inr (List.mem_cons.2 (.inr h)))))) iL).narrow (λx hx=>by
          rcases List.mem_cons.1 hx with h | h
          ·exact .inl (by simp[h])
          ·rcases List.mem_cons.1 h with h | h
           ·exact .inl (by simp[h])
           ·right;exact(h5 x h).1)
         exact z6.trans h1 (y.mono (S':=[gr,go]) sI) iL
        have m1:(ids ++ [d]).length=ids.length+1:=sI;rw[(sI:ids.map idC ++ [idC d]=(ids ++ [d]).map idC)]at J;have k9:=dH m1;rw[Hd.out]at n8;clear m1 f0 d0 b1 j3 hS f3 p7 b5 d8 j6 m3 f5 I c7 c6 k5 b6 L y n3 n4 t hE F B x0 c2 k7;(go_wp2_with fail);go_roundw
        case rel=>exact⟨j+1,⟨ids ++ [d],zK 32 l3 e3,zM 32 l3 e3⟩,A2,c3,oM,by go_num,by rw[k9.out,q5.out];omega,n8,(by rw[k9.out];exact m),G,q0,(by rw[k9.out];exact J),a0⟩
        case measure=>exact sZ
       ·have g8:LR=⟨ids,l3,e3⟩:=by rw[i2.out,(oM:N-j=0)];rfl
        have q2:=dH g8;have m0:ids.length<=255*(i+1):=oM;have q1:=dH m0;clear f6 g8 i2 m0;(go_wp2_with fail);go_roundw
        case rel=>exact⟨i+1,⟨n1,E,D,H,ids,l3,e3⟩,A,cap,oM,by go_num,(show _=_ by rw[a5.out,d2.out,q2.out]),F,B,hE,t,hK,q1.out⟩
        case measure=>exact sZ
    ·skip;have i9:=n6.out;have i7:=b2.out;rw[List.drop_eq_nil_of_le sO,List.foldl_nil]at i7;rw[i7]at i9;have j1:(⟨⟨k,n1,E,D,H,f⟩,l1,e1⟩:OpR)=⟨o,l2,e2⟩:=i9;injection j1 with l7 o7 o6
     have o1:=dH l7;subst o7 o6;have e4:Below ga w wr:=h9.out.trans (hK.below (oH d9) sO);have g6:ga<=wr.heap.size:=by have:=e4.size;have:=e6.out;omega
     have a8:zB ⟨k,n1,E,D,H,.slice A f.length cap⟩=opC o A cap:=by rw[<-o1.out];rfl
     have c9:Own wr W.heap.size 39 32 A o.refs.length cap (o.refs.map idC):=by rw[<-o1.out];exact t
     rw[a8]at F;have d3:z7 wr go 0 37=some (opC o A cap):=by unfold z7;rw[F];simp[go_sem]
     have ce:=tB _ gr l1 e1 hE;have h8:=dH d9;clear i9 i7 b2 hK hi o5 n6 o0 h9 t a8 F hE l7 l5 g9 d9;(go_wp2_with fail);refine ce.mono ?_;rintro en w5 ⟨rfl,f2⟩;have L:=(f2.block ga (aG B).1).trans B;have a2:z7 w5 go 0 37=some (opC o A cap):=(z9 (f2.block go (zD d3)) _ _).trans d3;have I:=c9.below f2;have b9:Below ga w w5:=e4.trans (f2.mono g6);have g5:ga<=w5.heap.size:=oH f2.size;clear ce B d3 c9 e4 f2 g6;by_cases b7:j4 l1 e1=0
     ·have h2:=X.out;rw[if_neg (by rw[b7];simp),<-q4.out]at h2;rw[b7];have n0:zY w5 A o.refs.length o.refs:=I.slr;have cc:=YF o A cap w5 n7.out.1 n0 (oH n7.out.2.2) o3.out.1 o3.out.2;obtain⟨ck,h3⟩:=eX (Z1 o)
      rw[h3]at h2 cc;have a1:=dH h2;clear h2 X b7 h3 n0;(go_wp2_with fail);refine cc.mono ?_;rintro en w6 ⟨rfl,f1⟩;have a4:=(f1.block ga (aG L).1).trans L;have l6:z7 w6 go 0 37=some (opC o A cap):=(z9 (f1.block go (zD a2)) _ _).trans a2;have J:=I.below f1;have b8:Below ga w w6:=b9.trans (f1.mono g5);have g4:ga<=w6.heap.size:=oH f1.size;clear cc L a2 I b9 f1;cases hc0:(ck==0)with
      | true =>
       obtain rfl:ck=0:=by simpa using hc0
       have b0:=yU (P:=Tryz.prog) yY w6 ga (zB yT) (opC o A cap) _ a4 sI sI (zt o A cap);have M:=dH (setRow_heap w6 ga _ (opC o A cap) _ _ a4);have Y:z6 [ga] w6 (w6.setRow ga (opC o A cap)):=⟨rfl,rfl,rfl,by simp[World.setRow],λx _ hx=>setRow_other w6 ga x _ (by simpa using hx)⟩
       have a3:Below ga w (w6.setRow ga (opC o A cap)):=b8.trans (Y.below g4 sI);have c8:Own (w6.setRow ga (opC o A cap)) w.heap.size 39 32 A o.refs.length cap (o.refs.map idC):=(J.mono (by have:=e6.out;have:=h8.out;omega)).kept Y (λx hx=>by have:=(J.at_base hx).1;have:=h8.out;simp;omega);have c4:=dH a3;have h7:=dH c8;clear a3 Y a4 b8 c8 J;(go_wp2_with fail);refine bodyPost_ret (qH Tryz.results27 _ _ ga 52 (opC o A cap) (0,0) _ rfl M.out Tryz.underlying52 rfl (by first | (rw[qQ];exact yY) | (rw[bH];exact yY))) rfl ?_;exact⟨_,by rw[a1.out];rfl,λ_=>⟨A,cap,by rw[HO.out],by rw[HO.out];exact h7.out⟩,λh0=>absurd a1.out h0,by rw[e6.out];exact c4.out⟩
      | false =>
       have m8:ck≠0:=by simpa using hc0
       have p6:(ck != 0)=true:=by simpa using hc0
       have l0:=dH m8;clear m8;have b0:=yU (P:=Tryz.prog) yY w6 ga (zB yT) (zB yT) _ a4 sI sI (jT _ rfl);have M:=dH (setRow_heap w6 ga _ (zB yT) _ _ a4);have Y:z6 [ga] w6 (w6.setRow ga (zB yT)):=⟨rfl,rfl,rfl,by simp[World.setRow],λx _ hx=>setRow_other w6 ga x _ (by simpa using hx)⟩
       have a3:Below ga w (w6.setRow ga (zB yT)):=b8.trans (Y.below g4 sI);have c4:=dH a3;clear a3 Y a4 b8 J;(go_wp2_with fail);refine bodyPost_ret (qH Tryz.results27 _ _ ga 52 (zB yT) (0,0) _ rfl M.out Tryz.underlying52 rfl (by first | (rw[qQ];exact yY) | (rw[bH];exact yY))) rfl ?_;exact⟨_,by rw[a1.out];rfl,λh0=>absurd (a1.out.symm.trans h0) l0.out,λ_=>rfl,by rw[e6.out];exact c4.out⟩
     ·have h2:=X.out;rw[if_pos b7]at h2;obtain⟨ee,n2⟩:=eX (j4 l1 e1)
      rw[n2]at h2 b7 |-;have a1:=dH h2;have l0:=dH b7;have p6:(ee != 0)=true:=by simpa using b7
      have q7:(ee==0)=false:=by simpa using b7
      clear h2 X b7 n2 a2 I;have b0:=yU (P:=Tryz.prog) yY w5 ga (zB yT) (zB yT) _ L sI sI (jT _ rfl);have M:=dH (setRow_heap w5 ga _ (zB yT) _ _ L);have Y:z6 [ga] w5 (w5.setRow ga (zB yT)):=⟨rfl,rfl,rfl,by simp[World.setRow],λx _ hx=>setRow_other w5 ga x _ (by simpa using hx)⟩
      have a3:Below ga w (w5.setRow ga (zB yT)):=b9.trans (Y.below g5 sI);have c4:=dH a3;clear a3 Y L b9;(go_wp2_with fail);refine bodyPost_ret (qH Tryz.results27 _ _ ga 52 (zB yT) (0,0) _ rfl M.out Tryz.underlying52 rfl (by first | (rw[qQ];exact yY) | (rw[bH];exact yY))) rfl ?_;exact⟨_,by rw[a1.out];rfl,λh0=>absurd (a1.out.symm.trans h0) l0.out,λ_=>rfl,by rw[e6.out];exact c4.out⟩
 ·have d1:=HE.out;rw[if_pos he]at d1;obtain⟨e1,m6⟩:=eX (zM 1 l 0)
  rw[m6]at d1 he a7 c1;have e7:=dH d1;have He:=dH he;have q6:(e1 != 0)=true:=by simpa using he
  clear d1 he HE HO m6;have b0:=yU (P:=Tryz.prog) yY W.drew ga (zB yT) (zB yT) _ B sI sI (jT _ rfl);have M:=dH (setRow_heap W.drew ga _ (zB yT) _ _ B);have Y:z6 [ga] W.drew (W.drew.setRow ga (zB yT)):=⟨rfl,rfl,rfl,by simp[World.setRow],λx _ hx=>setRow_other W.drew ga x _ (by simpa using hx)⟩
  have a3:Below ga w (W.drew.setRow ga (zB yT)):=(U.trans ((yZ W).mono (oH a7.lt))).trans (Y.below (oS a7.lt) sI);have c4:=dH a3;clear a3 a7 U F;go_upto_region 4 with fail
  refine kX [ga] W ?_;intro j3 hS;have b1:=zP c1 (S:=[ga]) sO;refine lZ ?_;refine lH ?_;intro K hK;refine zG (xA hS Y sI) (λhS=>?_);refine hK _ _ ?_;clear hK K;refine lZ ?_;refine zC ?_;intro hS;clear hS b1 j3 Y B l4 m5 c0 c1;(go_wp2_with fail);refine bodyPost_ret (qH Tryz.results27 _ _ ga 52 (zB yT) (0,0) _ rfl M.out Tryz.underlying52 rfl (by first | (rw[qQ];exact yY) | (rw[bH];exact yY))) rfl ?_;exact⟨_,by rw[e7.out];rfl,λh0=>absurd (e7.out.symm.trans h0) He.out,λ_=>rfl,by rw[e6.out];exact c4.out⟩
end Go.Proofs.YtgfpjjppeldhbaaGreatDoor
