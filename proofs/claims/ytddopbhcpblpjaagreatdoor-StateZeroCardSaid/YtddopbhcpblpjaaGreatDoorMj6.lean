/- Part 6 of the texts that lead to this claim: the walks of the functions and the plain law, in order. -/
import Derived.Test.YtddopbhcpblpjaaGreatDoorMj5
import Derived.Shelf.SlSortCmp.NoneTotal
import Derived.Test.YtddopbhcpblpjaaGreatDoorLayBag
import Derived.Shelf.Slices.CompactS
import Derived.Test.YtddopbhcpblpjaaGreatDoorLayKeys
import Derived.Test.YtddopbhcpblpjaaGreatDoorLayView
import Derived.ArgAppend
import Derived.Laws.StructEq
namespace Go.Proofs.YtddopbhcpblpjaaGreatDoor
open Go.RowKit
open List hiding and get max min or set
open Go.Proofs.Tryz
open World
set_option maxRecDepth 100000
set_option maxHeartbeats 8000000
variable {w:World}{B cap g n:Nat}{E:TypeId}{L:List (Array Value)}{ss:List (List UInt8)}{z:Array Value}
def JT(N:List zS)(n:zS):List zS:=if vP n=0 then(if n.id∈N.map zS.id then N else N ++ [n])else N
@[go_sem] theorem KT(w:World):(zeroValue 199).run prog w=.ok (.agg (zO qU)) w:=kR
theorem sqinsert(n:zS)(w:World)(M:List Nat)(g bn bb bg:Nat)(N:List zS)(G:List zA)(h:xE w M g bn bb bg N G)(hM:∀x∈M,x<w.heap.size)(hv:n.val.size<=9223372036854775807)(hl:N.length<=100000) :
  Calls prog 268 #[.pointer (some ⟨g,0,none⟩),.agg (idC n.id),.int .i64 n.h,.agg (idC n.ref),.string n.val] w λe w'=>e=.returned (.int .i64 (vP n))/\xE w' M g bn bb bg (JT N n) G/\z8 [bn,bb] w w':=by
 have A:Below w.heap.size w (((w.alloc (.cells (idC n.id) 23)).alloc (.cells (idC n.ref) 23)).alloc (.cells (zO ⟨n.h,n.ref,n.val⟩) 199)):=((bA).alloc sI _).alloc sO _;have h0:=h.below A;have F:z9 (((w.alloc (.cells (idC n.id) 23)).alloc (.cells (idC n.ref) 23)).alloc (.cells (zO ⟨n.h,n.ref,n.val⟩) 199)) w.heap.size 0 32=some (idC n.id):=by simp[go_sem];intro e;omega
 have D:z9 (((w.alloc (.cells (idC n.id) 23)).alloc (.cells (idC n.ref) 23)).alloc (.cells (zO ⟨n.h,n.ref,n.val⟩) 199)) (w.heap.size+2) 0 34=some (zO ⟨n.h,n.ref,n.val⟩):=by simp[go_sem]
 have H:((w.alloc (.cells (idC n.id) 23)).alloc (.cells (idC n.ref) 23)).cell? ⟨g,0,none⟩=some (.map (some bn)):=((((Below.refl w.heap.size w).alloc lR (.cells (idC n.id) 23)).alloc sI (.cells (idC n.ref) 23)).cell (p:=⟨g,0,none⟩) h.ltg).trans h.cell0;have a2:zO (xH n)=zO ⟨n.h,n.ref,n.val⟩:=rfl;go_enter func268,ntmps268
 (go_wp2_with fail);refine(nM _ g bn H).mono ?_;rintro e w1 ⟨rfl,rfl⟩;go_upto_region 4 with fail
 obtain⟨ga,Y⟩:=eX w.heap.size
 have O:=dH Y;rw[Y]at F D A hM |-;obtain⟨W,hW⟩:=eR (((w.alloc (.cells (idC n.id) 23)).alloc (.cells (idC n.ref) 23)).alloc (.cells (zO ⟨n.h,n.ref,n.val⟩) 199))
 rw[<-hW]at h0 F D A |-;clear hW Y H;have cc:=BA n.id n rfl W hv;rw[a2]at cc;obtain⟨E,hE⟩:=eX (vP n)
 rw[hE]at cc;have HE:=dH hE;have t:Hid (JT N n=if vP n=0 then(if n.id∈N.map zS.id then N else N ++ [n])else N):=rfl;clear hE;(go_wp2_with fail);refine cc.mono ?_;rintro e w2 ⟨rfl,I⟩;have L:Below ga w w2:=A.trans (I.mono (by have:=A.size;have:=O.out;omega));have h2:=h0.below I;have d:z9 w2 ga 0 32=some (idC n.id):=(zG (I.block ga (zD F)) _ _).trans F;have f:z9 w2 (ga+2) 0 34=some (zO ⟨n.h,n.ref,n.val⟩):=(zG (I.block (ga+2) (zD D)) _ _).trans D;clear cc I F D h0 A;by_cases V:E=0
 ·subst V;go_upto_region 7 with fail
  have T:=h2.cell0;obtain⟨es,a8,hn⟩:=h2.nodes;by_cases r:n.id∈N.map zS.id
  ·obtain⟨y,a3,U⟩:=mem_map.1 r;have hk:∀x:Subtype (Bel w2),(Instr.lookup 195 (.map (some bn)) (.agg (idC n.id)) true).run prog x.1=.ok (.tuple #[.agg (zO ⟨y.h,y.ref,y.val⟩),.bool true]) x.1:=λx=>by
    have:=nlook (hn.kept (z8.of_below x.2) sI) a3 true;rw[U]at this;exact this
   have Z:=dH r;clear r U hn;have X:(stS 199 ⟨w2.heap.size,0,none⟩ (.agg (zO ⟨y.h,y.ref,y.val⟩))).run prog (w2.alloc (.cells (zO qU) 199)).drew=.ok () (w2.alloc (.cells (zO ⟨y.h,y.ref,y.val⟩) 199)).drew:=nI w2.drew _ rfl _ sI ⟨y.h,y.ref,y.val⟩ _;have J:Hid (Bel w2 (w2.alloc (.cells (zO ⟨y.h,y.ref,y.val⟩) 199)).drew):=(bA).drew;refine lX w2 ?_;intro R hS;have b1:=zJ T;have b2:=zV d;refine lQ ?_;intro K hK;refine zH (fF hS _) (λhS=>?_);refine hK _ _ ?_;clear hK K;refine lQ ?_;intro K hK;first | refine zH J.out (λhS=>?_) | skip
   refine hK _ _ ?_;clear hK K;refine lZ ?_;refine zC ?_;intro hS;have j:Below w2.heap.size w2 (w2.alloc (.cells (zO ⟨y.h,y.ref,y.val⟩) 199)).drew:=hS;have h3:=h2.below j;have s:=L.trans (j.mono (oH (zD d)));have m:z9 (w2.alloc (.cells (zO ⟨y.h,y.ref,y.val⟩) 199)).drew ga 0 32=some (idC n.id):=(zG (j.block ga (zD d)) _ _).trans d;have k:z9 (w2.alloc (.cells (zO ⟨y.h,y.ref,y.val⟩) 199)).drew (ga+2) 0 34=some (zO ⟨n.h,n.ref,n.val⟩):=(zG (j.block (ga+2) (zD f)) _ _).trans f;clear b1 b2 R hS j X J hk T d f h2 L;obtain⟨w3,B⟩:=eX ((w2.alloc (.cells (zO ⟨y.h,y.ref,y.val⟩) 199)).drew)
   rw[B]at h3 s m k |-;clear B;(go_wp2_with fail);go_ret;have e1:JT N n=N:=by rw[t.out,if_pos HE.out,if_pos Z.out]
   exact⟨y9 (by rw[HE.out]),by rw[e1];exact h3,(z8.of_below (s.mono (by rw[O.out];exact lR))).mono sI⟩
  ·have a0:n.id∉(N.map λn=>(n.id,xH n)).map (·.1):=by rw[map_map];exact r
   have hk:∀x:Subtype (Bel w2),(Instr.lookup 195 (.map (some bn)) (.agg (idC n.id)) true).run prog x.1=.ok (.tuple #[.agg (zO qU),.bool false]) x.1:=λx =>
    (hn.kept (z8.of_below x.2) sI).miss j7 underlying195 (KT x.1) trivial a0 true
   have Z:=dH r;clear a0 hn;have X:(stS 199 ⟨w2.heap.size,0,none⟩ (.agg (zO qU))).run prog (w2.alloc (.cells (zO qU) 199)).drew=.ok () (w2.alloc (.cells (zO qU) 199)).drew:=nI w2.drew _ rfl _ sI qU _;have J:Hid (Bel w2 (w2.alloc (.cells (zO qU) 199)).drew):=(bA).drew;refine lX w2 ?_;intro R hS;have b1:=zJ T;have b2:=zV d;refine lQ ?_;intro K hK;refine zH (fF hS _) (λhS=>?_);refine hK _ _ ?_;clear hK K;refine lQ ?_;intro K hK;first | refine zH J.out (λhS=>?_) | skip
   refine hK _ _ ?_;clear hK K;refine lZ ?_;refine zC ?_;intro hS;have j:Below w2.heap.size w2 (w2.alloc (.cells (zO qU) 199)).drew:=hS;have h3:=h2.below j;have s:=L.trans (j.mono (oH (zD d)));have m:z9 (w2.alloc (.cells (zO qU) 199)).drew ga 0 32=some (idC n.id):=(zG (j.block ga (zD d)) _ _).trans d;have k:z9 (w2.alloc (.cells (zO qU) 199)).drew (ga+2) 0 34=some (zO ⟨n.h,n.ref,n.val⟩):=(zG (j.block (ga+2) (zD f)) _ _).trans f;clear b1 b2 R hS j X J hk T d f h2 L;obtain⟨w3,B⟩:=eX ((w2.alloc (.cells (zO qU) 199)).drew)
   rw[B]at h3 s m k |-;clear B;have a7:=s.size;have a5:∀x∈M,x<w3.heap.size:=λx hx=>(by have:=hM x hx;have:=O.out;omega);have ch:=sqhang n w3 M g bn bb bg N G h3 a5 r HE.out hl;rw[a2]at ch;clear r;(go_wp2_with fail);refine ch.mono ?_;rintro e w4 ⟨rfl,h4,a1⟩;have a4:z8 [bn,bb] w w4:=z8.trans ((z8.of_below (s.mono (by rw[O.out];exact lR))).mono (S':=[bn,bb]) sI) a1 iL;clear ch a1 h3 s m k;(go_wp2_with fail);go_ret;have e1:JT N n=N ++ [n]:=by rw[t.out,if_pos HE.out,if_neg Z.out]
   exact⟨y9 (by rw[HE.out]),by rw[e1];exact h4,a4⟩
 ·have R:(E != 0)=true:=by simpa using V
  have a6:=dH V;clear V;(go_wp2_with fail);go_ret;have e1:JT N n=N:=by rw[t.out,if_neg (by rw[HE.out];exact a6.out)]
  exact⟨y9 (by rw[HE.out]),by rw[e1];exact h2,(z8.of_below (L.mono (by rw[O.out];exact lR))).mono sI⟩
theorem yb(w:World):Calls prog 100 #[.int .i64 2] w λe w'=>∃gs,e=.returned (.iface 102 (.pointer (some ⟨gs,0,none⟩)))/\(∃bl bg,qQ w' gs bl bg [] []/\w.heap.size<=gs/\w.heap.size<=bl/\w.heap.size<=bg)/\Below w.heap.size w w':=by
 go_enter func100,ntmps100
 (go_wp2_with fail);refine(bnew w).mono ?_;rintro e w1 ⟨g,bl,bg,rfl,h1,h2,h3,h4,hb⟩;have H:=dH (And.intro h1 (And.intro h2 (And.intro h3 h4)));clear h1 h2 h3 h4;(go_wp2_with fail);go_ret;exact⟨_,rfl,⟨bl,bg,H.out⟩,hb⟩
theorem ya(w:World):Calls prog 100 #[.int .i64 3] w λe w'=>∃gs,e=.returned (.iface 104 (.pointer (some ⟨gs,0,none⟩)))/\(∃b,xC w' gs b []/\w.heap.size<=gs/\w.heap.size<=b)/\Below w.heap.size w w':=by
 go_enter func100,ntmps100
 (go_wp2_with fail);refine(lnew w).mono ?_;rintro e w1 ⟨g,b,rfl,h1,h2,h3,hb⟩;have H:=dH (And.intro h1 (And.intro h2 h3));clear h1 h2 h3;(go_wp2_with fail);go_ret;exact⟨_,rfl,⟨b,H.out⟩,hb⟩
theorem zz(w:World):Calls prog 100 #[.int .i64 4] w λe w'=>∃gs,e=.returned (.iface 105 (.pointer (some ⟨gs,0,none⟩)))/\(∃bl bo,xN w' gs bl bo [] []/\w.heap.size<=gs/\w.heap.size<=bl/\w.heap.size<=bo)/\Below w.heap.size w w':=by
 go_enter func100,ntmps100
 (go_wp2_with fail);refine(mnew w).mono ?_;rintro e w1 ⟨g,bl,bg,rfl,h1,h2,h3,h4,hb⟩;have H:=dH (And.intro h1 (And.intro h2 (And.intro h3 h4)));clear h1 h2 h3 h4;(go_wp2_with fail);go_ret;exact⟨_,rfl,⟨bl,bg,H.out⟩,hb⟩
theorem zy(w:World):Calls prog 100 #[.int .i64 5] w λe w'=>∃gs,e=.returned (.iface 106 (.pointer (some ⟨gs,0,none⟩)))/\(∃bn bb bg,(∀M,bn∈M->bb∈M->bg∈M->xE w' M gs bn bb bg [] [])/\w.heap.size<=gs/\w.heap.size<=bn/\w.heap.size<=bb/\w.heap.size<=bg)/\Below w.heap.size w w':=by
 go_enter func100,ntmps100
 (go_wp2_with fail);refine(sqnew w).mono ?_;rintro e w1 ⟨g,bn,bb,bg,rfl,h1,h2,h3,h4,h5,hb⟩;have H:=dH (And.intro h1 (And.intro h2 (And.intro h3 (And.intro h4 h5))));clear h1 h2 h3 h4 h5;(go_wp2_with fail);go_ret;exact⟨_,rfl,⟨bn,bb,bg,H.out⟩,hb⟩
theorem vdoes_b2(m:j6)(o:OpV)(A:Option Addr)(c:Nat)(w:World)(g gt bl bg:Nat)(t:ByteArray)(b:Nat)(I:List zA)(L G:List xB)(h:yR w g t b I (.iface 102 (.pointer (some ⟨gt,0,none⟩))))(hT:qQ w gt bl bg L G)(hk:o.k=2)(hv:o.val.size<=16) :
  Calls prog 199 #[.pointer (some ⟨g,0,none⟩),.agg (y8 m),.agg (opC o A c)] w λe w'=>e=.returned (.tuple #[])/\qQ w' gt bl bg (J1 L G ⟨m.id,o.val⟩) G/\z8 [bl] w w':=by
 obtain⟨k,n,key,val,ref,refs⟩:=o;dsimp only at *;unfold opC at *;dsimp only at *;have hB:Below w.heap.size w ((w.alloc (.cells (y8 m) 220)).alloc (.cells (zP ⟨k,n,key,val,ref,.slice A refs.length c⟩) 84)):=(bA).alloc sI _;have hc:=(h.below hB).cell2;have s:=hT.below hB;have f:z9 ((w.alloc (.cells (y8 m) 220)).alloc (.cells (zP ⟨k,n,key,val,ref,.slice A refs.length c⟩) 84)) w.heap.size 0 34=some (y8 m):=((z8.alloc (w.alloc (.cells (y8 m) 220)) _).row sI sI 0 34).trans (by simp[go_sem]);have y:z9 ((w.alloc (.cells (y8 m) 220)).alloc (.cells (zP ⟨k,n,key,val,ref,.slice A refs.length c⟩) 84)) w.heap.size 0 32=some (idC m.id):=by have:=yD f (j:=0) (m:=32) oM;rwa [gB]at this
 have B:((k:Int)==2)=true:=by rw[hk];rfl
 clear hk;have ci:=λw' (h':qQ w' gt bl bg L G)=>badd m.id val w' gt bl bg L G h' oM;clear hT h;have Hv:=dH hv;clear hv;go_enter func199,ntmps199
 (go_wp2_with fail);refine(ci _ s).mono ?_;rintro e w1 ⟨rfl,h1,r⟩;have d:z8 [bl] w w1:=z8.trans ((z8.of_below hB).mono (S':=[bl]) sI) r iL;clear hB hc s ci r f y;(go_wp2_with fail);go_end0;exact⟨rfl,h1,d⟩
theorem vdoes_b3(m:j6)(o:OpV)(A:Option Addr)(c:Nat)(w:World)(g gt bl bg:Nat)(t:ByteArray)(b:Nat)(I:List zA)(L G:List xB)(h:yR w g t b I (.iface 102 (.pointer (some ⟨gt,0,none⟩))))(hT:qQ w gt bl bg L G)(hk:(o.k==2)=false)(hv:o.val.size<=16)(hA:zW w A o.refs.length o.refs)(hn:o.refs.length<=8) :
  Calls prog 199 #[.pointer (some ⟨g,0,none⟩),.agg (y8 m),.agg (opC o A c)] w λe w'=>e=.returned (.tuple #[])/\qQ w' gt bl bg (iN L o.val o.refs) (XC G o.val o.refs)/\z8 [bl,bg] w w':=by
 obtain⟨k,n,key,val,ref,refs⟩:=o;dsimp only at *;unfold opC at *;dsimp only at *;have hB:Below w.heap.size w ((w.alloc (.cells (y8 m) 220)).alloc (.cells (zP ⟨k,n,key,val,ref,.slice A refs.length c⟩) 84)):=(bA).alloc sI _;have hc:=(h.below hB).cell2;have s:=hT.below hB;have f:z9 ((w.alloc (.cells (y8 m) 220)).alloc (.cells (zP ⟨k,n,key,val,ref,.slice A refs.length c⟩) 84)) w.heap.size 0 34=some (y8 m):=((z8.alloc (w.alloc (.cells (y8 m) 220)) _).row sI sI 0 34).trans (by simp[go_sem]);have B:z9 ((w.alloc (.cells (y8 m) 220)).alloc (.cells (zP ⟨k,n,key,val,ref,.slice A refs.length c⟩) 84)) w.heap.size 0 32=some (idC m.id):=by have:=yD f (j:=0) (m:=32) oM;rwa [gB]at this
 have y:zW _ A refs.length refs:=SlR.below hA hB;have ci:=λw' (h':qQ w' gt bl bg L G) (hA':zW w' A refs.length refs)=>brem_ok val A refs.length c refs w' gt bl bg L G h' hA' hv oM;have HA:=dH y;clear hT h hA hn y;have Hv:=dH hv;clear hv;go_enter func199,ntmps199
 (go_wp2_with fail);refine(ci _ s HA.out).mono ?_;rintro e w1 ⟨rfl,h1,r⟩;have d:z8 [bl,bg] w w1:=z8.trans ((z8.of_below hB).mono (S':=[bl,bg]) sI) r iL;clear hB hc s ci r f B HA;(go_wp2_with fail);go_end0;exact⟨rfl,h1,d⟩
theorem vdoes_l(m:j6)(o:OpV)(A:Option Addr)(c:Nat)(w:World)(g gt bl:Nat)(t:ByteArray)(b:Nat)(I:List zA)(L:List jC)(h:yR w g t b I (.iface 104 (.pointer (some ⟨gt,0,none⟩))))(hT:xC w gt bl L)(hk:o.key.size<=16)(hv:o.val.size<=16) :
  Calls prog 199 #[.pointer (some ⟨g,0,none⟩),.agg (y8 m),.agg (opC o A c)] w λe w'=>e=.returned (.tuple #[])/\xC w' gt bl (JG L o.key ⟨o.val,o.n,m.id⟩)/\z8 [bl] w w':=by
 obtain⟨k,n,key,val,ref,refs⟩:=o;dsimp only at *;unfold opC at *;dsimp only at *;have hB:Below w.heap.size w ((w.alloc (.cells (y8 m) 220)).alloc (.cells (zP ⟨k,n,key,val,ref,.slice A refs.length c⟩) 84)):=(bA).alloc sI _;have hc:=(h.below hB).cell2;have s:=hT.below hB;have f:z9 ((w.alloc (.cells (y8 m) 220)).alloc (.cells (zP ⟨k,n,key,val,ref,.slice A refs.length c⟩) 84)) w.heap.size 0 34=some (y8 m):=((z8.alloc (w.alloc (.cells (y8 m) 220)) _).row sI sI 0 34).trans (by simp[go_sem]);have y:z9 ((w.alloc (.cells (y8 m) 220)).alloc (.cells (zP ⟨k,n,key,val,ref,.slice A refs.length c⟩) 84)) w.heap.size 0 32=some (idC m.id):=by have:=yD f (j:=0) (m:=32) oM;rwa [gB]at this
 have ci:=λw' (h':xC w' gt bl L)=>lset key val n m.id w' gt bl L h' oM oM;clear hT h;have Hv:=dH (And.intro hk hv);clear hv hk;go_enter func199,ntmps199
 (go_wp2_with fail);refine(ci _ s).mono ?_;rintro e w1 ⟨rfl,h1,r⟩;have d:z8 [bl] w w1:=z8.trans ((z8.of_below hB).mono (S':=[bl]) sI) r iL;clear hB hc s ci r f y;(go_wp2_with fail);go_end0;exact⟨rfl,h1,d⟩
theorem vdoes_m(m:j6)(o:OpV)(A:Option Addr)(c:Nat)(w:World)(g gt bl bo:Nat)(t:ByteArray)(b:Nat)(I:List zA)(X:List qN)(O:List zA)(h:yR w g t b I (.iface 105 (.pointer (some ⟨gt,0,none⟩))))(hT:xN w gt bl bo X O)(hk:o.key.size<=16)(hv:o.val.size<=16)(hA:zW w A o.refs.length o.refs)(hn:o.refs.length<=8)(hX:X.length<1000000) :
  Calls prog 199 #[.pointer (some ⟨g,0,none⟩),.agg (y8 m),.agg (opC o A c)] w λe w'=>e=.returned (.tuple #[])/\xN w' gt bl bo (setX X O ⟨m.id,o.key,o.val⟩ o.refs) (iO O o.refs)/\z8 [bl,bo] w w':=by
 obtain⟨k,n,key,val,ref,refs⟩:=o;dsimp only at *;unfold opC at *;dsimp only at *;have hB:Below w.heap.size w ((w.alloc (.cells (y8 m) 220)).alloc (.cells (zP ⟨k,n,key,val,ref,.slice A refs.length c⟩) 84)):=(bA).alloc sI _;have hc:=(h.below hB).cell2;have s:=hT.below hB;have f:z9 ((w.alloc (.cells (y8 m) 220)).alloc (.cells (zP ⟨k,n,key,val,ref,.slice A refs.length c⟩) 84)) w.heap.size 0 34=some (y8 m):=((z8.alloc (w.alloc (.cells (y8 m) 220)) _).row sI sI 0 34).trans (by simp[go_sem]);have B:z9 ((w.alloc (.cells (y8 m) 220)).alloc (.cells (zP ⟨k,n,key,val,ref,.slice A refs.length c⟩) 84)) w.heap.size 0 32=some (idC m.id):=by have:=yD f (j:=0) (m:=32) oM;rwa [gB]at this
 have y:zW _ A refs.length refs:=SlR.below hA hB;have ci:=λw' (h':xN w' gt bl bo X O) (hA':zW w' A refs.length refs)=>mset m.id key val A refs.length c refs w' gt bl bo X O h' hA' hk hv oM hX;have HA:=dH y;clear hT h hA hn y hX;have Hv:=dH (And.intro hk hv);clear hv hk;go_enter func199,ntmps199
 (go_wp2_with fail);refine(ci _ s HA.out).mono ?_;rintro e w1 ⟨rfl,h1,r⟩;have d:z8 [bl,bo] w w1:=z8.trans ((z8.of_below hB).mono (S':=[bl,bo]) sI) r iL;clear hB hc s ci r f B HA;(go_wp2_with fail);go_end0;exact⟨rfl,h1,d⟩
theorem vdoes_s6(m:j6)(o:OpV)(A:Option Addr)(c:Nat)(w:World)(g gt bn bb bg:Nat)(t:ByteArray)(b:Nat)(I:List zA)(M:List Nat)(N:List zS)(G:List zA)(h:yR w g t b I (.iface 106 (.pointer (some ⟨gt,0,none⟩))))(hT:xE w M gt bn bb bg N G)(hM:∀x∈M,x<w.heap.size)(hk:o.k=6)(hv:o.val.size<=16)(hN:N.length<=100000) :
  Calls prog 199 #[.pointer (some ⟨g,0,none⟩),.agg (y8 m),.agg (opC o A c)] w λe w'=>e=.returned (.tuple #[])/\xE w' M gt bn bb bg (JT N ⟨m.id,m.h,o.ref,o.val⟩) G/\z8 [bn,bb] w w':=by
 obtain⟨k,n,key,val,ref,refs⟩:=o;dsimp only at *;unfold opC at *;dsimp only at *;have hB:Below w.heap.size w ((w.alloc (.cells (y8 m) 220)).alloc (.cells (zP ⟨k,n,key,val,ref,.slice A refs.length c⟩) 84)):=(bA).alloc sI _;have hc:=(h.below hB).cell2;have s:=hT.below hB;have d:z9 ((w.alloc (.cells (y8 m) 220)).alloc (.cells (zP ⟨k,n,key,val,ref,.slice A refs.length c⟩) 84)) w.heap.size 0 34=some (y8 m):=((z8.alloc (w.alloc (.cells (y8 m) 220)) _).row sI sI 0 34).trans (by simp[go_sem]);have D:z9 ((w.alloc (.cells (y8 m) 220)).alloc (.cells (zP ⟨k,n,key,val,ref,.slice A refs.length c⟩) 84)) w.heap.size 0 32=some (idC m.id):=by have:=yD d (j:=0) (m:=32) oM;rwa [gB]at this
 have E:((k:Int)==6)=true:=by rw[hk];rfl
 clear hk;have y:Hid (∀x∈M,x<_):=dH λx hx=>Nat.lt_of_lt_of_le (hM x hx) hB.size;have B:=zB d (j:=33-1) oM;have ci:=λw' (h':xE w' M gt bn bb bg N G) (hM':∀x∈M,x<w'.heap.size)=>sqinsert ⟨m.id,m.h,ref,val⟩ w' M gt bn bb bg N G h' hM' (by simp only;omega) hN;clear hT h hM hN;have Hv:=dH hv;clear hv;go_enter func199,ntmps199
 (go_wp2_with fail);refine(ci _ s y.out).mono ?_;rintro e w1 ⟨rfl,h1,r⟩;have f:z8 [bn,bb] w w1:=z8.trans ((z8.of_below hB).mono (S':=[bn,bb]) sI) r iL;clear hB hc s ci r d D B y;(go_wp2_with fail);go_end0;exact⟨rfl,h1,f⟩
theorem vdoes_s7(m:j6)(o:OpV)(A:Option Addr)(c:Nat)(w:World)(g gt bn bb bg:Nat)(t:ByteArray)(b:Nat)(I:List zA)(M:List Nat)(N:List zS)(G:List zA)(h:yR w g t b I (.iface 106 (.pointer (some ⟨gt,0,none⟩))))(hT:xE w M gt bn bb bg N G)(hk:(o.k==6)=false) :
  Calls prog 199 #[.pointer (some ⟨g,0,none⟩),.agg (y8 m),.agg (opC o A c)] w λe w'=>e=.returned (.tuple #[])/\xE w' M gt bn bb bg N (jI yC G o.ref)/\z8 [bg] w w':=by
 obtain⟨k,n,key,val,ref,refs⟩:=o;dsimp only at *;unfold opC at *;dsimp only at *;have hB:Below w.heap.size w ((w.alloc (.cells (y8 m) 220)).alloc (.cells (zP ⟨k,n,key,val,ref,.slice A refs.length c⟩) 84)):=(bA).alloc sI _;have hc:=(h.below hB).cell2;have s:=hT.below hB;have f:z9 ((w.alloc (.cells (y8 m) 220)).alloc (.cells (zP ⟨k,n,key,val,ref,.slice A refs.length c⟩) 84)) w.heap.size 0 34=some (y8 m):=((z8.alloc (w.alloc (.cells (y8 m) 220)) _).row sI sI 0 34).trans (by simp[go_sem]);have y:z9 ((w.alloc (.cells (y8 m) 220)).alloc (.cells (zP ⟨k,n,key,val,ref,.slice A refs.length c⟩) 84)) w.heap.size 0 32=some (idC m.id):=by have:=yD f (j:=0) (m:=32) oM;rwa [gB]at this
 have ci:=λw' (h':xE w' M gt bn bb bg N G)=>sqdel ref w' M gt bn bb bg N G h';clear hT h;go_enter func199,ntmps199
 (go_wp2_with fail);refine(ci _ s).mono ?_;rintro e w1 ⟨rfl,h1,r⟩;have d:z8 [bg] w w1:=z8.trans ((z8.of_below hB).mono (S':=[bg]) sI) r iL;clear hB hc s ci r f y;(go_wp2_with fail);go_end0;exact⟨rfl,h1,d⟩
structure jO where
 key:ByteArray
 val:ByteArray
def yB(x:jO):Array Value:=#[.string x.key] ++ #[.string x.val]
@[simp] theorem wJ(x:jO):(yB x).size=2:=by simp[yB]
@[go_sem] theorem pairC_g0(x:jO):(yB x)[0]?=some (.string x.key):=by first | (simp[yB,Array.getElem?_append];done) | (rw[show yB x=((#[]:Array Value)) ++ #[.string x.key]++(#[.string x.val])from by apply Array.ext';simp[yB]];exact xJ _ _ _ _ sI)
@[go_sem] theorem pairC_gg0(x:jO)(h:0<(yB x).size):(yB x)[0]'h=.string x.key:=Option.some.inj ((Array.getElem?_eq_getElem h).symm.trans (pairC_g0 x))
@[go_sem] theorem pairC_g1(x:jO):(yB x)[1]?=some (.string x.val):=by first | (simp[yB,Array.getElem?_append];done) | (rw[show yB x=(#[.string x.key]) ++ #[.string x.val]++((#[]:Array Value))from by apply Array.ext';simp[yB]];exact xJ _ _ _ _ sI)
@[go_sem] theorem pairC_gg1(x:jO)(h:1<(yB x).size):(yB x)[1]'h=.string x.val:=Option.some.inj ((Array.getElem?_eq_getElem h).symm.trans (pairC_g1 x))
@[go_sem] theorem pairC_all(x:jO):(yB x).extract 0 2=yB x:=by have:=Array.extract_size (xs:=yB x);rwa [wJ]at this
theorem g9(x:jO):∀u∈(yB x).toList,u.oneCell'=true:=by
 intro u hu;simp only[yB,Array.toList_append,mem_append]at hu;rcases hu with hu | hu
 ·simp at hu;subst hu;rfl
 ·simp at hu;subst hu;rfl
def lI:jO:=⟨⟨#[]⟩,⟨#[]⟩⟩
theorem km{x y:jO}(h:x.key=y.key/\x.val=y.val):x=y:=by cases x;cases y;simp_all
instance:DecidableEq jO:=λx y=>if h:x.key=y.key/\x.val=y.val then isTrue (km h)else isFalse (λe=>h (by subst e;simp))
theorem jf:(prog.info? 179).map (·.size)=some 2:=kR
@[go_sem ↓] theorem sY(w:World):(zeroValue 179).run prog w=.ok (.agg (yB lI)) w:=by
 have h:(prog.info? 179).bind (·.zero)=some (.agg (yB lI)):=kR;cases hi:prog.info? 179 with
 | none=>rw[hi]at h;cases h
 | some i =>
  rw[hi]at h;have hz:i.zero=some (.agg (yB lI)):=h;simp[zeroValue,typeInfo,hi,hz]
@[go_sem ↓] theorem loadPair_rw(a:Addr):loadVar 179 a=ldS 179 a:=rfl
@[go_sem ↓] theorem storePair_rw(a:Addr)(v:Value):storeVar 179 a v=stS 179 a v:=rfl
@[go_sem] theorem loadPair_run(w:World)(g o:Nat):(ldS 179 ⟨g,o,none⟩).run prog w=match z9 w g o 2 with | some cs=>.ok (.agg cs) w | none=>(loadVar 179 ⟨g,o,none⟩).run prog w :=
 jD underlying179 rfl jf w g o
theorem sQ:prog.underlying 179=some (.struct (prog.fieldsOf 179)):=kR
theorem XG(w:World):((prog.fieldsOf 179).mapM fun (f:Field)=>do pure (f.offset,<-sizeOf f.type)).run prog w=.ok #[(0,1),(1,1)] w:=kR
@[go_sem ↓] theorem buildPair_rw(parts:Array (Nat×Value)):Instr.build 179 parts=bdS 179 parts:=rfl
@[go_sem] theorem buildPair(a0:ByteArray)(a1:ByteArray)(w:World):(bdS 179 #[(0,.string a0),(1,.string a1)]).run prog w=.ok (.agg (yB ⟨a0,a1⟩)) w:=by
 refine qO w sQ _ (sY w) _ (XG w) [(0,.string a0),(1,.string a1)] _ ?_;rw[show yB lI=(#[]:Array Value) ++ #[.string ⟨#[]⟩]++(#[.string ⟨#[]⟩])from by first | (simp[yB,lI,Array.append_assoc];done) | (apply Array.ext';simp[yB,lI])];rw[yW (off:=0) (size:=1) rfl sI sI (by simp[Value.cells])];rw[show(#[]:Array Value)++(Value.string a0).cells++(#[.string ⟨#[]⟩])=(#[.string a0]) ++ #[.string ⟨#[]⟩]++(#[]:Array Value)from by first | (simp[Value.cells,Array.append_assoc];done) | (apply Array.ext';simp[Value.cells];done) | (apply Array.ext';simp only[Array.toList_append];simp[Value.cells])];rw[yW (off:=1) (size:=1) rfl sI sI (by simp[Value.cells])];first | (simp[Instr.fill,yB,Array.append_assoc,Value.cells];done) | (simp only[Instr.fill,yB];congr 1;apply Array.ext';simp[Value.cells];done) | (simp only[Instr.fill,yB];congr 1;done) | (simp only[Instr.fill,yB];done)
@[go_sem] theorem buildPair_0(a0:ByteArray)(w:World):(bdS 179 #[(0,.string a0)]).run prog w=.ok (.agg (yB ⟨a0,⟨#[]⟩⟩)) w:=by
 refine qO w sQ _ (sY w) _ (XG w) [(0,.string a0)] _ ?_;rw[show yB lI=(#[]:Array Value) ++ #[.string ⟨#[]⟩]++(#[.string ⟨#[]⟩])from by first | (simp[yB,lI,Array.append_assoc];done) | (apply Array.ext';simp[yB,lI])];rw[yW (off:=0) (size:=1) rfl sI sI (by simp[Value.cells])];first | (simp[Instr.fill,yB,Array.append_assoc,Value.cells];done) | (simp only[Instr.fill,yB];congr 1;apply Array.ext';simp[Value.cells];done) | (simp only[Instr.fill,yB];congr 1;done) | (simp only[Instr.fill,yB];done)
theorem kW:yT prog 37 179 2 32 :=
 .of (z:=.agg (yB lI)) underlying37 kR kR kR (wJ _) oM
@[go_sem ↓] theorem bsPair_rw(n:Nat)(parts:Array (Nat×Value)):Instr.buildSlice 37 n parts=bsS 37 n parts:=rfl
@[go_sem] theorem bsPair_run(w:World)(x:jO):(bsS 37 1 #[(0,.agg (yB x))]).run prog w=.ok (.slice (some ⟨w.heap.size,0,none⟩) 1 1) (w.alloc (.cells (yB x) 179)) :=
 gS kW oM w (yB x) (wJ x)
theorem vvalue_b(w:World)(g gt:Nat)(t:ByteArray)(b:Nat)(I:List zA)(h:yR w g t b I (.iface 102 (.pointer (some ⟨gt,0,none⟩))))(ht:t.size<=9223372036854775807)(hk:yF t=2)(n:Nat)(L:List (Array Value))
  (hl:∀w',Below w.heap.size w w'->Calls prog 65 #[.pointer (some ⟨gt,0,none⟩)] w' λe Z=>∃A cap,e=.returned (.slice A n cap)/\Own Z w'.heap.size 179 2 A n cap L/\Below w'.heap.size w' Z) :
  Calls prog 27 #[.pointer (some ⟨g,0,none⟩)] w λe w'=>∃A cap,e=.returned (.agg (zI ⟨2,0,.slice A n cap⟩))/\Own w' w.heap.size 179 2 A n cap L/\Below w.heap.size w w':=by
 have hB:Below w.heap.size w (w.alloc (.cells (zI x8) 39)):=bA;have h1:=h.below hB;have r:(w.alloc (.cells (zI x8) 39)).heap[w.heap.size]?=some (.cells (zI x8) 39 (0,0)):=heap_alloc_new w _;have c2:=λw=>bQ t w ht;rw[hk]at c2;go_enter func27,ntmps27
 go_upto_region 1 with fail
 obtain⟨ga,V⟩:=eX w.heap.size
 have M:=dH V;rw[V]at r hB hl |-;obtain⟨W,hW⟩:=eR (w.alloc (.cells (zI x8) 39))
 rw[<-hW]at h1 r hB |-;clear hW V;have a2:=h1.cell1;(go_wp2_with fail);refine(jW W g b a2).mono ?_;rintro e w1 ⟨rfl,rfl⟩;have b2:=h1.cell0;(go_wp2_with fail);refine(c2 _).mono ?_;rintro e w2 ⟨rfl,G⟩;have h2:=h1.below G;have X:=(G.block ga (aG r).1).trans r;have a6:Below ga w w2:=hB.trans (G.mono (by have:=hB.size;have:=M.out;omega));have U:ga<w2.heap.size:=(aG X).1;clear b2 a2 h1 r hB G h c2;have F:Below w2.heap.size w2 (w2.alloc (.cells (zI ⟨2,0,.slice none 0 0⟩) 39)):=bA;have h3:=h2.below F;have E:=(F.block ga U).trans X;have J:Below ga w (w2.alloc (.cells (zI ⟨2,0,.slice none 0 0⟩) 39)):=a6.trans (F.mono oM);have j:(w2.alloc (.cells (zI ⟨2,0,.slice none 0 0⟩) 39)).heap[w2.heap.size]?=some (.cells (zI ⟨2,0,.slice none 0 0⟩) 39 (0,0)):=heap_alloc_new w2 _;obtain⟨gv,T⟩:=eX w2.heap.size
 have b5:=dH T;clear h2 X a6 F;go_upto_region 4 with fail
 rw[T]at j U;obtain⟨W3,a4⟩:=eR (w2.alloc (.cells (zI ⟨2,0,.slice none 0 0⟩) 39))
 rw[<-a4]at h3 E J j |-;clear a4 T;have b1:=h3.cell2;go_upto_region 10 with fail
 have a0:=hl W3 J;(go_wp2_with fail);refine a0.mono ?_;rintro e w4 ⟨A,cap,rfl,f,s⟩;have R:gv<W3.heap.size:=(aG j).1;have m:ga<W3.heap.size:=(aG E).1;have y:=(s.block gv R).trans j;have a1:=(s.block ga m).trans E;have a8:=s.size;have a5:Below ga w w4:=J.trans (s.mono oM);have hf:w4.frozen? ⟨gv,2,none⟩=false:=by simp[frozen?,y]
 have b0:w4.cell? ⟨gv,2,none⟩=some (.slice none 0 0):=by rw[cell_of_row w4 gv 2 _ _ _ y];simp[go_sem]
 have k:(zI ⟨2,0,.slice none 0 0⟩).setIfInBounds 2 (.slice A n cap)=zI ⟨2,0,.slice A n cap⟩:=by apply Array.ext';simp[zI]
 have N:(w4.setCell ⟨gv,2,none⟩ (.slice A n cap)).heap[gv]?=some (.cells (zI ⟨2,0,.slice A n cap⟩) 39 (0,0)):=by rw[zE y,k]
 have B:=z8.setCell w4 ⟨gv,2,none⟩ (.slice A n cap);have D:(w4.setCell ⟨gv,2,none⟩ (.slice A n cap)).heap[ga]?=some (.cells (zI x8) 39 (0,0)):=(B.block ga oM sO).trans a1;have H:Below ga w (w4.setCell ⟨gv,2,none⟩ (.slice A n cap)):=a5.trans (B.below oM sO);have d:=f.kept B (λx hx=>oS (f.at_base hx));clear k B a1 a5 h3 b1 f s E J hl a0;go_upto_region 20 with fail
 obtain⟨W4,a3⟩:=eR (w4.setCell ⟨gv,2,none⟩ (.slice A n cap))
 rw[<-a3]at N D H d |-;clear a3 hf y b0 j;have b3:=dH (And.intro m a8);have a9:z9 W4 gv 0 3=some (zI ⟨2,0,.slice A n cap⟩):=by unfold z9;rw[N];simp[go_sem]
 have a7:=zX (P:=prog) qL W4 ga (zI x8) (zI ⟨2,0,.slice A n cap⟩) _ D sI sI (k8 _ rfl);have O:z8 [ga] W4 (W4.setRow ga (zI ⟨2,0,.slice A n cap⟩)):=⟨rfl,rfl,rfl,by simp[setRow],λx _ hx=>setRow_other W4 ga x _ (by simpa using hx)⟩
 have Y:=dH (setRow_heap W4 ga _ (zI ⟨2,0,.slice A n cap⟩) _ _ D);have b4:=dH (H.trans (O.below (by have:=H.size;have:=M.out;omega) sI));have HO:=dH (d.kept O (λx hx=>oS (d.at_base hx)));clear O D H N d;(go_wp2_with fail);refine bodyPost_ret (results_cell_row results27 _ _ ga 39 (zI ⟨2,0,.slice A n cap⟩) (0,0) _ rfl Y.out underlying39 rfl (by rw[jX];exact qL)) rfl ?_;exact⟨A,cap,rfl,HO.out.mono (by have:=b3.out;have:=M.out;omega),by rw[M.out];exact b4.out⟩
theorem vvalue_l(w:World)(g gt:Nat)(t:ByteArray)(b:Nat)(I:List zA)(h:yR w g t b I (.iface 104 (.pointer (some ⟨gt,0,none⟩))))(ht:t.size<=9223372036854775807)(hk:yF t=3)(n:Nat)(L:List (Array Value))
  (hl:∀w',Below w.heap.size w w'->Calls prog 66 #[.pointer (some ⟨gt,0,none⟩)] w' λe Z=>∃A cap,e=.returned (.slice A n cap)/\Own Z w'.heap.size 179 2 A n cap L/\Below w'.heap.size w' Z) :
  Calls prog 27 #[.pointer (some ⟨g,0,none⟩)] w λe w'=>∃A cap,e=.returned (.agg (zI ⟨3,0,.slice A n cap⟩))/\Own w' w.heap.size 179 2 A n cap L/\Below w.heap.size w w':=by
 have hB:Below w.heap.size w (w.alloc (.cells (zI x8) 39)):=bA;have h1:=h.below hB;have r:(w.alloc (.cells (zI x8) 39)).heap[w.heap.size]?=some (.cells (zI x8) 39 (0,0)):=heap_alloc_new w _;have c2:=λw=>bQ t w ht;rw[hk]at c2;go_enter func27,ntmps27
 go_upto_region 1 with fail
 obtain⟨ga,V⟩:=eX w.heap.size
 have M:=dH V;rw[V]at r hB hl |-;obtain⟨W,hW⟩:=eR (w.alloc (.cells (zI x8) 39))
 rw[<-hW]at h1 r hB |-;clear hW V;have a2:=h1.cell1;(go_wp2_with fail);refine(jW W g b a2).mono ?_;rintro e w1 ⟨rfl,rfl⟩;have b2:=h1.cell0;(go_wp2_with fail);refine(c2 _).mono ?_;rintro e w2 ⟨rfl,G⟩;have h2:=h1.below G;have X:=(G.block ga (aG r).1).trans r;have a6:Below ga w w2:=hB.trans (G.mono (by have:=hB.size;have:=M.out;omega));have U:ga<w2.heap.size:=(aG X).1;clear b2 a2 h1 r hB G h c2;have F:Below w2.heap.size w2 (w2.alloc (.cells (zI ⟨3,0,.slice none 0 0⟩) 39)):=bA;have h3:=h2.below F;have E:=(F.block ga U).trans X;have J:Below ga w (w2.alloc (.cells (zI ⟨3,0,.slice none 0 0⟩) 39)):=a6.trans (F.mono oM);have j:(w2.alloc (.cells (zI ⟨3,0,.slice none 0 0⟩) 39)).heap[w2.heap.size]?=some (.cells (zI ⟨3,0,.slice none 0 0⟩) 39 (0,0)):=heap_alloc_new w2 _;obtain⟨gv,T⟩:=eX w2.heap.size
 have b5:=dH T;clear h2 X a6 F;go_upto_region 4 with fail
 rw[T]at j U;obtain⟨W3,a4⟩:=eR (w2.alloc (.cells (zI ⟨3,0,.slice none 0 0⟩) 39))
 rw[<-a4]at h3 E J j |-;clear a4 T;have b1:=h3.cell2;go_upto_region 13 with fail
 have a0:=hl W3 J;(go_wp2_with fail);refine a0.mono ?_;rintro e w4 ⟨A,cap,rfl,f,s⟩;have R:gv<W3.heap.size:=(aG j).1;have m:ga<W3.heap.size:=(aG E).1;have y:=(s.block gv R).trans j;have a1:=(s.block ga m).trans E;have a8:=s.size;have a5:Below ga w w4:=J.trans (s.mono oM);have hf:w4.frozen? ⟨gv,2,none⟩=false:=by simp[frozen?,y]
 have b0:w4.cell? ⟨gv,2,none⟩=some (.slice none 0 0):=by rw[cell_of_row w4 gv 2 _ _ _ y];simp[go_sem]
 have k:(zI ⟨3,0,.slice none 0 0⟩).setIfInBounds 2 (.slice A n cap)=zI ⟨3,0,.slice A n cap⟩:=by apply Array.ext';simp[zI]
 have N:(w4.setCell ⟨gv,2,none⟩ (.slice A n cap)).heap[gv]?=some (.cells (zI ⟨3,0,.slice A n cap⟩) 39 (0,0)):=by rw[zE y,k]
 have B:=z8.setCell w4 ⟨gv,2,none⟩ (.slice A n cap);have D:(w4.setCell ⟨gv,2,none⟩ (.slice A n cap)).heap[ga]?=some (.cells (zI x8) 39 (0,0)):=(B.block ga oM sO).trans a1;have H:Below ga w (w4.setCell ⟨gv,2,none⟩ (.slice A n cap)):=a5.trans (B.below oM sO);have d:=f.kept B (λx hx=>oS (f.at_base hx));clear k B a1 a5 h3 b1 f s E J hl a0;go_upto_region 20 with fail
 obtain⟨W4,a3⟩:=eR (w4.setCell ⟨gv,2,none⟩ (.slice A n cap))
 rw[<-a3]at N D H d |-;clear a3 hf y b0 j;have b3:=dH (And.intro m a8);have a9:z9 W4 gv 0 3=some (zI ⟨3,0,.slice A n cap⟩):=by unfold z9;rw[N];simp[go_sem]
 have a7:=zX (P:=prog) qL W4 ga (zI x8) (zI ⟨3,0,.slice A n cap⟩) _ D sI sI (k8 _ rfl);have O:z8 [ga] W4 (W4.setRow ga (zI ⟨3,0,.slice A n cap⟩)):=⟨rfl,rfl,rfl,by simp[setRow],λx _ hx=>setRow_other W4 ga x _ (by simpa using hx)⟩
 have Y:=dH (setRow_heap W4 ga _ (zI ⟨3,0,.slice A n cap⟩) _ _ D);have b4:=dH (H.trans (O.below (by have:=H.size;have:=M.out;omega) sI));have HO:=dH (d.kept O (λx hx=>oS (d.at_base hx)));clear O D H N d;(go_wp2_with fail);refine bodyPost_ret (results_cell_row results27 _ _ ga 39 (zI ⟨3,0,.slice A n cap⟩) (0,0) _ rfl Y.out underlying39 rfl (by rw[jX];exact qL)) rfl ?_;exact⟨A,cap,rfl,HO.out.mono (by have:=b3.out;have:=M.out;omega),by rw[M.out];exact b4.out⟩
theorem vvalue_m(w:World)(g gt:Nat)(t:ByteArray)(b:Nat)(I:List zA)(h:yR w g t b I (.iface 105 (.pointer (some ⟨gt,0,none⟩))))(ht:t.size<=9223372036854775807)(hk:yF t=4)(n:Nat)(L:List (Array Value))
  (hl:∀w',Below w.heap.size w w'->Calls prog 67 #[.pointer (some ⟨gt,0,none⟩)] w' λe Z=>∃A cap,e=.returned (.slice A n cap)/\Own Z w'.heap.size 179 2 A n cap L/\Below w'.heap.size w' Z) :
  Calls prog 27 #[.pointer (some ⟨g,0,none⟩)] w λe w'=>∃A cap,e=.returned (.agg (zI ⟨4,0,.slice A n cap⟩))/\Own w' w.heap.size 179 2 A n cap L/\Below w.heap.size w w':=by
 have hB:Below w.heap.size w (w.alloc (.cells (zI x8) 39)):=bA;have h1:=h.below hB;have r:(w.alloc (.cells (zI x8) 39)).heap[w.heap.size]?=some (.cells (zI x8) 39 (0,0)):=heap_alloc_new w _;have c2:=λw=>bQ t w ht;rw[hk]at c2;go_enter func27,ntmps27
 go_upto_region 1 with fail
 obtain⟨ga,V⟩:=eX w.heap.size
 have M:=dH V;rw[V]at r hB hl |-;obtain⟨W,hW⟩:=eR (w.alloc (.cells (zI x8) 39))
 rw[<-hW]at h1 r hB |-;clear hW V;have a2:=h1.cell1;(go_wp2_with fail);refine(jW W g b a2).mono ?_;rintro e w1 ⟨rfl,rfl⟩;have b2:=h1.cell0;(go_wp2_with fail);refine(c2 _).mono ?_;rintro e w2 ⟨rfl,G⟩;have h2:=h1.below G;have X:=(G.block ga (aG r).1).trans r;have a6:Below ga w w2:=hB.trans (G.mono (by have:=hB.size;have:=M.out;omega));have U:ga<w2.heap.size:=(aG X).1;clear b2 a2 h1 r hB G h c2;have F:Below w2.heap.size w2 (w2.alloc (.cells (zI ⟨4,0,.slice none 0 0⟩) 39)):=bA;have h3:=h2.below F;have E:=(F.block ga U).trans X;have J:Below ga w (w2.alloc (.cells (zI ⟨4,0,.slice none 0 0⟩) 39)):=a6.trans (F.mono oM);have j:(w2.alloc (.cells (zI ⟨4,0,.slice none 0 0⟩) 39)).heap[w2.heap.size]?=some (.cells (zI ⟨4,0,.slice none 0 0⟩) 39 (0,0)):=heap_alloc_new w2 _;obtain⟨gv,T⟩:=eX w2.heap.size
 have b5:=dH T;clear h2 X a6 F;go_upto_region 4 with fail
 rw[T]at j U;obtain⟨W3,a4⟩:=eR (w2.alloc (.cells (zI ⟨4,0,.slice none 0 0⟩) 39))
 rw[<-a4]at h3 E J j |-;clear a4 T;have b1:=h3.cell2;go_upto_region 16 with fail
 have a0:=hl W3 J;(go_wp2_with fail);refine a0.mono ?_;rintro e w4 ⟨A,cap,rfl,f,s⟩;have R:gv<W3.heap.size:=(aG j).1;have m:ga<W3.heap.size:=(aG E).1;have y:=(s.block gv R).trans j;have a1:=(s.block ga m).trans E;have a8:=s.size;have a5:Below ga w w4:=J.trans (s.mono oM);have hf:w4.frozen? ⟨gv,2,none⟩=false:=by simp[frozen?,y]
 have b0:w4.cell? ⟨gv,2,none⟩=some (.slice none 0 0):=by rw[cell_of_row w4 gv 2 _ _ _ y];simp[go_sem]
 have k:(zI ⟨4,0,.slice none 0 0⟩).setIfInBounds 2 (.slice A n cap)=zI ⟨4,0,.slice A n cap⟩:=by apply Array.ext';simp[zI]
 have N:(w4.setCell ⟨gv,2,none⟩ (.slice A n cap)).heap[gv]?=some (.cells (zI ⟨4,0,.slice A n cap⟩) 39 (0,0)):=by rw[zE y,k]
 have B:=z8.setCell w4 ⟨gv,2,none⟩ (.slice A n cap);have D:(w4.setCell ⟨gv,2,none⟩ (.slice A n cap)).heap[ga]?=some (.cells (zI x8) 39 (0,0)):=(B.block ga oM sO).trans a1;have H:Below ga w (w4.setCell ⟨gv,2,none⟩ (.slice A n cap)):=a5.trans (B.below oM sO);have d:=f.kept B (λx hx=>oS (f.at_base hx));clear k B a1 a5 h3 b1 f s E J hl a0;go_upto_region 20 with fail
 obtain⟨W4,a3⟩:=eR (w4.setCell ⟨gv,2,none⟩ (.slice A n cap))
 rw[<-a3]at N D H d |-;clear a3 hf y b0 j;have b3:=dH (And.intro m a8);have a9:z9 W4 gv 0 3=some (zI ⟨4,0,.slice A n cap⟩):=by unfold z9;rw[N];simp[go_sem]
 have a7:=zX (P:=prog) qL W4 ga (zI x8) (zI ⟨4,0,.slice A n cap⟩) _ D sI sI (k8 _ rfl);have O:z8 [ga] W4 (W4.setRow ga (zI ⟨4,0,.slice A n cap⟩)):=⟨rfl,rfl,rfl,by simp[setRow],λx _ hx=>setRow_other W4 ga x _ (by simpa using hx)⟩
 have Y:=dH (setRow_heap W4 ga _ (zI ⟨4,0,.slice A n cap⟩) _ _ D);have b4:=dH (H.trans (O.below (by have:=H.size;have:=M.out;omega) sI));have HO:=dH (d.kept O (λx hx=>oS (d.at_base hx)));clear O D H N d;(go_wp2_with fail);refine bodyPost_ret (results_cell_row results27 _ _ ga 39 (zI ⟨4,0,.slice A n cap⟩) (0,0) _ rfl Y.out underlying39 rfl (by rw[jX];exact qL)) rfl ?_;exact⟨A,cap,rfl,HO.out.mono (by have:=b3.out;have:=M.out;omega),by rw[M.out];exact b4.out⟩
theorem vvalue_s(w:World)(g gt:Nat)(t:ByteArray)(b:Nat)(I:List zA)(h:yR w g t b I (.iface 106 (.pointer (some ⟨gt,0,none⟩))))(ht:t.size<=9223372036854775807)(hk:yF t=5)(n:Nat)(L:List (Array Value))
  (hl:∀w',Below w.heap.size w w'->Calls prog 68 #[.pointer (some ⟨gt,0,none⟩)] w' λe Z=>∃A cap,e=.returned (.slice A n cap)/\Own Z w'.heap.size 179 2 A n cap L/\Below w'.heap.size w' Z) :
  Calls prog 27 #[.pointer (some ⟨g,0,none⟩)] w λe w'=>∃A cap,e=.returned (.agg (zI ⟨5,0,.slice A n cap⟩))/\Own w' w.heap.size 179 2 A n cap L/\Below w.heap.size w w':=by
 have hB:Below w.heap.size w (w.alloc (.cells (zI x8) 39)):=bA;have h1:=h.below hB;have r:(w.alloc (.cells (zI x8) 39)).heap[w.heap.size]?=some (.cells (zI x8) 39 (0,0)):=heap_alloc_new w _;have c2:=λw=>bQ t w ht;rw[hk]at c2;go_enter func27,ntmps27
 go_upto_region 1 with fail
 obtain⟨ga,V⟩:=eX w.heap.size
 have M:=dH V;rw[V]at r hB hl |-;obtain⟨W,hW⟩:=eR (w.alloc (.cells (zI x8) 39))
 rw[<-hW]at h1 r hB |-;clear hW V;have a2:=h1.cell1;(go_wp2_with fail);refine(jW W g b a2).mono ?_;rintro e w1 ⟨rfl,rfl⟩;have b2:=h1.cell0;(go_wp2_with fail);refine(c2 _).mono ?_;rintro e w2 ⟨rfl,G⟩;have h2:=h1.below G;have X:=(G.block ga (aG r).1).trans r;have a6:Below ga w w2:=hB.trans (G.mono (by have:=hB.size;have:=M.out;omega));have U:ga<w2.heap.size:=(aG X).1;clear b2 a2 h1 r hB G h c2;have F:Below w2.heap.size w2 (w2.alloc (.cells (zI ⟨5,0,.slice none 0 0⟩) 39)):=bA;have h3:=h2.below F;have E:=(F.block ga U).trans X;have J:Below ga w (w2.alloc (.cells (zI ⟨5,0,.slice none 0 0⟩) 39)):=a6.trans (F.mono oM);have j:(w2.alloc (.cells (zI ⟨5,0,.slice none 0 0⟩) 39)).heap[w2.heap.size]?=some (.cells (zI ⟨5,0,.slice none 0 0⟩) 39 (0,0)):=heap_alloc_new w2 _;obtain⟨gv,T⟩:=eX w2.heap.size
 have b5:=dH T;clear h2 X a6 F;go_upto_region 4 with fail
 rw[T]at j U;obtain⟨W3,a4⟩:=eR (w2.alloc (.cells (zI ⟨5,0,.slice none 0 0⟩) 39))
 rw[<-a4]at h3 E J j |-;clear a4 T;have b1:=h3.cell2;go_upto_region 19 with fail
 have a0:=hl W3 J;(go_wp2_with fail);refine a0.mono ?_;rintro e w4 ⟨A,cap,rfl,f,s⟩;have R:gv<W3.heap.size:=(aG j).1;have m:ga<W3.heap.size:=(aG E).1;have y:=(s.block gv R).trans j;have a1:=(s.block ga m).trans E;have a8:=s.size;have a5:Below ga w w4:=J.trans (s.mono oM);have hf:w4.frozen? ⟨gv,2,none⟩=false:=by simp[frozen?,y]
 have b0:w4.cell? ⟨gv,2,none⟩=some (.slice none 0 0):=by rw[cell_of_row w4 gv 2 _ _ _ y];simp[go_sem]
 have k:(zI ⟨5,0,.slice none 0 0⟩).setIfInBounds 2 (.slice A n cap)=zI ⟨5,0,.slice A n cap⟩:=by apply Array.ext';simp[zI]
 have N:(w4.setCell ⟨gv,2,none⟩ (.slice A n cap)).heap[gv]?=some (.cells (zI ⟨5,0,.slice A n cap⟩) 39 (0,0)):=by rw[zE y,k]
 have B:=z8.setCell w4 ⟨gv,2,none⟩ (.slice A n cap);have D:(w4.setCell ⟨gv,2,none⟩ (.slice A n cap)).heap[ga]?=some (.cells (zI x8) 39 (0,0)):=(B.block ga oM sO).trans a1;have H:Below ga w (w4.setCell ⟨gv,2,none⟩ (.slice A n cap)):=a5.trans (B.below oM sO);have d:=f.kept B (λx hx=>oS (f.at_base hx));clear k B a1 a5 h3 b1 f s E J hl a0;go_upto_region 20 with fail
 obtain⟨W4,a3⟩:=eR (w4.setCell ⟨gv,2,none⟩ (.slice A n cap))
 rw[<-a3]at N D H d |-;clear a3 hf y b0 j;have b3:=dH (And.intro m a8);have a9:z9 W4 gv 0 3=some (zI ⟨5,0,.slice A n cap⟩):=by unfold z9;rw[N];simp[go_sem]
 have a7:=zX (P:=prog) qL W4 ga (zI x8) (zI ⟨5,0,.slice A n cap⟩) _ D sI sI (k8 _ rfl);have O:z8 [ga] W4 (W4.setRow ga (zI ⟨5,0,.slice A n cap⟩)):=⟨rfl,rfl,rfl,by simp[setRow],λx _ hx=>setRow_other W4 ga x _ (by simpa using hx)⟩
 have Y:=dH (setRow_heap W4 ga _ (zI ⟨5,0,.slice A n cap⟩) _ _ D);have b4:=dH (H.trans (O.below (by have:=H.size;have:=M.out;omega) sI));have HO:=dH (d.kept O (λx hx=>oS (d.at_base hx)));clear O D H N d;(go_wp2_with fail);refine bodyPost_ret (results_cell_row results27 _ _ ga 39 (zI ⟨5,0,.slice A n cap⟩) (0,0) _ rfl Y.out underlying39 rfl (by rw[jX];exact qL)) rfl ?_;exact⟨A,cap,rfl,HO.out.mono (by have:=b3.out;have:=M.out;omega),by rw[M.out];exact b4.out⟩
section
open Go.RowKit Go.Sort Go.Shelf
section
variable {α:Type} [Inhabited α] {enc:α->Array Value} {k:Nat}
theorem own_holds{L:List α}(hk:0<k)(hs:∀x,(enc x).size=k)(h:Own w B E k (some ⟨g,0,none⟩) n cap (L.map enc)) :
  HoldsK (λx=>(enc x).toList) k w g 0 L.toArray:=by
 intro j hj;have f:j<L.length*k:=by simpa using hj
 have hi:j / k<L.length:=Nat.div_lt_of_lt_mul (by rw[Nat.mul_comm];exact f);have hr:j % k<k:=Nat.mod_lt _ hk;have he:j / k*k+j % k=j:=by rw[Nat.mul_comm];exact Nat.div_add_mod j k
 have hl:L.length=n:=by simpa using h.len
 obtain⟨g',o,e,d⟩:=h.slr.at_ (i:=j / k) oM;injection e with e
 injection e with e1 e2
 subst e1;subst e2;rw[getElem_map]at d;have hc:=zB d hr;rw[Nat.zero_add,he]at hc;refine⟨?_,?_⟩
 ·rw[Nat.zero_add,hc,get_flatK _ _ _ j (by simpa using f),getElem!_pos L.toArray (j / k) (by simpa using hi)];have m:j % k<(enc L[j / k]).toList.length:=by simpa[hs]using hr
  rw[getElem!_pos _ (j % k) (by simpa using m)];simp[hs,hr]
 ·obtain⟨⟨_,h2⟩,_,_⟩:=h;rcases h2 with⟨h2,_⟩ | ⟨g',c,cur,hv,hb,hg,_⟩
  ·cases h2
  ·injection hv with hA
   injection hA with hA
   injection hA with hA
   subst hA;simp[frozen?,hg]
theorem qd{n':Nat}{L':List (Array Value)}(h:Own w B E k (some ⟨g,0,none⟩) n cap L)(f:n'<=n)(m:Nat)(F:Array Value)(hF:F.size=n*k)(hL:F.toList.take (n'*k)=L'.flatMap Array.toList)(hl:L'.length=n')(hs:∀c∈L',c.size=k)(os:Array Obj) :
  Own (grow (putRow id (Sort.ahead w m) g 0 F) os) B E k (some ⟨g,0,none⟩) n' cap L'/\z8 [g] w (grow (putRow id (Sort.ahead w m) g 0 F) os):=by
 obtain⟨⟨_,h2⟩,_,_⟩:=h;rcases h2 with⟨h2,_⟩ | ⟨g',c,cur,hv,hb,hg,hnc,hcm,hcs,htake⟩
 ·cases h2
 injection hv with hA _ hc
 injection hA with hA
 injection hA with hA
 subst hA;subst hc;have s:g<w.heap.size:=(aG hg).1;have d:(grow (putRow id (Sort.ahead w m) g 0 F) os).heap[g]?=some (.cells (putCells id 0 F cur) E (0,0)):=by
  rw[heap_grow_old _ _ (by simpa[putRow,mapBlock,Sort.ahead]using s)];show(w.heap.modify g _)[g]?=_;rw[Array.getElem?_modify,if_pos rfl,hg];rfl
 have t:n*k<=cur.size:=by rw[hcs];exact Nat.mul_le_mul_right k hnc
 have r:n'*k<=n*k:=Nat.mul_le_mul_right k f;refine⟨⟨⟨?_,.inr ⟨g,cap,_,rfl,hb,d,oM,hcm,?_,?_⟩⟩,hl,hs⟩,?_⟩
 ·rw[j3 _ k hs,hl]
 ·simp[putCells,hcs]
 ·rw[<-hL];apply ext_getElem?;intro j;by_cases hj:j<n'*k
  ·rw[getElem?_take,getElem?_take,if_pos hj,if_pos hj,Array.getElem?_toList,Array.getElem?_toList];unfold putCells;rw[Array.getElem?_mapIdx,Array.getElem?_eq_getElem (oM:j<cur.size),Array.getElem?_eq_getElem (oM:j<F.size)];simp only[Option.map_some,Nat.zero_le,true_and,Nat.zero_add,Nat.sub_zero,hF];rw[if_pos oM,getElem!_pos _ j oM];rfl
  ·rw[getElem?_eq_none sO,getElem?_eq_none sO]
 ·refine⟨rfl,rfl,rfl,?_,λx hx hn=>?_⟩
  ·rw[size_grow];simp[putRow,mapBlock,Sort.ahead]
  ·rw[heap_grow_old _ _ (by simpa[putRow,mapBlock,Sort.ahead]using hx)];show(w.heap.modify g _)[x]?=_;rw[Array.getElem?_modify,if_neg (by simpa[eq_comm]using hn)]
theorem sH{L:List α}(hk:0<k)(hs:∀x,(enc x).size=k)(h:Own w B E k (some ⟨g,0,none⟩) n cap (L.map enc))(m:Nat)(L':List α)(hl:L'.length=L.length)(os:Array Obj) :
  Own (sortWorldK (λx=>(enc x).toList) k w g 0 m L'.toArray os) B E k (some ⟨g,0,none⟩) n cap (L'.map enc)/\z8 [g] w (sortWorldK (λx=>(enc x).toList) k w g 0 m L'.toArray os):=by
 have hn:L.length=n:=by simpa using h.len
 have d:∀c∈L'.map enc,c.size=k:=λc hc=>(by obtain⟨x,_,rfl⟩:=mem_map.1 hc;exact hs x);have f:(L'.map enc).flatMap Array.toList=(flatK (λx=>(enc x).toList) k L'.toArray).toList:=by
  apply ext_getElem?;intro j;have s:=j3 (L'.map enc) k d;rw[length_map]at s;by_cases hj:j<L'.length*k
  ·have hi:j / k<L'.length:=Nat.div_lt_of_lt_mul (by rw[Nat.mul_comm];exact hj);have hr:j % k<k:=Nat.mod_lt _ hk;have he:j / k*k+j % k=j:=by rw[Nat.mul_comm];exact Nat.div_add_mod j k
   have e1:=gZ (L'.map enc) k d (j / k) (j % k) (by simpa using hi) hr;rw[he]at e1;rw[e1];have d:j<(flatK (λx=>(enc x).toList) k L'.toArray).size:=by simpa using hj
   rw[Array.getElem?_toList,Array.getElem?_eq_getElem d,<-getElem!_pos _ j d,get_flatK _ _ _ j (by simpa using hj),getElem!_pos L'.toArray (j / k) (by simpa using hi)];have r:j % k<(enc L'[j / k]).toList.length:=by simpa[hs]using hr
   rw[getElem_map,getElem_toArray,getElem!_pos _ (j % k) r];simp[hs,hr]
  ·rw[getElem?_eq_none oM,getElem?_eq_none (by simpa using hj)]
 have hF:(flatK (λx=>(enc x).toList) k L'.toArray).size=n*k:=by simp[hl,hn]
 exact qd h lR m (flatK (λx=>(enc x).toList) k L'.toArray) hF (by rw[f,take_of_length_le (by simpa using Nat.le_of_eq hF)]) (by simp[hl,hn]) d os
end
section
variable {α:Type} [Inhabited α] {f:α->Value}
theorem XO{L:List α}(h:Own w B E 1 (some ⟨g,0,none⟩) n cap (L.map λx=>#[f x])):Holds f w g 0 L.toArray:=by
 intro j hj;have k:j<L.length:=by simpa using hj
 have hl:L.length=n:=by simpa using h.len
 obtain⟨g',o,e,d⟩:=h.slr.at_ (i:=j) oM;injection e with e
 injection e with e1 e2
 subst e1;subst e2;rw[getElem_map]at d;have hc:=zB d (j:=0) oM;refine⟨?_,?_⟩
 ·rw[getElem!_pos L.toArray j (by simpa using k)];simpa using hc
 ·obtain⟨⟨_,h2⟩,_,_⟩:=h;rcases h2 with⟨h2,_⟩ | ⟨g',c,cur,hv,hb,hg,_⟩
  ·cases h2
  ·injection hv with hA
   injection hA with hA
   injection hA with hA
   subst hA;simp[frozen?,hg]
theorem putRow_id(d:Array α):putRow f w g 0 d=putRow id w g 0 (d.map f):=by
 unfold putRow;refine mapBlock_congr w g _ _ λc e fr _=>?_;unfold putCells;apply Array.ext
 ·simp
 ·intro i h1 h2;simp only[Array.getElem_mapIdx,Array.size_map];split
  ·rename_i h
   have hi:i-0<d.size:=oM;rw[getElem!_pos d (i-0) hi,getElem!_pos (d.map f) (i-0) (by simpa using hi)]
   simp
  ·rfl
theorem qe{n':Nat}(h:Own w B E 1 (some ⟨g,0,none⟩) n cap L)(d:n'<=n)(m:Nat)(D L':List α)(hD:D.length=n)(hL:D.take n'=L')(os:Array Obj) :
  Own (grow (putRow f (Sort.ahead w m) g 0 D.toArray) os) B E 1 (some ⟨g,0,none⟩) n' cap (L'.map λx=>#[f x])/\z8 [g] w (grow (putRow f (Sort.ahead w m) g 0 D.toArray) os):=by
 rw[putRow_id];refine qd h d m _ (by simp[hD]) ?_ (by rw[length_map,<-hL,length_take];omega) (λc hc=>by obtain⟨x,_,rfl⟩:=mem_map.1 hc;rfl) os;rw[<-hL,Nat.mul_one];have e:∀l:List α,(l.map λx=>#[f x]).flatMap Array.toList=l.map f:=λl=>(by induction l <;> simp_all);rw[e];simp[map_take]
end
end
section
open Go.RowKit Go.Sort Go.Shelf
instance:Inhabited xB:=⟨nD⟩
theorem KK:yT prog 287 176 33 48 :=
 .of (z:=.agg (zZ nD)) underlying287 kR kR kR (mV _) oM
@[go_sem ↓] theorem bsBRow_rw(n:Nat)(parts:Array (Nat×Value)):Instr.buildSlice 287 n parts=bsS 287 n parts:=rfl
@[go_sem] theorem bsBRow_run(w:World)(x:xB):(bsS 287 1 #[(0,.agg (zZ x))]).run prog w=.ok (.slice (some ⟨w.heap.size,0,none⟩) 1 1) (w.alloc (.cells (zZ x) 176)) :=
 gS KK oM w (zZ x) (mV x)
theorem isAggRow(w:World):(isAgg 176).run prog w=.ok true w:=by simp[isAgg,run_underlying underlying176]
theorem sizeRow(w:World):(Go.sizeOf 176).run prog w=.ok 33 w:=by
 have h:=QC;cases hi:prog.info? 176 with
 | none=>rw[hi]at h;cases h
 | some i =>
  rw[hi]at h;have hk:i.size=33:=by simpa using h
  simp[Go.sizeOf,typeInfo,hi,hk]
end
section
open Go.RowKit Go.Sort
section
variable {α:Type} [Inhabited α] [DecidableEq α] {c:α->α->Int}
theorem iB(T:qJ c)(d:Array α)(hs:∀i j,i<j->j<d.size->¬c d[j]! d[i]! < 0):∀m,m<=d.size ->
  Ris c (Lib.compactUpTo d m)/\(∀z,z∈Lib.compactUpTo d m↔∃j,j<m/\d[j]! = z)/\(0<m->∀y∈Lib.compactUpTo d m,¬c d[m-1]! y<0)
 | 0,_=>⟨by simp[Lib.compactUpTo,Ris],by simp[Lib.compactUpTo],sI⟩
 | m+1,hm=>by
  obtain⟨h1,h2,h3⟩:=iB T d hs m oM;rw[Lib.compactUpTo_succ];by_cases hk:Lib.keeps d m=true
  ·rw[if_pos hk];have k:∀y∈Lib.compactUpTo d m,c y d[m]! < 0:=by
    intro y hy;have g:0<m:=by
     rcases Nat.eq_zero_or_pos m with h | h
     ·subst h;simp[Lib.compactUpTo]at hy
     ·exact h
    have s:d[m]!≠d[m-1]!:=by
     have:m=0\/d[m]!≠d[m-1]!:=by simpa[Lib.keeps]using hk
     rcases this with h | h
     ·omega
     ·exact h
    exact T.le_trans (h3 g y hy) (T.flip (hs (m-1) m oM oM) s)
   refine⟨?_,λz=>?_,λ_ y hy=>?_⟩
   ·refine pairwise_append.2 ⟨h1,sI,λy hy z hz=>?_⟩;simp at hz;subst hz;exact k y hy
   ·rw[mem_append,h2,mem_singleton];constructor
    ·rintro(⟨j,hj,e⟩ | e)
     ·exact⟨j,oM,e⟩
     ·exact⟨m,oM,e.symm⟩
    ·rintro⟨j,hj,e⟩;by_cases f:j=m
     ·subst f;exact .inr e.symm
     ·exact .inl ⟨j,oM,e⟩
   ·rw[Nat.add_sub_cancel];rcases mem_append.1 hy with hy | hy
    ·exact T.asym (k y hy)
    ·simp at hy;subst hy;exact T.irr _
  ·rw[if_neg hk,append_nil];have g:¬m=0:=λe=>hk (by simp[Lib.keeps,e]);have r:d[m]! = d[m-1]!:=Classical.byContradiction λe=>hk (Lib.keeps_pos e);refine⟨h1,λz=>?_,λ_ y hy=>?_⟩
   ·rw[h2];constructor
    ·rintro⟨j,hj,e⟩;exact⟨j,oM,e⟩
    ·rintro⟨j,hj,e⟩;by_cases f:j=m
     ·subst f;exact⟨j-1,oM,by rw[<-r];exact e⟩
     ·exact⟨j,oM,e⟩
   ·rw[Nat.add_sub_cancel,r];exact h3 oM y hy
theorem pJ(T:qJ c)(l:List α)(hs:l.Pairwise (λx y=>¬c y x<0)):Lib.compact l=kL c l:=by
 have h:=iB T l.toArray (λi j f hj=>by
  have d:j<l.length:=by simpa using hj
  rw[getElem!_pos l.toArray i sO,getElem!_pos l.toArray j hj];exact pairwise_iff_getElem.1 hs i j oM d f) l.length sI
 refine gH T h.1 (kQ T l) λz=>?_;rw[kT T];refine(h.2.1 z).trans ⟨?_,?_⟩
 ·rintro⟨j,hj,e⟩;rw[getElem!_pos l.toArray j (by simpa using hj)]at e;rw[<-e];exact getElem_mem hj
 ·intro hz;obtain⟨j,hj,e⟩:=mem_iff_getElem.1 hz;exact⟨j,hj,by rw[getElem!_pos l.toArray j (by simpa using hj)];simpa using e⟩
end
end
section
open Go.RowKit Go.Sort Go.Shelf
theorem einfoStr:yT prog 55 9 1 16 :=
 .of (z:=.string ⟨#[]⟩) underlying55 kR kR kR rfl oM
def ZV(s:ByteArray):Array Value:=#[.string s]
theorem strR_one(s:ByteArray):∀u∈(ZV s).toList,u.oneCell'=true:=by simp[ZV,Value.oneCell']
def bl(s:ByteArray):List UInt8:=s.data.toList
theorem KN(s:ByteArray):s.toList=bl s:=ByteArray.toList_eq s
theorem KJ(s:ByteArray):encStr (bl s)=.string s:=by cases s;rfl
theorem eS(x y:List UInt8):decide (x<=y)=true↔¬kE y x<0:=by
 have h:=bytesLess_eq y x;rw[bU]at h;have h2:(kE y x<0)↔y<x:=by simpa using h
 rw[decide_eq_true_eq,h2];exact Iff.rfl
theorem yf:qJ kE:=⟨aK,r8,mT⟩
theorem BP(l:List (List UInt8)):(l.mergeSort λx y=>decide (x<=y)).Pairwise (λx y=>¬kE y x<0):=by
 have g:∀a b d:List UInt8,decide (a<=b)=true->decide (b<=d)=true->decide (a<=d)=true:=λa b d h1 h2=>by
  rw[eS]at *;intro h3;exact h2 (yf.le_trans (a:=d) (b:=a) (d:=b) (yf.asym h3) (by
   by_cases e:a=b
   ·subst e;exact absurd h3 h2
   ·exact yf.flip h1 (λe'=>e e'.symm)))
 have f:∀a b:List UInt8,(decide (a<=b)||decide (b<=a))=true:=λa b=>by
  by_cases h:kE b a<0
  ·have:=(eS b a).2 (yf.asym h);simp only[this,Bool.or_true]
  ·have:=(eS a b).2 h;simp only[this,Bool.true_or]
 exact Pairwise.imp (fun {a b} h=>(eS a b).1 h) (pairwise_mergeSort g f l)
theorem JQ(l:List ByteArray):Lib.compact ((l.map bl).mergeSort λx y=>decide (x<=y))=(kL qS l).map bl:=by
 rw[pJ yf _ (BP _)];have hR:Ris kE ((kL qS l).map bl):=by
  refine pairwise_map.2 (Pairwise.imp (fun {a b} h=>?_) (kQ JC l));have h':kE a.toList b.toList<0:=h
  rwa [KN,KN]at h'
 refine gH yf (kQ yf _) hR λz=>?_;rw[kT yf,(mergeSort_perm _ _).mem_iff];simp only[mem_map,kT JC]
def nZ(L:List xB):List ByteArray:=kL qS (L.map (·.val))
def pairV(s:ByteArray):jO:=⟨s,⟨#[]⟩⟩
theorem listB_len(L:List xB):(nZ L).length<=L.length:=by have:=cX (c:=qS) (L.map (·.val));simpa[nZ]using this
end
section
open Go.RowKit Go.Sort Go.Shelf Go.Lib
@[go_sem ↓] theorem bsStr_rw(n:Nat)(parts:Array (Nat×Value)):Instr.buildSlice 55 n parts=bsS 55 n parts:=rfl
@[go_sem] theorem bsStr_run(w:World)(x:ByteArray):(bsS 55 1 #[(0,.string x)]).run prog w=.ok (.slice (some ⟨w.heap.size,0,none⟩) 1 1) (w.alloc (.cells (ZV x) 9)):=kR
def zR(z:List UInt8):Array Value:=#[encStr z]
theorem strR_zR(S:List ByteArray):S.map ZV=(S.map bl).map zR:=by
 rw[map_map];exact map_congr_left λs _=>by simp[ZV,zR,KJ]
theorem sort_strs(w:World)(B:Nat)(A:Option Addr)(n cap:Nat)(zs:List (List UInt8))(d:Own w B 9 1 A n cap (zs.map zR))(hn:n<=1000000) :
  Calls prog 106 #[.slice A n cap] w λe w'=>e=.returned (.tuple #[])/\Own w' B 9 1 A n cap ((zs.mergeSort λx y=>decide (x<=y)).map zR)/\z8 (blk A) w w':=by
 have hl:zs.length=n:=by simpa using d.len
 rcases d.addr with rfl | ⟨g,rfl⟩
 ·have j:n=0:=(d.cap_le.2 rfl).1;subst j;have hS:zs = []:=eq_nil_of_length_eq_zero hl;subst hS;refine(AnyM.slices_Sort_string_none laySortStr none cap w).mono ?_;rintro e w' ⟨rfl,rfl⟩;exact⟨rfl,by simpa using d,z8.refl _ _⟩
 ·subst hl;have k:g<w.heap.size:=(d.at_base (x:=g) (by simp[blk])).2;refine(AnyM.slices_Sort_string laySortStr g 0 cap zs w (XO (f:=encStr) d) k oM).mono ?_;rintro e w' ⟨rfl,m,os,rfl⟩;obtain⟨h1,h2⟩:=qe (f:=encStr) d lR m (zs.mergeSort λx y=>decide (x<=y)) (zs.mergeSort λx y=>decide (x<=y)) (mergeSort_perm _ _).length_eq (take_of_length_le (Nat.le_of_eq (mergeSort_perm _ _).length_eq)) os;exact⟨rfl,h1,h2.mono (by simp[blk])⟩
theorem vi(zs:List (List UInt8)):(Lib.compact zs).length<=zs.length:=by
 unfold Lib.compact Lib.compactUpTo;rw[length_map];exact Nat.le_trans (length_filter_le _ _) sI
theorem comp_strs(w:World)(B:Nat)(A:Option Addr)(n cap:Nat)(zs:List (List UInt8))(d:Own w B 9 1 A n cap (zs.map zR))(hn:n<=1000000) :
  Calls prog 127 #[.slice A n cap] w λe w'=>e=.returned (.slice A (Lib.compact zs).length cap)/\Own w' B 9 1 A (Lib.compact zs).length cap ((Lib.compact zs).map zR)/\z8 (blk A) w w':=by
 have hl:zs.length=n:=by simpa using d.len
 rcases d.addr with rfl | ⟨g,rfl⟩
 ·have j:n=0:=(d.cap_le.2 rfl).1;subst j;have hS:zs = []:=eq_nil_of_length_eq_zero hl;subst hS;refine(Any.slices_Compact_string_empty layCompStr none cap w).mono ?_;rintro e w' ⟨rfl,rfl⟩;exact⟨rfl,d,z8.refl _ _⟩
 ·subst hl;refine(Any.slices_Compact_string layCompStr g 0 cap zs w (XO (f:=encStr) d) oM (d.cap_le.1)).mono ?_;rintro e w' ⟨rfl,m,rfl⟩;have k:=vi zs;obtain⟨h1,h2⟩:=qe (f:=encStr) d k m (Lib.compact zs++replicate (zs.length-(Lib.compact zs).length) []) (Lib.compact zs) sO sI #[];rw[grow_empty]at h1 h2;exact⟨rfl,h1,h2.mono (by simp[blk])⟩
abbrev OwnL(w:World)(B:Nat)(A:Option Addr)(n cap:Nat)(L:List ByteArray):Prop:=Own w B 179 2 A n cap (L.map λs=>yB (pairV s))
theorem blist(w:World)(g bl_ bg:Nat)(L G:List xB)(h:qQ w g bl_ bg L G)(hn:L.length<=1000000) :
  Calls prog 65 #[.pointer (some ⟨g,0,none⟩)] w λe w'=>∃A cap,e=.returned (.slice A (nZ L).length cap)/\OwnL w' w.heap.size A (nZ L).length cap (nZ L)/\Below w.heap.size w w':=by
 have hc:=h.cell0;have V:=h.lt;have hr:=h.risL;obtain⟨w0,s,hR,b9,c5⟩:=yJ.range (P:=prog) (kv:=Y0) (ok:=okR) h.live underlying172;go_enter func65,ntmps65
 (go_wp2_with fail);refine(QV _ _ _ hc).mono ?_;rintro e w' ⟨rfl,rfl⟩;(go_wp2_with fail);clear s hc;go_loopw [3] (λout wr=>∃(S:List xB) (A:Option Addr) (cap:Nat),out=.slice A S.length cap/\jV wr bl_ w.heap.size Y0 okR L S/\Own wr w0.heap.size 9 1 A S.length cap ((S.map λx=>bl x.val).map zR)/\Below w.heap.size w wr/\w0.heap.size<=wr.heap.size) (λ_ wr=>wr.rangeLeft bl_ w.heap.size)
 case atStart=>exact⟨[],none,0,rfl,hR,Own.nil _ _ _ _,b9,lR⟩
 case round =>
  obtain⟨S,A,cap,rfl,hR,d,hb,c4⟩:=hrel;rcases hR.next (P:=prog) 0 with⟨hall,a4,s⟩ | ⟨x,w1,hxL,hxS,s,hR1,hk1,hs1,hl1,hen⟩
  ·have hp:S.Perm L:=(perm_ext_iff_of_nodup a4 (hr.nodup tL)).2 hall;have b1:=hp.length_eq;have F:=sort_strs wr w0.heap.size A S.length cap _ d oM;have a7:=dH hall;have c3:=dH b1;clear hall b1 hp;(go_wp2_with fail);refine F.mono ?_;rintro e w2 ⟨rfl,f,a9⟩;clear s;have r:=comp_strs w2 w0.heap.size A S.length cap _ f (oH c3.out);have hz:Lib.compact ((S.map λx=>bl x.val).mergeSort λx y=>decide (x<=y))=(nZ L).map bl:=by
    have e1:(S.map λx=>bl x.val)=(S.map (·.val)).map bl:=by rw[map_map];rfl
    rw[e1,JQ];congr 1
    exact nN JC λz=>by simp only[mem_map,a7.out]
   rw[hz,<-strR_zR,length_map]at r;have b4:=listB_len L;obtain⟨N,hN⟩:=eX (nZ L)
   rw[hN]at r b4;have HN:=dH hN;clear hz F hN;(go_wp2_with fail);refine r.mono ?_;rintro e w3 ⟨rfl,D,b6⟩;have b0:Below w.heap.size w w3:=(hb.trans (a9.below (B:=w.heap.size) oM λx hx=>oH ((d.at_base hx).1))).trans (b6.below (B:=w.heap.size) (by have:=hb.size;have:=a9.size;omega) λx hx=>oH ((d.at_base hx).1));have b3:=D.slr;have T:=D.addr;clear f D d r;(go_wp2_with fail);go_loopw [5,29] (λout i wr=>∃(k:Nat) (A:Option Addr) (cap:Nat),k<=N.length/\i=.int .i64 k/\out=.slice A k cap/\OwnL wr w3.heap.size A k cap (N.take k)/\Below w3.heap.size w3 wr) (λ_ i _=>N.length-(intOf i).toNat)
   case atStart=>exact⟨0,none,0,zL,rfl,rfl,Own.nil _ _ _ _,Below.refl _ _⟩
   case round =>
    obtain⟨k,A',cap',hk,rfl,rfl,d,X⟩:=hrel;by_cases V:k<N.length
    ·obtain⟨q,o,rfl,a3⟩:=(b3.below X).at_ V;obtain rfl:o=0:=by
      rcases T with e | ⟨g',e⟩
      ·cases e
      ·injection e with e;injection e
     rw[getElem_map]at a3;have E:=zB a3 (j:=0) oM;have a0:N.take (k+1)=N.take k ++ [N[k]]:=by rw[take_add_one,getElem?_eq_getElem V];rfl
     obtain⟨x,hx⟩:=eX (N[k]'V)
     rw[hx]at E a0;have a5:wr.cell? ⟨q,k,none⟩=some (.string x):=by simpa[ZV]using E
     have c2:=dH a0;clear hx E a3 a0;have a1:=X.size;have H:Below wr.heap.size wr (wr.alloc (.cells (yB ⟨x,⟨#[]⟩⟩) 179)):=bA;have f:=d.below H;have t:z9 (wr.alloc (.cells (yB ⟨x,⟨#[]⟩⟩) 179)) wr.heap.size 0 2=some (yB ⟨x,⟨#[]⟩⟩):=by simp[go_sem]
     go_wp2_with (at_builtin;refine xS kW rfl f rfl t (g9 _) oM oM sO ?_;intro A2 a6 w4 m J O)
     have Y:Below w3.heap.size w3 w4:=X.trans ((H.mono a1).trans (J.below (B:=w3.heap.size) sO λy hy=>(d.at_base hy).1));(go_wp2_with fail);go_roundw
     case rel=>exact⟨k+1,A2,a6,oM,by go_num,rfl,by rw[c2.out];show Own _ _ _ _ _ _ _ _;rw[map_append];exact m,Y⟩
     case measure=>exact sZ
    ·(go_wp2_with fail);go_ret;have e:k=N.length:=oM;subst e;rw[take_length]at d;rw[HN.out];exact⟨A',cap',rfl,d.mono b0.size,yM b0 X⟩
  ·have c7:S.length+1<=1000000:=by
    obtain⟨M,Z,hZ,b5,_,c0,a4⟩:=hR1;have h1:=hZ.length;have h2:(Z.map (·.1)).length=(S ++ [x]).length:=by rw[c0]
    have h3:(M.map (·.1)).length<=L.length:=gA a4 (λy hy=>(b5 y).1 hy);simp at h2 h3;omega
   have R:Own w1 w0.heap.size 9 1 A S.length cap ((S.map λx=>bl x.val).map zR):=d.kept hk1 (λy hy=>oS ((d.at_base hy).1));have b8:Below w.heap.size w w1:=hb.trans (hk1.below (B:=w.heap.size) oM sI);have H:Below w1.heap.size w1 ((w1.alloc (.cells (zZ x) 176)).alloc (.cells (ZV x.val) 9)):=(bA).alloc sI _;have f:=R.below H;have t:z9 ((w1.alloc (.cells (zZ x) 176)).alloc (.cells (ZV x.val) 9)) (w1.heap.size+1) 0 1=some (ZV x.val):=by simp[go_sem,ZV]
   change (Instr.next _ _ _).run prog wr=.ok (.tuple #[.bool true,.agg (zZ x),.bool true]) w1 at s;change (Instr.entry _).run prog w1=.ok (.tuple #[.agg (zZ x),.bool true]) w1 at hen;have U:=dH hs1;clear hs1;go_wp2_with (at_builtin;refine xS einfoStr rfl f rfl t (strR_one _) oM oM (by simp;have:=U.out;omega) ?_;intro A' cap' w2 m J O)
   have Y:bl_∉blk A:=λhx=>(oH ((d.at_base hx).1));have a8:w.heap.size∉blk A:=λhx=>(oH ((d.at_base hx).1));have I:=hR1.kept (z8.of_below H) sI sI;have c1:=I.kept J Y a8;have c6:w2.rangeLeft bl_ w.heap.size=w1.rangeLeft bl_ w.heap.size :=
    (q8 J Y a8 I.lt.2 I.lt.1).trans (q8 (z8.of_below H) sI sI hR1.lt.2 hR1.lt.1)
   have a2:w0.heap.size<=w2.heap.size:=by
    have e1:=H.size;have e2:=J.size;have e3:=U.out;omega
   have b7:Below w.heap.size w w2:=b8.trans ((H.mono (oH U.out)).trans (J.below (B:=w.heap.size) (by simp;have:=U.out;omega) λy hy=>oH ((d.at_base hy).1)));have b2:(S.map λx=>bl x.val).map zR ++ [ZV x.val]=((S ++ [x]).map λx=>bl x.val).map zR:=by simp[zR,ZV,KJ]
   rw[b2]at m;clear s hen b2;(go_wp2_with fail);go_roundw
   case rel=>exact⟨S ++ [x],A',cap',sI,c1,by simpa using m,b7,a2⟩
   case measure=>omega
end
section
open Go.RowKit Go.Sort Go.Maps
def YP(_:Value):Option (DataW Unit×List MemPlace):=some (.nil,[])
theorem xC.owns{b:Nat}{L:List jC}(h:xC w g b L)(hn:L.length<=1000000) :
  ∃D0:DataW Unit,w.ownsMap prog 9 YP b L.length D0/\Maps.size D0<=1000000/\(strKeys D0).Perm (L.map λp=>p.1.data.toList):=by
 obtain⟨M,es,y,hm,hp⟩:=h.map;have t:es.size=L.length:=by rw[hm.length,hp.length_eq]
 have f:∀e∈es.toList,∃k:ByteArray,e.key=.string k/\k.size<=maxLen:=by
  intro e he;obtain⟨j,hj,rfl⟩:=mem_iff_getElem.1 he;obtain⟨p,hp,hk,_⟩:=hm.at_key (getElem?_eq_getElem hj);exact⟨p.1,hk,hm.okk p (mem_of_getElem? hp)⟩
 have m:∀e∈es.toList,∀k:ByteArray,e.key=.string k->k.size<=maxLen->WideElems.rd prog 9 YP e=some (.string k.data.toList,.nil):=by
  intro e _ k hk d;simp[WideElems.rd,hk,keyOf,mapKey,underlying9,d,YP]
 refine⟨_,⟨es,y,hm.heap,⟨?_,?_,?_⟩,oM,rfl⟩,?_,?_⟩
 ·simp only[maxLen];omega
 ·rw[MapKept.stamped_iff];refine⟨hm.clock,hm.born,?_⟩;have s:(es.toList.map (·.key)).Pairwise (·≠·):=by
   rw[hm.keys];have h2:=hm.nodup;rw[Nodup,pairwise_map]at h2;rw[pairwise_map];exact h2.imp λh e=>h (by injection e)
  rw[pairwise_map]at s;exact s
 ·intro e he;obtain⟨k,hk,d⟩:=f e he;exact⟨_,m e he k hk d⟩
 ·show(foldr DataW.insert [] _).length<=_;rw[(WideShapes.sorted_perm _).length_eq]
  simp;omega
 ·have h1:(strKeys (DataW.map (foldr DataW.insert [] (es.toList.map (WideElems.rg prog 9 YP))))).Perm ((es.toList.map (WideElems.rg prog 9 YP)).map λp=>strOf p.1) :=
   (WideShapes.sorted_perm _).map _
  refine h1.trans ?_;have h2:((es.toList.map (WideElems.rg prog 9 YP)).map λp=>strOf p.1)=M.map λp=>p.1.data.toList:=by
   rw[map_map];apply ext_getElem?;intro n;rw[getElem?_map,getElem?_map];cases he:es.toList[n]? with
   | none =>
    have:M[n]?=none:=by
     rw[List.getElem?_eq_none_iff]at he |-;have:=hm.length;simp at he;omega
    rw[this];rfl
   | some e =>
    obtain⟨p,r,hk,_⟩:=hm.at_key he;rw[r];have hr:=m e (mem_of_getElem? he) p.1 hk (hm.okk p (mem_of_getElem? r));simp[WideElems.rg_of hr,strOf]
  rw[h2];exact hp.map _
theorem leB_cmp(x y:List UInt8):leB x y=true↔¬kE y x<0:=by
 have h:=bytesLess_eq y x;rw[bU]at h;have h2:(kE y x<0)↔y<x:=by simpa using h
 show decide (x<=y)=true↔_;rw[decide_eq_true_eq,h2];exact Iff.rfl
theorem rO:∀ {L:List jC},wU L->(L.map λp=>p.1.data.toList).Pairwise (λx y=>leB x y=true)
 | [],_=>by simp
 | x :: l,h=>by
  rw[map_cons,pairwise_cons];refine⟨λy hy=>?_,rO h.2⟩;obtain⟨z,hz,rfl⟩:=mem_map.1 hy;rw[leB_cmp];have h1:=h.1 z hz;have h2:=cmpS_asym h1;unfold qS at h2
  rwa [ByteArray.toList_eq,ByteArray.toList_eq]at h2
theorem yt{L:List jC}(h:wU L)(hp:ss.Perm (L.map λp=>p.1.data.toList)) :
  (ss.mergeSort (λx y=>decide (x<=y))).map encStr=L.map λp=>Value.string p.1:=by
 have e:ss.mergeSort leB=(L.map λp=>p.1.data.toList).mergeSort leB:=mergeSort_of_perm hp;have e2:(L.map λp=>p.1.data.toList).mergeSort leB=L.map λp=>p.1.data.toList:=mergeSort_of_pairwise (rO h);have e3:ss.mergeSort (λx y=>decide (x<=y))=L.map λp=>p.1.data.toList:=e.trans e2;rw[e3,map_map];rfl
theorem lkeys(w:World)(g b:Nat)(L:List jC)(h:xC w g b L)(hn:L.length<=1000000) :
  Calls prog 129 #[.map (some b)] w λe w'=>∃v,e=.returned v/\w'.ownsRow w.heap.size 9 1 v L.length (L.map λp=>.string p.1)/\Below w.heap.size w w':=by
 obtain⟨D0,k,A,f⟩:=h.owns hn;have c1:=callsIn_wide.1 (maps_Keys_186 (some b) w);have c2:=callsIn_wide.1 (slices_Sorted_keys_46_186 b L.length D0 YP w k (by simp only[maxLen];omega) oM);go_enter func129,ntmps129
 (go_wp2_with fail);refine c1.mono ?_;rintro e w' ⟨rfl,rfl⟩;(go_wp2_with fail);refine c2.mono ?_;rintro e w' ⟨v,ss,rfl,hS,d,s,hb⟩;(go_wp2_with fail);go_ret;have r:=hS.trans f;rw[yt h.rows.1 r]at d;have m:ss.length=L.length:=by rw[r.length_eq,length_map]
 rw[m]at d;have t:Below w.heap.size w (w.alloc (.cells #[.map (some b)] 181)):=bA;refine⟨v,rfl,?_,yM t hb⟩;obtain⟨r1,r2⟩:=d;refine⟨r1,?_⟩;rcases r2 with r2 | ⟨q,cap,y,hv,hq,j⟩
 ·exact .inl r2
 ·exact .inr ⟨q,cap,y,hv,by simp at hq;omega,j⟩
end
theorem xC.look1{b:Nat}{L:List jC}(h:xC w g b L){p:jC}(hp:p∈L) :
  (Instr.lookup 181 (.map (some b)) (.string p.1) false).run prog w=.ok (.agg (zK p.2)) w:=by
 obtain⟨M,es,f,hm,d⟩:=h.map;have hk:=(lV (h.rows.2 p hp)).1;exact hm.hit dB underlying181 (by simp only[maxLen];omega) (d.mem_iff.2 hp) false
def pairOf(p:jC):jO:=⟨p.1,p.2.val⟩
def VV(L:List jC):List (Array Value):=L.map λp=>yB (pairOf p)
theorem row_keys{v:Value}{L:List jC}(h:w.ownsRow B 9 1 v n (L.map λp=>.string p.1))(hn:n=L.length) :
  ∃A cap,v=.slice A n cap/\((A=none/\n=0)\/∃g,A=some ⟨g,0,none⟩/\B<=g/\g<w.heap.size/\∀i (hi:i<L.length),w.cell? ⟨g,i,none⟩=some (.string (L[i]).1)):=by
 obtain⟨h1,h2⟩:=h;rcases h2 with⟨rfl,h0⟩ | ⟨g,c,cur,rfl,hb,hg,hnc,hcm,hcs,htake⟩
 ·exact⟨none,0,by rw[h0],.inl ⟨rfl,h0⟩⟩
 ·refine⟨some ⟨g,0,none⟩,c,rfl,.inr ⟨g,rfl,hb,(aG hg).1,?_⟩⟩;intro i hi;rw[cell_of_row w g i _ _ _ hg];have e1:=congrArg (λl=>l[i]?) htake;simp only[getElem?_take,getElem?_map]at e1;rw[if_pos oM,getElem?_eq_getElem hi]at e1;simpa using e1
theorem llist(w:World)(g b:Nat)(L:List jC)(h:xC w g b L)(hn:L.length<=1000000) :
  Calls prog 66 #[.pointer (some ⟨g,0,none⟩)] w λe w'=>∃A cap,e=.returned (.slice A L.length cap)/\Own w' w.heap.size 179 2 A L.length cap (VV L)/\Below w.heap.size w w':=by
 have hc:=h.cell;go_enter func66,ntmps66
 (go_wp2_with fail);refine(wN _ _ _ hc).mono ?_;rintro e w' ⟨rfl,rfl⟩;(go_wp2_with fail);refine(lkeys _ _ _ _ h hn).mono ?_;rintro e w1 ⟨v,rfl,m,hb⟩;obtain⟨KA,kc,rfl,d⟩:=row_keys m rfl;have h1:=h.below hb;have Hk:=dH d;clear d m hc;(go_wp2_with fail);go_loopw [3,14] (λout i wr=>∃k A cap,k<=L.length/\i=.int .i64 (k:Nat)/\out=.slice A k cap/\Own wr w1.heap.size 179 2 A k cap (VV (L.take k))/\Below w1.heap.size w1 wr) (λ_ i _=>L.length-(intOf i).toNat)
 case atStart=>exact⟨0,none,0,zL,rfl,rfl,Own.nil _ _ _ _,Below.refl _ _⟩
 case round =>
  obtain⟨k,A,cap,hk,rfl,rfl,f,y⟩:=hrel;by_cases D:k<L.length
  ·obtain⟨q,rfl,hq,J,d⟩:∃q,KA=some ⟨q,0,none⟩/\w.heap.size<=q/\q<w1.heap.size/\Hid (∀i (hi:i<L.length),w1.cell? ⟨q,i,none⟩=some (.string (L[i]).1)):=by
    rcases Hk.out with⟨_,h0⟩ | h
    ·omega
    ·exact h
   have t:=(y.cell (p:=⟨q,k,none⟩) J).trans (d.out k D);have hr:=h1.below y;have O:=hr.cell;have hl:=hr.look1 (getElem_mem D);have E:VV (L.take (k+1))=VV (L.take k) ++ [yB (pairOf L[k])]:=by rw[take_add_one,getElem?_eq_getElem D];exact map_append
   have H:=dH E;clear E hr d Hk;obtain⟨⟨pk,ps⟩,hp⟩:∃p,L[k]=p:=⟨_,rfl⟩
   have Hp:=dH hp;rw[hp]at t hl H;clear hp;have G:Below wr.heap.size wr (wr.alloc (.cells (yB ⟨pk,ps.val⟩) 179)):=bA;have s:=f.below G;have j:z9 (wr.alloc (.cells (yB ⟨pk,ps.val⟩) 179)) wr.heap.size 0 2=some (yB ⟨pk,ps.val⟩):=by simp[go_sem]
   have I:=y.size;go_wp2_with (at_builtin;refine xS kW rfl s rfl j (g9 _) oM oM sO ?_;intro A' cap' w2 r M F)
   have N:Below w1.heap.size w1 w2:=y.trans ((G.mono I).trans (M.below (B:=w1.heap.size) sO λx hx=>(f.at_base hx).1));(go_wp2_with fail);go_roundw
   case rel=>exact⟨k+1,A',cap',oM,by go_num,rfl,by rw[H.out];exact r,N⟩
   case measure=>exact sZ
  ·(go_wp2_with fail);go_ret;have e:k=L.length:=oM;subst e;rw[take_length]at f;exact⟨A,cap,rfl,f.mono hb.size,yM hb y⟩
section
open Go.RowKit Go.Sort Go.Shelf
@[go_sem] theorem bsIdZ_run(w:World):(bsS 33 0 #[]).run prog w=.ok (.slice (some ⟨w.heap.size,0,none⟩) 0 0) (w.alloc (.cells #[] 23)):=run_bsS0 yO w
instance:Inhabited zA:=⟨id0⟩
theorem Q7(w:World):(isAgg 23).run prog w=.ok true w:=by simp[isAgg,run_underlying underlying23]
theorem JF(w:World):(Go.sizeOf 23).run prog w=.ok 32 w:=by
 have h:=xP;cases hi:prog.info? 23 with
 | none=>rw[hi]at h;cases h
 | some i =>
  rw[hi]at h;have hk:i.size=32:=by simpa using h
  simp[Go.sizeOf,typeInfo,hi,hk]
theorem m7:qJ yC:=vM
theorem sort_ids(w:World)(B:Nat)(A:Option Addr)(n cap:Nat)(S L:List (zA))(d:Own w B 23 32 A n cap (S.map idC))(hp:S.Perm L)(hr:Ris yC L)(hn:L.length<=1000000) :
  Calls prog 102 #[.slice A n cap,.func (.func 156) #[] #[]] w λe w'=>e=.returned (.tuple #[])/\Own w' B 23 32 A n cap (L.map idC)/\z8 (blk A) w w':=by
 have hl:S.length=n:=by simpa using d.len
 have k:=hp.length_eq;rcases d.addr with rfl | ⟨g,rfl⟩
 ·have r:n=0:=(d.cap_le.2 rfl).1;subst r;have hS:S = []:=eq_nil_of_length_eq_zero hl;subst hS;have hL:L = []:=eq_nil_of_length_eq_zero k.symm;subst hL;refine(AnyF.slices_SortFunc_none laySortId none cap (.func (.func 156) #[] #[]) w).mono ?_;rintro e w' ⟨rfl,rfl⟩;exact⟨rfl,d,z8.refl _ _⟩
 ·subst hl;have hH:=own_holds (enc:=idC) oM xM d;have j:CmpLays prog 156 #[] (λx:zA=>(idC x).toList) 32 yC g 0 S.toArray.size w:=λm os dk _ x y=>aF x y _;have s:g<w.heap.size:=(d.at_base (x:=g) (by simp[blk])).2;have f:=AnyQ.slices_SortFunc_total laySortId 32 Q7 JF (λx:zA=>(idC x).toList) sI (λx v hv=>yN x v hv) yC (swo_of m7) 156 #[] g 0 cap S.toArray w
   (enters_of func156 kR rfl) j hH s sO (λx y h1 h2=>by
    simp only[ltOf,decide_eq_false_iff_not]at h1 h2;exact Classical.byContradiction λe=>h2 ((m7).flip h1 e))
  have e1:S.toArray.size=S.length:=sI;rw[e1]at f;refine f.mono ?_;rintro e w' ⟨rfl,n,os,rfl⟩;have e2:(S.toArray.toList.mergeSort λx y=>!(ltOf yC y x))=L:=rU m7 hr hp;rw[e2];obtain⟨h1,h2⟩:=sH (enc:=idC) oM xM d n L k.symm os;exact⟨rfl,h1,h2.mono (by simp[blk])⟩
theorem r9(w:World)(A:Option Addr)(n cap:Nat)(R:List zA)(h:zW w A n R)(hn:n<=1000000)(hA:A=none->cap=0) :
  Calls prog 61 #[.slice A n cap] w λe w'=>∃A' cap',e=.returned (.slice A' n cap')/\Own w' w.heap.size 23 32 A' n cap' (R.map idC)/\Below w.heap.size w w':=by
 have D:∀(w:World) (a:Option Addr) (n c n' c':Nat),(binOp .eql 33 (.slice a n c) (.slice none n' c') ).run prog w=.ok (.bool a.isNone) w:=λw a n c n' c'=>Lib.run_eql_slice_nil w _ _ a n c n' c' underlying33;have j:R.length=n:=by simpa using h.1
 cases A with
 | none =>
  have E:n=0:=by
   rcases Nat.eq_zero_or_pos n with e | e
   ·exact e
   ·obtain⟨g,o,e',_⟩:=h.2 e;cases e'
  subst E;have hR:R = []:=eq_nil_of_length_eq_zero j;subst hR;clear h j;go_enter func61,ntmps61
  (go_wp2_with fail);go_ret;exact⟨none,0,rfl,Own.nil _ _ _ _,Below.refl _ _⟩
 | some a =>
  have B:Below w.heap.size w (w.alloc (.cells #[] 23)):=bA;have f:=Own.empty w w.heap.size 23 32 lR;have t:SlR (w.alloc (.cells #[] 23)) (some a) n 32 (R.map idC):=SlR.below h B;have m:∀r∈R.map idC,∀u∈r.toList,u.oneCell'=true:=by
   intro r hr;obtain⟨x,_,rfl⟩:=mem_map.1 hr;exact yN x
  clear j;go_enter func61,ntmps61
  go_wp2_with (at_builtin;refine m6 yO rfl f rfl t hA m oM oM sI ?_;intro A2 s w2 d y k)
  simp only[Nat.zero_add,nil_append]at d;have F:Below w.heap.size w w2:=B.trans (y.below sI (by simp[blk]));clear f t y k h;(go_wp2_with fail);go_ret;exact⟨A2,s,sI,d,F⟩
theorem vj(w:World)(A:Option Addr)(n cap:Nat)(R:List zA)(h:zW w A n R)(hr:Ris yC R)(hn:n<=1000000) :
  Calls prog 176 #[.slice A n cap] w λe w'=>e=.returned (.slice A n cap)/\Below w.heap.size w w':=by
 have s:R.length=n:=h.len;have d:=dH s;clear s;go_enter func176,ntmps176
 by_cases h2:n<2
 ·(go_wp2_with fail);go_ret;exact⟨rfl,Below.refl _ _⟩
 ·(go_wp2_with fail);go_loopw [3] (λi wr=>∃k:Nat,1<=k/\k<=n/\i=.int .i64 k/\Below w.heap.size w wr) (λi _=>n-(intOf i).toNat)
  case atStart=>exact⟨1,lR,oM,rfl,Below.refl _ _⟩
  case round =>
   obtain⟨k,G,hk,rfl,hb⟩:=hrel;by_cases r:k<n
   ·obtain⟨q,o,rfl,g⟩:=zW.get (SlR.below h hb) r (by rw[d.out];exact r);obtain⟨q',o',e',f⟩:=zW.get (SlR.below h hb) (i:=k-1) oM (by rw[d.out];omega);injection e' with e'
    injection e' with e1 e2
    subst e1;subst e2;have m:R[k]'(by rw[d.out];exact r)≠R[k-1]'(by rw[d.out];omega):=λe=>by
     have:=YB hr (i:=k-1) (j:=k) oM (by rw[d.out];exact r);rw[e,sU]at this;omega
    obtain⟨x,hx⟩:=eX (R[k]'(by rw[d.out];exact r))
    obtain⟨y,hy⟩:=eX (R[k-1]'(by rw[d.out];omega))
    rw[hx]at g m;rw[hy]at f m;have E:(x==y)=false:=by rw[beq_eq_false_iff_ne];exact m
    have B:((k:Int)-1)=((k-1:Nat):Int):=oM;obtain⟨k1,t⟩:=eX (k-1)
    rw[t]at f B;have D:k1<n:=oM;have F:IntKind.i64.wrap (k1:Int)=(k1:Int):=IntWalk.i64_in _ oM;have H:=dH t;clear hx hy m t;go_upto_region 6 with fail
    refine lX wr ?_;intro m hS;have b1:=zV g;have b2:=zV f;refine lZ ?_;refine zC ?_;intro hS;clear m hS b1 b2 g f;(go_wp2_with fail);go_roundw
    case rel=>exact⟨k+1,oM,oM,by go_num,hb.drew⟩
    case measure=>exact sZ
   ·(go_wp2_with fail);go_ret;exact⟨rfl,hb⟩
theorem iX(w:World)(A:Option Addr)(n cap:Nat)(S L:List zA)(h:zW w A n S)(hp:S.Perm L)(hr:Ris yC L)(hn:n<=1000000)(hA:A=none->cap=0) :
  Calls prog 108 #[.slice A n cap] w λe w'=>∃A' cap',e=.returned (.slice A' L.length cap')/\Own w' w.heap.size 23 32 A' L.length cap' (L.map idC)/\Below w.heap.size w w':=by
 have k:L.length=n:=by rw[<-hp.length_eq];exact h.len
 have c1:=r9 w A n cap S h hn hA;go_enter func108,ntmps108
 (go_wp2_with fail);refine c1.mono ?_;rintro e w1 ⟨A1,g,rfl,f,r⟩;have c2:=sort_ids w1 w.heap.size A1 n g S L f hp hr oM;clear c1;(go_wp2_with fail);refine c2.mono ?_;rintro e w2 ⟨rfl,d,t⟩;have B:Below w.heap.size w w2:=r.trans (t.below r.size (λx hx=>(f.at_base hx).1));have c3:=vj w2 A1 n g L d.slr hr hn;clear c2;(go_wp2_with fail);refine c3.mono ?_;rintro e w3 ⟨rfl,m⟩;have j:=d.below m;have y:=yM B m;have s:=dH k;clear c3 k;(go_wp2_with fail);go_ret;exact⟨A1,g,by rw[s.out];rfl,by rw[s.out];exact j,y⟩
end
section
open Go.RowKit Go.Sort Go.Shelf
theorem iV(w:World):(isAgg 189).run prog w=.ok true w:=by simp[isAgg,run_underlying underlying189]
theorem ZY(w:World):(Go.sizeOf 189).run prog w=.ok 34 w:=by
 have h:=QB;cases hi:prog.info? 189 with
 | none=>rw[hi]at h;cases h
 | some i =>
  rw[hi]at h;have hk:i.size=34:=by simpa using h
  simp[Go.sizeOf,typeInfo,hi,hk]
theorem wG:qJ jU:=YT
theorem sort_mrows(w:World)(B:Nat)(A:Option Addr)(n cap:Nat)(S L:List (qN))(d:Own w B 189 34 A n cap (S.map zQ))(hp:S.Perm L)(hr:Ris jU L)(hn:L.length<=1000000) :
  Calls prog 188 #[.slice A n cap,.func (.func 189) #[] #[]] w λe w'=>e=.returned (.tuple #[])/\Own w' B 189 34 A n cap (L.map zQ)/\z8 (blk A) w w':=by
 have hl:S.length=n:=by simpa using d.len
 have k:=hp.length_eq;rcases d.addr with rfl | ⟨g,rfl⟩
 ·have r:n=0:=(d.cap_le.2 rfl).1;subst r;have hS:S = []:=eq_nil_of_length_eq_zero hl;subst hS;have hL:L = []:=eq_nil_of_length_eq_zero k.symm;subst hL;refine(AnyF.slices_SortFunc_none laySortW none cap (.func (.func 189) #[] #[]) w).mono ?_;rintro e w' ⟨rfl,rfl⟩;exact⟨rfl,d,z8.refl _ _⟩
 ·subst hl;have hH:=own_holds (enc:=zQ) oM gC d;have j:CmpLays prog 189 #[] (λx:qN=>(zQ x).toList) 34 jU g 0 S.toArray.size w:=λm os dk _ x y=>morder x y _;have s:g<w.heap.size:=(d.at_base (x:=g) (by simp[blk])).2;have f:=AnyQ.slices_SortFunc_total laySortW 34 iV ZY (λx:qN=>(zQ x).toList) sI (λx v hv=>lM x v hv) jU (swo_of wG) 189 #[] g 0 cap S.toArray w
   (enters_of func189 kR rfl) j hH s sO (λx y h1 h2=>by
    simp only[ltOf,decide_eq_false_iff_not]at h1 h2;exact Classical.byContradiction λe=>h2 ((wG).flip h1 e))
  have e1:S.toArray.size=S.length:=sI;rw[e1]at f;refine f.mono ?_;rintro e w' ⟨rfl,n,os,rfl⟩;have e2:(S.toArray.toList.mergeSort λx y=>!(ltOf jU y x))=L:=rU wG hr hp;rw[e2];obtain⟨h1,h2⟩:=sH (enc:=zQ) oM gC d n L k.symm os;exact⟨rfl,h1,h2.mono (by simp[blk])⟩
theorem msorted(wS:World)(g b bo:Nat)(L:List qN)(O:List zA)(h:xN wS g b bo L O)(hn:L.length<=1000000) :
  Calls prog 130 #[.pointer (some ⟨g,0,none⟩)] wS λe w'=>∃A cap,e=.returned (.slice A L.length cap)/\Own w' wS.heap.size 189 34 A L.length cap (L.map zQ)/\Below wS.heap.size wS w':=by
 have a7:=h.live.lt;have hc:=h.cell0;have hr:=h.risX;obtain⟨w0,j,hR,U,a5⟩:=yJ.range (P:=prog) (kv:=nA) (ok:=okM) h.live underlying262;go_enter func130,ntmps130
 (go_wp2_with fail);refine(XW wS g b hc).mono ?_;rintro e w1 ⟨rfl,rfl⟩;(go_wp2_with fail);clear j hc h;go_loopw [3] (λout wr=>∃S A cap,out=.slice A S.length cap/\jV wr b wS.heap.size nA okM L S/\Own wr w0.heap.size 189 34 A S.length cap (S.map zQ)/\Below wS.heap.size wS wr/\w0.heap.size<=wr.heap.size) (λ_ wr=>wr.rangeLeft b wS.heap.size)
 case atStart=>exact⟨[],none,0,rfl,hR,Own.nil _ _ _ _,U,lR⟩
 case round =>
  obtain⟨S,A,cap,rfl,hR,d,hb,a4⟩:=hrel;rcases hR.next (P:=prog) 0 with⟨hall,H,j⟩ | ⟨x,w1,hxL,hxS,j,hR1,hk1,hs1,hl1,hen⟩
  focus
   have hp:S.Perm L:=(perm_ext_iff_of_nodup H (hr.nodup YT)).2 hall;have R:=hp.length_eq;have a2:=dH hall;have a3:=dH R;clear hall R;have m:=sort_mrows wr w0.heap.size A S.length cap S L d hp hr hn;(go_wp2_with fail);refine m.mono ?_;rintro e w2 ⟨rfl,f,V⟩;clear j;(go_wp2_with fail);go_ret;rw[a3.out]at f |-;exact⟨A,cap,rfl,f.mono oM,hb.trans (V.below (B:=wS.heap.size) oM λx hx=>oH ((d.at_base hx).1))⟩
  have a8:S.length+1<=1000000:=by
   obtain⟨M,Z,hZ,T,_,a0,H⟩:=hR1;have h1:=hZ.length;have h2:(Z.map (·.1)).length=(S ++ [x]).length:=by rw[a0]
   have h3:(M.map (·.1)).length<=L.length:=gA H (λy hy=>(T y).1 hy);simp at h2 h3;omega
  have s:Own w1 w0.heap.size 189 34 A S.length cap (S.map zQ):=d.kept hk1 (λy hy=>oS ((d.at_base hy).1));have Y:Below wS.heap.size wS w1:=hb.trans (hk1.below (B:=wS.heap.size) oM sI);have D:Below w1.heap.size w1 ((w1.alloc (.cells (zQ x) 189)).alloc (.cells (zQ x) 189)):=(bA).alloc sI _;have f:=s.below D;have r:z9 ((w1.alloc (.cells (zQ x) 189)).alloc (.cells (zQ x) 189)) (w1.heap.size+1) 0 34=some (zQ x):=by simp[go_sem]
  change (Instr.next _ _ _).run prog wr=.ok (.tuple #[.bool true,.agg (zQ x),.bool true]) w1 at j;change (Instr.entry _).run prog w1=.ok (.tuple #[.agg (zQ x),.bool true]) w1 at hen;have F:=dH hs1;clear hs1;go_wp2_with (at_builtin;refine xS r5 rfl f rfl r (lM _) oM oM (by simp;have:=F.out;omega) ?_;intro A' cap' w2 t E I)
  have N:b∉blk A:=λhx=>(oH ((d.at_base hx).1));have J:wS.heap.size∉blk A:=λhx=>(oH ((d.at_base hx).1));have k:=hR1.kept (z8.of_below D) sI sI;have a1:=k.kept E N J;have a6:w2.rangeLeft b wS.heap.size=w1.rangeLeft b wS.heap.size :=
   (q8 E N J k.lt.2 k.lt.1).trans (q8 (z8.of_below D) sI sI hR1.lt.2 hR1.lt.1)
  have G:w0.heap.size<=w2.heap.size:=by
   have e1:=D.size;have e2:=E.size;have e3:=F.out;omega
  have X:Below wS.heap.size wS w2:=Y.trans ((D.mono (oH F.out)).trans (E.below (B:=wS.heap.size) (by simp;have:=F.out;omega) λy hy=>oH ((d.at_base hy).1)));clear j hen;(go_wp2_with fail);go_roundw
  case rel=>exact⟨S ++ [x],A',cap',sI,a1,by simpa using t,X,G⟩
  case measure=>omega
end
@[go_sem ↓] theorem slPair_rw(x:Value)(lo hi mx:Option Value):Instr.sliceAt 37 x lo hi mx=slS 37 x lo hi mx:=rfl
section
section
variable {P:Program} {T E:TypeId} {k bytes:Nat}
theorem J8(hz:0<z.size)(h1:∀u∈z.toList,u.oneCell'=true):∀u∈(Builtin.zeroCells z n).toList,u.oneCell'=true:=by
 intro u hu;unfold Builtin.zeroCells at hu;simp only[Array.toList_map,mem_map]at hu;obtain⟨i,_,rfl⟩:=hu;have hi:i % z.size<z.size:=Nat.mod_lt _ hz;rw[getElem!_pos z _ hi];exact h1 _ sI
theorem VL(I:yT P T E k bytes){z:Value}(hz:(P.info? E).bind (·.zero)=some z)(a0:∀u∈z.cells.toList,u.oneCell'=true){m:Nat}(h:Own w B E k (some ⟨g,0,none⟩) n cap L)(hm:m<=n)(ty:TypeId) :
  ∃A2 c2,(∀w0:World,(slS T (.slice (some ⟨g,0,none⟩) n cap) (some (.int .i64 m)) none none).run P w0=.ok (.slice A2 (n-m) c2) w0) /\
   ∃w',(Builtin.clear_ #[T] ty #[.slice A2 (n-m) c2]).run P w=.ok (.tuple #[]) w'/\Own w' B E k (some ⟨g,0,none⟩) m cap (L.take m)/\z8 [g] w w':=by
 have hA:=h.cap_le;have F:∀w0:World,(slS T (.slice (some ⟨g,0,none⟩) n cap) (some (.int .i64 m)) none none).run P w0=.ok (.slice (if cap=m then some ⟨g,0,none⟩ else some ⟨g,m*k,none⟩) (n-m) (cap-m)) w0:=by
  intro w0;rw[wZ I];unfold Instr.slice Instr.sliceBounds;simp only[Sem.run_bind,run_underlying I.und,Result.andThen_ok,Sem.run_pure,k9 w0 m n hm,I.sizeOf_run w0,Option.isSome_none,Bool.false_eq_true,if_false];congr 3
  show some ((⟨g,0,none⟩:Addr).add (m*k))=_;unfold Addr.add;split <;> simp_all
 refine⟨_,_,F,?_⟩;have N:=h;have a5:=j3 L k h.size;have hL:=h.len;have b2:=h.size;obtain⟨⟨h1,h2⟩,_,hs⟩:=h;rcases h2 with⟨h2,_⟩ | ⟨g',c,cur,hv,hb,hg,hnc,hcm,hcsz,htake⟩
 ·cases h2
 injection hv with t _ hc
 injection t with t
 injection t with t
 subst t;subst hc;have a4:m*k<=n*k:=Nat.mul_le_mul_right k hm;have b3:n*k<=cur.size:=by rw[hcsz];exact Nat.mul_le_mul_right k hnc
 have a1:(L.take m).flatMap Array.toList=(L.flatMap Array.toList).take (m*k):=by
  apply ext_getElem?;intro j;have O:(L.take m).length=m:=sO;have a6:=j3 (L.take m) k (λc hc=>hs c (mem_of_mem_take hc));rw[O]at a6;by_cases hj:j<m*k
  ·rw[getElem?_take,if_pos hj];have R:=I.pos;have hi:j / k<m:=Nat.div_lt_of_lt_mul (by rw[Nat.mul_comm];exact hj);have hr:j % k<k:=Nat.mod_lt _ R;have he:j=j / k*k+j % k:=by rw[Nat.mul_comm];exact(Nat.div_add_mod j k).symm
   rw[he,gZ (L.take m) k (λc hc=>hs c (mem_of_mem_take hc)) (j / k) (j % k) (by rw[O];exact hi) hr,gZ L k hs (j / k) (j % k) oM hr];congr 1
   rw[getElem_take]
  ·rw[getElem?_eq_none oM,getElem?_eq_none sO]
 have s:∀w' f,w'.heap[g]?=some (.cells f E (0,0))->f.size=cap*k->f.toList.take (m*k)=cur.toList.take (m*k)->Own w' B E k (some ⟨g,0,none⟩) m cap (L.take m):=by
  intro w' f a8 G D;refine⟨⟨?_,.inr ⟨g,cap,f,rfl,hb,a8,oM,hcm,G,?_⟩⟩,sO,λc hc=>hs c (mem_of_mem_take hc)⟩
  ·rw[j3 _ k (λc hc=>hs c (mem_of_mem_take hc)),length_take,hL,Nat.min_eq_left hm]
  ·rw[D,a1,<-htake,take_take,Nat.min_eq_left a4]
 by_cases a3:m=n
 ·subst a3;refine⟨w,?_,s w cur hg hcsz rfl,(z8.refl _ _)⟩;rw[Nat.sub_self];obtain⟨A2,b1⟩:∃A2,(if cap=m then(some ⟨g,0,none⟩:Option Addr)else some ⟨g,m*k,none⟩)=A2:=⟨_,rfl⟩
  rw[b1];cases A2 <;> simp[Builtin.clear_,run_underlying I.und]
 ·have H:¬cap=m:=oM;rw[if_neg H];obtain⟨X,z',r,M,a7,b4,A⟩:=I.info;have Y:z'=z:=by
   rw[r]at hz;have:X.zero=some z:=hz;rw[M]at this;injection this
  subst Y;have R:=I.pos;have y:=run_storeCells_at P g (m*k) E (Builtin.zeroCells z'.cells (n-m)).toList 0 cur w hg (by
   simp only[Nat.add_zero,Array.length_toList,size_zeroCells,A];have:m*k+(n-m)*k=n*k:=by rw[<-Nat.add_mul];congr 1;omega
   omega) (J8 oM a0)
  simp only[Nat.add_zero,Array.length_toList,size_zeroCells,A]at y;have a2:m*k+(n-m)*k=n*k:=by rw[<-Nat.add_mul];congr 1;omega
  have U:(Builtin.zeroCells z'.cells (n-m)).toList.length=(n-m)*k:=by rw[Array.length_toList,size_zeroCells,A]
  have V:cur.toList.length=cap*k:=by rw[Array.length_toList];exact hcsz
  obtain⟨NC,J⟩:=eX ((cur.toList.take (m*k)++(Builtin.zeroCells z'.cells (n-m)).toList++cur.toList.drop (m*k+(n-m)*k)).toArray)
  rw[J]at y;have b0:NC.size=cap*k:=by
   rw[<-J];simp only[size_toArray,length_append,length_take,length_drop,U,V];omega
  have a9:NC.toList.take (m*k)=cur.toList.take (m*k):=by
   rw[<-J];show List.take (m*k) (cur.toList.take (m*k)++(Builtin.zeroCells z'.cells (n-m)).toList++cur.toList.drop (m*k+(n-m)*k))=_;rw[append_assoc,take_append_of_le_length (by rw[length_take,V];omega),take_take,Nat.min_self]
  refine⟨w.setRow g NC,?_,s _ _ (setRow_heap w g cur NC E (0,0) hg) b0 a9,⟨rfl,rfl,rfl,by simp[setRow],λx _ hx=>setRow_other w g x _ (by simpa using hx)⟩⟩;obtain⟨d,hd⟩:∃d,n-m=d+1:=⟨n-m-1,oM⟩
  rw[hd]at y |-;have Z:(zeroValue E).run P w=.ok z' w:=by simp[zeroValue,typeInfo,r,M]
  simp[Builtin.clear_,run_underlying I.und,Z,y]
end
end
def t7(x y:jO):Bool:=(x.key.toList==y.key.toList)&&(x.val.toList==y.val.toList)
theorem mB(x y:jO):t7 x y=true↔x=y:=by
 unfold t7;simp only[Bool.and_eq_true,beq_iff_eq,toList_inj];exact⟨λh=>km h,λh=>by subst h;exact⟨rfl,rfl⟩⟩
theorem KI(x y:jO)(w:World):(Op.equalIn 10000 179 (.agg (yB x)) (.agg (yB y))).run prog w=.ok (t7 x y) w:=by
 rw[show(10000:Nat)=9999+1 from rfl,run_equalIn_agg w 9999 179 _ _ sQ kR];unfold t7;have e1:=run_equalIn_string (P:=prog) w 9998 9 x.key y.key underlying9;have e2:=run_equalIn_string (P:=prog) w 9998 9 x.val y.val underlying9;simp only[Program.fieldsOf,underlying179];simp[Op.eqFields,part,asAgg,isAgg,go_sem,underlying9,e1,e2];by_cases h1:x.key.toList=y.key.toList <;> by_cases h2:x.val.toList=y.val.toList <;> simp[h1,h2]
@[go_sem ↓] theorem neqPair_run(x y:jO)(w:World):(binOp .neq 179 (.agg (yB x)) (.agg (yB y))).run prog w=.ok (.bool (!(t7 x y))) w:=by
 rw[run_neq_struct,KI];rfl
end Go.Proofs.YtddopbhcpblpjaaGreatDoor
