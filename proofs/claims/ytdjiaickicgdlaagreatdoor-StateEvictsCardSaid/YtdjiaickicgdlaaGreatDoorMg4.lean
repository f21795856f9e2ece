/- Part 4 of the texts that lead to this claim: the walks of the functions and the plain law, in order. -/
import Derived.Test.YtdjiaickicgdlaaGreatDoorMg3
namespace Go.Proofs.YtdjiaickicgdlaaGreatDoor
open Go.RowKit
open List hiding and get max min or set
open Go.Proofs.Tryz
open World
set_option maxRecDepth 100000
set_option maxHeartbeats 8000000
variable {a k:ByteArray}{w:World}{b g:Nat}{n:Int}{X:List xC}{cs:Array Value}
def sS(o:OpV):Prop :=
 (o.k=1/\o.key=⟨#[]⟩/\o.val=⟨#[]⟩/\o.ref=id0/\o.refs = [])\/(o.k=2/\o.n=0/\o.key=⟨#[]⟩/\o.ref=id0/\o.refs = [])\/(o.k=3/\o.n=0/\o.key=⟨#[]⟩/\o.ref=id0) \/
 (o.k=4/\o.ref=id0/\o.refs = [])\/(o.k=5/\o.n=0/\o.ref=id0)\/(o.k=6/\o.n=0/\o.key=⟨#[]⟩/\o.refs = [])\/(o.k=7/\o.n=0/\o.key=⟨#[]⟩/\o.val=⟨#[]⟩/\o.refs = [])
theorem op_spare(o:OpV)(A:Option Addr)(c:Nat)(w:World)(hp:qH w)(h:sS o) :
  Calls prog 282 #[.agg (opC o A c)] w λe w'=>e=.returned (.bool false)/\Below w.heap.size w w':=by
 obtain⟨k,n,key,val,ref,refs⟩:=o;unfold sS at h;dsimp only at h;rcases h with⟨rfl,rfl,rfl,rfl,rfl⟩ | ⟨rfl,rfl,rfl,rfl,rfl⟩ | ⟨rfl,rfl,rfl,rfl⟩ | ⟨rfl,rfl,rfl⟩ | ⟨rfl,rfl,rfl⟩ | ⟨rfl,rfl,rfl,rfl⟩ | ⟨rfl,rfl,rfl,rfl,rfl⟩
 ·show Calls prog 282 #[.agg (zQ ⟨1,n,⟨#[]⟩,⟨#[]⟩,id0,.slice A 0 c⟩)] w _;have hB:Below w.heap.size w (w.alloc (.cells (zQ ⟨1,n,⟨#[]⟩,⟨#[]⟩,id0,.slice A 0 c⟩) 73)):=bA;have hr:zA (w.alloc (.cells (zQ ⟨1,n,⟨#[]⟩,⟨#[]⟩,id0,.slice A 0 c⟩) 73)) w.heap.size 0 37=some (zQ ⟨1,n,⟨#[]⟩,⟨#[]⟩,id0,.slice A 0 c⟩):=by simp[go_sem]
  have d:=rZ 1 _ (hp.below hB) oM;rw[show vZ 1=1 from rfl]at d;have x0:=zC hr (j:=0) oM;have x1:=zC hr (j:=1) oM;have x2:=zC hr (j:=2) oM;have x3:=zC hr (j:=3) oM;have x4:=yF hr (j:=4) (m:=32) oM;have x5:=zC hr (j:=36) oM;simp only[kN,fQ,gU,gT,bT,tL,Nat.zero_add]at x0 x1 x2 x3 x4 x5;clear hr hp;go_enter func282,ntmps282
  go_upto_region 1 with fail
  generalize w.alloc (.cells (zQ ⟨1,n,⟨#[]⟩,⟨#[]⟩,id0,.slice A 0 c⟩) 73)=W at *;(go_wp2_with fail);refine d.mono ?_;rintro e w1 ⟨rfl,rfl⟩;(go_wp2_with fail);go_ret;exact⟨rfl,hB⟩
 ·show Calls prog 282 #[.agg (zQ ⟨2,0,⟨#[]⟩,val,id0,.slice A 0 c⟩)] w _;have hB:Below w.heap.size w (w.alloc (.cells (zQ ⟨2,0,⟨#[]⟩,val,id0,.slice A 0 c⟩) 73)):=bA;have hr:zA (w.alloc (.cells (zQ ⟨2,0,⟨#[]⟩,val,id0,.slice A 0 c⟩) 73)) w.heap.size 0 37=some (zQ ⟨2,0,⟨#[]⟩,val,id0,.slice A 0 c⟩):=by simp[go_sem]
  have d:=rZ 2 _ (hp.below hB) oM;rw[show vZ 2=4 from rfl]at d;have x0:=zC hr (j:=0) oM;have x1:=zC hr (j:=1) oM;have x2:=zC hr (j:=2) oM;have x3:=zC hr (j:=3) oM;have x4:=yF hr (j:=4) (m:=32) oM;have x5:=zC hr (j:=36) oM;simp only[kN,fQ,gU,gT,bT,tL,Nat.zero_add]at x0 x1 x2 x3 x4 x5;clear hr hp;go_enter func282,ntmps282
  go_upto_region 1 with fail
  generalize w.alloc (.cells (zQ ⟨2,0,⟨#[]⟩,val,id0,.slice A 0 c⟩) 73)=W at *;(go_wp2_with fail);refine d.mono ?_;rintro e w1 ⟨rfl,rfl⟩;(go_wp2_with fail);go_ret;exact⟨rfl,hB⟩
 ·show Calls prog 282 #[.agg (zQ ⟨3,0,⟨#[]⟩,val,id0,.slice A refs.length c⟩)] w _;have hB:Below w.heap.size w (w.alloc (.cells (zQ ⟨3,0,⟨#[]⟩,val,id0,.slice A refs.length c⟩) 73)):=bA;have hr:zA (w.alloc (.cells (zQ ⟨3,0,⟨#[]⟩,val,id0,.slice A refs.length c⟩) 73)) w.heap.size 0 37=some (zQ ⟨3,0,⟨#[]⟩,val,id0,.slice A refs.length c⟩):=by simp[go_sem]
  have d:=rZ 3 _ (hp.below hB) oM;rw[show vZ 3=20 from rfl]at d;have x0:=zC hr (j:=0) oM;have x1:=zC hr (j:=1) oM;have x2:=zC hr (j:=2) oM;have x3:=zC hr (j:=3) oM;have x4:=yF hr (j:=4) (m:=32) oM;have x5:=zC hr (j:=36) oM;simp only[kN,fQ,gU,gT,bT,tL,Nat.zero_add]at x0 x1 x2 x3 x4 x5;clear hr hp;go_enter func282,ntmps282
  go_upto_region 1 with fail
  generalize w.alloc (.cells (zQ ⟨3,0,⟨#[]⟩,val,id0,.slice A refs.length c⟩) 73)=W at *;(go_wp2_with fail);refine d.mono ?_;rintro e w1 ⟨rfl,rfl⟩;(go_wp2_with fail);go_ret;exact⟨rfl,hB⟩
 ·show Calls prog 282 #[.agg (zQ ⟨4,n,key,val,id0,.slice A 0 c⟩)] w _;have hB:Below w.heap.size w (w.alloc (.cells (zQ ⟨4,n,key,val,id0,.slice A 0 c⟩) 73)):=bA;have hr:zA (w.alloc (.cells (zQ ⟨4,n,key,val,id0,.slice A 0 c⟩) 73)) w.heap.size 0 37=some (zQ ⟨4,n,key,val,id0,.slice A 0 c⟩):=by simp[go_sem]
  have d:=rZ 4 _ (hp.below hB) oM;rw[show vZ 4=7 from rfl]at d;have x0:=zC hr (j:=0) oM;have x1:=zC hr (j:=1) oM;have x2:=zC hr (j:=2) oM;have x3:=zC hr (j:=3) oM;have x4:=yF hr (j:=4) (m:=32) oM;have x5:=zC hr (j:=36) oM;simp only[kN,fQ,gU,gT,bT,tL,Nat.zero_add]at x0 x1 x2 x3 x4 x5;clear hr hp;go_enter func282,ntmps282
  go_upto_region 1 with fail
  generalize w.alloc (.cells (zQ ⟨4,n,key,val,id0,.slice A 0 c⟩) 73)=W at *;(go_wp2_with fail);refine d.mono ?_;rintro e w1 ⟨rfl,rfl⟩;(go_wp2_with fail);go_ret;exact⟨rfl,hB⟩
 ·show Calls prog 282 #[.agg (zQ ⟨5,0,key,val,id0,.slice A refs.length c⟩)] w _;have hB:Below w.heap.size w (w.alloc (.cells (zQ ⟨5,0,key,val,id0,.slice A refs.length c⟩) 73)):=bA;have hr:zA (w.alloc (.cells (zQ ⟨5,0,key,val,id0,.slice A refs.length c⟩) 73)) w.heap.size 0 37=some (zQ ⟨5,0,key,val,id0,.slice A refs.length c⟩):=by simp[go_sem]
  have d:=rZ 5 _ (hp.below hB) oM;rw[show vZ 5=22 from rfl]at d;have x0:=zC hr (j:=0) oM;have x1:=zC hr (j:=1) oM;have x2:=zC hr (j:=2) oM;have x3:=zC hr (j:=3) oM;have x4:=yF hr (j:=4) (m:=32) oM;have x5:=zC hr (j:=36) oM;simp only[kN,fQ,gU,gT,bT,tL,Nat.zero_add]at x0 x1 x2 x3 x4 x5;clear hr hp;go_enter func282,ntmps282
  go_upto_region 1 with fail
  generalize w.alloc (.cells (zQ ⟨5,0,key,val,id0,.slice A refs.length c⟩) 73)=W at *;(go_wp2_with fail);refine d.mono ?_;rintro e w1 ⟨rfl,rfl⟩;(go_wp2_with fail);go_ret;exact⟨rfl,hB⟩
 ·show Calls prog 282 #[.agg (zQ ⟨6,0,⟨#[]⟩,val,ref,.slice A 0 c⟩)] w _;have hB:Below w.heap.size w (w.alloc (.cells (zQ ⟨6,0,⟨#[]⟩,val,ref,.slice A 0 c⟩) 73)):=bA;have hr:zA (w.alloc (.cells (zQ ⟨6,0,⟨#[]⟩,val,ref,.slice A 0 c⟩) 73)) w.heap.size 0 37=some (zQ ⟨6,0,⟨#[]⟩,val,ref,.slice A 0 c⟩):=by simp[go_sem]
  have d:=rZ 6 _ (hp.below hB) oM;rw[show vZ 6=12 from rfl]at d;have x0:=zC hr (j:=0) oM;have x1:=zC hr (j:=1) oM;have x2:=zC hr (j:=2) oM;have x3:=zC hr (j:=3) oM;have x4:=yF hr (j:=4) (m:=32) oM;have x5:=zC hr (j:=36) oM;simp only[kN,fQ,gU,gT,bT,tL,Nat.zero_add]at x0 x1 x2 x3 x4 x5;clear hr hp;go_enter func282,ntmps282
  go_upto_region 1 with fail
  generalize w.alloc (.cells (zQ ⟨6,0,⟨#[]⟩,val,ref,.slice A 0 c⟩) 73)=W at *;(go_wp2_with fail);refine d.mono ?_;rintro e w1 ⟨rfl,rfl⟩;(go_wp2_with fail);go_ret;exact⟨rfl,hB⟩
 ·show Calls prog 282 #[.agg (zQ ⟨7,0,⟨#[]⟩,⟨#[]⟩,ref,.slice A 0 c⟩)] w _;have hB:Below w.heap.size w (w.alloc (.cells (zQ ⟨7,0,⟨#[]⟩,⟨#[]⟩,ref,.slice A 0 c⟩) 73)):=bA;have hr:zA (w.alloc (.cells (zQ ⟨7,0,⟨#[]⟩,⟨#[]⟩,ref,.slice A 0 c⟩) 73)) w.heap.size 0 37=some (zQ ⟨7,0,⟨#[]⟩,⟨#[]⟩,ref,.slice A 0 c⟩):=by simp[go_sem]
  have d:=rZ 7 _ (hp.below hB) oM;rw[show vZ 7=8 from rfl]at d;have x0:=zC hr (j:=0) oM;have x1:=zC hr (j:=1) oM;have x2:=zC hr (j:=2) oM;have x3:=zC hr (j:=3) oM;have x4:=yF hr (j:=4) (m:=32) oM;have x5:=zC hr (j:=36) oM;simp only[kN,fQ,gU,gT,bT,tL,Nat.zero_add]at x0 x1 x2 x3 x4 x5;clear hr hp;go_enter func282,ntmps282
  go_upto_region 1 with fail
  generalize w.alloc (.cells (zQ ⟨7,0,⟨#[]⟩,⟨#[]⟩,ref,.slice A 0 c⟩) 73)=W at *;(go_wp2_with fail);refine d.mono ?_;rintro e w1 ⟨rfl,rfl⟩;(go_wp2_with fail);go_ret;exact⟨rfl,hB⟩
def jr(o:OpV):Bool:=!(decide (o.k=4)&&decide (o.n<0))&&(decide (o.n<2147483648)&&decide (-2147483648<=o.n))
theorem op_number(o:OpV)(A:Option Addr)(c:Nat)(w:World) :
  Calls prog 283 #[.agg (opC o A c)] w λe w'=>e=.returned (.bool (jr o))/\Below w.heap.size w w':=by
 have hB:Below w.heap.size w (w.alloc (.cells (opC o A c) 73)):=bA;have hr:zA (w.alloc (.cells (opC o A c) 73)) w.heap.size 0 37=some (opC o A c):=by unfold opC;simp[go_sem]
 have x0:=zC hr (j:=0) oM;have x1:=zC hr (j:=1) oM;unfold opC at x0 x1 hB hr |-;simp only[kN,fQ,Nat.zero_add]at x0 x1;clear hr;have f:jr o=(!(decide (o.k=4)&&decide (o.n<0))&&(decide (o.n<2147483648)&&decide (-2147483648<=o.n))):=rfl;obtain⟨k,n,key,val,ref,refs⟩:=o;dsimp only at *;have d:=dH f;clear f;by_cases h4:k=4
 ·subst h4;by_cases hn:n<0
  ·go_enter func283,ntmps283
   go_upto_region 1 with fail
   generalize w.alloc (.cells (zQ ⟨((4:Nat):Int),n,key,val,ref,.slice A refs.length c⟩) 73)=W at *;(go_wp2_with fail);go_ret;exact⟨yB (by rw[d.out];simp[hn]),hB⟩
  ·go_enter func283,ntmps283
   go_upto_region 1 with fail
   generalize w.alloc (.cells (zQ ⟨((4:Nat):Int),n,key,val,ref,.slice A refs.length c⟩) 73)=W at *;go_wp2_with fail
   all_goals
    go_ret;exact⟨yB (by rw[d.out,Bool.eq_iff_iff];simp;omega),hB⟩
 ·have hk:((k:Int)==4)=false:=sO;go_enter func283,ntmps283
  go_upto_region 1 with fail
  generalize w.alloc (.cells (zQ ⟨(k:Int),n,key,val,ref,.slice A refs.length c⟩) 73)=W at *;go_wp2_with fail
  all_goals
   go_ret;exact⟨yB (by rw[d.out,Bool.eq_iff_iff];simp;omega),hB⟩
def chkN(o:OpV):Int:=if 16<o.key.size\/16<o.val.size then 3 else if jr o=false then 5 else if 8<o.refs.length then 6 else if kI o.refs=false then 4 else 0
theorem plain_k{o:OpV}(h:sS o):1<=o.k/\o.k<=7:=by unfold sS at h;omega
theorem part_ne{k:Nat}(h1:1<=k)(h7:k<=7):((vZ k:Int)==0)=false:=by
 have hk:k=1\/k=2\/k=3\/k=4\/k=5\/k=6\/k=7:=oM;rcases hk with rfl | rfl | rfl | rfl | rfl | rfl | rfl <;> decide
theorem op_check(o:OpV)(A:Option Addr)(c:Nat)(w:World)(hp:qH w)(h:sS o)(hT:zX w A o.refs.length o.refs)(hl:o.refs.length<=4294967296) :
  Calls prog 240 #[.agg (opC o A c)] w λe w'=>e=.returned (.int .i64 (chkN o))/\Below w.heap.size w w':=by
 have hB:Below w.heap.size w (w.alloc (.cells (opC o A c) 73)):=bA;have hr:zA (w.alloc (.cells (opC o A c) 73)) w.heap.size 0 37=some (opC o A c):=by unfold opC;simp[go_sem]
 have hk:=plain_k h;have y:=rZ o.k _ (hp.below hB) oM;have V:=part_ne hk.1 hk.2;have N:=λw' (hp':qH w')=>op_spare o A c w' hp' h;have D:=λw'=>op_number o A c w';have E:=hp.below hB;have G:zX (w.alloc (.cells (opC o A c) 73)) A o.refs.length o.refs:=SlR.below hT hB;have F:chkN o=if 16<o.key.size\/16<o.val.size then 3 else if jr o=false then 5 else if 8<o.refs.length then 6 else if kI o.refs=false then 4 else 0:=rfl;have x0:=zC hr (j:=0) oM;have x2:=zC hr (j:=2) oM;have x3:=zC hr (j:=3) oM;have x5:=zC hr (j:=36) oM;unfold opC at x0 x2 x3 x5 hB hr y N D E G |-;simp only[kN,gU,gT,bT,Nat.zero_add]at x0 x2 x3 x5;clear hp h hT;obtain⟨nu,T⟩:=eX (jr o)
 obtain⟨ck,B⟩:=eX (chkN o)
 rw[T]at D F;rw[B]at F |-;clear T B;obtain⟨k,n,key,val,ref,refs⟩:=o;dsimp only at *;have I:=dH F;clear F hk;obtain⟨pk,R⟩:=eX (vZ k)
 rw[R]at y V;clear R;go_enter func240,ntmps240
 go_upto_region 1 with fail
 obtain⟨gb,X⟩:=eX w.heap.size
 obtain⟨W,hW⟩:=eR (w.alloc (.cells (zQ ⟨(k:Int),n,key,val,ref,.slice A refs.length c⟩) 73))
 rw[<-hW]at x0 x2 x3 x5 hB hr y E G |-;rw[X]at x0 x2 x3 x5 hr |-;clear hW X;(go_wp2_with fail);refine y.mono ?_;rintro e w1 ⟨rfl,rfl⟩;clear y;(go_wp2_with fail);refine(N _ E).mono ?_;rintro e w1 ⟨rfl,r⟩;have y2:=(r.cell (p:=⟨gb,2,none⟩) (zE hr)).trans x2;have y3:=(r.cell (p:=⟨gb,3,none⟩) (zE hr)).trans x3;have y5:=(r.cell (p:=⟨gb,36,none⟩) (zE hr)).trans x5;have O:zA w1 gb 0 37=_:=(zH (r.block gb (zE hr)) _ _).trans hr;have Z:zX w1 A refs.length refs:=SlR.below G r;have d:=yK hB r;clear N x0 x2 x3 x5 hr G E hB r V;by_cases M:16<key.size\/16<val.size
 ·have hc:=I.out;rw[if_pos M]at hc;have Hc:=dH hc;clear hc I;by_cases U:16<key.size
  ·have f:(16:Int)<key.size:=oM;(go_wp2_with fail);go_ret;exact⟨yA (by rw[Hc.out]),d⟩
  ·have f:¬(16:Int)<key.size:=oM;have t:(16:Int)<val.size:=oM;(go_wp2_with fail);go_ret;exact⟨yA (by rw[Hc.out]),d⟩
 ·have hc:=I.out;rw[if_neg M]at hc;have Hc:=dH hc;have f:¬(16:Int)<key.size:=oM;have t:¬(16:Int)<val.size:=oM;clear hc I M;cases nu with
  | false =>
   have m:=Hc.out;rw[if_pos rfl]at m;have J:=dH m;clear m;(go_wp2_with fail);refine(D _).mono ?_;rintro e w2 ⟨rfl,g⟩;(go_wp2_with fail);go_ret;exact⟨yA (by rw[J.out]),yK d g⟩
  | true =>
   have m:=Hc.out;rw[if_neg sI]at m;have J:=dH m;clear m Hc;have z5:=λw2 (g:Below w1.heap.size w1 w2)=>(g.cell (p:=⟨gb,36,none⟩) (zE O)).trans y5;(go_wp2_with fail);refine(D _).mono ?_;rintro e w2 ⟨rfl,g⟩;have v5:=z5 w2 g;have Y:zX w2 A refs.length refs:=SlR.below Z g;have s:=yK d g;have H:=aS w2 A refs.length c refs Y oM;clear z5 D y2 y3 y5 O Z d g Y;by_cases h8:8<refs.length
   ·have hc:=J.out;rw[if_pos h8]at hc;have Hc:=dH hc;have a0:(8:Int)<refs.length:=oM;clear hc;(go_wp2_with fail);go_ret;exact⟨yA (by rw[Hc.out]),s⟩
   ·have hc:=J.out;rw[if_neg h8]at hc;have a0:¬(8:Int)<refs.length:=oM;cases hri:kI refs with
    | false =>
     rw[hri,if_pos rfl]at hc;rw[hri]at H;have Hc:=dH hc;clear hc hri;(go_wp2_with fail);refine H.mono ?_;rintro e w3 ⟨rfl,L⟩;(go_wp2_with fail);go_ret;exact⟨yA (by rw[Hc.out]),yK s L⟩
    | true =>
     rw[hri,if_neg sI]at hc;rw[hri]at H;have Hc:=dH hc;clear hc hri;(go_wp2_with fail);refine H.mono ?_;rintro e w3 ⟨rfl,L⟩;(go_wp2_with fail);go_ret;exact⟨yA (by rw[Hc.out]),yK s L⟩
theorem op_belongs(k:Nat)(w:World)(hk:k<=9223372036854775807):Calls prog 174 #[.int .i64 k] w λe w'=>e=.returned (.int .i64 (nA k))/\w=w':=by
 have hb:nA k=if k=1 then 1 else if k=2\/k=3 then 2 else if k=4 then 3 else if k=5 then 4 else if k=6\/k=7 then 5 else 0:=rfl;have Hb:=dH hb;clear hb;go_enter func174,ntmps174
 go_wp2_with fail
 all_goals
  go_ret;exact⟨yA (by rw[Hb.out];simp at *;omega),rfl⟩
theorem Q1(k:Nat)(l:List UInt8)(e:Int)(h1:1<=k)(h7:k<=7):sS (qK k l e).o/\(qK k l e).o.k=k/\(qK k l e).o.refs.length<=255:=by
 have hk:k=1\/k=2\/k=3\/k=4\/k=5\/k=6\/k=7:=oM;rcases hk with rfl | rfl | rfl | rfl | rfl | rfl | rfl
 ·exact⟨.inl ⟨rfl,rfl,rfl,rfl,rfl⟩,rfl,by simp[qK]⟩
 ·exact⟨.inr (.inl ⟨rfl,rfl,rfl,rfl,rfl⟩),rfl,by simp[qK]⟩
 ·exact⟨.inr (.inr (.inl ⟨rfl,rfl,rfl,rfl⟩)),rfl,K4 _ _⟩
 ·exact⟨.inr (.inr (.inr (.inl ⟨rfl,rfl,rfl⟩))),rfl,by simp[qK]⟩
 ·exact⟨.inr (.inr (.inr (.inr (.inl ⟨rfl,rfl,rfl⟩)))),rfl,K4 _ _⟩
 ·exact⟨.inr (.inr (.inr (.inr (.inr (.inl ⟨rfl,rfl,rfl,rfl⟩))))),rfl,by simp[qK]⟩
 ·exact⟨.inr (.inr (.inr (.inr (.inr (.inr ⟨rfl,rfl,rfl,rfl,rfl⟩))))),rfl,by simp[qK]⟩
theorem jq(k:Nat)(l:List UInt8)(e:Int)(h1:1<=k)(h7:k<=7):jr (qK k l e).o=decide ((qK k l e).o.n<2147483648):=by
 have hk:k=1\/k=2\/k=3\/k=4\/k=5\/k=6\/k=7:=oM;have b4:=xP 4 l e;have b5:=xP 4 (txL (txL l e) (txE l e)) (txE (txL l e) (txE l e));rw[Bool.eq_iff_iff];rcases hk with rfl | rfl | rfl | rfl | rfl | rfl | rfl <;> simp[jr,qK] <;> omega
theorem chk_take(k:Nat)(l:List UInt8)(e:Int)(h1:1<=k)(h7:k<=7):chkN (qK k l e).o=chkO (qK k l e).o:=by
 have h:=jq k l e h1 h7;unfold chkN chkO;rw[h];by_cases hn:(qK k l e).o.n<2147483648
 ·rw[if_neg (show ¬(decide ((qK k l e).o.n<2147483648)=false) by simp[hn]),if_neg (oM:¬(2147483648<=(qK k l e).o.n))]
 ·rw[if_pos (sO:decide ((qK k l e).o.n<2147483648)=false),if_pos (oM:2147483648<=(qK k l e).o.n)]
theorem part_eq{k:Nat}(h:k=0\/7<k):vZ k=0:=by
 rcases h with rfl | h
 ·rfl
 ·unfold vZ;simp[getD,getElem?_eq_none (sO:[0,1,4,20,7,22,12,8].length<=k)]
@[simp] theorem pC(o:OpV)(A:Option Addr)(c:Nat):(opC o A c).size=37:=by unfold opC;simp
theorem opC_one(o:OpV)(A:Option Addr)(c:Nat):∀u∈(opC o A c).toList,u.oneCell'=true:=dB _ rfl
def OfRes(w:World)(l:List UInt8)(en:Ending)(w':World):Prop :=
 ∃V,en=.returned (.tuple #[.agg V,.int .i64 (opE l)])/\(opE l=0->∃A c,V=opC (opO l) A c/\Own w' w.heap.size 31 32 A (opO l).refs.length c ((opO l).refs.map idC))/\(opE l≠0->V=zQ jF)/\Below w.heap.size w w'
theorem op_Of(s:ByteArray)(w:World)(hp:qH w)(hs:s.size<=9223372036854775807) :
  Calls prog 173 #[.string s] w (OfRes w s.data.toList):=by
 obtain⟨l,hl⟩:=eX s.data.toList
 have f4:s=mkB l:=by rw[<-hl];rfl
 have g2:l.length<=9223372036854775807:=by rw[<-hl];exact hs
 have b8:Below w.heap.size w (w.alloc (.cells (zQ jF) 73)):=bA;have b3:(w.alloc (.cells (zQ jF) 73)).heap[w.heap.size]?=some (.cells (zQ jF) 73 (0,0)):=heap_alloc_new w _;have c6:=dZ s (w.alloc (.cells (zQ jF) 73)) hs;have d5:=hp.below b8;rw[hl]at c6 |-;subst f4;clear hl hs;have hE:opE l=if zO 1 l 0≠0 then zO 1 l 0
  else if xB 1 l 0=0\/7<xB 1 l 0 then 10
  else if jL (qK (xB 1 l 0) (zN 1 l 0) 0).l (qK (xB 1 l 0) (zN 1 l 0) 0).e≠0 then jL (qK (xB 1 l 0) (zN 1 l 0) 0).l (qK (xB 1 l 0) (zN 1 l 0) 0).e
  else chkO (qK (xB 1 l 0) (zN 1 l 0) 0).o:=rfl
 have hO:opO l=(qK (xB 1 l 0) (zN 1 l 0) 0).o:=rfl;have e6:=xP 1 l 0;have f7:xB 1 l 0<256:=by simpa using e6
 have HE:=dH hE;have HO:=dH hO;have f6:=hp.lt;clear hE hO e6 hp;show Calls prog 173 #[.string (mkB l)] w _;go_enter func173,ntmps173
 go_upto_region 1 with fail
 obtain⟨ga,c4⟩:=eX w.heap.size
 have a0:=dH c4;obtain⟨W,hW⟩:=eR (w.alloc (.cells (zQ jF) 73))
 rw[<-hW]at b8 b3 c6 d5 |-;rw[c4]at b3 |-;rw[c4]at f6;have f8:ga<W.heap.size:=(aG b3).1;clear hW c4;(go_wp2_with fail);refine c6.mono ?_;rintro en w1 ⟨rfl,a4,c5⟩;obtain⟨g,hg⟩:=eX W.heap.size
 rw[hg]at a4 f8 |-;have b2:=(c5.block ga oM).trans b3;have d3:=d5.below c5;have d4:=d3.lt;have b7:Below ga w w1:=by have:=b8.trans (c5.mono b8.size);rwa [a0.out]at this
 have hgs:=a0.out;clear c6 b8 c5 b3 d5 hg;(go_wp2_with fail);refine(fO w1 g l 0 a4).mono ?_;rintro en w2 ⟨rfl,r,c2⟩;have j:=(c2.block ga (oH a4.lt) sO).trans b2;have c0:=d3.kept c2 (by simp;have:=d4;omega);have I:Below ga w w2:=b7.trans (c2.below (oH a4.lt) sO);obtain⟨k,hk⟩:=eX (xB 1 l 0)
 rw[hk]at HE HO f7 |-;clear a4 c2 b2 d3 b7 hk;by_cases he:zO 1 l 0=0
 ·have U:=HE.out;rw[if_neg (by rw[he];simp)]at U;rw[he]at r;have a1:=dH U;clear U he HE;have a6:=rZ k w2 c0 oM;by_cases a8:k=0\/7<k
  ·have h2:=a1.out;rw[if_pos a8]at h2;rw[part_eq a8]at a6;have m:=dH h2;clear h2 a1 HO a8;(go_wp2_with fail);refine(xI w2 g _ 0 r).mono ?_;rintro en w3 ⟨rfl,rfl⟩;(go_wp2_with fail);refine a6.mono ?_;rintro en w3 ⟨rfl,rfl⟩;have T:=y9 (P:=prog) qZ w2 ga (zQ jF) (zQ jF) _ j sI sI (dB _ rfl);have f:=dH (setRow_heap w2 ga _ (zQ jF) _ _ j);have t:z9 [ga] w2 (w2.setRow ga (zQ jF)):=⟨rfl,rfl,rfl,by simp[setRow],λx _ hx=>setRow_other w2 ga x _ (by simpa using hx)⟩
   have F:Below ga w (w2.setRow ga (zQ jF)):=I.trans (t.below (oH r.lt) sI);have Y:=dH F;clear F t j r I;(go_wp2_with fail);refine bodyPost_ret (vJ results173 _ _ ga 73 (zQ jF) (0,0) _ rfl f.out underlying73 rfl (by first | (rw[kW];exact qZ) | (rw[pC];exact qZ))) rfl ?_;exact⟨_,by rw[m.out];rfl,λh0=>absurd (m.out.symm.trans h0) oM,λ_=>rfl,by rw[a0.out];exact Y.out⟩
  ·have h2:=a1.out;rw[if_neg a8]at h2;have m:=dH h2;have c3:1<=k:=oM;have c1:k<=7:=oM;have c9:=part_ne c3 c1;have d0:=Q1 k (zN 1 l 0) 0 c3 c1;have d7:=chk_take k (zN 1 l 0) 0 c3 c1;have d8:=op_take k w2 g (zN 1 l 0) 0 r c0 c3 c1;obtain⟨pk,e4⟩:=eX (vZ k)
   rw[e4]at a6 c9;obtain⟨R,hR⟩:=eX (qK k (zN 1 l 0) 0)
   rw[hR]at m HO d0 d7 d8;obtain⟨o,l2,e2⟩:=R;dsimp only at *;have f3:=dH d0;have g1:=dH d7;clear h2 a1 a8 e4 hR d0 d7;(go_wp2_with fail);refine(xI w2 g _ 0 r).mono ?_;rintro en w3 ⟨rfl,rfl⟩;(go_wp2_with fail);refine a6.mono ?_;rintro en w3 ⟨rfl,rfl⟩;clear a6;(go_wp2_with fail);refine d8.mono ?_;rintro en w3 ⟨A,c,rfl,a5,c8,a7⟩;have b1:=(a7.block ga (oH r.lt) sO).trans j;have e5:=c0.kept a7 sO;have b6:Below ga w w3:=I.trans (a7.below (oH r.lt) sO);have d6:g<w3.heap.size:=c8.lt;have f5:=a7.size;have f9:g<w2.heap.size:=r.lt;have a2:Below w3.heap.size w3 (w3.alloc (.cells (opC o A c) 73)):=bA;have V:(w3.alloc (.cells (opC o A c) 73)).heap[ga]?=_:=(a2.block ga oM).trans b1;have c7:=c8.below a2;have d2:=e5.below a2;have J:zA (w3.alloc (.cells (opC o A c) 73)) w3.heap.size 0 37=some (opC o A c):=by unfold opC;simp[go_sem]
   have L:=a5.below a2;have X:Below ga w (w3.alloc (.cells (opC o A c) 73)):=b6.trans (a2.mono oM);have ce:=dP _ g l2 e2 c7;have d:opC o A c=zQ ⟨o.k,o.n,o.key,o.val,o.ref,.slice A o.refs.length c⟩:=rfl;rw[d];go_upto_region 8 with fail
   rw[<-d];have e0:=dH d;obtain⟨gb,e7⟩:=eX w3.heap.size
   obtain⟨W4,f0⟩:=eR (w3.alloc (.cells (opC o A c) 73))
   rw[<-f0]at V c7 d2 J L X ce |-;rw[e7]at J d6 |-;clear f0 d a2 c8 e5 b6 b1 a5 d8 a7 r c0 I j e7;(go_wp2_with fail);refine ce.mono ?_;rintro en w5 ⟨rfl,a3⟩;have H:=(a3.block ga (aG V).1).trans V;have d1:=d2.below a3;have B:zA w5 gb 0 37=some (opC o A c):=(zH (a3.block gb (zE J)) _ _).trans J;have E:=L.below a3;have N:Below ga w w5:=X.trans (a3.mono (oH X.size));have b0:ga<=w5.heap.size:=oH N.size;clear ce V c7 d2 J L X a3;by_cases O:jL l2 e2=0
   ·have h2:=m.out;rw[if_neg (by rw[O];simp),<-g1.out]at h2;rw[O];have f1:zX w5 A o.refs.length o.refs:=E.slr;have cc:=op_check o A c w5 d1 f3.out.1 f1 (oH f3.out.2.2);obtain⟨ck,b4⟩:=eX (chkN o)
    rw[b4]at h2 cc;have y:=dH h2;clear h2 m O b4 f1 d1;(go_wp2_with fail);refine cc.mono ?_;rintro en w6 ⟨rfl,b5⟩;have G:=(b5.block ga (aG H).1).trans H;have e3:zA w6 gb 0 37=some (opC o A c):=(zH (b5.block gb (zE B)) _ _).trans B;have D:=E.below b5;have M:Below ga w w6:=N.trans (b5.mono b0);have a9:ga<=w6.heap.size:=oH M.size;clear cc H B E N b5;cases hc0:(ck==0)with
    | true =>
     obtain rfl:ck=0:=by simpa using hc0
     have T:=y9 (P:=prog) qZ w6 ga (zQ jF) (opC o A c) _ G sI sI (opC_one o A c);have f:=dH (setRow_heap w6 ga _ (opC o A c) _ _ G);have t:z9 [ga] w6 (w6.setRow ga (opC o A c)):=⟨rfl,rfl,rfl,by simp[setRow],λx _ hx=>setRow_other w6 ga x _ (by simpa using hx)⟩
     have F:Below ga w (w6.setRow ga (opC o A c)):=M.trans (t.below a9 sI);have Z:Own (w6.setRow ga (opC o A c)) w.heap.size 31 32 A o.refs.length c (o.refs.map idC):=(D.mono (oH a0.out)).kept t (λx hx=>oS ((D.at_base hx).1));have Y:=dH F;have b9:=dH Z;clear F t G M Z D;(go_wp2_with fail);refine bodyPost_ret (vJ results173 _ _ ga 73 (opC o A c) (0,0) _ rfl f.out underlying73 rfl (by first | (rw[kW];exact qZ) | (rw[pC];exact qZ))) rfl ?_;exact⟨_,by rw[y.out];rfl,λ_=>⟨A,c,by rw[HO.out],by rw[HO.out];exact b9.out⟩,λh0=>absurd y.out h0,by rw[a0.out];exact Y.out⟩
    | false =>
     have e9:ck≠0:=by simpa using hc0
     have g0:(ck != 0)=true:=by simpa using hc0
     have d9:=dH e9;clear e9;have T:=y9 (P:=prog) qZ w6 ga (zQ jF) (zQ jF) _ G sI sI (dB _ rfl);have f:=dH (setRow_heap w6 ga _ (zQ jF) _ _ G);have t:z9 [ga] w6 (w6.setRow ga (zQ jF)):=⟨rfl,rfl,rfl,by simp[setRow],λx _ hx=>setRow_other w6 ga x _ (by simpa using hx)⟩
     have F:Below ga w (w6.setRow ga (zQ jF)):=M.trans (t.below a9 sI);have Y:=dH F;clear F t G M D;(go_wp2_with fail);refine bodyPost_ret (vJ results173 _ _ ga 73 (zQ jF) (0,0) _ rfl f.out underlying73 rfl (by first | (rw[kW];exact qZ) | (rw[pC];exact qZ))) rfl ?_;exact⟨_,by rw[y.out];rfl,λh0=>absurd (y.out.symm.trans h0) d9.out,λ_=>rfl,by rw[a0.out];exact Y.out⟩
   ·have h2:=m.out;rw[if_pos O]at h2;obtain⟨ee,f2⟩:=eX (jL l2 e2)
    rw[f2]at h2 O |-;have y:=dH h2;have d9:=dH O;have g0:(ee != 0)=true:=by simpa using O
    have g4:(ee==0)=false:=by simpa using O
    clear h2 m O f2 d1 B E;have T:=y9 (P:=prog) qZ w5 ga (zQ jF) (zQ jF) _ H sI sI (dB _ rfl);have f:=dH (setRow_heap w5 ga _ (zQ jF) _ _ H);have t:z9 [ga] w5 (w5.setRow ga (zQ jF)):=⟨rfl,rfl,rfl,by simp[setRow],λx _ hx=>setRow_other w5 ga x _ (by simpa using hx)⟩
    have F:Below ga w (w5.setRow ga (zQ jF)):=N.trans (t.below b0 sI);have Y:=dH F;clear F t H N;(go_wp2_with fail);refine bodyPost_ret (vJ results173 _ _ ga 73 (zQ jF) (0,0) _ rfl f.out underlying73 rfl (by first | (rw[kW];exact qZ) | (rw[pC];exact qZ))) rfl ?_;exact⟨_,by rw[y.out];rfl,λh0=>absurd (y.out.symm.trans h0) d9.out,λ_=>rfl,by rw[a0.out];exact Y.out⟩
 ·have U:=HE.out;rw[if_pos he]at U;obtain⟨e1,e8⟩:=eX (zO 1 l 0)
  rw[e8]at U he r;have a1:=dH U;have He:=dH he;have g3:(e1 != 0)=true:=by simpa using he
  have O:(e1==0)=false:=by simpa using he
  clear U he HE HO e8;(go_wp2_with fail);refine(xI w2 g _ e1 r).mono ?_;rintro en w3 ⟨rfl,rfl⟩;(go_wp2_with fail);refine(xI w2 g _ e1 r).mono ?_;rintro en w3 ⟨rfl,rfl⟩;have T:=y9 (P:=prog) qZ w2 ga (zQ jF) (zQ jF) _ j sI sI (dB _ rfl);have f:=dH (setRow_heap w2 ga _ (zQ jF) _ _ j);have t:z9 [ga] w2 (w2.setRow ga (zQ jF)):=⟨rfl,rfl,rfl,by simp[setRow],λx _ hx=>setRow_other w2 ga x _ (by simpa using hx)⟩
  have F:Below ga w (w2.setRow ga (zQ jF)):=I.trans (t.below (oH r.lt) sI);have Y:=dH F;clear F t j r I;(go_wp2_with fail);refine bodyPost_ret (vJ results173 _ _ ga 73 (zQ jF) (0,0) _ rfl f.out underlying73 rfl (by first | (rw[kW];exact qZ) | (rw[pC];exact qZ))) rfl ?_;exact⟨_,by rw[a1.out];rfl,λh0=>absurd (a1.out.symm.trans h0) He.out,λ_=>rfl,by rw[a0.out];exact Y.out⟩
def Z7(t:ByteArray)(m:j9):Prop:=opE m.body.data.toList=0/\nA (opO m.body.data.toList).k=yH t
instance (t:ByteArray) (m:j9):Decidable (Z7 t m):=by unfold Z7;infer_instance
@[go_sem] theorem storeOp0_run(w:World)(g:Nat)(hg:g=w.heap.size)(z:Array Value)(hz:z.size=37)(e:TypeId):(stS 73 ⟨g,0,none⟩ (.agg (zQ jF))).run prog (w.alloc (.cells z e))=.ok () (w.alloc (.cells (zQ jF) e)):=eS w g hg z hz jF rfl e
theorem opO_ok(l:List UInt8)(h:opE l=0):sS (opO l)/\1<=(opO l).k/\(opO l).k<=7/\(opO l).key.size<=16/\(opO l).val.size<=16/\(opO l).refs.length<=8/\kI (opO l).refs=true/\(opO l).n<2147483648:=by
 unfold opE at h;split at h
 ·contradiction
 split at h
 ·cases h
 split at h
 ·contradiction
 rename_i h1 h2 h3
 have hp:=Q1 (xB 1 l 0) (zN 1 l 0) 0 oM oM;unfold chkO at h;have e:(qK (xB 1 l 0) (zN 1 l 0) 0).o=opO l:=rfl;rw[e]at h hp;split at h
 ·cases h
 split at h
 ·cases h
 split at h
 ·cases h
 split at h
 ·cases h
 rename_i k1 k2 k3 k4
 refine⟨hp.1,oM,oM,oM,oM,oM,?_,oM⟩;cases hr:kI (opO l).refs with
 | true=>rfl
 | false=>exact absurd hr k4
theorem vfold_old(m:j9)(w:World)(g:Nat)(t:ByteArray)(b:Nat)(I:List zB)(sv:Value)(h:yU w g t b I sv)(hm:m.id∈I) :
  Calls prog 118 #[.pointer (some ⟨g,0,none⟩),.agg (y8 m)] w λe w'=>e=.returned (.bool false)/\Below w.heap.size w w':=by
 have hB:Below w.heap.size w (w.alloc (.cells (y8 m) 181)):=bA;have h1:=h.below hB;have hr:zA (w.alloc (.cells (y8 m) 181)) w.heap.size 0 32=some (idC m.id):=by simp[go_sem]
 go_enter func118,ntmps118
 go_upto_region 1 with fail
 generalize w.alloc (.cells (y8 m) 181)=W at *;have hc:=h1.cell1;have hk:∀x:Subtype (Bel W),(Instr.lookup 66 (.map (some b)) (.agg (idC m.id)) false).run prog x.1=.ok (.bool true) x.1:=λx=>ihit (h1.ids.below x.2) hm;clear h h1 hm;refine lX W ?_;intro d hS;have b1:=zK hc;have b2:=zS hr;refine lQ ?_;intro K hK;refine(v7 W.drew g b hc).mono ?_;rintro e w' ⟨rfl,rfl⟩;refine⟨_,rfl,hS,hK _ _ ?_⟩;clear hK K;refine lZ ?_;refine zD ?_;intro hS;(go_wp2_with fail);go_ret;exact⟨rfl,yK hB hS⟩
theorem vfold_new(m:j9)(w:World)(g:Nat)(t:ByteArray)(b:Nat)(I:List zB)(sv:Value)(h:yU w g t b I sv)(hm:m.id∉I)(hp:qH w)(d8:b≠1)(hs:m.body.size<=9223372036854775807)(ht:t.size<=9223372036854775807)
  (Q:World->Prop)
  (a0:¬Z7 t m->∀w',yU w' g t b (m.id :: I) sv->z9 [b] w w'->Q w')
  (d:Z7 t m->∀w1 A c,yU w1 g t b (m.id :: I) sv->z9 [b] w w1->qH w1->Own w1 w.heap.size 31 32 A (opO m.body.data.toList).refs.length c ((opO m.body.data.toList).refs.map idC) ->
   Calls prog 175 #[.pointer (some ⟨g,0,none⟩),.agg (y8 m),.agg (opC (opO m.body.data.toList) A c)] w1 λe w'=>e=.returned (.tuple #[])/\Q w') :
  Calls prog 118 #[.pointer (some ⟨g,0,none⟩),.agg (y8 m)] w λe w'=>e=.returned (.bool true)/\Q w':=by
 have hB:Below w.heap.size w (w.alloc (.cells (y8 m) 181)):=bA;have h1:=h.below hB;have b4:=hp.below hB;have T:zA (w.alloc (.cells (y8 m) 181)) w.heap.size 0 34=some (y8 m):=by simp[go_sem]
 have d7:=h.ids.lt;have d6:=h.lt;go_enter func118,ntmps118
 go_upto_region 1 with fail
 obtain⟨ga,b5⟩:=eX w.heap.size
 have a8:=dH b5;rw[b5]at T hB d7 d6 |-;obtain⟨W,hW⟩:=eR (w.alloc (.cells (y8 m) 181))
 rw[<-hW]at h1 b4 T hB |-;clear hW b5;have hr:zA W ga 0 32=some (idC m.id):=by have:=yF T (j:=0) (m:=32) oM;rwa [gI]at this
 have L:W.cell? ⟨ga,33,none⟩=some (.string m.body):=by have:=zC T (j:=33) oM;rwa [markVC_g33,Nat.zero_add]at this
 have hc:=h1.cell1;have hk:∀x:Subtype (Bel W),(Instr.lookup 66 (.map (some b)) (.agg (idC m.id)) false).run prog x.1=.ok (.bool false) x.1:=λx=>imiss (h1.ids.below x.2) hm;refine lX W ?_;intro X hS;have b1:=zK hc;have b2:=zS hr;refine lQ ?_;intro K hK;refine(v7 W.drew g b hc).mono ?_;rintro e w' ⟨rfl,rfl⟩;refine⟨_,rfl,hS,hK _ _ ?_⟩;clear hK K;refine lZ ?_;refine zD ?_;intro hS;clear b1 b2 X hk hS;have c6:g∉[b]:=by simpa using h1.ne
 have Y:yU W.drew g t b I sv:=h1.kept (z9.drew W) sI sI;have O:qH W.drew:=b4.kept (z9.drew W) sI;have c1:Below ga w W.drew:=hB.trans ((xR W).mono (by have:=hB.size;have:=a8.out;omega));have b0:zA W.drew ga 0 32=some (idC m.id):=hr;have D:zA W.drew ga 0 34=some (y8 m):=T;have b8:W.drew.cell? ⟨ga,33,none⟩=some (.string m.body):=L;clear hr T L hc b4 hB;go_upto_region 3 with fail
 obtain⟨W1,c8⟩:=eR W.drew
 rw[<-c8]at Y O c1 b0 D b8 |-;clear c8 h1;have hc:=Y.cell1;obtain⟨w2,a9,d1,c5⟩:=vl (x:=m.id) (Y.ids.kept (z9.drew W1) sI);refine kX [b] W1 ?_;intro X hS;have b1:=zG hc c6;have b2:=zY b0 (S:=[b]) sO;refine lQ ?_;intro K hK;refine zI (yC hS c5 sI) (λhS=>?_);refine hK _ _ ?_;clear hK K;refine zD ?_;intro hS;have y:z9 [b] W1 w2:=hS;have h2:yU w2 g t b (m.id :: I) sv:=⟨(y.block g Y.lt c6).trans Y.blk,d1⟩
 have a1:ga∉[b]:=sO;have b3:qH w2:=O.kept y (by simpa using λe=>d8 e.symm);have N:zA w2 ga 0 34=some (y8 m):=(y.row (zE D) a1 _ _).trans D;have b7:w2.cell? ⟨ga,33,none⟩=some (.string m.body):=(y.cell (p:=⟨ga,33,none⟩) (zE D) a1).trans b8;have d0:z9 [b] w w2:=z9.trans ((z9.of_below (c1.mono (by rw[a8.out];exact lR))).mono (S':=[b]) sI) y iL;clear b1 b2 X hS c5 d1 a9 b0 D b8 O Y c1 hc y;have c3:=op_Of m.body w2 b3 hs;obtain⟨l,hl⟩:=eX m.body.data.toList
 have Hl:=dH hl;rw[hl]at c3 d;have H:Z7 t m↔opE l=0/\nA (opO l).k=yH t:=by unfold Z7;rw[hl]
 obtain⟨E,hE⟩:=eX (opE l)
 have d9:=dH hE;clear hl;(go_wp2_with fail);refine c3.mono ?_;rintro en w3 ⟨V,rfl,a7,J,a2⟩;rw[hE]at a7 J |-;have h3:=h2.below a2;have c4:=b3.below a2;have M:zA w3 ga 0 34=some (y8 m):=(zH (a2.block ga (zE N)) _ _).trans N;have b9:z9 [b] w w3:=z9.trans d0 (z9.of_below a2) sI;clear c3 a2 h2 b3 N b7;by_cases h0:E=0
 ·subst h0;obtain⟨A,c,rfl,U⟩:=a7 rfl;have a6:=opO_ok l hE;have r:=U.mono (B':=ga) (by have:=d0.size;have:=a8.out;omega);have s:Z7 t m↔nA (opO l).k=yH t:=by rw[H];exact⟨λh=>h.2,λh=>⟨hE,h⟩⟩
  rw[<-a8.out]at r;obtain⟨o,ho⟩:=eX (opO l)
  rw[ho]at a6 r s d |-;have d5:o.k<=9223372036854775807:=oH a6.2.2.1;have e1:=dH a6;clear a7 J U H hE ho a6;have G:Below w3.heap.size w3 (w3.alloc (.cells (opC o A c) 73)):=bA;have h4:=h3.below G;have a5:=c4.below G;have F:zA (w3.alloc (.cells (opC o A c) 73)) ga 0 34=some (y8 m):=(zH (G.block ga (zE M)) _ _).trans M;have f:=r.below G;have B:zA (w3.alloc (.cells (opC o A c) 73)) w3.heap.size 0 37=some (opC o A c):=by simp[go_sem]
  have R:z9 [b] w (w3.alloc (.cells (opC o A c) 73)):=z9.trans b9 (z9.of_below G) sI;clear G h3 c4 M r b9;unfold opC at h4 a5 F f B R |-;go_upto_region 5 with fail
  obtain⟨W4,a3⟩:=eR (w3.alloc (.cells (zQ ⟨o.k,o.n,o.key,o.val,o.ref,.slice A o.refs.length c⟩) 73))
  rw[<-a3]at h4 a5 F f B R |-;clear a3;have b6:=zC B (j:=0) oM;rw[kN,Nat.zero_add]at b6;have c7:=h4.cell0;have cb:=op_belongs o.k W4.drew d5;have ck:=bY t W4.drew ht;obtain⟨B1,c2⟩:=eX (nA o.k)
  obtain⟨K1,c0⟩:=eX (yH t)
  rw[c2,c0]at s;rw[c2]at cb;rw[c0]at ck;have a4:=dH s;clear c2 c0 s;refine lX W4 ?_;intro X hS;have b1:=zK b6;have b2:=zK c7;refine lQ ?_;intro K hK;refine(cb).mono ?_;rintro e w' ⟨rfl,rfl⟩;refine⟨_,rfl,hS,hK _ _ ?_⟩;clear hK K;refine lZ ?_;refine lC (ck) ?_;clear hS;intro w' hS;refine lZ ?_;refine zD ?_;intro hS;have y:Below W4.heap.size W4 w':=hS;have h5:=h4.below y;have d4:=a5.below y;have d3:zA w' ga 0 34=some (y8 m):=(zH (y.block ga (zE F)) _ _).trans F;have d2:zA w' w3.heap.size 0 37=some (zQ ⟨o.k,o.n,o.key,o.val,o.ref,.slice A o.refs.length c⟩):=(zH (y.block w3.heap.size (zE B)) _ _).trans B;have Z:=f.below y;have c9:z9 [b] w w':=z9.trans R (z9.of_below y) sI;clear b1 b2 X hS cb ck b6 c7 h4 a5 F B f R y;obtain⟨W5,rfl⟩:∃W5,W5=w':=⟨w',rfl⟩
  cases hbb:(B1==K1)with
  | true =>
   have hf:Z7 t m:=a4.out.2 (by simpa using hbb);have hd:=d hf W5 A c h5 c9 d4 Z;unfold opC at hd;clear hf hbb;go_upto_region 6 with fail
   (go_wp2_with fail);refine hd.mono ?_;rintro e w6 ⟨rfl,hq⟩;have Hq:=dH hq;clear hq a0 d hd;(go_wp2_with fail);go_ret;exact⟨rfl,Hq.out⟩
  | false =>
   have hf:¬Z7 t m:=λh=>(by have:=a4.out.1 h;rw[beq_eq_false_iff_ne]at hbb;exact hbb this);have hq:=a0 hf W5 h5 c9;have Hq:=dH hq;clear hf hq a0 d;(go_wp2_with fail);go_ret;exact⟨rfl,Hq.out⟩
 ·have hf:¬Z7 t m:=λh=>h0 (by rw[<-hE];exact(H.1 h).1);have hV:=J h0;subst hV;have G:Below w3.heap.size w3 (w3.alloc (.cells (zQ jF) 73)):=bA;have h4:=h3.below G;have R:z9 [b] w (w3.alloc (.cells (zQ jF) 73)):=z9.trans b9 (z9.of_below G) sI;have e0:(E==0)=false:=by simpa using h0
  clear d a7 J H hE h0 G;go_upto_region 5 with fail
  obtain⟨W4,a3⟩:=eR (w3.alloc (.cells (zQ jF) 73))
  rw[<-a3]at h4 R |-;clear a3;have hq:=a0 hf _ (h4.below (xR W4)) (z9.trans R (z9.of_below (xR W4)) sI);have Hq:=dH hq;clear hf hq a0;refine lX W4 ?_;intro X hS;refine lQ ?_;intro K hK;refine hK _ _ ?_;clear hK K;refine lQ ?_;intro K hK;refine hK _ _ ?_;clear hK K;refine lZ ?_;refine zD ?_;intro hS;(go_wp2_with fail);go_ret;exact⟨rfl,Hq.out⟩
def xG(w:World)(g:Nat)(n:Int):Prop:=w.heap[g]?=some (.cells #[.int .i64 n,.bool true] 213 (0,0))
theorem xG.lt(h:xG w g n):g<w.heap.size:=(aG h).1
theorem xG.kept{w':World}{S:List Nat}(h:xG w g n)(k:z9 S w w')(hg:g∉S):xG w' g n:=(k.block g h.lt hg).trans h
theorem xG.cell0(h:xG w g n):w.cell? ⟨g,0,none⟩=some (.int .i64 n):=by rw[cell_of_row w g 0 _ _ _ h];rfl
theorem xG.cell1(h:xG w g n):w.cell? ⟨g,1,none⟩=some (.bool true):=by rw[cell_of_row w g 1 _ _ _ h];rfl
theorem at_load(w:World)(g:Nat)(n:Int)(h:xG w g n):(callFunc 206 #[.pointer (some ⟨g,0,none⟩)]).run prog w=.ok (.value (.int .i64 n)) w:=by
 have h0:=h.cell0;rw[run_callFunc_extern func206 kR kR kR (e:=Extern.Atomic.loadT (.int .i64)) kR];have e:Extern.Atomic.loadT (.int .i64) #[.pointer (some ⟨g,0,none⟩)]=(do Extern.Atomic.read (.int .i64) (<-asAddr (.pointer (some ⟨g,0,none⟩)))):=rfl;rw[e];simp[Extern.Atomic.read,asAddr,go_sem,h0]
theorem at_add(w:World)(g:Nat)(n m:Int)(h:xG w g n):(callFunc 305 #[.pointer (some ⟨g,0,none⟩),.int .i64 m]).run prog w=.ok (.value (.int .i64 (wrap64 (n+m)))) (w.setCell ⟨g,0,none⟩ (.int .i64 (wrap64 (n+m)))):=by
 have h0:=h.cell0;have hf:w.frozen? ⟨g,0,none⟩=false:=by simp[frozen?,show w.heap[g]?=_ from h]
 rw[run_callFunc_extern func305 kR kR kR (e:=Extern.Atomic.update (Op.intArith .add) .i64 true) kR];have e:Extern.Atomic.update (Op.intArith .add) .i64 true #[.pointer (some ⟨g,0,none⟩),.int .i64 m]=(do
  let a <-asAddr (.pointer (some ⟨g,0,none⟩))
  let old <-Extern.Atomic.read (.int .i64) a
  let new <-Op.intArith .add .i64 (<-asInt old) (<-asInt (.int .i64 m))
  store a new .atomic
  pure (if true then new else old)):=rfl
 rw[e];have ew:wrap64 (n+m)=IntKind.i64.wrap (n+m):=(IntWalk.i64_left _).symm;simp[Extern.Atomic.read,asAddr,asInt,Op.intArith,go_sem,h0,hf,ew]
theorem tnew(w:World):Calls prog 139 #[] w λe w'=>e=.returned (.pointer (some ⟨w.heap.size,0,none⟩))/\xG w' w.heap.size 0/\Below w.heap.size w w':=by
 have d:∀w:World,(Instr.build 213 #[(1,.bool true)]).run prog w=.ok (.agg #[.int .i64 0,.bool true]) w:=λw=>kR;go_enter func139,ntmps139
 (go_wp2_with fail);go_ret;exact⟨rfl,heap_alloc_new w _,bA⟩
theorem tnone(w:World)(g:Nat)(n:Int)(h:xG w g n):Calls prog 148 #[.pointer (some ⟨g,0,none⟩)] w λe w'=>e=.returned (.bool false)/\w=w':=by
 have h1:=h.cell1;clear h;go_enter func148,ntmps148
 (go_wp2_with fail);go_ret;exact⟨rfl,rfl⟩
theorem at_Load(w:World)(g:Nat)(n:Int)(h:xG w g n):Calls prog 149 #[.pointer (some ⟨g,0,none⟩)] w λe w'=>e=.returned (.int .i64 n)/\w=w':=by
 have hr:=at_load w g n h;clear h;go_enter func149,ntmps149
 (go_wp2_with fail);go_ret;exact⟨rfl,rfl⟩
theorem at_Add(w:World)(g:Nat)(n m:Int)(h:xG w g n):Calls prog 284 #[.pointer (some ⟨g,0,none⟩),.int .i64 m] w λe w'=>e=.returned (.int .i64 (wrap64 (n+m)))/\w'=w.setCell ⟨g,0,none⟩ (.int .i64 (wrap64 (n+m))):=by
 have hr:=at_add w g n m h;clear h;go_enter func284,ntmps284
 (go_wp2_with fail);go_ret;exact⟨rfl,rfl⟩
theorem tn(w:World)(g:Nat)(n:Int)(h:xG w g n):Calls prog 92 #[.pointer (some ⟨g,0,none⟩)] w λe w'=>e=.returned (.int .i64 n)/\w=w':=by
 go_enter func92,ntmps92
 (go_wp2_with fail);refine(tnone _ g n h).mono ?_;rintro e w1 ⟨rfl,rfl⟩;(go_wp2_with fail);refine(at_Load _ g n h).mono ?_;rintro e w1 ⟨rfl,rfl⟩;(go_wp2_with fail);go_ret;exact⟨rfl,rfl⟩
theorem tinc(w:World)(g:Nat)(n m:Int)(h:xG w g n)(h1:-2147483648<=m)(h2:m<2147483648) :
  Calls prog 241 #[.pointer (some ⟨g,0,none⟩),.int .i64 m] w λe w'=>e=.returned (.int .i64 0)/\xG w' g (wrap64 (n+m))/\z9 [g] w w':=by
 have d:xG (w.setCell ⟨g,0,none⟩ (.int .i64 (wrap64 (n+m)))) g (wrap64 (n+m)):=by
  have h0:w.heap[g]?=_:=h;unfold xG;rw[zF h0];rfl
 have j:=z9.setCell w ⟨g,0,none⟩ (.int .i64 (wrap64 (n+m)));have f:=dH d;have r:¬(2147483648<=m):=oM;have k:¬(m < -2147483648):=oM;clear d;go_enter func241,ntmps241
 (go_wp2_with fail);refine(tnone _ g n h).mono ?_;rintro e w1 ⟨rfl,rfl⟩;(go_wp2_with fail);refine(at_Add _ g n m h).mono ?_;rintro e w1 ⟨rfl,rfl⟩;(go_wp2_with fail);go_ret;exact⟨rfl,f.out,j⟩
theorem xf(w:World):Calls prog 85 #[.int .i64 1] w λe w'=>e=.returned (.iface 140 (.pointer (some ⟨w.heap.size,0,none⟩)))/\xG w' w.heap.size 0/\Below w.heap.size w w':=by
 go_enter func85,ntmps85
 (go_wp2_with fail);refine(tnew w).mono ?_;rintro e w1 ⟨rfl,h1,hb⟩;(go_wp2_with fail);go_ret;exact⟨rfl,h1,hb⟩
theorem JY(t:ByteArray)(w:World)(ht:t.size<=9223372036854775807)(k:Int)(hk:yH t=k)(D:k≠0)(ty:TypeId)(Z:World->World->Nat->Prop)
  (hf:∀w,Calls prog 85 #[.int .i64 k] w λe w'=>∃gs,e=.returned (.iface ty (.pointer (some ⟨gs,0,none⟩)))/\Z w w' gs/\Below w.heap.size w w') :
  Calls prog 38 #[.string t] w λe w'=>∃g b gs w2 w3,e=.returned (.tuple #[.pointer (some ⟨g,0,none⟩),.int .i64 0])/\yU w' g t b [] (.iface ty (.pointer (some ⟨gs,0,none⟩)))/\Z w2 w3 gs/\Below w2.heap.size w2 w3/\Below w3.heap.size w3 w'/\g=w3.heap.size/\w.heap.size<=b/\b<w2.heap.size/\Below w.heap.size w w':=by
 have G:=@run_makeMap prog;have c1:=λw=>rH t w ht;have e1:j8 t=0:=by unfold j8;rw[hk,if_neg D]
 rw[e1]at c1;have c2:=λw=>bY t w ht;rw[hk]at c2;clear e1 hk D;go_enter func38,ntmps38
 (go_wp2_with fail);refine(c1 _).mono ?_;rintro e w1 ⟨rfl,s⟩;(go_wp2_with fail);refine(c2 _).mono ?_;rintro e w2 ⟨rfl,m⟩;(go_wp2_with fail);refine(hf _).mono ?_;rintro e w3 ⟨gs,rfl,hZ,j⟩;have hn:=yM.new (kv:=idV) (ok:=vN) w1 w1.heap.size rfl;have A:w.heap.size<=w1.heap.size:=s.size;have F:w1.heap.size+1<=w2.heap.size:=by have:=m.size;simpa using this
 have E:=j.size;have f:Below w.heap.size w (w1.alloc (.map #[] 0)):=s.alloc A _;have d:Below w.heap.size w w2:=yK f m;have y:Below w.heap.size w w3:=yK d j;have B:=(hn.below m).below j;have Hn:=dH B;have HZ:=dH hZ;clear hn B hZ s m f d c1 c2 hf;have r:Below w3.heap.size w3 (w3.alloc (.cells #[.string t,.map (some w1.heap.size),.iface ty (.pointer (some ⟨gs,0,none⟩))] 136)):=bA;have hv:yU (w3.alloc (.cells #[.string t,.map (some w1.heap.size),.iface ty (.pointer (some ⟨gs,0,none⟩))] 136)) w3.heap.size t w1.heap.size [] (.iface ty (.pointer (some ⟨gs,0,none⟩))) :=
  ⟨heap_alloc_new w3 _,Hn.out.below r⟩
 have Hv:=dH hv;clear hv;(go_wp2_with fail);go_ret2;exact⟨w3.heap.size,w1.heap.size,gs,w2,w3,rfl,Hv.out,HZ.out,j,r,rfl,A,oM,yK y r⟩
theorem vdoes_t(m:j9)(o:OpV)(A:Option Addr)(c:Nat)(w:World)(g gt:Nat)(t:ByteArray)(b:Nat)(I:List zB)(n:Int)(h:yU w g t b I (.iface 140 (.pointer (some ⟨gt,0,none⟩))))(hT:xG w gt n)(h1:-2147483648<=o.n)(h2:o.n<2147483648) :
  Calls prog 175 #[.pointer (some ⟨g,0,none⟩),.agg (y8 m),.agg (opC o A c)] w λe w'=>e=.returned (.tuple #[])/\xG w' gt (wrap64 (n+o.n))/\z9 [gt] w w':=by
 have hB:Below w.heap.size w ((w.alloc (.cells (y8 m) 181)).alloc (.cells (opC o A c) 73)):=(bA).alloc sI _;have hc:=(h.below hB).cell2;have f:=hT.kept (z9.of_below hB) sI;unfold opC at hB hc f |-;have ci:=tinc _ gt n o.n f h1 h2;go_enter func175,ntmps175
 (go_wp2_with fail);refine ci.mono ?_;rintro e w1 ⟨rfl,h1,j⟩;have d:z9 [gt] w w1:=z9.trans ((z9.of_below hB).mono (S':=[gt]) sI) j iL;clear hB hc f ci h hT j;(go_wp2_with fail);go_end0;exact⟨rfl,h1,d⟩
@[go_sem] theorem storeValA_run(w:World)(g:Nat)(hg:g=w.heap.size)(z:Array Value)(hz:z.size=3)(k n:Int)(A:Option Addr)(m c:Nat)(e:TypeId):(stS 42 ⟨g,0,none⟩ (.agg (zJ ⟨k,n,.slice A m c⟩))).run prog (w.alloc (.cells z e))=.ok () (w.alloc (.cells (zJ ⟨k,n,.slice A m c⟩) e)):=bM w g hg z hz _ rfl e
theorem vvalue_t(w:World)(g gt:Nat)(t:ByteArray)(b:Nat)(I:List zB)(n:Int)(h:yU w g t b I (.iface 140 (.pointer (some ⟨gt,0,none⟩))))(hT:xG w gt n)(ht:t.size<=9223372036854775807)(hk:yH t=1) :
  Calls prog 42 #[.pointer (some ⟨g,0,none⟩)] w λe w'=>e=.returned (.agg (zJ ⟨1,n,.slice none 0 0⟩))/\Below w.heap.size w w':=by
 have hB:Below w.heap.size w (w.alloc (.cells (zJ xX) 42)):=bA;have h1:=h.below hB;have H:=hT.kept (z9.of_below hB) sI;have k:(w.alloc (.cells (zJ xX) 42)).heap[w.heap.size]?=some (.cells (zJ xX) 42 (0,0)):=heap_alloc_new w _;have c2:=λw=>bY t w ht;rw[hk]at c2;go_enter func42,ntmps42
 go_upto_region 1 with fail
 obtain⟨ga,E⟩:=eX w.heap.size
 have L:=dH E;rw[E]at k hB |-;obtain⟨W,hW⟩:=eR (w.alloc (.cells (zJ xX) 42))
 rw[<-hW]at h1 H k hB |-;clear hW E;have R:=h1.cell1;(go_wp2_with fail);refine(v7 W g b R).mono ?_;rintro e w1 ⟨rfl,rfl⟩;have a3:=h1.cell0;(go_wp2_with fail);refine(c2 _).mono ?_;rintro e w2 ⟨rfl,r⟩;have h2:=h1.below r;have X:=H.kept (z9.of_below r) sI;have F:=(r.block ga (aG k).1).trans k;have Z:Below ga w w2:=hB.trans (r.mono (by have:=hB.size;have:=L.out;omega));have N:ga<w2.heap.size:=(aG F).1;clear a3 R h1 H k hB r h hT c2;have m:Below w2.heap.size w2 (w2.alloc (.cells (zJ ⟨1,0,.slice none 0 0⟩) 42)):=bA;have h3:=h2.below m;have G:=X.kept (z9.of_below m) sI;have j:=(m.block ga N).trans F;have J:Below ga w (w2.alloc (.cells (zJ ⟨1,0,.slice none 0 0⟩) 42)):=Z.trans (m.mono oM);have d:(w2.alloc (.cells (zJ ⟨1,0,.slice none 0 0⟩) 42)).heap[w2.heap.size]?=some (.cells (zJ ⟨1,0,.slice none 0 0⟩) 42 (0,0)):=heap_alloc_new w2 _;obtain⟨gv,D⟩:=eX w2.heap.size
 have a5:=dH D;clear h2 X F Z m;go_upto_region 4 with fail
 rw[D]at d N;obtain⟨W3,V⟩:=eR (w2.alloc (.cells (zJ ⟨1,0,.slice none 0 0⟩) 42))
 rw[<-V]at h3 G j J d |-;clear V D;have a2:=h3.cell2;have hf:W3.frozen? ⟨gv,1,none⟩=false:=by simp[frozen?,d]
 have a1:W3.cell? ⟨gv,1,none⟩=some (.int .i64 0):=by rw[cell_of_row W3 gv 1 _ _ _ d];simp[go_sem]
 (go_wp2_with fail);refine(tn W3 gt n G).mono ?_;rintro e w4 ⟨rfl,rfl⟩;have f:(zJ ⟨1,0,.slice none 0 0⟩).setIfInBounds 1 (.int .i64 n)=zJ ⟨1,n,.slice none 0 0⟩:=by apply Array.ext';simp[zJ]
 have A:(W3.setCell ⟨gv,1,none⟩ (.int .i64 n)).heap[gv]?=some (.cells (zJ ⟨1,n,.slice none 0 0⟩) 42 (0,0)):=by rw[zF d,f]
 have B:=z9.setCell W3 ⟨gv,1,none⟩ (.int .i64 n);have s:(W3.setCell ⟨gv,1,none⟩ (.int .i64 n)).heap[ga]?=some (.cells (zJ xX) 42 (0,0)):=(B.block ga (aG j).1 sO).trans j;have y:Below ga w (W3.setCell ⟨gv,1,none⟩ (.int .i64 n)):=J.trans (B.below (oH ((aG j).1)) sO);clear f B j J h3 G a2;go_upto_region 20 with fail
 obtain⟨W4,T⟩:=eR (W3.setCell ⟨gv,1,none⟩ (.int .i64 n))
 rw[<-T]at A s y |-;clear T hf d a1;have a0:zA W4 gv 0 3=some (zJ ⟨1,n,.slice none 0 0⟩):=by unfold zA;rw[A];simp[go_sem]
 have U:=y9 (P:=prog) jH W4 ga (zJ xX) (zJ ⟨1,n,.slice none 0 0⟩) _ s sI sI (kT _ rfl);have O:z9 [ga] W4 (W4.setRow ga (zJ ⟨1,n,.slice none 0 0⟩)):=⟨rfl,rfl,rfl,by simp[setRow],λx _ hx=>setRow_other W4 ga x _ (by simpa using hx)⟩
 have M:=dH (setRow_heap W4 ga _ (zJ ⟨1,n,.slice none 0 0⟩) _ _ s);have Y:Below ga w (W4.setRow ga (zJ ⟨1,n,.slice none 0 0⟩)):=y.trans (O.below (by have:=y.size;have:=L.out;omega) sI);have a4:=dH Y;clear Y O s y A;(go_wp2_with fail);refine bodyPost_ret (results_cell_row results42 _ _ ga 42 (zJ ⟨1,n,.slice none 0 0⟩) (0,0) _ rfl M.out underlying42 rfl (by rw[jP];exact jH)) rfl ?_;exact⟨rfl,by rw[L.out];exact a4.out⟩
section
abbrev okR(x:xC):Prop:=x.val.size<=maxLen
abbrev dV(w:World)(b:Nat)(L:List xC):Prop:=yM w b YO okR L
theorem zeroBool(w:World):(zeroValue 4).run prog w=.ok (.bool false) w:=kR
def small(x:xC):Prop:=x.val.size<=16
theorem eW{x:xC}(h:small x):okR x:=by unfold small at h;unfold okR;simp only[maxLen];omega
section
variable {w:World} {b:Nat} {X:List xC} {x:xC}
theorem rhit(h:dV w b X)(hk:small x)(hx:x∈X):(Instr.lookup 215 (.map (some b)) (.agg (zZ x)) false).run prog w=.ok (.bool true) w:=yM.hit (kv:=YO) (ok:=okR) h zm underlying215 (eW hk) hx
theorem rmiss(h:dV w b X)(hk:small x)(hx:x∉X):(Instr.lookup 215 (.map (some b)) (.agg (zZ x)) false).run prog w=.ok (.bool false) w:=yM.miss (kv:=YO) (ok:=okR) h zm underlying215 zeroBool (eW hk) hx
theorem rput(h:dV w b X)(hk:small x):∃w',(Instr.mapUpdate 215 (.map (some b)) (.agg (zZ x)) (.bool true)).run prog w=.ok () w'/\dV w' b (x :: X)/\z9 [b] w w':=yM.put h zm underlying215 (eW hk)
theorem rdel(h:dV w b X)(hk:small x)(ty:TypeId):∃w',(Builtin.delete_ #[215,219] ty #[.map (some b),.agg (zZ x)]).run prog w=.ok (.tuple #[]) w'/\dV w' b (X.filter λy=>decide (y≠x))/\z9 [b] w w':=yM.del h zm underlying215 (eW hk) ty
end
structure qS(w:World)(g bl bg:Nat)(L G:List xC):Prop where
 blk:w.heap[g]?=some (.cells #[.map (some bl),.map (some bg)] 217 (0,0))
 live:dV w bl L
 gone:dV w bg G
 ne:bl≠bg
 risL:Ris vL L
 risG:Ris vL G
 smL:∀x∈L,small x
 smG:∀x∈G,small x
 apart:∀x∈L,x∉G
section
variable {w w':World} {g bl bg:Nat} {L G:List xC}
theorem qS.cell0(h:qS w g bl bg L G):w.cell? ⟨g,0,none⟩=some (.map (some bl)):=by rw[cell_of_row w g 0 _ _ _ h.blk];rfl
theorem qS.cell1(h:qS w g bl bg L G):w.cell? ⟨g,1,none⟩=some (.map (some bg)):=by rw[cell_of_row w g 1 _ _ _ h.blk];rfl
theorem zj{t:TypeId}{f:Nat×Nat}(h:dV w b X)(hg:w.heap[g]?=some (.cells cs t f)):g≠b:=by
 rintro rfl;obtain⟨M,es,d,hm,_⟩:=h;rw[hm.heap]at hg;cases hg
theorem qS.nel(h:qS w g bl bg L G):g≠bl:=zj h.live h.blk
theorem qS.neg(h:qS w g bl bg L G):g≠bg:=zj h.gone h.blk
theorem qS.lt(h:qS w g bl bg L G):g<w.heap.size/\bl<w.heap.size/\bg<w.heap.size:=⟨block_lt_of_cell? w _ h.cell0,h.live.lt,h.gone.lt⟩
theorem qS.kept{S:List Nat}(h:qS w g bl bg L G)(k:z9 S w w')(hg:g∉S)(hl:bl∉S)(hb:bg∉S):qS w' g bl bg L G :=
 ⟨(k.block g h.lt.1 hg).trans h.blk,h.live.kept k hl,h.gone.kept k hb,h.ne,h.risL,h.risG,h.smL,h.smG,h.apart⟩
theorem qS.below(h:qS w g bl bg L G)(k:Below w.heap.size w w'):qS w' g bl bg L G:=h.kept (z9.of_below k) sI sI sI
end
theorem JJ(w:World)(g b:Nat)(h:w.cell? ⟨g,0,none⟩=some (.map (some b))):Calls prog 150 #[.pointer (some ⟨g,0,none⟩)] w λe w'=>e=.returned (.bool false)/\w=w':=by
 have hn:=λr=>run_eql_map_nil (P:=prog) w 215 219 4 r underlying215;go_enter func150,ntmps150
 (go_wp2_with fail);go_ret;exact⟨rfl,rfl⟩
theorem bnew(w:World):Calls prog 140 #[] w λe w'=>∃g bl bg,e=.returned (.pointer (some ⟨g,0,none⟩))/\qS w' g bl bg [] []/\w.heap.size<=g/\w.heap.size<=bl/\w.heap.size<=bg/\Below w.heap.size w w':=by
 have d:=@run_makeMap prog;go_enter func140,ntmps140
 (go_wp2_with fail);go_ret;have k1:=yM.new (kv:=YO) (ok:=okR) w w.heap.size rfl;have k2:=yM.new (kv:=YO) (ok:=okR) (w.alloc (.map #[] 0)) (w.heap.size+1) sI;refine⟨w.heap.size+2,w.heap.size,w.heap.size+1,rfl,⟨?_,(k1.kept (z9.alloc _ _) sI).kept (z9.alloc _ _) sI,k2.kept (z9.alloc _ _) sI,oM,Ris.nil,Ris.nil,sI,sI,sI⟩,oM,oM,oM,((bA).alloc sI _).alloc sO _⟩;have:=heap_alloc_new ((w.alloc (.map #[] 0)).alloc (.map #[] 0)) (.cells #[.map (some w.heap.size),.map (some (w.heap.size+1))] 217 (0,0));simpa using this
def KL(s:ByteArray):Int:=if 16<s.size then 3 else 0
theorem bask(v:ByteArray)(w:World)(g b:Nat)(h:w.cell? ⟨g,0,none⟩=some (.map (some b)))(hv:v.size<=9223372036854775807):Calls prog 285 #[.pointer (some ⟨g,0,none⟩),.string v] w λe w'=>e=.returned (.int .i64 (KL v))/\w=w':=by
 go_enter func285,ntmps285
 (go_wp2_with fail);refine(JJ _ _ _ h).mono ?_;rintro e w' ⟨rfl,rfl⟩;go_wp2_with fail
 all_goals
  go_ret;refine⟨yA ?_,rfl⟩;unfold KL
  first
   | rw[if_pos oM]
   | rw[if_neg oM]
def JP(L G:List xC)(x:xC):List xC:=if 16<x.val.size then L else if x∈G then L else jO vL L x
theorem badd(d:zB)(v:ByteArray)(w:World)(g bl bg:Nat)(L G:List xC)(h:qS w g bl bg L G)(hv:v.size<=9223372036854775807) :
  Calls prog 242 #[.pointer (some ⟨g,0,none⟩),.agg (idC d),.string v] w λe w'=>e=.returned (.int .i64 (KL v))/\qS w' g bl bg (JP L G ⟨d,v⟩) G/\z9 [bl] w w':=by
 have h0:qS (w.alloc (.cells (idC d) 31)) g bl bg L G:=h.below (bA);have hc:=h0.cell0;by_cases f:16<v.size
 ·have e1:KL v=3:=if_pos f;have e2:JP L G ⟨d,v⟩=L:=if_pos f;rw[e1,e2];have j:=bask v _ g bl hc hv;rw[e1]at j;clear e1 e2 hc;go_enter func242,ntmps242
  (go_wp2_with fail);refine j.mono ?_;rintro e w' ⟨rfl,rfl⟩;(go_wp2_with fail);go_ret;exact⟨rfl,h0,(z9.alloc _ _).mono sI⟩
 ·have e1:KL v=0:=if_neg f;have s:small ⟨d,v⟩:=by unfold small;simp only;omega
  have j:=bask v _ g bl hc hv;rw[e1]at j;rw[e1];have r:Below w.heap.size w ((w.alloc (.cells (idC d) 31)).alloc (.cells (zZ ⟨d,v⟩) 219)):=(bA).alloc sI _;have h1:=h.below r;have k:zA ((w.alloc (.cells (idC d) 31)).alloc (.cells (zZ ⟨d,v⟩) 219)) (w.heap.size+1) 0 33=some (zZ ⟨d,v⟩):=by simp[go_sem]
  have R:=h.lt.2.1;clear hc e1 hv;by_cases hG:(⟨d,v⟩:xC)∈G
  ·have e2:JP L G ⟨d,v⟩=L:=by unfold JP;rw[if_neg f,if_pos hG]
   rw[e2];clear e2 f;go_enter func242,ntmps242
   (go_wp2_with fail);refine j.mono ?_;rintro e w' ⟨rfl,rfl⟩;go_upto_region 5 with fail
   obtain⟨W,hW⟩:=eR ((w.alloc (.cells (idC d) 31)).alloc (.cells (zZ ⟨d,v⟩) 219))
   rw[<-hW]at h1 k r |-;have t:=h1.cell1;have hk:∀x:Subtype (Bel W),(Instr.lookup 215 (.map (some bg)) (.agg (zZ ⟨d,v⟩)) false).run prog x.1=.ok (.bool true) x.1:=λx=>rhit (h1.gone.below x.2) s hG;have J:=dH h0;have B:=dH hG;clear hW h0 hG j;refine lX W ?_;intro y hS;have b1:=zK t;have b2:=zS k;refine lZ ?_;refine zD ?_;intro hS;(go_wp2_with fail);go_ret;exact⟨rfl,h1.below hS,(z9.of_below (yK r hS)).mono sI⟩
  ·have e2:JP L G ⟨d,v⟩=jO vL L ⟨d,v⟩:=by unfold JP;rw[if_neg f,if_neg hG]
   rw[e2];clear e2 f;go_enter func242,ntmps242
   (go_wp2_with fail);refine j.mono ?_;rintro e w' ⟨rfl,rfl⟩;go_upto_region 5 with fail
   obtain⟨W,hW⟩:=eR ((w.alloc (.cells (idC d) 31)).alloc (.cells (zZ ⟨d,v⟩) 219))
   rw[<-hW]at h1 k r |-;have t:=h1.cell1;have hk:∀x:Subtype (Bel W),(Instr.lookup 215 (.map (some bg)) (.agg (zZ ⟨d,v⟩)) false).run prog x.1=.ok (.bool false) x.1:=λx=>rmiss (h1.gone.below x.2) s hG;have J:=dH h0;have B:=dH hG;clear hW h0 hG j;refine lX W ?_;intro y hS;have b1:=zK t;have b2:=zS k;refine lZ ?_;refine zD ?_;intro hS;have h2:=h1.below hS;have m:zA W.drew (w.heap.size+1) 0 33=some (zZ ⟨d,v⟩):=k;have E:Below w.heap.size w W.drew:=yK r hS;clear b1 b2 hk t k h1 y r;go_upto_region 6 with fail
   obtain⟨W1,F⟩:=eR W.drew
   rw[<-F]at h2 m E |-;obtain⟨w2,H,O,I⟩:=rput (x:=⟨d,v⟩) (h2.live.kept (z9.drew W1) sI) s;have D:g∉[bl]:=by simp;exact h2.nel
   have M:=h2.cell0;clear F hS;refine kX [bl] W1 ?_;intro y hS;have b1:=zG M D;have b2:=zY m (S:=[bl]) sO;refine lQ ?_;intro K hK;refine zI (yC hS I sI) (λhS=>?_);refine hK _ _ ?_;clear hK K;refine zD ?_;intro hS;(go_wp2_with fail);go_ret;have N:bg∉[bl]:=by simp;exact λe=>h2.ne e.symm
   have A:z9 [bl] W1 _:=hS;refine⟨rfl,⟨(A.block g h2.lt.1 D).trans h2.blk,O.congr λx=>?_,h2.gone.kept A N,h2.ne,dA tW h2.risL,h2.risG,λx hx=>?_,h2.smG,λx hx=>?_⟩,z9.trans ((z9.of_below E).mono (S':=[bl]) sI) A iL⟩
   ·rw[jG tW,mem_cons]
   ·rcases (jG tW).1 hx with e | hx
    ·rw[e];exact s
    ·exact h2.smL x hx
   ·rcases (jG tW).1 hx with e | hx
    ·rw[e];exact B.out
    ·exact h2.apart x hx
end
theorem row_ne{o k:Nat}(h:zA w g o k=some cs)(hs:dV w b X):g≠b:=by
 rintro rfl;obtain⟨M,es,d,hm,_⟩:=hs;unfold zA at h;rw[hm.heap]at h;cases h
def XY(G:List xC)(v:ByteArray)(tags:List zB):List xC:=tags.foldl (λG t=>jO vL G ⟨t,v⟩) G
def aL(L:List xC)(v:ByteArray)(tags:List zB):List xC:=tags.foldl (λL t=>L.filter λy=>decide (y≠(⟨t,v⟩:xC))) L
theorem remG_snoc(G:List xC)(v:ByteArray)(d:List zB)(t:zB):XY G v (d ++ [t])=jO vL (XY G v d) ⟨t,v⟩:=by simp[XY]
theorem remL_snoc(L:List xC)(v:ByteArray)(d:List zB)(t:zB):aL L v (d ++ [t])=(aL L v d).filter λy=>decide (y≠(⟨t,v⟩:xC)):=by simp[aL]
theorem brem_ok(v:ByteArray)(A:Option Addr)(n cap:Nat)(T:List zB)(w:World)(g bl bg:Nat)(L G:List xC)(h:qS w g bl bg L G)(hT:zX w A n T)(hv:v.size<=16)(hn:n<=1000000) :
  Calls prog 243 #[.pointer (some ⟨g,0,none⟩),.string v,.slice A n cap] w λe w'=>e=.returned (.int .i64 0)/\qS w' g bl bg (aL L v T) (XY G v T)/\z9 [bl,bg] w w':=by
 have D:=hT.len;have j:=dH D;clear D;have F:=bask v w g bl h.cell0 oM;have e1:KL v=0:=if_neg oM;rw[e1]at F;clear e1;go_enter func243,ntmps243
 (go_wp2_with fail);refine F.mono ?_;rintro e w' ⟨rfl,rfl⟩;(go_wp2_with fail);go_loopw [19] (λi wr=>∃k:Nat,k<=n/\i=.int .i64 k/\qS wr g bl bg (aL L v (T.take k)) (XY G v (T.take k))/\z9 [bl,bg] w wr) (λi _=>n-(intOf i).toNat)
 case atStart=>exact⟨0,zL,rfl,by simpa[aL,XY]using h,z9.refl _ _⟩
 case round =>
  obtain⟨k,hk,rfl,hB,N⟩:=hrel;by_cases B:k<n
  ·obtain⟨q,o,rfl,m⟩:=hT.get B (by rw[j.out];exact B);have a6:q≠bl:=row_ne m h.live;have a7:q≠bg:=row_ne m h.gone;have a5:zA wr q (o+k*32) 32=some (idC (T[k]'(by rw[j.out];exact B))):=(N.row (zE m) (by simp[a6,a7]) _ _).trans m;have I:T.take (k+1)=T.take k ++ [T[k]'(by rw[j.out];exact B)]:=by rw[take_add_one,getElem?_eq_getElem (by rw[j.out];exact B)];rfl
   obtain⟨d,hd⟩:=eX (T[k]'(by rw[j.out];exact B))
   rw[hd]at a5 I;have b7:=dH I;clear hd I m;have J:small ⟨d,v⟩:=hv;obtain⟨L1,X⟩:=eX (aL L v (T.take k))
   obtain⟨G1,Y⟩:=eX (XY G v (T.take k))
   have b8:=dH X;have b9:=dH Y;rw[X,Y]at hB;clear X Y;have H:Below wr.heap.size wr ((wr.alloc (.cells (idC d) 31)).alloc (.cells (zZ ⟨d,v⟩) 219)):=(bA).alloc sI _;have h1:=hB.below H;have f:zA ((wr.alloc (.cells (idC d) 31)).alloc (.cells (zZ ⟨d,v⟩) 219)) (wr.heap.size+1) 0 33=some (zZ ⟨d,v⟩):=by simp[go_sem]
   have a8:=hB.lt;go_upto_region 8 with fail
   obtain⟨W1,a3⟩:=eR ((wr.alloc (.cells (idC d) 31)).alloc (.cells (zZ ⟨d,v⟩) 219))
   rw[<-a3]at h1 f H |-;obtain⟨w2,y,b5,U⟩:=rput (x:=⟨d,v⟩) (h1.gone.kept (z9.drew W1) sI) J;have a1:g∉[bg]:=by simp;exact h1.neg
   have a2:=h1.cell1;clear a3;refine kX [bg] W1 ?_;intro M hS;have b1:=zG a2 a1;have b2:=zY f (S:=[bg]) sO;refine lQ ?_;intro K hK;refine zI (yC hS U sI) (λhS=>?_);refine hK _ _ ?_;clear hK K;refine zD ?_;intro hS;have r:z9 [bg] W1 w2:=hS;have a9:bl∉[bg]:=by simp;exact h1.ne
   have b0:=h1.live.kept r a9;have t:=(r.block g h1.lt.1 a1).trans h1.blk;have V:w2.cell? ⟨g,0,none⟩=some (.map (some bl)):=by rw[cell_of_row w2 g 0 _ _ _ t];rfl
   have s:zA w2 (wr.heap.size+1) 0 33=some (zZ ⟨d,v⟩):=(r.row (zE f) sO _ _).trans f;have E:z9 [bg] wr w2:=z9.trans ((z9.of_below H).mono (S':=[bg]) sI) r iL;have R:=hB.nel;have a4:=E.size;clear b1 b2 U y M hS r a2 f H;go_upto_region 9 with fail
   obtain⟨w3,y,b4,Z⟩:=rdel (x:=⟨d,v⟩) (b0.kept (z9.drew w2) sI) J 0;have a0:g∉[bl]:=by simp;exact R
   refine kX [bl] w2 ?_;intro M hS;have b1:=zG V a0;have b2:=zY s (S:=[bl]) sO;refine lQ ?_;intro K hK;refine zI (yC hS Z sI) (λhS=>?_);refine hK _ _ ?_;clear hK K;refine zD ?_;intro hS;have r:z9 [bl] w2 w3:=hS;have O:bg∉[bl]:=by simp;exact λe=>h1.ne e.symm
   have b3:z9 [bl,bg] w w3:=z9.trans (z9.trans N E sI) r sI;have b6:qS w3 g bl bg (aL L v (T.take (k+1))) (XY G v (T.take (k+1))):=by
    rw[b7.out,remL_snoc,remG_snoc,b8.out,b9.out];refine⟨(r.block g (block_lt_of_cell? w2 _ V) a0).trans t,b4,(b5.congr λx=>?_).kept r O,h1.ne,hB.risL.filter _,dA tW hB.risG,λx hx=>hB.smL x (mem_filter.1 hx).1,λx hx=>?_,λx hx=>?_⟩
    ·rw[jG tW,mem_cons]
    ·rcases (jG tW).1 hx with e | hx
     ·rw[e];exact J
     ·exact hB.smG x hx
    ·intro hm;have h2:=mem_filter.1 hx;rcases (jG tW).1 hm with e | hm
     ·exact(decide_eq_true_eq.mp h2.2) e
     ·exact hB.apart x h2.1 hm
   clear b1 b2 Z y M hS r V s;(go_wp2_with fail);go_roundw
   case rel=>exact⟨k+1,oM,by go_num,b6,b3⟩
   case measure=>exact sZ
  ·(go_wp2_with fail);go_ret;have e:k=n:=oM;have e2:T.take k=T:=take_of_length_le (by rw[j.out];omega);rw[e2]at hB;exact⟨rfl,hB,N⟩
structure yW where
 val:ByteArray
 n:Int
 id:zB
def zM(x:yW):Array Value:=#[.string x.val] ++ #[.int .i64 x.n]++idC x.id
@[simp] theorem rV(x:yW):(zM x).size=34:=by simp[zM]
@[go_sem] theorem qj(x:yW):(zM x)[0]?=some (.string x.val):=by first | (simp[zM,Array.getElem?_append];done) | (rw[show zM x=((#[]:Array Value)) ++ #[.string x.val]++(#[.int .i64 x.n]++idC x.id)from by apply Array.ext';simp[zM]];exact xM _ _ _ _ sI)
@[go_sem] theorem settingC_gg0(x:yW)(h:0<(zM x).size):(zM x)[0]'h=.string x.val:=Option.some.inj ((Array.getElem?_eq_getElem h).symm.trans (qj x))
@[go_sem] theorem qi(x:yW):(zM x)[1]?=some (.int .i64 x.n):=by first | (simp[zM,Array.getElem?_append];done) | (rw[show zM x=(#[.string x.val]) ++ #[.int .i64 x.n]++(idC x.id)from by apply Array.ext';simp[zM]];exact xM _ _ _ _ sI)
@[go_sem] theorem settingC_gg1(x:yW)(h:1<(zM x).size):(zM x)[1]'h=.int .i64 x.n:=Option.some.inj ((Array.getElem?_eq_getElem h).symm.trans (qi x))
@[go_sem] theorem settingC_e2(x:yW):(zM x).extract 2 34=idC x.id:=by
 have h:zM x=(#[.string x.val] ++ #[.int .i64 x.n])++idC x.id++((#[]:Array Value)):=by first | (simp[zM,Array.append_assoc];done) | (apply Array.ext';simp[zM];done)
 rw[h];exact bC _ _ _ _ _ sI sI
@[go_sem] theorem settingC_all(x:yW):(zM x).extract 0 34=zM x:=by have:=Array.extract_size (xs:=zM x);rwa [rV]at this
theorem eZ(x:yW):∀u∈(zM x).toList,u.oneCell'=true:=by
 intro u hu;simp only[zM,Array.toList_append,mem_append]at hu;rcases hu with(hu | hu) | hu
 ·simp at hu;subst hu;rfl
 ·simp at hu;subst hu;rfl
 ·exact yN _ u hu
def vX:yW:=⟨⟨#[]⟩,0,id0⟩
theorem Setting_ext{x y:yW}(h:x.val=y.val/\x.n=y.n/\x.id=y.id):x=y:=by cases x;cases y;simp_all
instance:DecidableEq yW:=λx y=>if h:x.val=y.val/\x.n=y.n/\x.id=y.id then isTrue (Setting_ext h)else isFalse (λe=>h (by subst e;simp))
theorem Y8:(prog.info? 226).map (·.size)=some 34:=kR
@[go_sem ↓] theorem nF(w:World):(zeroValue 226).run prog w=.ok (.agg (zM vX)) w:=by
 have h:(prog.info? 226).bind (·.zero)=some (.agg (zM vX)):=kR;cases hi:prog.info? 226 with
 | none=>rw[hi]at h;cases h
 | some i =>
  rw[hi]at h;have hz:i.zero=some (.agg (zM vX)):=h;simp[zeroValue,typeInfo,hi,hz]
@[go_sem ↓] theorem loadSetting_rw(a:Addr):loadVar 226 a=ldS 226 a:=rfl
@[go_sem ↓] theorem storeSetting_rw(a:Addr)(v:Value):storeVar 226 a v=stS 226 a v:=rfl
@[go_sem] theorem loadSetting_run(w:World)(g o:Nat):(ldS 226 ⟨g,o,none⟩).run prog w=match zA w g o 34 with | some cs=>.ok (.agg cs) w | none=>(loadVar 226 ⟨g,o,none⟩).run prog w :=
 jK underlying226 rfl Y8 w g o
@[go_sem] theorem storeSetting_run(w:World)(g:Nat)(hg:g=w.heap.size)(z:Array Value)(hz:z.size=34)(x:yW)(e:TypeId):(stS 226 ⟨g,0,none⟩ (.agg (zM x))).run prog (w.alloc (.cells z e))=.ok () (w.alloc (.cells (zM x) e)) :=
 hg ▸ xZ Y8 w z (zM x) hz (rV x) (eZ x)
theorem VD:prog.underlying 226=some (.struct (prog.fieldsOf 226)):=kR
theorem V6(w:World):((prog.fieldsOf 226).mapM fun (f:Field)=>do pure (f.offset,<-sizeOf f.type)).run prog w=.ok #[(0,1),(1,1),(2,32)] w:=kR
@[go_sem ↓] theorem buildSetting_rw(parts:Array (Nat×Value)):Instr.build 226 parts=bdS 226 parts:=rfl
@[go_sem ↓] theorem fieldSetting_0(x:yW)(w:World):(Instr.field 226 (.agg (zM x)) 0).run prog w=.ok (.string x.val) w:=by
 unfold Instr.field;simp only[Sem.run_bind,run_underlying underlying226,Result.andThen_ok,part,asAgg,isAgg];simp[go_sem]
@[go_sem] theorem buildSetting(a0:ByteArray)(a1:Int)(a2:zB)(w:World):(bdS 226 #[(0,.string a0),(1,.int .i64 a1),(2,.agg (idC a2))]).run prog w=.ok (.agg (zM ⟨a0,a1,a2⟩)) w:=by
 refine qL w VD _ (nF w) _ (V6 w) [(0,.string a0),(1,.int .i64 a1),(2,.agg (idC a2))] _ ?_;rw[show zM vX=(#[]:Array Value) ++ #[.string ⟨#[]⟩]++(#[.int .i64 0]++(idC id0))from by first | (simp[zM,vX,Array.append_assoc];done) | (apply Array.ext';simp[zM,vX])];rw[yT (off:=0) (size:=1) rfl sI sI (by simp[Value.cells])];rw[show(#[]:Array Value)++(Value.string a0).cells++(#[.int .i64 0]++(idC id0))=(#[.string a0]) ++ #[.int .i64 0]++(idC id0)from by first | (simp[Value.cells,Array.append_assoc];done) | (apply Array.ext';simp[Value.cells];done) | (apply Array.ext';simp only[Array.toList_append];simp[Value.cells])];rw[yT (off:=1) (size:=1) rfl sI sI (by simp[Value.cells])];rw[show(#[.string a0])++(Value.int .i64 a1).cells++(idC id0)=(#[.string a0]++(#[.int .i64 a1]))++idC id0++(#[]:Array Value)from by first | (simp[Value.cells,Array.append_assoc];done) | (apply Array.ext';simp[Value.cells];done) | (apply Array.ext';simp only[Array.toList_append];simp[Value.cells])];rw[yT (off:=2) (size:=32) rfl sI sI (by simp[Value.cells])];first | (simp[Instr.fill,zM,Array.append_assoc,Value.cells];done) | (simp only[Instr.fill,zM];congr 1;apply Array.ext';simp[Value.cells];done) | (simp only[Instr.fill,zM];congr 1;done) | (simp only[Instr.fill,zM];done)
def eC(x y:yW):Int:=orL [fX x.n y.n,yE x.id y.id,qV x.val y.val]
theorem lor3_cells(w:World)(a b c:Int):∀j,j < [a,b,c].length->(w.alloc (.cells #[.int .i64 a,.int .i64 b,.int .i64 c] 3)).cell? ⟨w.heap.size,j,none⟩=some (.int .i64 ([a,b,c].getD j 0)):=by
 intro j hj;have:j=0\/j=1\/j=2:=by simp at hj;omega
 rcases this with rfl | rfl | rfl <;> simp
theorem KF(x y:yW)(w:World):Calls prog 286 #[.agg (zM x),.agg (zM y)] w λe w'=>e=.returned (.int .i64 (eC x y))/\Below w.heap.size w w':=by
 go_enter func286,ntmps286
 go_upto_region 1 with fail
 obtain⟨W,hW⟩:=eR ((w.alloc (.cells (zM x) 226)).alloc (.cells (zM y) 226))
 have hB:Below w.heap.size w W:=by rw[hW];exact(bA).alloc sI _
 have a1:W.cell? ⟨w.heap.size,1,none⟩=some (.int .i64 x.n):=by rw[hW];simp[go_sem]
 have a2:W.cell? ⟨w.heap.size+1,1,none⟩=some (.int .i64 y.n):=by rw[hW];simp[go_sem]
 have a3:zA W w.heap.size 2 32=some (idC x.id):=by rw[hW];simp[go_sem]
 have a4:zA W (w.heap.size+1) 2 32=some (idC y.id):=by rw[hW];simp[go_sem]
 have a5:W.cell? ⟨w.heap.size,0,none⟩=some (.string x.val):=by rw[hW];simp[go_sem]
 have a6:W.cell? ⟨w.heap.size+1,0,none⟩=some (.string y.val):=by rw[hW];simp[go_sem]
 rw[<-hW];clear hW;refine lX W ?_;intro d hS;have b1:=zK a1;have b2:=zK a2;have b3:=zS a3;have b4:=zS a4;have b5:=zK a5;have b6:=zK a6;refine lQ ?_;intro K hK;refine(cmp_int _ _ _).mono ?_;rintro e w' ⟨rfl,rfl⟩;refine⟨_,rfl,hS,hK _ _ ?_⟩;clear hK K;refine lZ ?_;refine lC (ZF _ _ _) ?_;clear hS;intro w' hS;refine lQ ?_;intro K hK;refine(rD _ _ _).mono ?_;rintro e w' ⟨rfl,rfl⟩;refine⟨_,rfl,hS,hK _ _ ?_⟩;clear hK K;refine lH ?_;intro K hK;refine zI (fH hS _) (λhS=>?_);refine hK _ _ ?_;clear hK K;refine lH ?_;intro K hK;refine(zv _ _ [fX x.n y.n,yE x.id y.id,qV x.val y.val] sI _ (lor3_cells _ _ _ _)).mono ?_;rintro e w' ⟨rfl,rfl⟩;refine⟨_,rfl,hS,hK _ _ ?_⟩;clear hK K;refine lZ ?_;refine zD ?_;intro hS;(go_wp2_with fail);go_ret;exact⟨rfl,hB.trans (hS.mono hB.size)⟩
abbrev jJ:=ByteArray×yW
theorem cmpS_ne{b:ByteArray}(h1:¬qV a b<0)(h2:a≠b):qV b a<0:=by
 have:=ZH a b;have h3:qV a b≠0:=λe=>h2 ((ZG a b).1 e);omega
theorem iY:¬qV a a<0:=by rw[cmpS_self];omega
theorem cmpS_asym{b:ByteArray}(h:qV a b<0):¬qV b a<0:=oH (ZH a b)
def tC:List jJ->Prop
 | []=>True
 | x :: l=>(∀y∈l,qV x.1 y.1<0)/\tC l
def wF:List jJ->ByteArray->yW->List jJ
 | [],k,x=>[(k,x)]
 | y :: l,k,x=>if qV y.1 k<0 then y :: wF l k x else if y.1=k then(if 0<eC x y.2 then(k,x) :: l else y :: l)else(k,x) :: y :: l
theorem KR:∀(l:List jJ) (k:ByteArray) (x:yW),∀y∈wF l k x,y.1=k\/∃z∈l,z.1=y.1
 | [],k,x,y,hy=>by simp[wF]at hy;left;rw[hy]
 | a :: l,k,x,y,hy=>by
  unfold wF at hy;split at hy
  ·rcases mem_cons.1 hy with h | h
   ·right;exact⟨a,sI,by rw[h]⟩
   ·rcases KR l k x y h with h | ⟨z,hz,e⟩
    ·exact .inl h
    ·exact .inr ⟨z,mem_cons.2 (.inr hz),e⟩
  ·split at hy
   ·split at hy
    ·rcases mem_cons.1 hy with h | h
     ·left;rw[h]
     ·right;exact⟨y,mem_cons.2 (.inr h),rfl⟩
    ·right;exact⟨y,hy,rfl⟩
   ·rcases mem_cons.1 hy with h | h
    ·left;rw[h]
    ·right;exact⟨y,h,rfl⟩
theorem Y7:∀(l:List jJ) (k:ByteArray) (x:yW),tC l->tC (wF l k x)
 | [],k,x,_=>⟨sI,trivial⟩
 | a :: l,k,x,h=>by
  unfold wF;split
  ·rename_i hlt
   refine⟨λy hy=>?_,Y7 l k x h.2⟩;rcases KR l k x y hy with e | ⟨z,hz,e⟩
   ·rw[e];exact hlt
   ·rw[<-e];exact h.1 z hz
  ·rename_i hlt
   split
   ·rename_i he
    split
    ·exact⟨λy hy=>by rw[<-he];exact h.1 y hy,h.2⟩
    ·exact h
   ·rename_i he
    have d:qV k a.1<0:=cmpS_ne hlt he;refine⟨λy hy=>?_,h⟩;rcases mem_cons.1 hy with e | hy
    ·rw[e];exact d
    ·exact mZ _ _ _ d (h.1 y hy)
theorem vm:∀(l:List jJ) (k:ByteArray) (x:yW),k∉l.map (·.1)->(wF l k x).Perm (l ++ [(k,x)])
 | [],_,_,_=>Perm.refl _
 | a :: l,k,x,h=>by
  simp only[map_cons,mem_cons,not_or]at h;unfold wF;split
  ·exact(vm l k x h.2).cons a
  ·rw[if_neg (λe=>h.1 e.symm)];exact(perm_append_singleton (k,x) (a :: l)).symm
theorem QW:∀(l:List jJ) (k:ByteArray) (x was:yW),tC l->(k,was)∈l->wF l k x=if 0<eC x was then l.map (λp=>if p.1=k then(k,x)else p)else l
 | [],_,_,_,_,h=>by simp at h
 | a :: l,k,x,was,hr,hm=>by
  unfold wF;rcases mem_cons.1 hm with e | f
  ·subst e;rw[if_neg iY,if_pos rfl];have g:∀p∈l,p.1≠k:=λp hp e=>by
    have:=hr.1 p hp;rw[e]at this;exact iY this
   split
   ·rw[map_cons,if_pos rfl];congr 1
    have:l.map (λp=>if p.1=k then(k,x)else p)=l:=by
     conv=>rhs;rw[<-map_id l]
     exact map_congr_left λp hp=>by rw[if_neg (g p hp)];rfl
    rw[this]
   ·rfl
  ·have d:qV a.1 k<0:=hr.1 _ f;rw[if_pos d,QW l k x was hr.2 f];have j:a.1≠k:=λe=>(by rw[e]at d;exact iY d);split
   ·rw[map_cons,if_neg j]
   ·rfl
def j7(k:ByteArray)(x:yW):Int:=if 16<k.size\/16<x.val.size then 3 else if x.n<0\/2147483648<=x.n then 5 else 0
def V4(l:List jJ)(k:ByteArray)(x:yW):List jJ:=if j7 k x=0 then wF l k x else l
def RowsOk(l:List jJ):Prop:=tC l/\∀p∈l,j7 p.1 p.2=0
theorem mC{x:yW}(h:j7 k x=0):k.size<=16/\x.val.size<=16/\0<=x.n/\x.n<2147483648:=by
 unfold j7 at h;split at h
 ·omega
 ·split at h
  ·omega
  ·omega
theorem vn:∀(l:List jJ) (k:ByteArray) (x:yW),∀y∈wF l k x,y=(k,x)\/y∈l
 | [],k,x,y,hy=>by simp[wF]at hy;exact .inl hy
 | a :: l,k,x,y,hy=>by
  unfold wF at hy;split at hy
  ·rcases mem_cons.1 hy with h | h
   ·exact .inr (by rw[h];simp)
   ·rcases vn l k x y h with h | h
    ·exact .inl h
    ·exact .inr (mem_cons.2 (.inr h))
  ·split at hy
   ·split at hy
    ·rcases mem_cons.1 hy with h | h
     ·exact .inl h
     ·exact .inr (mem_cons.2 (.inr h))
    ·exact .inr hy
   ·rcases mem_cons.1 hy with h | h
    ·exact .inl h
    ·exact .inr h
theorem setL_ok{l:List jJ}(h:RowsOk l)(k:ByteArray)(x:yW):RowsOk (V4 l k x):=by
 unfold V4;split
 ·rename_i hc
  refine⟨Y7 l k x h.1,λp hp=>?_⟩;rcases vn l k x p hp with e | hp
  ·rw[e];exact hc
  ·exact h.2 p hp
 ·exact h
theorem vo(l:List jJ)(k:ByteArray)(x:yW):(wF l k x).length<=l.length+1:=by
 induction l with
 | nil=>simp[wF]
 | cons a l ih =>
  unfold wF
  repeat' split
  all_goals simp;try omega
theorem qm(l:List jJ)(k:ByteArray)(x:yW):(V4 l k x).length<=l.length+1:=by
 unfold V4;split
 ·exact vo l k x
 ·omega
def pN(l:List jJ)(k:ByteArray):Option yW:=(l.find? (λp=>decide (p.1=k))).map (·.2)
theorem wZ(k:ByteArray)(x:yW)(w:World)(hk:k.size<=9223372036854775807)(hv:x.val.size<=9223372036854775807) :
  Calls prog 188 #[.string k,.agg (zM x)] w λe w'=>e=.returned (.int .i64 (j7 k x))/\Below w.heap.size w w':=by
 obtain⟨xv,xn,xi⟩:=x;dsimp only at hv;go_enter func188,ntmps188
 go_wp2_with fail
 all_goals
  go_ret;refine⟨yA ?_,bA⟩;unfold j7
  first
   | rw[if_pos (by simp only;omega)]
   | rw[if_neg (by simp only;omega),if_pos (by simp only;omega)]
   | rw[if_neg (by simp only;omega),if_neg (by simp only;omega)]
theorem dM:bH prog 9 Value.string (λk:ByteArray=>k.size<=maxLen) where
 law:=WideMaps.string_law underlying9
 key:=λk hk=>by
  refine⟨.string k.data.toList,?_⟩;simp[keyOf,mapKey,underlying9,hk]
 inj:=λa b h=>by injection h
def setV(x:yW):Value:=.agg (zM x)
structure xD(w:World)(g b:Nat)(L:List jJ):Prop where
 blk:w.heap[g]?=some (.cells #[.map (some b)] 224 (0,0))
 map:∃M es clk,yL w b Value.string setV (λk=>k.size<=maxLen) M es clk/\M.Perm L
 rows:RowsOk L
theorem xD.cell{w:World}{g b:Nat}{L:List jJ}(h:xD w g b L):w.cell? ⟨g,0,none⟩=some (.map (some b)):=by
 rw[cell_of_row w g 0 _ _ _ h.blk];rfl
theorem xD.ne{L:List jJ}(h:xD w g b L):g≠b:=by
 rintro rfl;obtain⟨M,es,d,hm,_⟩:=h.map;have:=h.blk;rw[hm.heap]at this;cases this
theorem xD.lt{w:World}{g b:Nat}{L:List jJ}(h:xD w g b L):g<w.heap.size/\b<w.heap.size:=by
 obtain⟨M,es,d,hm,_⟩:=h.map;exact⟨block_lt_of_cell? w _ h.cell,hm.lt⟩
theorem xD.kept{w w':World}{g b:Nat}{L:List jJ}{S:List Nat}(h:xD w g b L)(k:z9 S w w')(hg:g∉S)(hb:b∉S):xD w' g b L:=by
 obtain⟨M,es,d,hm,hp⟩:=h.map;exact⟨(k.block g h.lt.1 hg).trans h.blk,⟨M,es,d,hm.kept k hb,hp⟩,h.rows⟩
theorem xD.below{w':World}{L:List jJ}(h:xD w g b L)(k:Below w.heap.size w w'):xD w' g b L :=
 h.kept (z9.of_below k) sI sI
theorem wY(w:World)(g b:Nat)(h:w.cell? ⟨g,0,none⟩=some (.map (some b))):Calls prog 152 #[.pointer (some ⟨g,0,none⟩)] w λe w'=>e=.returned (.bool false)/\w=w':=by
 have hn:=λr=>run_eql_map_nil (P:=prog) w 222 9 226 r underlying222;go_enter func152,ntmps152
 (go_wp2_with fail);go_ret;exact⟨rfl,rfl⟩
theorem lnew(w:World):Calls prog 141 #[] w λe w'=>∃g b,e=.returned (.pointer (some ⟨g,0,none⟩))/\xD w' g b []/\w.heap.size<=g/\w.heap.size<=b/\Below w.heap.size w w':=by
 have d:=@run_makeMap prog;go_enter func141,ntmps141
 (go_wp2_with fail);go_ret;refine⟨w.heap.size+1,w.heap.size,rfl,⟨?_,⟨[],#[],0,?_,Perm.refl _⟩,⟨trivial,sI⟩⟩,oM,oM,(bA).alloc sI _⟩
 ·exact heap_alloc2_new w _ _
 ·exact(yL.new w w.heap.size rfl).kept (z9.alloc _ _) sI
theorem J5{l:List jJ}{x:yW}(h:pN l k=some x):(k,x)∈l:=by
 unfold pN at h;cases hf:l.find? (λp=>decide (p.1=k))with
 | none=>rw[hf]at h;cases h
 | some p =>
  rw[hf]at h;have h1:=mem_of_find?_eq_some hf;have h2:=find?_some hf;have h3:p.1=k:=by simpa using h2
  have h4:p.2=x:=by simpa using h
  rw[<-h3,<-h4];exact h1
theorem KY{l:List jJ}(h:pN l k=none):k∉l.map (·.1):=by
 unfold pN at h;intro hm;obtain⟨p,hp,e⟩:=mem_map.1 hm;cases hf:l.find? (λp=>decide (p.1=k))with
 | none=>have:=find?_eq_none.1 hf p hp;simp[e]at this
 | some q=>rw[hf]at h;cases h
theorem xD.look{L:List jJ}(h:xD w g b L)(hk:k.size<=maxLen) :
  (Instr.lookup 222 (.map (some b)) (.string k) true).run prog w=.ok (.tuple #[.agg (zM ((pN L k).getD vX)),.bool (pN L k).isSome]) w:=by
 obtain⟨M,es,j,hm,hp⟩:=h.map;cases hg:pN L k with
 | none =>
  have d:k∉M.map (·.1):=λhx=>KY hg ((hp.map (·.1)).mem_iff.1 hx);exact hm.miss dM underlying222 (nF w) hk d true
 | some x =>
  have f:(k,x)∈M:=hp.mem_iff.2 (J5 hg);exact hm.hit dM underlying222 hk f true
theorem lset_bad(k v:ByteArray)(n:Int)(d:zB)(w:World)(g b:Nat)(L:List jJ)(h:xD w g b L)(hk:k.size<=9223372036854775807)(hv:v.size<=9223372036854775807)(f:j7 k ⟨v,n,d⟩≠0) :
  Calls prog 244 #[.pointer (some ⟨g,0,none⟩),.string k,.string v,.int .i64 n,.agg (idC d)] w λe w'=>e=.returned (.int .i64 (j7 k ⟨v,n,d⟩))/\Below w.heap.size w w':=by
 have hc:(w.alloc (.cells (idC d) 31)).cell? ⟨g,0,none⟩=some (.map (some b)):=(cell?_alloc_lt w _ _ h.lt.1).trans h.cell;have hn:(j7 k ⟨v,n,d⟩ != 0)=true:=by rw[bne_iff_ne];exact f
 clear f;go_enter func244,ntmps244
 (go_wp2_with fail);refine(wY _ _ _ hc).mono ?_;rintro e w' ⟨rfl,rfl⟩;(go_wp2_with fail);refine(wZ _ ⟨v,n,d⟩ _ hk hv).mono ?_;rintro e w' ⟨rfl,hb⟩;(go_wp2_with fail);go_ret;exact⟨rfl,yK ((bA).alloc sI _) hb⟩
theorem xD.put{L:List jJ}(h:xD w g b L){x:yW}(hk:j7 k x=0)(hx:∀was,pN L k=some was->0<eC x was) :
  ∃w',(Instr.mapUpdate 222 (.map (some b)) (.string k) (.agg (zM x))).run prog w=.ok () w'/\xD w' g b (wF L k x)/\z9 [b] w w':=by
 obtain⟨M,es,t,hm,hp⟩:=h.map;have r:k.size<=maxLen:=by have:=(mC hk).1;simp only[maxLen];omega
 obtain⟨w',s,j,f,m,d⟩:=hm.update (v:=x) dM underlying222 r;refine⟨w',f,⟨(d.block g h.lt.1 (by simp;exact h.ne)).trans h.blk,⟨_,s,j,m,?_⟩,?_⟩,d⟩
 ·unfold bS;cases hg:pN L k with
  | none =>
   have h1:=KY hg;have h2:k∉M.map (·.1):=λhx=>h1 ((hp.map (·.1)).mem_iff.1 hx);rw[if_neg h2];exact(hp.append_right _).trans (vm L k x h1).symm
  | some was =>
   have h1:=J5 hg;have h2:k∈M.map (·.1):=mem_map.2 ⟨_,hp.mem_iff.2 h1,rfl⟩;rw[if_pos h2,QW L k x was h.rows.1 h1,if_pos (hx was hg)];exact hp.map _
 ·have:=setL_ok h.rows k x;unfold V4 at this
  rwa [if_pos hk]at this
theorem lset_new(k v:ByteArray)(n:Int)(d:zB)(w:World)(g b:Nat)(L:List jJ)(h:xD w g b L)(m:j7 k ⟨v,n,d⟩=0)(hg:pN L k=none) :
  Calls prog 244 #[.pointer (some ⟨g,0,none⟩),.string k,.string v,.int .i64 n,.agg (idC d)] w λe w'=>e=.returned (.int .i64 0)/\xD w' g b (wF L k ⟨v,n,d⟩)/\z9 [b] w w':=by
 have s:=mC m;have hk:k.size<=9223372036854775807:=oM;have hv:v.size<=9223372036854775807:=by have:=s.2.1;simp only at this;omega
 have B:k.size<=maxLen:=by simp only[maxLen];omega
 clear s;have hc:(w.alloc (.cells (idC d) 31)).cell? ⟨g,0,none⟩=some (.map (some b)):=(cell?_alloc_lt w _ _ h.lt.1).trans h.cell;have t:Below w.heap.size w ((w.alloc (.cells (idC d) 31)).alloc (.cells (zM ⟨v,n,d⟩) 226)):=(bA).alloc sI _;have hn:(j7 k ⟨v,n,d⟩ != 0)=false:=by rw[m];rfl
 have I:=dH m;clear m;have Hg:=dH hg;clear hg;go_enter func244,ntmps244
 (go_wp2_with fail);refine(wY _ _ _ hc).mono ?_;rintro e w' ⟨rfl,rfl⟩;(go_wp2_with fail);refine(wZ _ ⟨v,n,d⟩ _ hk hv).mono ?_;rintro e w1 ⟨rfl,hb⟩;have r:=yK t hb;have h1:=h.below r;have R:=h1.cell;have A:=h1.look B;simp only[Hg.out,Option.getD_none,Option.isSome_none]at A;have j:zA w1 (w.heap.size+1) 0 34=some (zM ⟨v,n,d⟩):=by
  rw[zH (hb.block (w.heap.size+1) sI) 0 34];simp[go_sem]
 have M:w.heap.size+1<w1.heap.size:=by have:=hb.size;simp at this;omega
 have h2:xD (w1.alloc (.cells (zM vX) 226)) g b L:=h1.kept (z9.alloc _ _) sI sI;have f:zA (w1.alloc (.cells (zM vX) 226)) (w.heap.size+1) 0 34=some (zM ⟨v,n,d⟩):=((z9.alloc w1 _).row oM sI 0 34).trans j;have G:Below w.heap.size w (w1.alloc (.cells (zM vX) 226)):=r.alloc oM _;clear j hb t hc;go_upto_region 10 with fail
 generalize w1.alloc (.cells (zM vX) 226)=W at *;obtain⟨w2,y,H,D⟩:=(h2.kept (z9.drew W) sI sI).put I.out (λJ e=>by rw[Hg.out]at e;cases e);have E:g∉[b]:=by simp;exact h.ne
 have F:=h2.cell;have O:=h.lt.2;refine kX [b] W ?_;intro N hS;have b1:=zG F E;have b2:=zY f (S:=[b]) sO;refine lQ ?_;intro K hK;refine zI (yC hS D sI) (λhS=>?_);refine hK _ _ ?_;clear hK K;refine zD ?_;intro hS;(go_wp2_with fail);go_ret;exact⟨rfl,H,z9.trans ((z9.of_below G).mono (S':=[b]) sI) hS iL⟩
theorem lset_later(k v:ByteArray)(n:Int)(d:zB)(w:World)(g b:Nat)(L:List jJ)(h:xD w g b L)(s:j7 k ⟨v,n,d⟩=0)(j:yW)(hg:pN L k=some j)(G:0<eC ⟨v,n,d⟩ j) :
  Calls prog 244 #[.pointer (some ⟨g,0,none⟩),.string k,.string v,.int .i64 n,.agg (idC d)] w λe w'=>e=.returned (.int .i64 0)/\xD w' g b (wF L k ⟨v,n,d⟩)/\z9 [b] w w':=by
 have D:=mC s;have hk:k.size<=9223372036854775807:=oM;have hv:v.size<=9223372036854775807:=by have:=D.2.1;simp only at this;omega
 have I:k.size<=maxLen:=by simp only[maxLen];omega
 clear D;have hc:(w.alloc (.cells (idC d) 31)).cell? ⟨g,0,none⟩=some (.map (some b)):=(cell?_alloc_lt w _ _ h.lt.1).trans h.cell;have E:Below w.heap.size w ((w.alloc (.cells (idC d) 31)).alloc (.cells (zM ⟨v,n,d⟩) 226)):=(bA).alloc sI _;have hn:(j7 k ⟨v,n,d⟩ != 0)=false:=by rw[s];rfl
 have T:=dH s;clear s;have Hg:=dH hg;clear hg;go_enter func244,ntmps244
 (go_wp2_with fail);refine(wY _ _ _ hc).mono ?_;rintro e w' ⟨rfl,rfl⟩;(go_wp2_with fail);refine(wZ _ ⟨v,n,d⟩ _ hk hv).mono ?_;rintro e w1 ⟨rfl,hb⟩;have B:=yK E hb;have h1:=h.below B;have Z:=h1.cell;have H:=h1.look I;simp only[Hg.out,Option.getD_some,Option.isSome_some]at H;have r:zA w1 (w.heap.size+1) 0 34=some (zM ⟨v,n,d⟩):=by
  rw[zH (hb.block (w.heap.size+1) sI) 0 34];simp[go_sem]
 have V:w.heap.size+1<w1.heap.size:=by have:=hb.size;simp at this;omega
 have h2:xD (w1.alloc (.cells (zM j) 226)) g b L:=h1.kept (z9.alloc _ _) sI sI;have f:zA (w1.alloc (.cells (zM j) 226)) (w.heap.size+1) 0 34=some (zM ⟨v,n,d⟩):=((z9.alloc w1 _).row oM sI 0 34).trans r;have O:Below w.heap.size w (w1.alloc (.cells (zM j) 226)):=B.alloc oM _;have y:zA (w1.alloc (.cells (zM j) 226)) w1.heap.size 0 34=some (zM j):=by simp[go_sem]
 clear hb E hc;(go_wp2_with fail);refine(KF _ _ _).mono ?_;rintro e W ⟨rfl,t⟩;have A:=yK O t;have h3:=h2.below t;have m:zA W (w.heap.size+1) 0 34=some (zM ⟨v,n,d⟩):=(zH (t.block (w.heap.size+1) sO) 0 34).trans f;clear r f t y;go_upto_region 10 with fail
 obtain⟨w2,F,R,J⟩:=(h3.kept (z9.drew W) sI sI).put T.out (λx e=>by rw[Hg.out]at e;injection e with e;subst e;exact G);have M:g∉[b]:=by simp;exact h.ne
 have N:=h3.cell;have Y:=h.lt.2;refine kX [b] W ?_;intro X hS;have b1:=zG N M;have b2:=zY m (S:=[b]) sO;refine lQ ?_;intro K hK;refine zI (yC hS J sI) (λhS=>?_);refine hK _ _ ?_;clear hK K;refine zD ?_;intro hS;(go_wp2_with fail);go_ret;exact⟨rfl,R,z9.trans ((z9.of_below A).mono (S':=[b]) sI) hS iL⟩
theorem lset_same(k v:ByteArray)(n:Int)(d:zB)(w:World)(g b:Nat)(L:List jJ)(h:xD w g b L)(r:j7 k ⟨v,n,d⟩=0)(j:yW)(hg:pN L k=some j)(J:¬0<eC ⟨v,n,d⟩ j) :
  Calls prog 244 #[.pointer (some ⟨g,0,none⟩),.string k,.string v,.int .i64 n,.agg (idC d)] w λe w'=>e=.returned (.int .i64 0)/\xD w' g b L/\Below w.heap.size w w':=by
 have D:=mC r;have hk:k.size<=9223372036854775807:=oM;have hv:v.size<=9223372036854775807:=by have:=D.2.1;simp only at this;omega
 have G:k.size<=maxLen:=by simp only[maxLen];omega
 clear D;have hc:(w.alloc (.cells (idC d) 31)).cell? ⟨g,0,none⟩=some (.map (some b)):=(cell?_alloc_lt w _ _ h.lt.1).trans h.cell;have E:Below w.heap.size w ((w.alloc (.cells (idC d) 31)).alloc (.cells (zM ⟨v,n,d⟩) 226)):=(bA).alloc sI _;have hn:(j7 k ⟨v,n,d⟩ != 0)=false:=by rw[r];rfl
 have N:=dH r;clear r;have Hg:=dH hg;clear hg;go_enter func244,ntmps244
 (go_wp2_with fail);refine(wY _ _ _ hc).mono ?_;rintro e w' ⟨rfl,rfl⟩;(go_wp2_with fail);refine(wZ _ ⟨v,n,d⟩ _ hk hv).mono ?_;rintro e w1 ⟨rfl,hb⟩;have A:=yK E hb;have h1:=h.below A;have M:=h1.cell;have F:=h1.look G;simp only[Hg.out,Option.getD_some,Option.isSome_some]at F;have m:zA w1 (w.heap.size+1) 0 34=some (zM ⟨v,n,d⟩):=by
  rw[zH (hb.block (w.heap.size+1) sI) 0 34];simp[go_sem]
 have I:w.heap.size+1<w1.heap.size:=by have:=hb.size;simp at this;omega
 have h2:xD (w1.alloc (.cells (zM j) 226)) g b L:=h1.kept (z9.alloc _ _) sI sI;have f:zA (w1.alloc (.cells (zM j) 226)) (w.heap.size+1) 0 34=some (zM ⟨v,n,d⟩):=((z9.alloc w1 _).row oM sI 0 34).trans m;have H:Below w.heap.size w (w1.alloc (.cells (zM j) 226)):=A.alloc oM _;have t:zA (w1.alloc (.cells (zM j) 226)) w1.heap.size 0 34=some (zM j):=by simp[go_sem]
 clear hb E hc;(go_wp2_with fail);refine(KF _ _ _).mono ?_;rintro e W ⟨rfl,s⟩;have y:=yK H s;have h3:=h2.below s;have B:zA W (w.heap.size+1) 0 34=some (zM ⟨v,n,d⟩):=(zH (s.block (w.heap.size+1) sO) 0 34).trans f;clear m f s t;(go_wp2_with fail);go_ret;exact⟨rfl,h3,y⟩
theorem lset(k v:ByteArray)(n:Int)(d:zB)(w:World)(g b:Nat)(L:List jJ)(h:xD w g b L)(hk:k.size<=9223372036854775807)(hv:v.size<=9223372036854775807) :
  Calls prog 244 #[.pointer (some ⟨g,0,none⟩),.string k,.string v,.int .i64 n,.agg (idC d)] w λe w'=>e=.returned (.int .i64 (j7 k ⟨v,n,d⟩))/\xD w' g b (V4 L k ⟨v,n,d⟩)/\z9 [b] w w':=by
 by_cases hc:j7 k ⟨v,n,d⟩=0
 ·have hs:V4 L k ⟨v,n,d⟩=wF L k ⟨v,n,d⟩:=if_pos hc;rw[hc,hs];cases hg:pN L k with
  | none=>exact lset_new k v n d w g b L h hc hg
  | some was =>
   by_cases f:0<eC ⟨v,n,d⟩ was
   ·exact lset_later k v n d w g b L h hc was hg f
   ·have e:wF L k ⟨v,n,d⟩=L:=by rw[QW L k _ was h.rows.1 (J5 hg),if_neg f]
    rw[e];exact(lset_same k v n d w g b L h hc was hg f).mono λe w' ⟨he,h1,h2⟩=>⟨he,h1,(z9.of_below h2).mono sI⟩
 ·have hs:V4 L k ⟨v,n,d⟩=L:=if_neg hc;rw[hs];exact(lset_bad k v n d w g b L h hk hv hc).mono λe w' ⟨he,h2⟩=>⟨he,h.below h2,(z9.of_below h2).mono sI⟩
end Go.Proofs.YtdjiaickicgdlaaGreatDoor
