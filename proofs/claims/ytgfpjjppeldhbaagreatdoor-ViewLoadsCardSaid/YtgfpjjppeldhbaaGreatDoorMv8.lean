/- Part 8 of the texts that lead to this claim: the walks of the functions and the plain law, in order. -/
import Derived.Test.YtgfpjjppeldhbaaGreatDoorMv7
import Derived.Laws.StructEq
namespace Go.Proofs.YtgfpjjppeldhbaaGreatDoor
open Go.RowKit
set_option maxRecDepth 100000
set_option maxHeartbeats 8000000
abbrev gG(w:World)(A:Option Addr)(n:Nat)(R:List yW):Prop:=SlR w A n 34 (R.map zN)
theorem gG.get{w:World}{A:Option Addr}{n:Nat}{R:List yW}(h:gG w A n R){i:Nat}(hi:i<n)(hR:i<R.length) :
  ∃g o,A=some ⟨g,o,none⟩/\z7 w g (o+i*34) 34=some (zN R[i])/\z7 w g (o+i*34) 32=some (idC (R[i]).id)/\w.cell? ⟨g,o+i*34+33,none⟩=some (.string (R[i]).body):=by
 obtain⟨g,o,e,hr⟩:=SlR.at_ h hi;rw[List.getElem_map]at hr;refine⟨g,o,e,hr,?_,?_⟩
 ·have:=zX hr (j:=0) (m:=32) oM
  rwa [qZ]at this
 ·have:=z8 hr (j:=33) oM
  rwa [pQ]at this
theorem gG.len{w:World}{A:Option Addr}{n:Nat}{R:List yW}(h:gG w A n R):R.length=n:=by simpa using h.1
structure yo(w:World)(A:Option Addr)(n:Nat)(R:List yW):Prop where
 rows:gG w A n R
 big:n<=9223372036854775807
 each:∀a∈R,a.body.size<=9223372036854775807
def KD(R:List yW):Prop:=R.length<=30/\∀a∈R,a.body.size<=600
theorem vmuch(w:World)(A:Option Addr)(n cap:Nat)(R:List yW)(h:yo w A n R) :
  Calls Tryz.prog 20 #[.slice A n cap] w λe w'=>∃b,e=.returned (.bool b)/\(b=false->KD R)/\Below w.heap.size w w':=by
 have s:=h.rows.len;have hn:=h.big;have d:=h.rows;have hs:=h.each;have F:=dH s;go_enter Tryz.func20,Tryz.ntmps20
 (go_wp2_with fail);go_loopw [3] (λi wr=>∃k:Nat,k<=n/\k<=30/\i=.int .i64 k/\Hid (∀j (hj:j<R.length),j<k->(R[j]).body.size<=600)/\Below w.heap.size w wr) (λi _=>n-(intOf i).toNat)
 case atStart=>exact⟨0,zL,oM,rfl,(show ∀j (hj:j<R.length),j<0->_ from λj _ h=>absurd h oM),Below.refl _ _⟩
 case round =>
  obtain⟨k,hk,E,rfl,hd,hb⟩:=hrel;by_cases r:k<n/\k<30
  ·obtain⟨r,y⟩:=r;obtain⟨g,o,rfl,_,_,m⟩:=gG.get (SlR.below d hb) r oM;have D:=hs R[k] (List.getElem_mem oM);obtain⟨x,hx⟩:=eX (R[k]'oM)
   have Hx:=dH hx;rw[hx]at m D;clear hx;by_cases h1:600<x.body.size
   ·(go_wp2_with fail);go_ret;exact⟨true,rfl,nofun,hb⟩
   ·have B:∀j (hj:j<R.length),j<k+1->(R[j]).body.size<=600:=λj hj H=>by
     rcases Nat.lt_or_ge j k with h3 | h3
     ·exact hd.out j hj h3
     ·obtain rfl:j=k:=oM;have:=Hx.out;rw[this];omega
    have G:=dH B;clear B hd;(go_wp2_with fail);go_roundw
    case rel=>exact⟨k+1,oM,oM,by go_num,G,hb⟩
    case measure=>exact sZ
  ·have t:n<=k\/30<=k:=oM;by_cases hm:30<n
   ·(go_wp2_with fail);go_ret;exact⟨true,yF (decide_eq_true oM),nofun,hb⟩
   ·have f:KD R:=⟨oM,λa ha=>by
     obtain⟨j,hj,rfl⟩:=List.getElem_of_mem ha;exact hd.out j hj oM⟩
    have Hf:=dH f;clear f hd;(go_wp2_with fail);go_ret;exact⟨false,yF (decide_eq_false oM),λ_=>Hf.out,hb⟩
structure VAt(w:World)(g:Nat)(t:ByteArray)(b:Nat)(O:List Nat)(I:List zE)(v:Value)(s:VSt):Prop where
 view:xE w g t b I v
 st:dM w O (b :: O) v s
 gM:g∉b :: O
 bO:b∉O
 lt:∀x∈b :: O,x<w.heap.size
 b0:0∉b :: O
theorem VAt.below{w w':World}{g:Nat}{t:ByteArray}{b:Nat}{O:List Nat}{I:List zE}{v:Value}{s:VSt}(h:VAt w g t b O I v s)(k:Below w.heap.size w w'):VAt w' g t b O I v s :=
 ⟨h.view.below k,h.st.below k,h.gM,h.bO,λx hx=>Nat.lt_of_lt_of_le (h.lt x hx) k.size,h.b0⟩
def VSt.new(k:Int):VSt:=if k=1 then .t 0 else if k=2 then .b [] []else if k=3 then .l []else if k=4 then .m [] []else .s [] []
theorem gT(t:ByteArray):yC t=0\/yC t=1\/yC t=2\/yC t=3\/yC t=4\/yC t=5:=by
 unfold yC cV
 repeat' split
 all_goals simp
theorem m7{w2 w3 w':World}{g b:Nat}{t:ByteArray}{O:List Nat}{v:Value}{s:VSt}(hv:xE w' g t b [] v)(hs:dM w3 O O v s)(hO:∀x∈O,w2.heap.size<=x/\x<w3.heap.size)(hb:Below w3.heap.size w3 w')(hg:g=w3.heap.size)(f:b<w2.heap.size)(d:0<b)(hm:dM w3 O O v s->dM w3 O (b :: O) v s):VAt w' g t b O [] v s:=by
 have h3:=(hm hs).below hb;refine⟨hv,h3,?_,?_,?_,?_⟩
 ·intro hx;rcases List.mem_cons.1 hx with h | h
  ·exact hv.ne h
  ·have:=(hO _ h).2;omega
 ·intro h;have:=(hO _ h).1;omega
 ·intro x hx;rcases List.mem_cons.1 hx with h | h
  ·rw[h];exact hv.ids.lt
  ·have:=(hO _ h).2;have:=hb.size;omega
 ·intro hx;rcases List.mem_cons.1 hx with h | h
  ·omega
  ·have:=(hO _ h).1;omega
theorem ko(t:ByteArray)(w:World)(ht:t.size<=9223372036854775807)(A:yC t≠0)(hw:0<w.heap.size) :
  Calls Tryz.prog 23 #[.string t] w λe w'=>∃g b O v,e=.returned (.tuple #[.pointer (some ⟨g,0,none⟩),.int .i64 0])/\VAt w' g t b O [] v (VSt.new (yC t))/\(∀x∈b :: O,w.heap.size<=x)/\w.heap.size<=g/\Below w.heap.size w w':=by
 rcases gT t with h | h | h | h | h | h
 ·exact absurd h A
 ·have hf:∀w,Calls Tryz.prog 55 #[.int .i64 1] w λe w'=>∃gs,e=.returned (.iface 100 (.pointer (some ⟨gs,0,none⟩)))/\(xO w' gs 0/\w.heap.size<=gs)/\Below w.heap.size w w':=λw=>(QY w).mono λe w' ⟨h1,h2,h3⟩=>⟨_,h1,⟨h2,lR⟩,h3⟩;refine(yq t w ht 1 h oM _ _ hf).mono ?_;rintro e w' ⟨g,b,gs,w2,w3,rfl,hv,⟨hz,y⟩,d,f,hg,r,j,hB⟩;refine⟨g,b,[gs],.iface 100 (.pointer (some ⟨gs,0,none⟩)),rfl,?_,?_,?_,hB⟩
  ·rw[h];refine m7 (s:=.t 0) (w2:=w2) hv ⟨gs,rfl,hz,rfl⟩ (λx hx=>?_) f hg j oM (λh=>?_)
   ·obtain rfl:x=gs:=by simpa using hx
    exact⟨y,hz.lt⟩
   ·obtain⟨g',e,h1,h2⟩:=h;exact⟨g',e,h1,h2⟩
  ·intro x hx;simp at hx;omega
  ·have:=d.size;omega
 ·refine(yq t w ht 2 h oM _ _ kz).mono ?_;rintro e w' ⟨g,b,gs,w2,w3,rfl,hv,⟨bl,bg,hz,z1,z2,z3⟩,d,f,hg,r,j,hB⟩;refine⟨g,b,[gs,bl,bg],.iface 102 (.pointer (some ⟨gs,0,none⟩)),rfl,?_,?_,?_,hB⟩
  ·rw[h];refine m7 (s:=.b [] []) (w2:=w2) hv ⟨gs,bl,bg,rfl,hz,rfl⟩ (λx hx=>?_) f hg j oM (λh=>?_)
   ·have h1:=hz.lt.1;have h2:=hz.live.lt;have h3:=hz.gone.lt;simp at hx;rcases hx with rfl | rfl | rfl <;> omega
   ·exact h
  ·intro x hx;simp at hx;omega
  ·have:=d.size;omega
 ·refine(yq t w ht 3 h oM _ _ ky).mono ?_;rintro e w' ⟨g,b,gs,w2,w3,rfl,hv,⟨bl,hz,z1,z2⟩,d,f,hg,r,j,hB⟩;refine⟨g,b,[gs,bl],.iface 104 (.pointer (some ⟨gs,0,none⟩)),rfl,?_,?_,?_,hB⟩
  ·rw[h];refine m7 (s:=.l []) (w2:=w2) hv ⟨gs,bl,rfl,hz,rfl⟩ (λx hx=>?_) f hg j oM (λh=>?_)
   ·have h1:=hz.lt;simp at hx;rcases hx with rfl | rfl <;> omega
   ·exact h
  ·intro x hx;simp at hx;omega
  ·have:=d.size;omega
 ·refine(yq t w ht 4 h oM _ _ kx).mono ?_;rintro e w' ⟨g,b,gs,w2,w3,rfl,hv,⟨bl,bg,hz,z1,z2,z3⟩,d,f,hg,r,j,hB⟩;refine⟨g,b,[gs,bl,bg],.iface 105 (.pointer (some ⟨gs,0,none⟩)),rfl,?_,?_,?_,hB⟩
  ·rw[h];refine m7 (s:=.m [] []) (w2:=w2) hv ⟨gs,bl,bg,rfl,hz,rfl⟩ (λx hx=>?_) f hg j oM (λh=>?_)
   ·have h1:=hz.lt.1;have h2:=hz.live.lt;have h3:=hz.over.lt;simp at hx;rcases hx with rfl | rfl | rfl <;> omega
   ·exact h
  ·intro x hx;simp at hx;omega
  ·have:=d.size;omega
 ·refine(yq t w ht 5 h oM _ _ kw).mono ?_;rintro e w' ⟨g,b,gs,w2,w3,rfl,hv,⟨bn,bb,bg,hz,z1,z2,z3,z4⟩,d,f,hg,r,j,hB⟩;have k:=hz [bn,bb,bg] sI sI sI;have hm:q7 w3 (b :: [gs,bn,bb,bg]) gs bn bb bg [] []:=hz _ sI sI sI;refine⟨g,b,[gs,bn,bb,bg],.iface 106 (.pointer (some ⟨gs,0,none⟩)),rfl,?_,?_,?_,hB⟩
  ·rw[h];refine m7 (s:=.s [] []) (w2:=w2) hv ⟨gs,bn,bb,bg,rfl,hz _ sI sI sI,rfl⟩ (λx hx=>?_) f hg j oM (λ_=>⟨gs,bn,bb,bg,rfl,hm,rfl⟩);have h1:=k.ltg;obtain⟨_,_,hn⟩:=k.nodes;obtain⟨_,_,_,B,_⟩:=k.behind;have h4:=k.gone.lt;have h2:=hn.lt;have h3:=B.lt;simp at hx;rcases hx with rfl | rfl | rfl | rfl <;> omega
  ·intro x hx;simp at hx;omega
  ·have:=d.size;omega
theorem opO_lo(l:List UInt8)(h:opE l=0):-2147483648<=(opO l).n:=by
 have hn:=lM l h;have hk:1<=yK 1 l 0/\yK 1 l 0<=7:=by
  unfold opE at h;split at h
  ·contradiction
  split at h
  ·cases h
  ·omega
 have h2:=JT (yK 1 l 0) (zK 1 l 0) 0 hk.1 hk.2;have e:(yX (yK 1 l 0) (zK 1 l 0) 0).o=opO l:=rfl;rw[e,decide_eq_true hn.2.2.2.2.2.2.2]at h2;unfold iV at h2;simp only[Bool.and_eq_true,decide_eq_true_eq]at h2;exact h2.2.2
def wP(t:ByteArray)(m:yW)(s:VSt):VSt:=if wT t m then doS m (opO m.body.data.toList) s else s
theorem BR(t:ByteArray)(m:yW)(s:VSt):(wP t m s).kind=s.kind:=by
 unfold wP;split
 ·exact doS_kind _ _ _
 ·rfl
theorem jy(t:ByteArray)(m:yW)(s:VSt):(wP t m s).len<=s.len+1:=by
 unfold wP;split
 ·exact doS_len _ _ _
 ·omega
theorem yw(m:yW)(w:World)(g:Nat)(t:ByteArray)(b:Nat)(O:List Nat)(I:List zE)(v:Value)(s:VSt)(h:VAt w g t b O I v s)(hm:m.id∉I)(hp:xL w)(hs:m.body.size<=9223372036854775807)(ht:t.size<=9223372036854775807)(hk:yC t=s.kind)(hl:s.len<=1000) :
  Calls Tryz.prog 26 #[.pointer (some ⟨g,0,none⟩),.agg (zN m)] w λe w'=>e=.returned (.bool true)/\VAt w' g t b O (m.id :: I) v (wP t m s)/\z6 (b :: O) w w':=by
 have D:g∉O:=λhx=>h.gM (List.mem_cons_of_mem _ hx);have r:∀x∈O,x∉[b]:=λx hx y=>h.bO (by have:x=b:=by simpa using y
                                                                                        rwa [<-this])
 refine Y6 m w g t b I v h.view hm hp (λe=>h.b0 (by simp[e])) hs ht (λw'=>VAt w' g t b O (m.id :: I) v (wP t m s)/\z6 (b :: O) w w') ?_ ?_
 ·intro hf w' hv d;have e:wP t m s=s:=if_neg hf;rw[e];exact⟨⟨hv,h.st.kept d r (λx hx=>.inl (by have:x=b:=by simpa using hx
                                                                                               simp[this])),h.gM,h.bO,λx hx=>Nat.lt_of_lt_of_le (h.lt x hx) d.size,h.b0⟩,d.mono sI⟩
 ·intro hf w1 A c hv d E j;have e:wP t m s=doS m (opO m.body.data.toList) s:=if_pos hf;rw[e];have f:=lM _ hf.1;have B:dM w1 O (b :: O) v s:=h.st.kept d r (λx hx=>.inl (by have:x=b:=by simpa using hx
                                                                                                                                                                           simp[this]))
  refine(vdoes m _ A c w1 g t b (m.id :: I) v O (b :: O) s hv B (λx hx=>Nat.lt_of_lt_of_le (h.lt x hx) d.size) ⟨hf.2.trans hk,f.2.2.2.1,f.2.2.2.2.1,f.2.2.2.2.2.1,opO_lo _ hf.1,f.2.2.2.2.2.2.2⟩ j.slr hl).mono ?_;rintro e w' ⟨rfl,h1,k⟩;exact⟨rfl,⟨hv.kept k D h.bO,h1,h.gM,h.bO,λx hx=>Nat.lt_of_lt_of_le (h.lt x hx) (Nat.le_trans d.size k.size),h.b0⟩,z6.trans (d.mono (S':=b :: O) sI) (k.mono (S':=b :: O) (λx hx=>.inl (List.mem_cons_of_mem _ hx))) iL⟩
theorem ju(a:jE)(l:List jE)(k:ByteArray):lO (a :: l) k=if a.1=k then some a.2 else lO l k:=by
 unfold lO;rw[List.find?_cons];by_cases h:a.1=k <;> simp[h]
def maxS(o:Option xC)(x:xC):xC:=match o with | none=>x | some was=>if 0<dB x was then x else was
def oOf(m:yW):OpV:=opO m.body.data.toList
def cK(m:yW):xC:=⟨(oOf m).val,(oOf m).n,m.id⟩
def mF(m:yW):zO:=⟨m.id,m.h,(oOf m).ref,(oOf m).val⟩
def iD(m:yW):xW:=⟨m.id,(oOf m).key,(oOf m).val⟩
def sumN(F:List yW):Int:=(F.map λm=>(oOf m).n).sum
def Latest(F:List yW)(k:ByteArray):Option xC->Prop
 | none=>∀m∈F,qC (oOf m).key (cK m)=0->(oOf m).key≠k
 | some s=>(∃m∈F,qC (oOf m).key (cK m)=0/\(oOf m).key=k/\s=cK m)/\∀m∈F,qC (oOf m).key (cK m)=0->(oOf m).key=k->¬0<dB (cK m) s
def Means(F:List yW):VSt->Prop
 | .t n=>n=wrap64 (sumN F)
 | .b L G=>Ris yG L/\Ris yG G/\(∀z,z∈G↔∃m∈F,(oOf m).k≠2/\z.val=(oOf m).val/\z.tag∈(oOf m).refs)/\∀z,z∈L↔(∃m∈F,(oOf m).k=2/\z=⟨m.id,(oOf m).val⟩)/\z∉G
 | .l L=>r4 L/\∀k,Latest F k (lO L k)
 | .m X O=>Ris xN X/\Ris zI O/\(∀z,z∈O↔∃m∈F,z∈(oOf m).refs)/\∀z,z∈X↔(∃m∈F,z=iD m)/\z.id∉O
 | .s N G=>(∀z,z∈N↔∃m∈F,(oOf m).k=6/\z=mF m/\qX z=0)/\Ris zI G/\∀z,z∈G↔∃m∈F,(oOf m).k≠6/\z=(oOf m).ref
theorem mem_addB{L G:List yH}{x z:yH}(hv:x.val.size<=16)(hr:Ris yG L)(hl:∀y∈L,y∉G):z∈mU L G x↔(z∈L\/z=x)/\z∉G:=by
 unfold mU;rw[if_neg oM];split
 ·rename_i h
  constructor
  ·intro hz;exact⟨.inl hz,hl z hz⟩
  ·rintro⟨h1 | h1,h2⟩
   ·exact h1
   ·subst h1;exact absurd h h2
 ·rename_i h
  rw[qN jI];constructor
  ·rintro(h1 | h1)
   ·subst h1;exact⟨.inr rfl,h⟩
   ·exact⟨.inl h1,hl z h1⟩
  ·rintro⟨h1 | h1,_⟩
   ·exact .inr h1
   ·exact .inl h1
theorem ris_addB{L G:List yH}{x:yH}(hr:Ris yG L):Ris yG (mU L G x):=by
 unfold mU;split
 ·exact hr
 ·split
  ·exact hr
  ·exact vA jI hr
def SameS:VSt->VSt->Prop
 | .t a,.t b=>a=b
 | .b L G,.b L' G'=>L=L'/\G=G'
 | .l L,.l L'=>L=L'
 | .m X O,.m X' O'=>X=X'/\O=O'
 | .s N G,.s N' G'=>(∀z,z∈N↔z∈N')/\G=G'
 | _,_=>False
theorem idB_lt(d:zE){k:Nat}(h:k<32):idB d k=((d.l[k]'(by rw[d.h];exact h)).toNat:Int):=by
 unfold idB;rw[List.getD_eq_getElem?_getD,List.getElem?_eq_getElem (by rw[d.h];exact h)];rfl
theorem ye(d:zE){k:Nat}(h:k<32):d.l.drop k=d.l[k]'(by rw[d.h];exact h) :: d.l.drop (k+1):=List.drop_eq_getElem_cons (by rw[d.h];exact h)
theorem vk(u v:UInt8)(l m:List UInt8):vP (u :: l) (v :: m)=if u<v then -1 else if v<u then 1 else vP l m:=rfl
theorem wB(a b:zE)(w:World):Calls Tryz.prog 114 #[.agg (idC a),.agg (idC b)] w λe w'=>e=.returned (.int .i64 (zI a b))/\Below w.heap.size w w':=by
 go_enter Tryz.func114,Tryz.ntmps114
 (go_wp2_with fail);have t:Hid (∀k,k<32->((w.alloc (.cells (idC a) 39)).alloc (.cells (idC b) 39)).cell? ⟨w.heap.size,k,none⟩=some (.int .u8 (idB a k))):=λk hk=>(by simp[go_sem,hk]);have s:Hid (∀k,k<32->((w.alloc (.cells (idC a) 39)).alloc (.cells (idC b) 39)).cell? ⟨w.heap.size+1,k,none⟩=some (.int .u8 (idB b k))):=λk hk=>(by simp[go_sem,hk]);have hB:Below w.heap.size w ((w.alloc (.cells (idC a) 39)).alloc (.cells (idC b) 39)):=(bA).alloc sI _;generalize (w.alloc (.cells (idC a) 39)).alloc (.cells (idC b) 39)=W at *;go_loopw [5] (λi wr=>∃k:Nat,k<=32/\i=.int .i64 k/\Hid (vP (a.l.drop k) (b.l.drop k)=zI a b)/\Below W.heap.size W wr) (λi _=>32-(intOf i).toNat)
 case atStart=>exact⟨0,oM,rfl,rfl,Below.refl _ _⟩
 case round =>
  obtain⟨k,hk,rfl,hd,hb⟩:=hrel;by_cases d:k<32
  ·have ca:=(hb.cell (p:=⟨w.heap.size,k,none⟩) (World.block_lt_of_cell? W _ (t.out k d))).trans (t.out k d);have cb:=(hb.cell (p:=⟨w.heap.size+1,k,none⟩) (World.block_lt_of_cell? W _ (s.out k d))).trans (s.out k d);have j:zI a b=if idB a k<idB b k then -1 else if idB b k<idB a k then 1 else vP (a.l.drop (k+1)) (b.l.drop (k+1)):=by
    rw[<-hd.out,ye a d,ye b d,idB_lt a d,idB_lt b d,vk];simp only[UInt8.lt_iff_toNat_lt,Int.ofNat_lt]
   obtain⟨x,hx⟩:=eX (idB a k)
   obtain⟨y,hy⟩:=eX (idB b k)
   rw[hx,hy]at j;rw[hx]at ca;rw[hy]at cb;have r:=dH j;clear j hx hy;go_upto_region 4 with fail
   refine lX wr ?_;intro f hS;have b1:=zJ ca;have b2:=zJ cb;refine lZ ?_;refine zC ?_;intro hS;have m:Below W.heap.size W wr.drew:=hb.drew;clear f hS b1 b2;by_cases h1:x<y
   ·(go_wp2_with fail);go_ret;exact⟨yA (by rw[r.out,if_pos oM]),hB.trans (m.mono hB.size)⟩
   ·go_upto_region 6 with fail
    refine lX wr.drew ?_;intro f hS;have b1:=zJ (W:=wr.drew) ca;have b2:=zJ (W:=wr.drew) cb;refine lZ ?_;refine zC ?_;intro hS;clear f hS b1 b2;by_cases h2:y<x
    ·(go_wp2_with fail);go_ret;exact⟨yA (by rw[r.out,if_neg oM,if_pos oM]),hB.trans (m.drew.mono hB.size)⟩
    ·(go_wp2_with fail);go_roundw
     case rel=>exact⟨k+1,oM,by go_num,(show vP _ _=_ by rw[r.out,if_neg oM,if_neg oM]),m.drew⟩
     case measure=>exact sZ
  ·have g:k=32:=oM;subst g;(go_wp2_with fail);go_ret;have h0:=hd.out;rw[List.drop_eq_nil_of_le (by rw[a.h];omega),List.drop_eq_nil_of_le (by rw[b.h];omega)]at h0;exact⟨yA (by rw[<-h0];rfl),hB.trans (hb.mono hB.size)⟩
structure Row where
 key:ByteArray
 val:ByteArray
 n:Int
 id:zE
def y4(x:Row):Array Value:=#[.string x.key] ++ #[.string x.val] ++ #[.int .i64 x.n]++idC x.id
@[simp] theorem tO(x:Row):(y4 x).size=35:=by simp[y4]
@[go_sem] theorem zk(x:Row):(y4 x)[0]?=some (.string x.key):=by first | (simp[y4,Array.getElem?_append];done) | (rw[show y4 x=((#[]:Array Value)) ++ #[.string x.key]++(#[.string x.val] ++ #[.int .i64 x.n]++idC x.id)from by apply Array.ext';simp[y4]];exact qO _ _ _ _ sI)
@[go_sem] theorem rowC_gg0(x:Row)(h:0<(y4 x).size):(y4 x)[0]'h=.string x.key:=Option.some.inj ((Array.getElem?_eq_getElem h).symm.trans (zk x))
@[go_sem] theorem eN(x:Row):(y4 x)[1]?=some (.string x.val):=by first | (simp[y4,Array.getElem?_append];done) | (rw[show y4 x=(#[.string x.key]) ++ #[.string x.val]++(#[.int .i64 x.n]++idC x.id)from by apply Array.ext';simp[y4]];exact qO _ _ _ _ sI)
@[go_sem] theorem rowC_gg1(x:Row)(h:1<(y4 x).size):(y4 x)[1]'h=.string x.val:=Option.some.inj ((Array.getElem?_eq_getElem h).symm.trans (eN x))
@[go_sem] theorem eM(x:Row):(y4 x)[2]?=some (.int .i64 x.n):=by first | (simp[y4,Array.getElem?_append];done) | (rw[show y4 x=(#[.string x.key] ++ #[.string x.val]) ++ #[.int .i64 x.n]++(idC x.id)from by apply Array.ext';simp[y4]];exact qO _ _ _ _ sI)
@[go_sem] theorem rowC_gg2(x:Row)(h:2<(y4 x).size):(y4 x)[2]'h=.int .i64 x.n:=Option.some.inj ((Array.getElem?_eq_getElem h).symm.trans (eM x))
@[go_sem] theorem Q1(x:Row):(y4 x).extract 3 35=idC x.id:=by
 have h:y4 x=(#[.string x.key] ++ #[.string x.val] ++ #[.int .i64 x.n])++idC x.id++((#[]:Array Value)):=by first | (simp[y4,Array.append_assoc];done) | (apply Array.ext';simp[y4];done)
 rw[h];exact bP _ _ _ _ _ sI sI
@[go_sem] theorem rowC_all(x:Row):(y4 x).extract 0 35=y4 x:=by have:=Array.extract_size (xs:=y4 x);rwa [tO]at this
theorem j9(x:Row):∀u∈(y4 x).toList,u.oneCell'=true:=by
 intro u hu;simp only[y4,Array.toList_append,List.mem_append]at hu;rcases hu with((hu | hu) | hu) | hu
 ·simp at hu;subst hu;rfl
 ·simp at hu;subst hu;rfl
 ·simp at hu;subst hu;rfl
 ·exact xG _ u hu
def m5:Row:=⟨⟨#[]⟩,⟨#[]⟩,0,id0⟩
theorem Row_ext{x y:Row}(h:x.key=y.key/\x.val=y.val/\x.n=y.n/\x.id=y.id):x=y:=by cases x;cases y;simp_all
instance:DecidableEq Row:=λx y=>if h:x.key=y.key/\x.val=y.val/\x.n=y.n/\x.id=y.id then isTrue (Row_ext h)else isFalse (λe=>h (by subst e;simp))
theorem ya:(Tryz.prog.info? 207).map (·.size)=some 35:=kR
@[go_sem ↓] theorem c7(w:World):(zeroValue 207).run Tryz.prog w=.ok (.agg (y4 m5)) w:=by
 have h:(Tryz.prog.info? 207).bind (·.zero)=some (.agg (y4 m5)):=kR;cases hi:Tryz.prog.info? 207 with
 | none=>rw[hi]at h;cases h
 | some i =>
  rw[hi]at h;have hz:i.zero=some (.agg (y4 m5)):=h;simp[zeroValue,typeInfo,hi,hz]
@[go_sem ↓] theorem loadRow_rw(a:Addr):loadVar 207 a=ldS 207 a:=rfl
@[go_sem ↓] theorem storeRow_rw(a:Addr)(v:Value):storeVar 207 a v=stS 207 a v:=rfl
@[go_sem] theorem loadRow_run(w:World)(g o:Nat):(ldS 207 ⟨g,o,none⟩).run Tryz.prog w=match z7 w g o 35 with | some cs=>.ok (.agg cs) w | none=>(loadVar 207 ⟨g,o,none⟩).run Tryz.prog w :=
 vZ Tryz.underlying207 rfl ya w g o
@[go_sem] theorem storeRow_run(w:World)(g:Nat)(hg:g=w.heap.size)(z:Array Value)(hz:z.size=35)(x:Row)(e:TypeId):(stS 207 ⟨g,0,none⟩ (.agg (y4 x))).run Tryz.prog (w.alloc (.cells z e))=.ok () (w.alloc (.cells (y4 x) e)) :=
 hg ▸ qY ya w z (y4 x) hz (tO x) (j9 x)
theorem X9:Tryz.prog.underlying 207=some (.struct (Tryz.prog.fieldsOf 207)):=kR
theorem YL(w:World):((Tryz.prog.fieldsOf 207).mapM fun (f:Field)=>do pure (f.offset,<-sizeOf f.type)).run Tryz.prog w=.ok #[(0,1),(1,1),(2,1),(3,32)] w:=kR
@[go_sem ↓] theorem buildRow_rw(parts:Array (Nat×Value)):Instr.build 207 parts=bdS 207 parts:=rfl
def rowOk(x:Row):Prop:=x.key.size<=maxLen/\x.val.size<=maxLen/\(Lit.int .i64 x.n).wf=true/\True
@[go_sem] theorem buildRow(a0:ByteArray)(a1:ByteArray)(a2:Int)(a3:zE)(w:World):(bdS 207 #[(0,.string a0),(1,.string a1),(2,.int .i64 a2),(3,.agg (idC a3))]).run Tryz.prog w=.ok (.agg (y4 ⟨a0,a1,a2,a3⟩)) w:=by
 refine qP w X9 _ (c7 w) _ (YL w) [(0,.string a0),(1,.string a1),(2,.int .i64 a2),(3,.agg (idC a3))] _ ?_;rw[show y4 m5=(#[]:Array Value) ++ #[.string ⟨#[]⟩]++(#[.string ⟨#[]⟩]++(#[.int .i64 0]++(idC id0)))from by first | (simp[y4,m5,Array.append_assoc];done) | (apply Array.ext';simp[y4,m5])];rw[yJ (off:=0) (size:=1) rfl sI sI (by simp[Value.cells])];rw[show(#[]:Array Value)++(Value.string a0).cells++(#[.string ⟨#[]⟩]++(#[.int .i64 0]++(idC id0)))=(#[.string a0]) ++ #[.string ⟨#[]⟩]++(#[.int .i64 0]++(idC id0))from by first | (simp[Value.cells,Array.append_assoc];done) | (apply Array.ext';simp[Value.cells];done) | (apply Array.ext';simp only[Array.toList_append];simp[Value.cells])];rw[yJ (off:=1) (size:=1) rfl sI sI (by simp[Value.cells])];rw[show(#[.string a0])++(Value.string a1).cells++(#[.int .i64 0]++(idC id0))=(#[.string a0]++(#[.string a1])) ++ #[.int .i64 0]++(idC id0)from by first | (simp[Value.cells,Array.append_assoc];done) | (apply Array.ext';simp[Value.cells];done) | (apply Array.ext';simp only[Array.toList_append];simp[Value.cells])];rw[yJ (off:=2) (size:=1) rfl sI sI (by simp[Value.cells])];rw[show(#[.string a0]++(#[.string a1]))++(Value.int .i64 a2).cells++(idC id0)=(#[.string a0]++(#[.string a1]++(#[.int .i64 a2])))++idC id0++(#[]:Array Value)from by first | (simp[Value.cells,Array.append_assoc];done) | (apply Array.ext';simp[Value.cells];done) | (apply Array.ext';simp only[Array.toList_append];simp[Value.cells])];rw[yJ (off:=3) (size:=32) rfl sI sI (by simp[Value.cells])];first | (simp[Instr.fill,y4,Array.append_assoc,Value.cells];done) | (simp only[Instr.fill,y4];congr 1;apply Array.ext';simp[Value.cells];done) | (simp only[Instr.fill,y4];congr 1;done) | (simp only[Instr.fill,y4];done)
abbrev v3(w:World)(A:Option Addr)(n:Nat)(R:List Row):Prop:=SlR w A n 35 (R.map y4)
theorem v3.get{w:World}{A:Option Addr}{n:Nat}{R:List Row}(h:v3 w A n R){i:Nat}(hi:i<n)(hR:i<R.length) :
  ∃g o,A=some ⟨g,o,none⟩/\z7 w g (o+i*35) 35=some (y4 R[i])/\w.cell? ⟨g,o+i*35,none⟩=some (.string (R[i]).key)/\w.cell? ⟨g,o+i*35+1,none⟩=some (.string (R[i]).val) /\
   w.cell? ⟨g,o+i*35+2,none⟩=some (.int .i64 (R[i]).n)/\z7 w g (o+i*35+3) 32=some (idC (R[i]).id):=by
 obtain⟨g,o,e,hr⟩:=h.at_ hi;rw[List.getElem_map]at hr;refine⟨g,o,e,hr,?_,?_,?_,?_⟩
 ·have:=z8 hr (j:=0) oM
  rwa [zk]at this
 ·have:=z8 hr (j:=1) oM
  rwa [eN]at this
 ·have:=z8 hr (j:=2) oM
  rwa [eM]at this
 ·have:=zX hr (j:=3) (m:=32) oM
  rwa [Q1]at this
theorem v3.len{w:World}{A:Option Addr}{n:Nat}{R:List Row}(h:v3 w A n R):R.length=n:=by simpa using h.1
theorem gL{a b:List UInt8}(h:a=b):(Ending.returned (.string ⟨a.toArray⟩):Ending)=.returned (.string ⟨b.toArray⟩):=by rw[h]
theorem vH{w:World}{q o c:Nat}{d:zE}(h:z7 w q o 32=some (idC d)):(convert 37 9 (.slice (some ⟨q,o,none⟩) 32 c)).run Tryz.prog w=.ok (.string ⟨d.l.toArray⟩) w:=by
 have:=run_convert_bytes_back (P:=Tryz.prog) w 37 9 5 ⟨q,o,none⟩ c d.l Tryz.underlying37 Tryz.underlying5 Tryz.underlying9 (λj hj=>by
  have f:(⟨q,o,none⟩:Addr).add j=⟨q,o+j,none⟩:=by unfold Addr.add;split <;> simp_all
  have hd:=d.h;rw[f,z8 h oM];simp[idC,vY,hj])
 rwa [d.h]at this
def gK(p:jE):List UInt8:=beL 1 p.1.size++(p.1.data.toList++(beL 1 p.2.val.size++(p.2.val.data.toList++(beL 4 p.2.n.toNat++p.2.id.l))))
def nV(L:List jE):List UInt8:=beL 4 L.length++L.flatMap gK
theorem J7{p:jE}(h:qC p.1 p.2=0):(gK p).length<=70:=by
 have:=fY h;have h1:p.1.data.toList.length=p.1.size:=Array.length_toList;have h2:p.2.val.data.toList.length=p.2.val.size:=Array.length_toList;have h3:=p.2.id.h;simp only[gK,List.length_append,y6,h1,h2,h3];omega
theorem mA:∀(L:List jE),(∀p∈L,qC p.1 p.2=0)->(L.flatMap gK).length<=70*L.length
 | [],_=>by simp
 | p :: L,h=>by
  have h1:=J7 (h p sI);have h2:=mA L (λq hq=>h q (by simp[hq]));simp only[List.flatMap_cons,List.length_append,List.length_cons];omega
theorem xR.len{w:World}{g b:Nat}{L:List jE}(h:xR w g b L)(ty:TypeId):(Builtin.len_ #[175] ty #[.map (some b)]).run Tryz.prog w=.ok (.int .i64 L.length) w:=by
 obtain⟨M,es,d,hm,hp⟩:=h.map;rw[<-hp.length_eq];exact hm.len Tryz.underlying175 rfl
theorem lput(w:World)(g b:Nat)(L:List jE)(h:xR w g b L)(hn:L.length<=1000000) :
  Calls Tryz.prog 342 #[.pointer (some ⟨g,0,none⟩)] w λe w'=>e=.returned (.string ⟨(nV L).toArray⟩)/\Below w.heap.size w w':=by
 have hc:=h.cell;go_enter Tryz.func342,Tryz.ntmps342
 (go_wp2_with fail);refine(fX _ _ _ hc).mono ?_;rintro e w' ⟨rfl,rfl⟩;go_upto_region 3 with fail
 have a1:∀(x:Subtype (Bel w)) (ty:TypeId),(Builtin.len_ #[175] ty #[.map (some b)]).run Tryz.prog x.1=.ok (.int .i64 L.length) x.1:=λx ty=>(h.below x.2).len ty;refine lX w ?_;intro a0 hS;have b1:=zJ hc;refine lH ?_;intro K hK;refine(ZL _).mono ?_;rintro e w1 ⟨rfl,U,b5⟩;replace hS:=vC hS b5;have c5:w.drew.heap.size=w.heap.size:=rfl;rw[c5]at U |-;clear b5;refine⟨_,rfl,hS,hK _ _ ?_⟩;clear hK K;refine lZ ?_;refine lH ?_;intro K hK;refine(t9 _ _ _ _ _ _ U L.length 4 oM oM sI).mono ?_;rintro e w2 ⟨rfl,A2,a4,G,b3,N⟩;have Z:Below w.heap.size w w2:=hS.trans (b3.below hS.size (by simp[blk]));refine⟨_,rfl,Z,hK _ _ ?_⟩;clear hK K hS;refine lZ ?_;refine zC ?_;intro hS;simp only[List.nil_append]at G;have hB:w.heap.size+1<=w2.heap.size:=G.base;have h2:=h.below Z;have c7:=h2.cell;clear U b3 N a0 b1 a1 hc hS;(go_wp2_with fail);refine(lkeys _ _ _ _ h2 hn).mono ?_;rintro e w3 ⟨v,rfl,R,J⟩;obtain⟨KA,kc,rfl,y⟩:=J6 R rfl;have h3:=h2.below J;have b8:=G.below J;have c9:=yE Z J;have Hk:=dH y;have d5:=dH J;have d3:w.heap.size<w3.heap.size:=oH J.size;clear y R c7 h2 J Z;(go_wp2_with fail);go_loopw [24] (λi wr=>∃k:Nat,k<=L.length/\i=.int .i64 (k:Nat)/\kM w3 (w.heap.size+1) w.heap.size A2 (beL 4 L.length++(L.take k).flatMap gK) wr) (λi _=>L.length-(intOf i).toNat)
 case atStart=>exact⟨0,zL,rfl,A2,a4,by simpa using b8,z6.refl _ _,λx hx=>.inl hx⟩
 case round =>
  obtain⟨k,hk,rfl,A4,a3,I,T,M⟩:=hrel;have c4:g∉w.heap.size :: blk A2:=by
   simp only[List.mem_cons,not_or];exact⟨oH h.lt.1,λhx=>by have:=(G.own.at_base hx).1;have:=h.lt.1;omega⟩
  have X:b∉w.heap.size :: blk A2:=by
   simp only[List.mem_cons,not_or];exact⟨oH h.lt.2,λhx=>by have:=(G.own.at_base hx).1;have:=h.lt.2;omega⟩
  have h4:=h3.kept T c4 X;have c6:=h4.cell;have c8:=mA (L.take k) (λp hp=>h.rows.2 p (List.mem_of_mem_take hp));have b9:(L.take k).length=k:=sO;rw[b9]at c8;by_cases Y:k<L.length
  ·obtain⟨q,rfl,d4,c0,y⟩:∃q,KA=some ⟨q,0,none⟩/\w2.heap.size<=q/\q<w3.heap.size/\Hid (∀i (hi:i<L.length),w3.cell? ⟨q,i,none⟩=some (.string (L[i]).1)):=by
    rcases Hk.out with⟨_,h0⟩ | h
    ·omega
    ·exact h
   have c1:q∉w.heap.size :: blk A2:=by
    simp only[List.mem_cons,not_or];exact⟨oM,λhx=>oH ((G.own.at_base hx).2)⟩
   have F:=(T.cell (p:=⟨q,k,none⟩) c0 c1).trans (y.out k Y);have hl:=h4.look1 (List.getElem_mem Y);have A:=h.rows.2 _ (List.getElem_mem Y);have b0:(L.take (k+1)).flatMap gK=(L.take k).flatMap gK++gK L[k]:=by rw[List.take_add_one,List.getElem?_eq_getElem Y,List.flatMap_append];simp only[Option.toList_some,List.flatMap_cons,List.flatMap_nil,List.append_nil]
   have b7:=dH b0;clear b0 y Hk;obtain⟨⟨pk,pv,pn,B⟩,hp⟩:∃p,L[k]=p:=⟨_,rfl⟩
   have Hp:=dH hp;rw[hp]at F hl b7 A;obtain⟨ck,cv,d1,d0⟩:=fY A;simp only at ck cv d1 d0;obtain⟨nn,rfl⟩:∃nn:Nat,pn=nn:=⟨pn.toNat,oM⟩
   clear hp A;have a2:(beL 4 L.length++List.flatMap gK (List.take k L)).length<=70000004:=by rw[List.length_append,y6];omega
   obtain⟨b6,H⟩:=eX (beL 4 L.length++List.flatMap gK (List.take k L))
   have a5:=dH H;rw[H]at I a2;have e1:pk.data.toList.length=pk.size:=Array.length_toList;have e2:pv.data.toList.length=pv.size:=Array.length_toList;have e3:(⟨B.l.toArray⟩:ByteArray).size=32:=by show B.l.toArray.size=32;simp[B.h]
   have E1:=dH e1;have E2:=dH e2;have E3:=dH e3;clear H e1 e2 e3;go_upto_region 8 with fail
   have a9:=I.below (w':=wr.alloc (.cells (zV ⟨pv,nn,B⟩) 180)) (bA);have E:z7 (wr.alloc (.cells (zV ⟨pv,nn,B⟩) 180)) wr.heap.size 0 34=some (zV ⟨pv,nn,B⟩):=by simp[go_sem]
   have c3:z6 [] wr (wr.alloc (.cells (zV ⟨pv,nn,B⟩) 180)):=z6.alloc _ _;have X:wr.heap.size∉w.heap.size :: blk A4:=by
    simp only[List.mem_cons,not_or];exact⟨oH T.size,λhx=>oH ((I.own.at_base hx).2)⟩
   generalize wr.alloc (.cells (zV ⟨pv,nn,B⟩) 180)=W at *;have a8:W.cell? ⟨wr.heap.size,0,none⟩=some (.string pv):=by have:=z8 E (j:=0) oM;rwa [cJ]at this
   have a7:W.cell? ⟨wr.heap.size,1,none⟩=some (.int .i64 nn):=by have:=z8 E (j:=1) oM;rwa [cF]at this
   have a6:z7 W wr.heap.size 2 32=some (idC B):=by have:=zX E (j:=2) (m:=32) oM;rwa [J3]at this
   have V:∀(x:Subtype (Kp (w.heap.size :: blk A4) W)) c,(convert 37 9 (.slice (some ⟨wr.heap.size,2,none⟩) 32 c)).run Tryz.prog x.1=.ok (.string ⟨B.l.toArray⟩) x.1:=λx c=>vH (y9 a6 X x);have s:kM W (w.heap.size+1) w.heap.size A4 b6 W.drew:=⟨A4,a3,a9.kept (z6.drew W) sI sI,(z6.drew W).mono sI,λx hx=>.inl hx⟩
   refine kX (w.heap.size :: blk A4) W ?_;intro a0 hS;have b1:=zP a8 X;have b2:=zP a7 X;clear F hl c6 a8 a7 a6 E;refine lZ ?_;refine lH ?_;intro K hK;obtain⟨Ai,D,r,t,d⟩:=s;refine(t9 _ _ _ _ _ _ r pk.size 1 oM oM oM).mono ?_;rintro e w' ⟨rfl,f⟩;replace s:=zZ r t d f;have hS:=s.choose_spec.choose_spec.2.1;refine⟨_,rfl,hS,hK _ _ ?_⟩;clear hK K r t d f;refine lZ ?_;refine lH ?_;intro K hK;obtain⟨Ai,D,r,t,d⟩:=s;refine(dS _ _ _ _ _ _ r pk (by simp only[List.length_append,y6];omega)).mono ?_;rintro e w' ⟨rfl,f⟩;replace s:=zZ r t d f;have hS:=s.choose_spec.choose_spec.2.1;refine⟨_,rfl,hS,hK _ _ ?_⟩;clear hK K r t d f;refine lZ ?_;refine lH ?_;intro K hK;obtain⟨Ai,D,r,t,d⟩:=s;refine(t9 _ _ _ _ _ _ r pv.size 1 oM oM (by simp only[List.length_append,y6,E1.out];omega)).mono ?_;rintro e w' ⟨rfl,f⟩;replace s:=zZ r t d f;have hS:=s.choose_spec.choose_spec.2.1;refine⟨_,rfl,hS,hK _ _ ?_⟩;clear hK K r t d f;refine lZ ?_;refine lH ?_;intro K hK;obtain⟨Ai,D,r,t,d⟩:=s;refine(dS _ _ _ _ _ _ r pv (by simp only[List.length_append,y6,E1.out];omega)).mono ?_;rintro e w' ⟨rfl,f⟩;replace s:=zZ r t d f;have hS:=s.choose_spec.choose_spec.2.1;refine⟨_,rfl,hS,hK _ _ ?_⟩;clear hK K r t d f;refine lZ ?_;refine lH ?_;intro K hK;obtain⟨Ai,D,r,t,d⟩:=s;refine(t9 _ _ _ _ _ _ r nn 4 oM oM (by simp only[List.length_append,y6,E1.out,E2.out];omega)).mono ?_;rintro e w' ⟨rfl,f⟩;replace s:=zZ r t d f;have hS:=s.choose_spec.choose_spec.2.1;refine⟨_,rfl,hS,hK _ _ ?_⟩;clear hK K r t d f;refine lZ ?_;refine lH ?_;intro K hK;obtain⟨Ai,D,r,t,d⟩:=s;refine(dS _ _ _ _ _ _ r ⟨B.l.toArray⟩ (by simp only[List.length_append,y6,E1.out,E2.out,E3.out];omega)).mono ?_;rintro e w' ⟨rfl,f⟩;replace s:=zZ r t d f;have hS:=s.choose_spec.choose_spec.2.1;refine⟨_,rfl,hS,hK _ _ ?_⟩;clear hK K r t d f;refine lZ ?_;refine zC ?_;intro hS;have b4:b6++beL 1 pk.size++pk.data.toList++beL 1 pv.size++pv.data.toList++beL 4 nn++(⟨B.l.toArray⟩:ByteArray).data.toList=beL 4 L.length++(L.take (k+1)).flatMap gK:=by
    rw[b7.out,<-List.append_assoc,a5.out];simp[gK,List.append_assoc]
   rw[b4]at s;have O:=zZ I T M (zZ a9 (c3.mono (S':=w.heap.size :: blk A4) sI) iL s);have d2:=dH O;clear s O b4 V a0 b1 b2;(go_wp2_with fail);go_roundw
   case rel=>exact⟨k+1,oM,by go_num,d2.out⟩
   case measure=>exact sZ
  ·have c2:k=L.length:=oM;subst c2;rw[List.take_length]at I;(go_wp2_with fail);refine(nN _ _ _ _ _ _ I).mono ?_;rintro e w' ⟨rfl,rfl⟩;(go_wp2_with fail);go_ret;refine⟨rfl,c9.trans (T.below oM λx hx=>?_)⟩;rcases List.mem_cons.1 hx with rfl | hx
   ·omega
   ·have:=(G.own.at_base hx).1;omega
def vL(x:Row):xC:=⟨x.val,x.n,x.id⟩
theorem rcheck(x:Row)(w:World)(hk:x.key.size<=9223372036854775807)(hv:x.val.size<=9223372036854775807) :
  Calls Tryz.prog 234 #[.agg (y4 x)] w λe w'=>e=.returned (.int .i64 (qC x.key (vL x)))/\Below w.heap.size w w':=by
 obtain⟨xk,xv,xn,xi⟩:=x;dsimp only at hk hv;go_enter Tryz.func234,Tryz.ntmps234
 go_wp2_with fail
 all_goals
  go_ret;refine⟨yA ?_,bA⟩;unfold qC vL
  first
   | rw[if_pos (by simp only;omega)]
   | rw[if_neg (by simp only;omega),if_pos (by simp only;omega)]
   | rw[if_neg (by simp only;omega),if_neg (by simp only;omega)]
def gtS(a b:ByteArray):Bool:=!Z6 a b && !(a.toList==b.toList)
theorem gtS_cmp(a b:ByteArray):gtS a b=decide (0<xY a b):=by
 have h1:=kD a b;have h2:(a.toList==b.toList)=decide (xY a b=0):=by
  rw[Bool.eq_iff_iff,beq_iff_eq,decide_eq_true_eq,dQ,toList_inj]
 unfold gtS;rw[h1,h2,Bool.eq_iff_iff];simp only[Bool.and_eq_true,Bool.not_eq_true',decide_eq_false_iff_not,decide_eq_true_eq];omega
def pV(a b:Row):Bool:=decide (b.n<a.n)||((a.n==b.n)&&(decide (0<zI a.id b.id)||((zI a.id b.id==0)&&gtS a.val b.val)))
theorem orL3B(i c s:Int):decide (0<orL [i,c,s])=(decide (0<i)||((i==0)&&(decide (0<c)||((c==0)&&decide (0<s))))):=by
 simp only[orL];by_cases h1:i=0
 ·subst h1;by_cases h2:c=0
  ·subst h2;by_cases h3:s=0 <;> simp[h3]
  ·simp[h2]
 ·simp[h1]
theorem jm(a b:Row):pV a b=decide (0<dB (vL a) (vL b)):=by
 have h:dB (vL a) (vL b)=orL [lQ a.n b.n,zI a.id b.id,xY a.val b.val]:=rfl;have h1:decide (0<lQ a.n b.n)=decide (b.n<a.n):=by
  rw[Bool.eq_iff_iff];simp only[decide_eq_true_eq];unfold lQ;repeat' split
  all_goals omega
 have h2:(lQ a.n b.n==0)=(a.n==b.n):=by
  rw[Bool.eq_iff_iff];simp only[beq_iff_eq];unfold lQ;repeat' split
  all_goals omega
 rw[h,orL3B,h1,h2];unfold pV;rw[gtS_cmp]
theorem rlater(a b:Row)(w:World):Calls Tryz.prog 219 #[.agg (y4 a),.agg (y4 b)] w λe w'=>e=.returned (.bool (pV a b))/\Below w.heap.size w w':=by
 have c1:=wB a.id b.id ((w.alloc (.cells (y4 a) 207)).alloc (.cells (y4 b) 207));have hB:Below w.heap.size w ((w.alloc (.cells (y4 a) 207)).alloc (.cells (y4 b) 207)):=(bA).alloc sI _;have ra:z7 ((w.alloc (.cells (y4 a) 207)).alloc (.cells (y4 b) 207)) w.heap.size 0 35=some (y4 a):=by simp[go_sem]
 have rb:z7 ((w.alloc (.cells (y4 a) 207)).alloc (.cells (y4 b) 207)) (w.heap.size+1) 0 35=some (y4 b):=by simp[go_sem]
 go_enter Tryz.func219,Tryz.ntmps219
 go_upto_region 1 with fail
 generalize (w.alloc (.cells (y4 a) 207)).alloc (.cells (y4 b) 207)=W at *;have a1:W.cell? ⟨w.heap.size,1,none⟩=some (.string a.val):=by have:=z8 ra (j:=1) oM;rwa [eN]at this
 have a2:W.cell? ⟨w.heap.size,2,none⟩=some (.int .i64 a.n):=by have:=z8 ra (j:=2) oM;rwa [eM]at this
 have a3:z7 W w.heap.size 3 32=some (idC a.id):=by have:=zX ra (j:=3) (m:=32) oM;rwa [Q1]at this
 have b1:W.cell? ⟨w.heap.size+1,1,none⟩=some (.string b.val):=by have:=z8 rb (j:=1) oM;rwa [eN]at this
 have b2:W.cell? ⟨w.heap.size+1,2,none⟩=some (.int .i64 b.n):=by have:=z8 rb (j:=2) oM;rwa [eM]at this
 have b3:z7 W (w.heap.size+1) 3 32=some (idC b.id):=by have:=zX rb (j:=3) (m:=32) oM;rwa [Q1]at this
 clear ra rb;(go_wp2_with fail);refine c1.mono ?_;rintro e W2 ⟨rfl,hb⟩;have d1:=(hb.cell (p:=⟨w.heap.size,1,none⟩) (World.block_lt_of_cell? W _ a1)).trans a1;have d2:=(hb.cell (p:=⟨w.heap.size,2,none⟩) (World.block_lt_of_cell? W _ a2)).trans a2;have e1:=(hb.cell (p:=⟨w.heap.size+1,1,none⟩) (World.block_lt_of_cell? W _ b1)).trans b1;have e2:=(hb.cell (p:=⟨w.heap.size+1,2,none⟩) (World.block_lt_of_cell? W _ b2)).trans b2;have d:=hB.trans (hb.mono hB.size);clear a1 a2 a3 b1 b2 b3 hb hB c1;go_wp2_with fail
 all_goals
  go_ret;refine⟨yF ?_,d⟩
  simp_all [pV,gtS,Z6]
def lN:List Row->Row->List Row
 | [],x=>[x]
 | y :: l,x=>if xY y.key x.key<0 then y :: lN l x else if y.key=x.key then(if pV x y then x :: l else y :: l)else x :: y :: l
def q9(l:List Row):List Row:=l.foldl lN []
def vX(x:Row):jE:=(x.key,vL x)
theorem VA:∀(l:List Row) (x:Row),(lN l x).map vX=gX (l.map vX) x.key (vL x)
 | [],_=>rfl
 | y :: l,x=>by
  unfold lN gX;simp only[List.map_cons];have e1:(vX y).1=y.key:=rfl;have e2:(vX y).2=vL y:=rfl;rw[e1,e2];split
  ·rw[List.map_cons,VA l x]
  ·split
   ·have h:=jm x y;by_cases hl:0<dB (vL x) (vL y)
    ·rw[if_pos hl,if_pos (by rw[h];exact decide_eq_true hl)];rename_i he;simp[vX,he]
    ·rw[if_neg hl,if_neg (by rw[h];simp[hl])];rfl
   ·rfl
theorem QH:∀(l:List Row) (x:Row) (k:Nat),k<=l.length->(∀j (hj:j<l.length),j<k->xY (l[j]).key x.key<0)->(∀hk:k<l.length,¬xY (l[k]).key x.key<0) ->
  lN l x=if h:k<l.length/\(l[k]?).map (·.key)=some x.key then(if pV x (l[k]'h.1)then l.set k x else l)else l.take k++x :: l.drop k
 | [],x,k,hk,_,_=>by
  have:k=0:=by simpa using hk
  subst this;simp[lN]
 | y :: l,x,0,_,_,h2=>by
  have h:=h2 sI;simp only[List.getElem_cons_zero]at h;unfold lN;rw[if_neg h];by_cases he:y.key=x.key
  ·rw[if_pos he,dif_pos ⟨sI,by simp[he]⟩];rfl
  ·rw[if_neg he,dif_neg (by simp[he])];rfl
 | y :: l,x,k+1,hk,h1,h2=>by
  have h:=h1 0 sI oM;simp only[List.getElem_cons_zero]at h;unfold lN;rw[if_pos h];have ih:=QH l x k (by simpa using hk) (λj hj f=>by have:=h1 (j+1) (by simpa using hj) oM;simpa using this) (λd=>by have:=h2 (by simpa using d);simpa using this);rw[ih];by_cases hc:k<l.length/\(l[k]?).map (·.key)=some x.key
  ·rw[dif_pos hc,dif_pos ⟨by simpa using hc.1,by simpa using hc.2⟩];simp only[List.getElem_cons_succ,List.set_cons_succ];split <;> rfl
  ·rw[dif_neg hc,dif_neg (λhh=>hc ⟨by simpa using hh.1,by simpa using hh.2⟩)]
   simp
theorem VB(l:List Row)(x:Row):(lN l x).length<=l.length+1:=by
 induction l with
 | nil=>simp[lN]
 | cons y l ih =>
  unfold lN
  repeat' split
  all_goals simp;try omega
theorem rN(l:List Row)(x:Row):q9 (l ++ [x])=lN (q9 l) x:=by simp[q9]
theorem rV:∀(l a:List Row),(l.foldl lN a).length<=a.length+l.length
 | [],a=>by simp
 | x :: l,a=>by
  have h1:=rV l (lN a x);have h2:=VB a x;simp only[List.foldl_cons,List.length_cons];omega
theorem mH(l:List Row):(q9 l).length<=l.length:=by have:=rV l [];simpa[q9]using this
theorem YI(w:World)(A:Option Addr)(n cap:Nat)(R:List zE)(d:zE)(h:zY w A n R)(hn:n<=9223372036854775807) :
  Calls Tryz.prog 36 #[.slice A n cap,.agg (idC d)] w λe w'=>e=.returned (.bool (decide (d∈R)))/\Below w.heap.size w w':=by
 have m:=h.len;have hB:Below w.heap.size w (w.alloc (.cells (idC d) 39)):=bA;have D:z7 (w.alloc (.cells (idC d) 39)) w.heap.size 0 32=some (idC d):=by simp[go_sem]
 have f:=dH m;clear m;go_enter Tryz.func36,Tryz.ntmps36
 (go_wp2_with fail);generalize w.alloc (.cells (idC d) 39)=W at *;go_loopw [5] (λi wr=>∃k:Nat,k<=n/\i=.int .i64 k/\Hid (d∉R.take k)/\Below W.heap.size W wr) (λi _=>n-(intOf i).toNat)
 case atStart=>exact⟨0,zL,rfl,(sI:d∉R.take 0),Below.refl _ _⟩
 case round =>
  obtain⟨k,hk,rfl,y,hb⟩:=hrel;by_cases j:k<n
  ·obtain⟨q,o,rfl,hr⟩:=zY.get (SlR.below (SlR.below h hB) hb) j (by rw[f.out];exact j);have B:z7 wr w.heap.size 0 32=some (idC d):=(z9 (hb.block _ (zD D)) _ _).trans D;have s:R.take (k+1)=R.take k ++ [R[k]'(by rw[f.out];exact j)]:=by rw[List.take_add_one,List.getElem?_eq_getElem (by rw[f.out];exact j)];rfl
   have g:R[k]'(by rw[f.out];exact j)∈R:=List.getElem_mem _;obtain⟨x,hx⟩:=eX (R[k]'(by rw[f.out];exact j))
   rw[hx]at hr s g;have F:=dH s;have Hm:=dH g;clear hx s g;go_upto_region 4 with fail
   refine lX wr ?_;intro E hS;have b1:=zU hr;have b2:=zU B;refine lZ ?_;refine zC ?_;intro hS;clear E hS b1 b2 hr B;go_wp2_with fail
   ·have he:(x==d)=true:=by assumption
    have e:x=d:=by simpa using he
    have G:Hid (decide (d∈R)=true):=decide_eq_true (by rw[<-e];exact Hm.out);clear e;go_ret;exact⟨yF (by rw[G.out]),hB.trans (hb.drew.mono hB.size)⟩
   ·have he:(x==d)=false:=by assumption
    have e:¬x=d:=by simpa using he
    have t:Hid (d∉R.take (k+1)):=by
     show _;rw[F.out,List.mem_append,List.mem_singleton];rintro(h1 | h1)
     ·exact y.out h1
     ·exact e h1.symm
    clear e;go_roundw
    case rel=>exact⟨k+1,oM,by go_num,t,hb.drew⟩
    case measure=>exact sZ
  ·have r:d∉R:=by
    have:=y.out
    rwa [List.take_of_length_le (by rw[f.out];omega)]at this
   have Hn:Hid (decide (d∈R)=false):=decide_eq_false r;clear r;(go_wp2_with fail);go_ret;exact⟨yF (by rw[Hn.out]),hB.trans (hb.mono hB.size)⟩
theorem infoRRow:(Tryz.prog.info? 218).map (·.size)=some 33:=kR
@[go_sem ↓] theorem XK(w:World):(zeroValue 218).run Tryz.prog w=.ok (.agg (zH fM)) w:=by
 have h:(Tryz.prog.info? 218).bind (·.zero)=some (.agg (zH fM)):=kR;cases hi:Tryz.prog.info? 218 with
 | none=>rw[hi]at h;cases h
 | some i =>
  rw[hi]at h;have hz:i.zero=some (.agg (zH fM)):=h;simp[zeroValue,typeInfo,hi,hz]
@[go_sem ↓] theorem loadRRow_rw(a:Addr):loadVar 218 a=ldS 218 a:=rfl
@[go_sem ↓] theorem storeRRow_rw(a:Addr)(v:Value):storeVar 218 a v=stS 218 a v:=rfl
@[go_sem] theorem loadRRow_run(w:World)(g o:Nat):(ldS 218 ⟨g,o,none⟩).run Tryz.prog w=match z7 w g o 33 with | some cs=>.ok (.agg cs) w | none=>(loadVar 218 ⟨g,o,none⟩).run Tryz.prog w :=
 vZ Tryz.underlying218 rfl infoRRow w g o
theorem aR:Tryz.prog.underlying 218=some (.struct (Tryz.prog.fieldsOf 218)):=kR
theorem BA(w:World):((Tryz.prog.fieldsOf 218).mapM fun (f:Field)=>do pure (f.offset,<-sizeOf f.type)).run Tryz.prog w=.ok #[(0,32),(32,1)] w:=kR
@[go_sem ↓] theorem buildRRow_rw(parts:Array (Nat×Value)):Instr.build 218 parts=bdS 218 parts:=rfl
@[go_sem] theorem vo(a0:zE)(a1:ByteArray)(w:World):(bdS 218 #[(0,.agg (idC a0)),(1,.string a1)]).run Tryz.prog w=.ok (.agg (zH ⟨a0,a1⟩)) w:=by
 refine qP w aR _ (XK w) _ (BA w) [(0,.agg (idC a0)),(1,.string a1)] _ ?_;rw[show zH fM=(#[]:Array Value)++idC id0++(#[.string ⟨#[]⟩])from by first | (simp[zH,fM,Array.append_assoc];done) | (apply Array.ext';simp[zH,fM])];rw[yJ (off:=0) (size:=32) rfl sI sI (by simp[Value.cells])];rw[show(#[]:Array Value)++(Value.agg (idC a0)).cells++(#[.string ⟨#[]⟩])=(idC a0) ++ #[.string ⟨#[]⟩]++(#[]:Array Value)from by first | (simp[Value.cells,Array.append_assoc];done) | (apply Array.ext';simp[Value.cells];done) | (apply Array.ext';simp only[Array.toList_append];simp[Value.cells])];rw[yJ (off:=32) (size:=1) rfl sI sI (by simp[Value.cells])];first | (simp[Instr.fill,zH,Array.append_assoc,Value.cells];done) | (simp only[Instr.fill,zH];congr 1;apply Array.ext';simp[Value.cells];done) | (simp only[Instr.fill,zH];congr 1;done) | (simp only[Instr.fill,zH];done)
theorem q5:xH Tryz.prog 58 218 33 48 :=
 .of (z:=.agg (zH fM)) Tryz.underlying58 kR kR kR (kV _) oM
@[go_sem ↓] theorem bsRRow_rw(n:Nat)(parts:Array (Nat×Value)):Instr.buildSlice 58 n parts=bsS 58 n parts:=rfl
@[go_sem] theorem bsRRow_run(w:World)(x:yH):(bsS 58 1 #[(0,.agg (zH x))]).run Tryz.prog w=.ok (.slice (some ⟨w.heap.size,0,none⟩) 1 1) (w.alloc (.cells (zH x) 218)) :=
 bF q5 oM w (zH x) (kV x)
@[go_sem] theorem bsRRow0_run(w:World):(bsS 58 0 #[]).run Tryz.prog w=.ok (.slice (some ⟨w.heap.size,0,none⟩) 0 0) (w.alloc (.cells #[] 218)):=dZ q5 w
@[go_sem ↓] theorem slRRow_rw(x:Value)(lo hi mx:Option Value):Instr.sliceAt 58 x lo hi mx=slS 58 x lo hi mx:=rfl
def sF(x y:yH):Bool:=(x.tag==y.tag)&&(x.val.toList==y.val.toList)
theorem qf(x y:yH):sF x y=decide (x=y):=by
 unfold sF;rw[Bool.eq_iff_iff];simp only[Bool.and_eq_true,beq_iff_eq,toList_inj,decide_eq_true_eq];exact⟨λh=>KE h,λh=>by subst h;exact⟨rfl,rfl⟩⟩
theorem vb(x y:yH)(w:World):(Op.equalIn 10000 218 (.agg (zH x)) (.agg (zH y))).run Tryz.prog w=.ok (sF x y) w:=by
 rw[show(10000:Nat)=9999+1 from rfl,run_equalIn_agg w 9999 218 _ _ aR kR];unfold sF;have e1:=QN 9997 x.tag y.tag w;have e2:=run_equalIn_string (P:=Tryz.prog) w 9998 9 x.val y.val Tryz.underlying9;simp only[Program.fieldsOf,Tryz.underlying218];simp[Op.eqFields,part,asAgg,isAgg,go_sem,Tryz.underlying9,Tryz.underlying39,e1,e2];cases h1:(x.tag==y.tag) <;> cases h2:(x.val.toList==y.val.toList) <;> simp_all
@[go_sem ↓] theorem eqRRow_run(x y:yH)(w:World):(Op.equalIn 10000 218 (.agg (zH x)) (.agg (zH y))).run Tryz.prog w=.ok (sF x y) w:=vb x y w
abbrev y7(w:World)(A:Option Addr)(n:Nat)(R:List yH):Prop:=SlR w A n 33 (R.map zH)
theorem y7.len{w:World}{A:Option Addr}{n:Nat}{R:List yH}(h:y7 w A n R):R.length=n:=by simpa using h.1
theorem y7.get{w:World}{A:Option Addr}{n:Nat}{R:List yH}(h:y7 w A n R){i:Nat}(hi:i<n)(hR:i<R.length) :
  ∃g o,A=some ⟨g,o,none⟩/\z7 w g (o+i*33) 33=some (zH R[i])/\z7 w g (o+i*33) 32=some (idC (R[i]).tag)/\w.cell? ⟨g,o+i*33+32,none⟩=some (.string (R[i]).val):=by
 obtain⟨g,o,e,hr⟩:=h.at_ hi;rw[List.getElem_map]at hr;refine⟨g,o,e,hr,?_,?_⟩
 ·have:=zX hr (j:=0) (m:=32) oM
  rwa [mS]at this
 ·have:=z8 hr (j:=32) oM
  rwa [dR]at this
theorem rin(w:World)(A:Option Addr)(n cap:Nat)(R:List yH)(x:yH)(h:y7 w A n R)(hn:n<=9223372036854775807) :
  Calls Tryz.prog 218 #[.slice A n cap,.agg (zH x)] w λe w'=>e=.returned (.bool (decide (x∈R)))/\Below w.heap.size w w':=by
 have j:=h.len;have hB:Below w.heap.size w (w.alloc (.cells (zH x) 218)):=bA;have E:z7 (w.alloc (.cells (zH x) 218)) w.heap.size 0 33=some (zH x):=by simp[go_sem]
 have d:=dH j;clear j;go_enter Tryz.func218,Tryz.ntmps218
 (go_wp2_with fail);generalize w.alloc (.cells (zH x) 218)=W at *;go_loopw [5] (λi wr=>∃k:Nat,k<=n/\i=.int .i64 k/\Hid (x∉R.take k)/\Below W.heap.size W wr) (λi _=>n-(intOf i).toNat)
 case atStart=>exact⟨0,zL,rfl,(sI:x∉R.take 0),Below.refl _ _⟩
 case round =>
  obtain⟨k,hk,rfl,B,hb⟩:=hrel;by_cases g:k<n
  ·obtain⟨q,o,rfl,hr,_,_⟩:=y7.get (SlR.below (SlR.below h hB) hb) g (by rw[d.out];exact g);have D:z7 wr w.heap.size 0 33=some (zH x):=(z9 (hb.block _ (zD E)) _ _).trans E;have r:R.take (k+1)=R.take k ++ [R[k]'(by rw[d.out];exact g)]:=by rw[List.take_add_one,List.getElem?_eq_getElem (by rw[d.out];exact g)];rfl
   have f:R[k]'(by rw[d.out];exact g)∈R:=List.getElem_mem _;obtain⟨y,hy⟩:=eX (R[k]'(by rw[d.out];exact g))
   rw[hy]at hr r f;have I:=dH r;have Hm:=dH f;clear hy r f;obtain⟨bb,F⟩:=eX (sF y x)
   have t:=qf y x;rw[F]at t;have G:=dH t;clear t;go_upto_region 4 with fail
   refine lX wr ?_;intro H hS;have b1:=zU hr;have b2:=zU D;refine lZ ?_;refine zC ?_;intro hS;clear H hS b1 b2 hr D F;cases bb with
   | true =>
    have e:y=x:=by simpa using G.out.symm
    have J:Hid (decide (x∈R)=true):=decide_eq_true (by rw[<-e];exact Hm.out);clear e;(go_wp2_with fail);go_ret;exact⟨yF (by rw[J.out]),hB.trans (hb.drew.mono hB.size)⟩
   | false =>
    have e:¬y=x:=by simpa using G.out.symm
    have s:Hid (x∉R.take (k+1)):=by
     show _;rw[I.out,List.mem_append,List.mem_singleton];rintro(h1 | h1)
     ·exact B.out h1
     ·exact e h1.symm
    clear e;(go_wp2_with fail);go_roundw
    case rel=>exact⟨k+1,oM,by go_num,s,hb.drew⟩
    case measure=>exact sZ
  ·have m:x∉R:=by
    have:=B.out
    rwa [List.take_of_length_le (by rw[d.out];omega)]at this
   have Hn:Hid (decide (x∈R)=false):=decide_eq_false m;clear m;(go_wp2_with fail);go_ret;exact⟨yF (by rw[Hn.out]),hB.trans (hb.mono hB.size)⟩
theorem orC_lt(a b:Int):orC a b<0↔a<0\/(a=0/\b<0):=by
 unfold orC;split <;> omega
theorem rless(x y:yH)(w:World):Calls Tryz.prog 223 #[.agg (zH x),.agg (zH y)] w λe w'=>e=.returned (.bool (decide (yG x y<0)))/\Below w.heap.size w w':=by
 have hB:Below w.heap.size w ((w.alloc (.cells (zH x) 218)).alloc (.cells (zH y) 218)):=(bA).alloc sI _;have h0:decide (yG x y<0)=decide (zI x.tag y.tag<0\/(zI x.tag y.tag=0/\xY x.val y.val<0)):=by
  unfold yG;rw[orL2];exact decide_eq_decide.2 (orC_lt _ _)
 have hs:=kD x.val y.val;have ra:z7 ((w.alloc (.cells (zH x) 218)).alloc (.cells (zH y) 218)) w.heap.size 0 33=some (zH x):=by simp[go_sem]
 have rb:z7 ((w.alloc (.cells (zH x) 218)).alloc (.cells (zH y) 218)) (w.heap.size+1) 0 33=some (zH y):=by simp[go_sem]
 have H0:=dH h0;clear h0;go_enter Tryz.func223,Tryz.ntmps223
 go_upto_region 1 with fail
 generalize (w.alloc (.cells (zH x) 218)).alloc (.cells (zH y) 218)=W at *;have a1:z7 W w.heap.size 0 32=some (idC x.tag):=by have:=zX ra (j:=0) (m:=32) oM;rwa [mS]at this
 have a2:W.cell? ⟨w.heap.size,32,none⟩=some (.string x.val):=by have:=z8 ra (j:=32) oM;rwa [dR,Nat.zero_add]at this
 have a3:z7 W (w.heap.size+1) 0 32=some (idC y.tag):=by have:=zX rb (j:=0) (m:=32) oM;rwa [mS]at this
 have a4:W.cell? ⟨w.heap.size+1,32,none⟩=some (.string y.val):=by have:=z8 rb (j:=32) oM;rwa [dR,Nat.zero_add]at this
 clear ra rb;have c1:=wB x.tag y.tag W;obtain⟨c,hc⟩:=eX (zI x.tag y.tag)
 rw[hc]at c1;obtain⟨sb,g⟩:=eX (Op.bytesLess x.val.toList y.val.toList)
 have f:sb=decide (xY x.val y.val<0):=g.symm.trans hs;have Hc:=dH hc;have Hs:=dH f;clear hc hs f;(go_wp2_with fail);refine c1.mono ?_;rintro e W2 ⟨rfl,hb⟩;have d2:=(hb.cell (p:=⟨w.heap.size,32,none⟩) (World.block_lt_of_cell? W _ a2)).trans a2;have e2:=(hb.cell (p:=⟨w.heap.size+1,32,none⟩) (World.block_lt_of_cell? W _ a4)).trans a4;have d:=hB.trans (hb.mono hB.size);clear a1 a2 a3 a4 hb hB c1;by_cases h1:c<0
 ·(go_wp2_with fail);go_ret;exact⟨yF (by rw[H0.out,Hc.out];simp[h1]),d⟩
 ·by_cases h2:c=0
  ·subst h2;cases sb with
   | true =>
    (go_wp2_with fail);go_ret;exact⟨yF (by rw[H0.out,Hc.out];simpa using Hs.out.symm),d⟩
   | false =>
    (go_wp2_with fail);go_ret;exact⟨yF (by rw[H0.out,Hc.out];simpa using Hs.out.symm),d⟩
  ·have h3:(c==0)=false:=by rw[beq_eq_false_iff_ne];exact h2
   have Hd:Hid (decide (c<0\/(c=0/\xY x.val y.val<0))=false):=by
    show _=_;rw[decide_eq_false_iff_not];rintro(h | ⟨h,_⟩)
    ·exact h1 h
    ·exact h2 h
   clear h2;(go_wp2_with fail);go_ret;exact⟨yF (by rw[H0.out,Hc.out,Hd.out,decide_eq_false_iff_not];omega),d⟩
abbrev OwnR(w:World)(B:Nat)(A:Option Addr)(cap:Nat)(R:List yH):Prop:=Own w B 218 33 A R.length cap (R.map zH)
theorem rsorted(w:World)(A:Option Addr)(n cap:Nat)(R:List yH)(h:y7 w A n R)(hn:n<=1000000) :
  Calls Tryz.prog 161 #[.slice A n cap] w λe w'=>∃A' cap',e=.returned (.slice A' (yB yG R).length cap')/\OwnR w' w.heap.size A' cap' (yB yG R)/\Below w.heap.size w w':=by
 have f4:=h.len;go_enter Tryz.func161,Tryz.ntmps161
 (go_wp2_with fail);go_loopw [3,4] (λout i wr=>∃(k:Nat) (A1:Option Addr) (s:Nat),k<=n/\i=.int .i64 k/\out=.slice A1 (yB yG (R.take k)).length s/\OwnR wr w.heap.size A1 s (yB yG (R.take k))/\Below w.heap.size w wr) (λ_ i _=>n-(intOf i).toNat)
 case atStart=>exact⟨0,none,0,zL,rfl,rfl,Own.nil _ _ _ _,Below.refl _ _⟩
 case round =>
  obtain⟨k,A1,s,hk,rfl,rfl,L,hb⟩:=hrel;by_cases f0:k<n
  ·obtain⟨q,o,rfl,hr,_,_⟩:=y7.get (SlR.below h hb) f0 oM;have d2:yB yG (R.take (k+1))=xS yG (yB yG (R.take k)) R[k]:=by
    rw[List.take_add_one,List.getElem?_eq_getElem oM,Option.toList_some,bQ]
   have f3:(yB yG (R.take k)).length<=1000000:=by have:=xF (c:=yG) (R.take k);simp at this;omega
   have c7:=xJ jI (R.take k);obtain⟨O,hO⟩:=eX (yB yG (R.take k))
   obtain⟨x,hx⟩:=eX (R[k]'oM)
   rw[hx]at hr d2;rw[hO]at d2 f3 L c7 |-;have b8:=dH d2;clear hx hO d2;obtain⟨WR,rfl⟩:∃WR,WR=wr:=⟨wr,rfl⟩
   have e9:y7 WR A1 O.length O:=L.slr;have c1:=rin WR A1 O.length s O x e9 oM;by_cases b6:x∈O
   ·rw[decide_eq_true b6]at c1;have Y:=tV jI c7 b6;have U:=dH Y;clear Y b6;(go_wp2_with fail);refine c1.mono ?_;rintro e w1 ⟨rfl,a7⟩;have D:=L.below a7;have b7:=hb.trans (a7.mono hb.size);clear c1;(go_wp2_with fail);go_roundw
    case rel=>exact⟨k+1,A1,s,oM,by go_num,by rw[b8.out,U.out],by rw[b8.out,U.out];exact D,b7⟩
    case measure=>exact sZ
   ·rw[decide_eq_false b6]at c1;have f6:=dH b6;clear b6;(go_wp2_with fail);refine c1.mono ?_;rintro e w1 ⟨rfl,a7⟩;have D:=L.below a7;have b7:=hb.trans (a7.mono hb.size);have d3:z7 w1 q (o+k*33) 33=some (zH x):=(z9 (a7.block q (zD hr)) _ _).trans hr;have d6:y7 w1 A1 O.length O:=D.slr;clear c1 hr L hb a7 e9;(go_wp2_with fail);go_loopw [5] (λj wj=>∃m:Nat,m<=O.length/\j=.int .i64 m/\Hid (∀i (hi:i<O.length),i<m->yG O[i] x<0)/\Below w1.heap.size w1 wj) (λj _=>O.length-(intOf j).toNat)
    case atStart=>exact⟨0,zL,rfl,(show ∀i (hi:i<O.length),i<0->_ from λi _ h=>absurd h oM),Below.refl _ _⟩
    case round =>
     obtain⟨m,b5,rfl,a5,a6⟩:=hrel;have c6:z7 wr q (o+k*33) 33=some (zH x):=(z9 (a6.block q (zD d3)) _ _).trans d3;by_cases V:m<O.length
     ·obtain⟨g,og,rfl,c8,_,_⟩:=y7.get (SlR.below d6 a6) V oM;obtain rfl:og=0:=by
       rcases D.addr with e | ⟨g',e⟩
       ·cases e
       ·injection e with e;injection e
      rw[Nat.zero_add]at c8;have a4:O[m]∈O:=List.getElem_mem _;obtain⟨y,hy⟩:=eX (O[m]'V)
      rw[hy]at c8 a4;have Hy:=dH hy;have e8:=dH a4;clear hy a4;have c2:=rless y x wr.drew;by_cases b9:yG y x<0
      ·rw[decide_eq_true b9]at c2;have f5:=dH b9;clear b9;go_upto_region 7 with fail
       refine lX wr ?_;intro c9 hS;have b1:=zU c6;have b2:=zU c8;refine lZ ?_;refine lC (c2) ?_;clear hS;intro w' hS;refine lZ ?_;refine zC ?_;intro hS;have d4:Below wr.heap.size wr w':=hS;have X:=yE a6 d4;clear b1 b2 c9 hS c2;(go_wp2_with fail);go_roundw
       case rel =>
        refine⟨m+1,oM,by go_num,(show ∀i (hi:i<O.length),i<m+1->yG O[i] x<0 from λi hi f0=>?_),X⟩;by_cases e:i=m
        ·subst e;rw[Hy.out];exact f5.out
        ·exact a5.out i hi oM
       case measure=>exact sZ
      ·rw[decide_eq_false b9]at c2;have Y:=vE (c:=yG) O x m b5 a5.out (λf1=>by
        rw[Hy.out];have h1:yG y x≠0:=λe=>f6.out (by rw[<-(jI.zero _ _).1 e];exact e8.out);omega)
       have U:=dH Y;clear b9 Y;go_upto_region 7 with fail
       refine lX wr ?_;intro c9 hS;have b1:=zU c6;have b2:=zU c8;refine lZ ?_;refine lC (c2) ?_;clear hS;intro w' hS;refine lZ ?_;refine zC ?_;intro hS;have d4:Below wr.heap.size wr w':=hS;have X:=yE a6 d4;have Z:=b7.trans (X.mono b7.size);have d:=D.below X;have b4:z7 w' q (o+k*33) 33=some (zH x):=(z9 (X.block q (zD d3)) _ _).trans d3;clear b1 b2 c9 hS c2 d4 X c8 c6 a6;obtain⟨W,rfl⟩:∃W,W=w':=⟨w',rfl⟩
       obtain⟨A1,f2⟩:=eX (some ⟨g,0,none⟩:Option Addr)
       rw[f2]at d |-;clear f2;have G:=Own.empty W W.heap.size 218 33 lR;have a9:Below W.heap.size W (W.alloc (.cells #[] 218)):=bA;have H:=d.cap_le;have d7:∀w0:World,(slS 58 (.slice A1 O.length s) none (some (.int .i64 m)) none).run Tryz.prog w0=.ok (.slice A1 m s) w0:=λw0=>dY q5 w0 A1 O.length s m oM;obtain⟨Ah,ch,e3,e1,e4⟩:=d.hi (P:=Tryz.prog) q5 (m:=m) b5;have M:SlR (W.alloc (.cells #[] 218)) A1 m 33 ((O.map zH).take m):=(d.below a9).slr.take_ b5;have e5:A1=none->s=0:=λe=>(H.2 e).2;have N:∀r∈(O.map zH).take m,∀u∈r.toList,u.oneCell'=true:=λr hr=>(by obtain⟨y',_,rfl⟩:=List.mem_map.1 (List.mem_of_mem_take hr);exact j5 _);have J:∀r∈(O.map zH).drop m,∀u∈r.toList,u.oneCell'=true:=λr hr=>(by obtain⟨y',_,rfl⟩:=List.mem_map.1 (List.mem_of_mem_drop hr);exact j5 _);go_upto_region 10 with(at_builtin;refine yD q5 rfl G rfl M e5 N oM oM sI ?_;intro A2 e7 w2 f e0 c4)
       simp only[Nat.zero_add,List.nil_append]at f;have a1:Below W.heap.size W w2:=a9.trans (e0.below sI (by simp[blk]));have a3:z7 w2 q (o+k*33) 33=some (zH x):=(z9 (a1.block q (zD b4)) _ _).trans b4;have b0:Below w2.heap.size w2 (w2.alloc (.cells (zH x) 218)):=bA;have F:=f.below b0;have E:z7 (w2.alloc (.cells (zH x) 218)) w2.heap.size 0 33=some (zH x):=by simp[go_sem]
       have a2:=a1.size;go_upto_region 11 with(at_builtin;refine yM q5 rfl F rfl E (j5 _) oM oM sO ?_;intro A4 e6 w4 B d9 c3)
       have I:Below W.heap.size W w4:=(a1.trans (b0.mono a2)).trans (d9.below sO (λx hx=>(f.at_base hx).1));have c5:=e1 w4 ((d.below I).slr);have d5:=I.size;clear F E b0 G a9 M a3 d7 H;go_upto_region 12 with(at_builtin;refine yD q5 rfl B rfl c5 e4 J oM oM oM ?_;intro A5 b3 w5 t d8 c0)
       have a0:Below W.heap.size W w5:=I.trans (d8.below oM (λx hx=>(B.at_base hx).1));have a8:=Z.trans (a0.mono Z.size);have d0:(O.map zH).take m ++ [zH x]++(O.map zH).drop m=(yB yG (R.take (k+1))).map zH:=by rw[b8.out,U.out];simp[List.map_take,List.map_drop]
       have d1:(yB yG (R.take (k+1))).length=m+1+(O.length-m):=by rw[b8.out,U.out];simp;omega
       rw[d0]at t;have T:=t.mono Z.size;have HL:=dH d1;clear t B f d0 d1 c5 e3;(go_wp2_with fail);go_roundw
       case rel=>exact⟨k+1,A5,b3,oM,by go_num,(by rw[HL.out]),(show Own _ _ _ _ _ _ _ _ by rw[HL.out];exact T),a8⟩
       case measure=>exact sZ
     ·have hd:decide (m<O.length)=false:=by simpa using V
      have Y:=vE (c:=yG) O x m b5 a5.out (λf1=>absurd f1 V);have U:=dH Y;clear Y;go_upto_region 7 with fail
      refine lX wr ?_;intro c9 hS;refine lZ ?_;refine lH ?_;intro K hK;refine hK _ _ ?_;clear hK K;refine lZ ?_;refine zC ?_;intro hS;have X:=a6.drew;have Z:=b7.trans (X.mono b7.size);have d:=D.below X;have b4:z7 wr.drew q (o+k*33) 33=some (zH x):=c6;clear c9 hS X c6 a6 V hd;obtain⟨W,hW⟩:=eX wr.drew
      rw[hW]at d Z b4 |-;clear hW;have G:=Own.empty W W.heap.size 218 33 lR;have a9:Below W.heap.size W (W.alloc (.cells #[] 218)):=bA;have H:=d.cap_le;have d7:∀w0:World,(slS 58 (.slice A1 O.length s) none (some (.int .i64 m)) none).run Tryz.prog w0=.ok (.slice A1 m s) w0:=λw0=>dY q5 w0 A1 O.length s m oM;obtain⟨Ah,ch,e3,e1,e4⟩:=d.hi (P:=Tryz.prog) q5 (m:=m) b5;have M:SlR (W.alloc (.cells #[] 218)) A1 m 33 ((O.map zH).take m):=(d.below a9).slr.take_ b5;have e5:A1=none->s=0:=λe=>(H.2 e).2;have N:∀r∈(O.map zH).take m,∀u∈r.toList,u.oneCell'=true:=λr hr=>(by obtain⟨y',_,rfl⟩:=List.mem_map.1 (List.mem_of_mem_take hr);exact j5 _);have J:∀r∈(O.map zH).drop m,∀u∈r.toList,u.oneCell'=true:=λr hr=>(by obtain⟨y',_,rfl⟩:=List.mem_map.1 (List.mem_of_mem_drop hr);exact j5 _);go_upto_region 10 with(at_builtin;refine yD q5 rfl G rfl M e5 N oM oM sI ?_;intro A2 e7 w2 f e0 c4)
      simp only[Nat.zero_add,List.nil_append]at f;have a1:Below W.heap.size W w2:=a9.trans (e0.below sI (by simp[blk]));have a3:z7 w2 q (o+k*33) 33=some (zH x):=(z9 (a1.block q (zD b4)) _ _).trans b4;have b0:Below w2.heap.size w2 (w2.alloc (.cells (zH x) 218)):=bA;have F:=f.below b0;have E:z7 (w2.alloc (.cells (zH x) 218)) w2.heap.size 0 33=some (zH x):=by simp[go_sem]
      have a2:=a1.size;go_upto_region 11 with(at_builtin;refine yM q5 rfl F rfl E (j5 _) oM oM sO ?_;intro A4 e6 w4 B d9 c3)
      have I:Below W.heap.size W w4:=(a1.trans (b0.mono a2)).trans (d9.below sO (λx hx=>(f.at_base hx).1));have c5:=e1 w4 ((d.below I).slr);have d5:=I.size;clear F E b0 G a9 M a3 d7 H;go_upto_region 12 with(at_builtin;refine yD q5 rfl B rfl c5 e4 J oM oM oM ?_;intro A5 b3 w5 t d8 c0)
      have a0:Below W.heap.size W w5:=I.trans (d8.below oM (λx hx=>(B.at_base hx).1));have a8:=Z.trans (a0.mono Z.size);have d0:(O.map zH).take m ++ [zH x]++(O.map zH).drop m=(yB yG (R.take (k+1))).map zH:=by rw[b8.out,U.out];simp[List.map_take,List.map_drop]
      have d1:(yB yG (R.take (k+1))).length=m+1+(O.length-m):=by rw[b8.out,U.out];simp;omega
      rw[d0]at t;have T:=t.mono Z.size;have HL:=dH d1;clear t B f d0 d1 c5 e3;(go_wp2_with fail);go_roundw
      case rel=>exact⟨k+1,A5,b3,oM,by go_num,(by rw[HL.out]),(show Own _ _ _ _ _ _ _ _ by rw[HL.out];exact T),a8⟩
      case measure=>exact sZ
  ·(go_wp2_with fail);go_ret;have e:k=n:=oM;have e2:R.take k=R:=List.take_of_length_le oM;refine⟨A1,s,?_,(by rw[e2]at L;exact L),hb⟩;rw[e2];rfl
section
open Go.RowKit
def RefAt(w:World)(g:Nat)(X G:List yH):Prop :=
 ∃A n cap A' n' cap',w.heap[g]?=some (.cells #[.slice A n cap,.slice A' n' cap'] 60 (0,0))/\y7 w A n X/\y7 w A' n' G/\(A=none->cap=0)/\(A'=none->cap'=0)/\(∀x∈blk A,g<x)/\(∀x∈blk A',g<x)
section
variable {w w':World} {g:Nat} {X G:List yH}
end
def RefIn(w:World)(g:Nat)(X G:List yH):Prop :=
 ∃A n cap A' n' cap',w.heap[g]?=some (.cells #[.slice A n cap,.slice A' n' cap'] 60 (0,0))/\y7 w A n X/\y7 w A' n' G
theorem YP(X:List yH):∀r∈X.map zH,∀u∈r.toList,u.oneCell'=true:=by
 intro r hr;obtain⟨x,_,rfl⟩:=List.mem_map.1 hr;exact j5 x
end
def wJ(X G:List yH):List yH:=(yB yG X).filter λx=>decide (x∉G)
theorem jk(X G:List yH):(wJ X G).length<=X.length:=Nat.le_trans (List.length_filter_le _ _) (xF X)
theorem VN{α:Type}(p:α->Bool)(L:List α)(k:Nat)(hk:k<L.length):(L.take (k+1)).filter p=if p L[k]then(L.take k).filter p ++ [L[k]]else(L.take k).filter p:=by
 rw[List.take_add_one,List.getElem?_eq_getElem hk,Option.toList_some,List.filter_append];split
 ·rename_i h;rw[List.filter_cons,if_pos h];rfl
 ·rename_i h;rw[List.filter_cons,if_neg h];simp
@[go_sem] theorem bsPair0_run(w:World):(bsS 23 0 #[]).run Tryz.prog w=.ok (.slice (some ⟨w.heap.size,0,none⟩) 0 0) (w.alloc (.cells #[] 98)):=dZ yP w
def fI(s:ByteArray):Array Value:=zS (nY s)
theorem n8(s:ByteArray):∀u∈(fI s).toList,u.oneCell'=true:=qD _
theorem BQ(L:List yH)(k:Nat)(hk:k<L.length):vG (L.take (k+1))=xS xY (vG (L.take k)) (L[k]).val:=by
 unfold vG;rw[List.take_add_one,List.getElem?_eq_getElem hk,Option.toList_some,List.map_append,List.map_cons,List.map_nil,bQ]
structure RV where
 tal:Int
 adds:List yH
 gone:List yH
 last:List Row
 mL:List xW
 mO:List zE
 sL:List zO
 sG:List zE
def rv0:RV:=⟨0,[],[],[],[],[],[],[]⟩
def XZ(m:yW):Row:=⟨(oOf m).key,(oOf m).val,(oOf m).n,m.id⟩
def iJ(m:yW)(x:RV):RV :=
 if(oOf m).k=1 then { x with tal:=wrap64 (x.tal+(oOf m).n) }
 else if(oOf m).k=2 then { x with adds:=x.adds ++ [⟨m.id,(oOf m).val⟩] }
 else if(oOf m).k=3 then { x with gone:=x.gone++(oOf m).refs.map λt=>⟨t,(oOf m).val⟩ }
 else if(oOf m).k=4 then { x with last:=x.last ++ [XZ m] }
 else if(oOf m).k=5 then { x with mL:=x.mL ++ [iD m],mO:=yB zI (x.mO++(oOf m).refs) }
 else if(oOf m).k=6 then { x with sL:=mJ x.sL (mF m) }
 else { x with sG:=xS zI x.sG (oOf m).ref }
def fW(t:ByteArray)(m:yW)(x:RV):RV:=if wT t m then iJ m x else x
def QS(x:RV):VSt->Prop
 | .t n=>x.tal=n
 | .b L G=>Ris yG L/\Ris yG G/\(∀z,z∈G↔z∈x.gone)/\∀z,z∈L↔z∈x.adds/\z∉x.gone
 | .l L=>L=(q9 x.last).map vX/\r4 L/\∀r∈x.last,qC r.key (vL r)=0
 | .m X O=>Ris xN X/\Ris zI O/\O=x.mO/\∀z,z∈X↔z∈x.mL/\z.id∉O
 | .s N G=>Ris zI G/\G=x.sG/\jZ x.sL/\∀z,z∈N↔z∈x.sL
theorem vq{k:Nat}(h1:1<=k)(h7:k<=7):kL k=if k=1 then 1 else if k<=3 then 2 else if k=4 then 3 else if k=5 then 4 else 5:=by
 have:k=1\/k=2\/k=3\/k=4\/k=5\/k=6\/k=7:=oM;rcases this with rfl | rfl | rfl | rfl | rfl | rfl | rfl <;> rfl
theorem takeO_n4(l:List UInt8)(e:Int):0<=(yX 4 l e).o.n:=by
 show(0:Int)<=((yK 4 _ _:Nat):Int);omega
theorem takeO_k{k:Nat}(l:List UInt8)(e:Int)(h1:1<=k)(h7:k<=7):(yX k l e).o.k=k:=by
 have:k=1\/k=2\/k=3\/k=4\/k=5\/k=6\/k=7:=oM;rcases this with rfl | rfl | rfl | rfl | rfl | rfl | rfl <;> rfl
theorem opO_n4(l:List UInt8)(h:opE l=0)(hk:(opO l).k=4):0<=(opO l).n:=by
 have hr:1<=yK 1 l 0/\yK 1 l 0<=7:=by
  unfold opE at h;split at h
  ·contradiction
  split at h
  ·cases h
  ·omega
 have e:(opO l).k=yK 1 l 0:=takeO_k _ _ hr.1 hr.2;unfold opO;rw[e]at hk;rw[hk];exact takeO_n4 _ _
theorem X8{m:yW}(h:opE m.body.data.toList=0)(hk:(oOf m).k=4):qC (oOf m).key (cK m)=0:=by
 have ho:=lM _ h;have hn:0<=(oOf m).n:=opO_n4 _ h hk;have h1:(oOf m).key.size<=16:=ho.2.2.2.1;have h2:(oOf m).val.size<=16:=ho.2.2.2.2.1;have h3:(oOf m).n<2147483648:=ho.2.2.2.2.2.2.2;unfold qC cK;dsimp only;rw[if_neg oM,if_neg oM]
theorem rel_fold{x:RV}{m:yW}{s:VSt}(h:QS x s)(he:opE m.body.data.toList=0)(hk:kL (oOf m).k=s.kind):QS (iJ m x) (doS m (oOf m) s):=by
 have ho:wF (oOf m)/\1<=(oOf m).k/\(oOf m).k<=7/\(oOf m).key.size<=16/\(oOf m).val.size<=16/\(oOf m).refs.length<=8/\vO (oOf m).refs=true/\(oOf m).n<2147483648:=lM _ he;rw[vq ho.2.1 ho.2.2.1]at hk;have h7:=ho.2.2.1;have h1:=ho.2.1;cases s with
 | t n =>
  have d:(oOf m).k=1:=by
   have:VSt.kind (.t n)=1:=rfl;rw[this]at hk
   repeat' split at hk
   all_goals first | assumption | (exact absurd hk (by decide))
  unfold iJ;rw[if_pos d];show wrap64 (x.tal+(oOf m).n)=wrap64 (n+(oOf m).n);have e:x.tal=n:=h;rw[e]
 | b L G =>
  obtain⟨a1,a2,a3,a4⟩:=h;have d:(oOf m).k=2\/(oOf m).k=3:=by
   have:VSt.kind (.b L G)=2:=rfl;rw[this]at hk
   repeat' split at hk
   all_goals first | omega | (exact absurd hk (by decide))
  rcases d with d | d
  ·rw[aW m _ L G d];unfold iJ;rw[if_neg oM,if_pos d];refine⟨ris_addB a1,a2,a3,λz=>?_⟩;rw[mem_addB (x:=⟨m.id,(oOf m).val⟩) ho.2.2.2.2.1 a1 (λy hy hg=>((a4 y).1 hy).2 ((a3 y).1 hg)),a4,a3,List.mem_append,List.mem_singleton];constructor
   ·rintro⟨⟨h5,_⟩ | h5,h6⟩
    ·exact⟨.inl h5,h6⟩
    ·exact⟨.inr h5,h6⟩
   ·rintro⟨h5 | h5,h6⟩
    ·exact⟨.inl ⟨h5,h6⟩,h6⟩
    ·exact⟨.inr h5,h6⟩
  ·rw[aV m _ L G oM];unfold iJ;rw[if_neg oM,if_neg oM,if_pos d];have f:∀z:yH,z∈(oOf m).refs.map (λt=>(⟨t,(oOf m).val⟩:yH))↔z.val=(oOf m).val/\z.tag∈(oOf m).refs:=λz=>by
    rw[List.mem_map];constructor
    ·rintro⟨t,ht,rfl⟩;exact⟨rfl,ht⟩
    ·rintro⟨e1,e2⟩;exact⟨z.tag,e2,by cases z;simp_all⟩
   refine⟨JF a1,JG a2,λz=>?_,λz=>?_⟩
   ·rw[V0,a3,List.mem_append,f]
   ·rw[JZ,a4,List.mem_append,f];constructor
    ·rintro⟨⟨h5,h6⟩,h8⟩;exact⟨h5,λh=>h.elim h6 h8⟩
    ·rintro⟨h5,h6⟩;exact⟨⟨h5,λh=>h6 (.inl h)⟩,λh=>h6 (.inr h)⟩
 | l L =>
  obtain⟨a1,a2,a3⟩:=h;have d:(oOf m).k=4:=by
   have:VSt.kind (.l L)=3:=rfl;rw[this]at hk
   repeat' split at hk
   all_goals first | assumption | (exact absurd hk (by decide))
  have hc:=X8 he d;unfold iJ;rw[if_neg oM,if_neg oM,if_neg oM,if_pos d];show sD L (oOf m).key (cK m)=(q9 (x.last ++ [XZ m])).map vX/\_;refine⟨?_,zg a2 _ _,λr hr=>?_⟩
  ·unfold sD;rw[if_pos hc,rN,VA,a1];rfl
  ·rcases List.mem_append.1 hr with h5 | h5
   ·exact a3 r h5
   ·have e:r=XZ m:=by simpa using h5
    rw[e];exact hc
 | m X O =>
  obtain⟨a1,a2,a3,a4⟩:=h;have d:(oOf m).k=5:=by
   have:VSt.kind (.m X O)=4:=rfl;rw[this]at hk
   repeat' split at hk
   all_goals first | assumption | (exact absurd hk (by decide))
  unfold iJ;rw[if_neg oM,if_neg oM,if_neg oM,if_neg oM,if_pos d];have hO:lJ O (oOf m).refs=yB zI (x.mO++(oOf m).refs):=bL q6 (iN a2) (xJ q6 _) λz=>(by rw[V1 a2,qE q6,List.mem_append,a3]);refine⟨(vA dD a1).filter _,iN a2,hO,λz=>?_⟩;show z∈wK (xS xN X (iD m)) (lJ O (oOf m).refs)↔z∈x.mL ++ [iD m]/\_;unfold wK;rw[List.mem_filter,qN dD,a4,List.mem_append,List.mem_singleton];simp only[decide_eq_true_eq];constructor
  ·rintro⟨h5 | ⟨h5,_⟩,h6⟩
   ·exact⟨.inr h5,h6⟩
   ·exact⟨.inl h5,h6⟩
  ·rintro⟨h5 | h5,h6⟩
   ·exact⟨.inr ⟨h5,λh=>h6 ((V1 a2).2 (.inl h))⟩,h6⟩
   ·exact⟨.inl h5,h6⟩
 | s N G =>
  obtain⟨a1,a2,a3,a4⟩:=h;have d:(oOf m).k=6\/(oOf m).k=7:=by
   have:VSt.kind (.s N G)=5:=rfl;rw[this]at hk
   repeat' split at hk
   all_goals first | omega | (exact absurd hk (by decide))
  unfold iJ;rw[if_neg oM,if_neg oM,if_neg oM,if_neg oM,if_neg oM];rcases d with d | d
  ·rw[aU m _ N G d,if_pos d];refine⟨a1,a2,a3.ins _,λz=>?_⟩;show z∈s6 N (mF m)↔z∈mJ x.sL (mF m);have g:(mF m).id∈N.map zO.id↔(mF m).id∈x.sL.map zO.id:=by
    simp only[List.mem_map,a4]
   unfold s6 mJ;by_cases hE:qX (mF m)=0
   ·rw[if_pos hE,if_pos hE];by_cases hn:(mF m).id∈N.map zO.id
    ·rw[if_pos hn,if_pos (g.1 hn)];exact a4 z
    ·rw[if_neg hn,if_neg (λh=>hn (g.2 h)),List.mem_append,List.mem_singleton,qN eH,a4];exact Or.comm
   ·rw[if_neg hE,if_neg hE];exact a4 z
  ·rw[aT m _ N G oM,if_neg oM];exact⟨vA q6 a1,by rw[a2],a3,a4⟩
theorem B5{x:RV}{t:ByteArray}{m:yW}{s:VSt}(h:QS x s)(hk:yC t=s.kind):QS (fW t m x) (wP t m s):=by
 unfold fW wP;by_cases hf:wT t m
 ·rw[if_pos hf,if_pos hf];exact rel_fold h hf.1 (hf.2.trans hk)
 ·rw[if_neg hf,if_neg hf];exact h
structure dF where
 id:zE
 h:Int
 ref:zE
 val:ByteArray
def y8(x:dF):Array Value:=idC x.id ++ #[.int .i64 x.h]++idC x.ref ++ #[.string x.val]
@[simp] theorem wY(x:dF):(y8 x).size=66:=by simp[y8]
@[go_sem] theorem sJ(x:dF):(y8 x).extract 0 32=idC x.id:=by
 have h:y8 x=((#[]:Array Value))++idC x.id++(#[.int .i64 x.h]++idC x.ref ++ #[.string x.val]):=by first | (simp[y8,Array.append_assoc];done) | (apply Array.ext';simp[y8];done)
 rw[h];exact bP _ _ _ _ _ sI sI
@[go_sem] theorem pH(x:dF):(y8 x)[32]?=some (.int .i64 x.h):=by first | (simp[y8,Array.getElem?_append];done) | (rw[show y8 x=(idC x.id) ++ #[.int .i64 x.h]++(idC x.ref ++ #[.string x.val])from by apply Array.ext';simp[y8]];exact qO _ _ _ _ sI)
@[go_sem] theorem rNodeC_gg32(x:dF)(h:32<(y8 x).size):(y8 x)[32]'h=.int .i64 x.h:=Option.some.inj ((Array.getElem?_eq_getElem h).symm.trans (pH x))
@[go_sem] theorem B7(x:dF):(y8 x).extract 33 65=idC x.ref:=by
 have h:y8 x=(idC x.id ++ #[.int .i64 x.h])++idC x.ref++(#[.string x.val]):=by first | (simp[y8,Array.append_assoc];done) | (apply Array.ext';simp[y8];done)
 rw[h];exact bP _ _ _ _ _ sI sI
@[go_sem] theorem iM(x:dF):(y8 x)[65]?=some (.string x.val):=by first | (simp[y8,Array.getElem?_append];done) | (rw[show y8 x=(idC x.id ++ #[.int .i64 x.h]++idC x.ref) ++ #[.string x.val]++((#[]:Array Value))from by apply Array.ext';simp[y8]];exact qO _ _ _ _ sI)
@[go_sem] theorem rNodeC_gg65(x:dF)(h:65<(y8 x).size):(y8 x)[65]'h=.string x.val:=Option.some.inj ((Array.getElem?_eq_getElem h).symm.trans (iM x))
@[go_sem] theorem rNodeC_all(x:dF):(y8 x).extract 0 66=y8 x:=by have:=Array.extract_size (xs:=y8 x);rwa [wY]at this
theorem iK(x:dF):∀u∈(y8 x).toList,u.oneCell'=true:=by
 intro u hu;simp only[y8,Array.toList_append,List.mem_append]at hu;rcases hu with((hu | hu) | hu) | hu
 ·exact xG _ u hu
 ·simp at hu;subst hu;rfl
 ·exact xG _ u hu
 ·simp at hu;subst hu;rfl
def tC:dF:=⟨id0,0,id0,⟨#[]⟩⟩
theorem vw{x y:dF}(h:x.id=y.id/\x.h=y.h/\x.ref=y.ref/\x.val=y.val):x=y:=by cases x;cases y;simp_all
instance:DecidableEq dF:=λx y=>if h:x.id=y.id/\x.h=y.h/\x.ref=y.ref/\x.val=y.val then isTrue (vw h)else isFalse (λe=>h (by subst e;simp))
theorem X2:(Tryz.prog.info? 213).map (·.size)=some 66:=kR
@[go_sem ↓] theorem nL(w:World):(zeroValue 213).run Tryz.prog w=.ok (.agg (y8 tC)) w:=by
 have h:(Tryz.prog.info? 213).bind (·.zero)=some (.agg (y8 tC)):=kR;cases hi:Tryz.prog.info? 213 with
 | none=>rw[hi]at h;cases h
 | some i =>
  rw[hi]at h;have hz:i.zero=some (.agg (y8 tC)):=h;simp[zeroValue,typeInfo,hi,hz]
@[go_sem ↓] theorem loadRNode_rw(a:Addr):loadVar 213 a=ldS 213 a:=rfl
@[go_sem ↓] theorem storeRNode_rw(a:Addr)(v:Value):storeVar 213 a v=stS 213 a v:=rfl
@[go_sem] theorem loadRNode_run(w:World)(g o:Nat):(ldS 213 ⟨g,o,none⟩).run Tryz.prog w=match z7 w g o 66 with | some cs=>.ok (.agg cs) w | none=>(loadVar 213 ⟨g,o,none⟩).run Tryz.prog w :=
 vZ Tryz.underlying213 rfl X2 w g o
@[go_sem] theorem storeRNode_run(w:World)(g:Nat)(hg:g=w.heap.size)(z:Array Value)(hz:z.size=66)(x:dF)(e:TypeId):(stS 213 ⟨g,0,none⟩ (.agg (y8 x))).run Tryz.prog (w.alloc (.cells z e))=.ok () (w.alloc (.cells (y8 x) e)) :=
 hg ▸ qY X2 w z (y8 x) hz (wY x) (iK x)
theorem e6:Tryz.prog.underlying 213=some (.struct (Tryz.prog.fieldsOf 213)):=kR
theorem cN(w:World):((Tryz.prog.fieldsOf 213).mapM fun (f:Field)=>do pure (f.offset,<-sizeOf f.type)).run Tryz.prog w=.ok #[(0,32),(32,1),(33,32),(65,1)] w:=kR
@[go_sem ↓] theorem buildRNode_rw(parts:Array (Nat×Value)):Instr.build 213 parts=bdS 213 parts:=rfl
@[go_sem] theorem buildRNode(a0:zE)(a1:Int)(a2:zE)(a3:ByteArray)(w:World):(bdS 213 #[(0,.agg (idC a0)),(1,.int .i64 a1),(2,.agg (idC a2)),(3,.string a3)]).run Tryz.prog w=.ok (.agg (y8 ⟨a0,a1,a2,a3⟩)) w:=by
 refine qP w e6 _ (nL w) _ (cN w) [(0,.agg (idC a0)),(1,.int .i64 a1),(2,.agg (idC a2)),(3,.string a3)] _ ?_;rw[show y8 tC=(#[]:Array Value)++idC id0++(#[.int .i64 0]++(idC id0++(#[.string ⟨#[]⟩])))from by first | (simp[y8,tC,Array.append_assoc];done) | (apply Array.ext';simp[y8,tC])];rw[yJ (off:=0) (size:=32) rfl sI sI (by simp[Value.cells])];rw[show(#[]:Array Value)++(Value.agg (idC a0)).cells++(#[.int .i64 0]++(idC id0++(#[.string ⟨#[]⟩])))=(idC a0) ++ #[.int .i64 0]++(idC id0++(#[.string ⟨#[]⟩]))from by first | (simp[Value.cells,Array.append_assoc];done) | (apply Array.ext';simp[Value.cells];done) | (apply Array.ext';simp only[Array.toList_append];simp[Value.cells])];rw[yJ (off:=32) (size:=1) rfl sI sI (by simp[Value.cells])];rw[show(idC a0)++(Value.int .i64 a1).cells++(idC id0++(#[.string ⟨#[]⟩]))=(idC a0++(#[.int .i64 a1]))++idC id0++(#[.string ⟨#[]⟩])from by first | (simp[Value.cells,Array.append_assoc];done) | (apply Array.ext';simp[Value.cells];done) | (apply Array.ext';simp only[Array.toList_append];simp[Value.cells])];rw[yJ (off:=33) (size:=32) rfl sI sI (by simp[Value.cells])];rw[show(idC a0++(#[.int .i64 a1]))++(Value.agg (idC a2)).cells++(#[.string ⟨#[]⟩])=(idC a0++(#[.int .i64 a1]++(idC a2))) ++ #[.string ⟨#[]⟩]++(#[]:Array Value)from by first | (simp[Value.cells,Array.append_assoc];done) | (apply Array.ext';simp[Value.cells];done) | (apply Array.ext';simp only[Array.toList_append];simp[Value.cells])];rw[yJ (off:=65) (size:=1) rfl sI sI (by simp[Value.cells])];first | (simp[Instr.fill,y8,Array.append_assoc,Value.cells];done) | (simp only[Instr.fill,y8];congr 1;apply Array.ext';simp[Value.cells];done) | (simp only[Instr.fill,y8];congr 1;done) | (simp only[Instr.fill,y8];done)
def fQ(n:zO):dF:=⟨n.id,n.h,n.ref,n.val⟩
abbrev yL(n:zO):Array Value:=y8 (fQ n)
instance:Inhabited zO:=⟨⟨id0,0,id0,⟨#[]⟩⟩⟩
theorem qR:xH Tryz.prog 65 213 66 88 :=
 .of (z:=.agg (y8 tC)) Tryz.underlying65 kR kR kR (wY _) oM
@[go_sem ↓] theorem bsRN_rw(n:Nat)(parts:Array (Nat×Value)):Instr.buildSlice 65 n parts=bsS 65 n parts:=rfl
@[go_sem] theorem bsRN_run(w:World)(x:dF):(bsS 65 1 #[(0,.agg (y8 x))]).run Tryz.prog w=.ok (.slice (some ⟨w.heap.size,0,none⟩) 1 1) (w.alloc (.cells (y8 x) 213)) :=
 bF qR oM w (y8 x) (wY x)
@[go_sem] theorem bsRN0_run(w:World):(bsS 65 0 #[]).run Tryz.prog w=.ok (.slice (some ⟨w.heap.size,0,none⟩) 0 0) (w.alloc (.cells #[] 213)):=dZ qR w
@[go_sem ↓] theorem slRN_rw(x:Value)(lo hi mx:Option Value):Instr.sliceAt 65 x lo hi mx=slS 65 x lo hi mx:=rfl
theorem jD(n:zO):∀u∈(yL n).toList,u.oneCell'=true:=iK _
abbrev fN(w:World)(A:Option Addr)(n:Nat)(R:List zO):Prop:=SlR w A n 66 (R.map yL)
theorem fN.len{w:World}{A:Option Addr}{n:Nat}{R:List zO}(h:fN w A n R):R.length=n:=by simpa using h.1
theorem bT{w:World}{g o:Nat}{x:zO}(hr:z7 w g o 66=some (yL x)) :
  z7 w g o 32=some (idC x.id)/\w.cell? ⟨g,o+32,none⟩=some (.int .i64 x.h)/\z7 w g (o+33) 32=some (idC x.ref)/\w.cell? ⟨g,o+65,none⟩=some (.string x.val):=by
 refine⟨?_,?_,?_,?_⟩
 ·have:=zX hr (j:=0) (m:=32) oM
  rwa [sJ]at this
 ·have:=z8 hr (j:=32) oM
  rwa [pH]at this
 ·have:=zX hr (j:=33) (m:=32) oM
  rwa [B7]at this
 ·have:=z8 hr (j:=65) oM
  rwa [iM]at this
theorem fN.get{w:World}{A:Option Addr}{n:Nat}{R:List zO}(h:fN w A n R){i:Nat}(hi:i<n)(hR:i<R.length) :
  ∃g o,A=some ⟨g,o,none⟩/\z7 w g (o+i*66) 66=some (yL R[i]):=by
 obtain⟨g,o,e,hr⟩:=h.at_ hi;rw[List.getElem_map]at hr;exact⟨g,o,e,hr⟩
theorem onesN(X:List zO):∀r∈X.map yL,∀u∈r.toList,u.oneCell'=true:=by
 intro r hr;obtain⟨x,_,rfl⟩:=List.mem_map.1 hr;exact jD x
theorem zi(n:zO)(w:World)(hv:n.val.size<=9223372036854775807) :
  Calls Tryz.prog 217 #[.agg (yL n)] w λe w'=>e=.returned (.int .i64 (qX n))/\Below w.heap.size w w':=by
 obtain⟨d,h,ref,val⟩:=n;unfold yL fQ;have hB:Below w.heap.size w (w.alloc (.cells (y8 ⟨d,h,ref,val⟩) 213)):=bA;have hE:qX ⟨d,h,ref,val⟩=if 16<val.size then 3 else if h<1\/1073741824<h\/d=id0 then 5 else 0:=rfl;have HE:=dH hE;clear hE;dsimp only at *;obtain⟨b,hb⟩:=eX (d==id0)
 have Hb:=dH hb;cases b
 all_goals
  clear hb;go_enter Tryz.func217,Tryz.ntmps217
  go_wp2_with fail
  all_goals
   go_ret;exact⟨yA (by rw[HE.out];have f:=Hb.out;(repeat' split) <;> first | rfl | omega | (simp_all;done) | (simp_all;omega)),hB⟩
theorem rahead(ah:Int)(a:zE)(bh:Int)(b:zE)(w:World) :
  Calls Tryz.prog 53 #[.int .i64 ah,.agg (idC a),.int .i64 bh,.agg (idC b)] w λe w'=>e=.returned (.bool (mT ah a bh b))/\Below w.heap.size w w':=by
 have hB:Below w.heap.size w ((w.alloc (.cells (idC a) 39)).alloc (.cells (idC b) 39)):=(bA).alloc sI _;have hA:mT ah a bh b=if ah=bh then decide (zI a b<0)else decide (ah<bh):=rfl;have HA:=dH hA;clear hA;by_cases h:ah=bh
 ·subst h;have d:decide (ah<ah)=false:=sI;go_enter Tryz.func53,Tryz.ntmps53
  (go_wp2_with fail);refine(wB a b _).mono ?_;rintro e w1 ⟨rfl,f⟩;have g:=yE hB f;clear hB f;(go_wp2_with fail);go_ret;exact⟨yF (by rw[HA.out];simp),g⟩
 ·have j:(ah==bh)=false:=by simpa using h
  have Hh:=dH h;clear h;by_cases d:ah<bh
  ·have hd:decide (ah<bh)=true:=decide_eq_true d;go_enter Tryz.func53,Tryz.ntmps53
   (go_wp2_with fail);go_ret;exact⟨yF (by rw[HA.out,if_neg Hh.out];simpa using d),hB⟩
  ·have hd:decide (ah<bh)=false:=decide_eq_false d;go_enter Tryz.func53,Tryz.ntmps53
   (go_wp2_with fail);go_ret;exact⟨yF (by rw[HA.out,if_neg Hh.out];simpa using d),hB⟩
theorem xU{α β:Type}(f:α->List β)(k:Nat):∀l:List α,(∀a∈l,(f a).length<=k)->(l.flatMap f).length<=l.length*k
 | [],_=>by simp
 | a :: l,h=>by
  have h1:=h a sI;have h2:=xU f k l (λb hb=>h b (by simp[hb]));simp only[List.flatMap_cons,List.length_append,List.length_cons,Nat.add_mul];omega
end Go.Proofs.YtgfpjjppeldhbaaGreatDoor
