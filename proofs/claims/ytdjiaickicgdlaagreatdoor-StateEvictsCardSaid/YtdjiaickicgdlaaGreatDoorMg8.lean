/- Part 8 of the texts that lead to this claim: the walks of the functions and the plain law, in order. -/
import Derived.Test.YtdjiaickicgdlaaGreatDoorMg7
import Derived.Laws.Bits64b
namespace Go.Proofs.YtdjiaickicgdlaaGreatDoor
open Go.RowKit
open List hiding and get max min or set
open Go.Proofs.Tryz
open World
set_option maxRecDepth 100000
set_option maxHeartbeats 8000000
variable {w:World}{cs:Array Value}{A:Option Addr}{R:List (Array Value)}{α:Type}
def m8:ByteArray:=⟨#[63,99,115,108,109,114]⟩
theorem Y4(w:World) :
  Calls prog 165 #[] w λe w'=>e=.returned (.string m8)/\w=w':=by
 go_enter func165,ntmps165
 (go_wp2_with fail);go_ret;exact⟨rfl,rfl⟩
theorem vh{k:Nat}(h1:1<=k)(h2:k<6):∃h:k<m8.size,((m8[k]'h).toNat:Int)=fC k:=by
 have:k=1\/k=2\/k=3\/k=4\/k=5:=oM;rcases this with rfl | rfl | rfl | rfl | rfl <;> exact⟨by decide,by decide⟩
theorem eY(c:Int):kP c=true↔(97<=c/\c<=122)\/(48<=c/\c<=57)\/c=45:=by
 unfold kP;simp;omega
theorem qs(s:ByteArray)(w:World)(hs:s.size<=9223372036854775807)(h:¬(2<=s.size/\s.size<=12)) :
  Calls prog 107 #[.string s] w λe w'=>e=.returned (.int .i64 (yH s))/\Below w.heap.size w w':=by
 have H:Hid (yH s=0):=by show yH s=0;unfold yH;rw[s9 s h];rfl
 by_cases h1:2<=s.size
 ·have h4:12<s.size:=oM;clear h;go_enter func107,ntmps107
  go_wp2_with fail
  all_goals
   go_ret;exact⟨yA H.out.symm,Below.refl _ _⟩
 ·clear h;go_enter func107,ntmps107
  go_wp2_with fail
  all_goals
   go_ret;exact⟨yA H.out.symm,Below.refl _ _⟩
theorem rkind_last(s:ByteArray)(w:World)(h:2<=s.size)(h1:s.size<=12)(h2:bt s (s.size-1)=45) :
  Calls prog 107 #[.string s] w λe w'=>e=.returned (.int .i64 (yH s))/\Below w.heap.size w w':=by
 have h3:(((s[s.size-1]'oM).toNat:Int)==45)=true:=by
  rw[beq_iff_eq];rw[pV oM];exact h2
 have H:Hid (yH s=0):=by show yH s=0;unfold yH;rw[iU s h2];rfl
 clear h2;go_enter func107,ntmps107
 (go_wp2_with fail);go_ret;exact⟨yA H.out.symm,Below.refl _ _⟩
theorem rkind_long(s:ByteArray)(w:World)(h:2<=s.size)(h1:s.size<=12)(h2:bt s (s.size-1)≠45) :
  Calls prog 107 #[.string s] w λe w'=>e=.returned (.int .i64 (yH s))/\Below w.heap.size w w':=by
 have h3:(((s[s.size-1]'oM).toNat:Int)==45)=false:=by
  rw[beq_eq_false_iff_ne];intro g;rw[pV oM]at g;exact h2 g
 have d:=iT s h h1 h2;have H2:=dH d;clear h2 d;have h0:(0:Int)<s.size:=oM;have hg:((s[0]'oM).toNat:Int)=bt s 0:=pV oM;go_enter func107,ntmps107
 go_wp2_with fail
 go_loop [3] (λiv=>∃i:Nat,1<=i/\i<=s.size/\iv=.int .i64 i/\Hid (lL s i=lL s 1)) (λiv=>s.size-(intOf iv).toNat)
 case atStart=>exact⟨1,oM,oM,rfl,rfl⟩
 case round =>
  obtain⟨i,G,hi2,rfl,hc⟩:=hrel;by_cases hp:i<s.size
  ·have m:((s[i]'hp).toNat:Int)=bt s i:=pV hp;cases hb:kP (bt s i)with
   | true =>
    have t:=(eY _).1 hb;rw[<-m]at t;have Hb:=dH hb;clear hb m;go_wp2_with fail
    all_goals
     go_round
     case rel=>exact⟨i+1,oM,oM,by go_num,(VN s _ Hb.out).trans hc.out⟩
     case measure=>exact sZ
   | false =>
    have t:¬((97<=bt s i/\bt s i<=122)\/(48<=bt s i/\bt s i<=57)\/bt s i=45):=λg=>(by rw[(eY _).2 g]at hb;cases hb);rw[<-m]at t;have I:(((s[i]'hp).toNat:Int) != 45)=true:=by rw[bne_iff_ne];omega
    have Hb:=dH hb;clear hb m;go_wp2_with fail
    all_goals
     go_ret;exact⟨yA (by unfold yH;rw[H2.out,<-hc.out,xu s _ oM Hb.out];rfl),Below.refl _ _⟩
  ·have A:yH s=Y5 (bt s 0):=by unfold yH;rw[H2.out,<-hc.out,VO s _ oM];rfl
   have H:=dH A;clear A;(go_wp2_with fail);go_loopw [5] (λkv wr=>∃k:Nat,1<=k/\k<=6/\kv=.int .i64 k/\Below w.heap.size w wr/\Hid (∀j:Int,1<=j->j<k->fC j≠bt s 0)) (λkv _=>(6-intOf kv).toNat)
   case atStart=>exact⟨1,oM,oM,rfl,Below.refl _ _,λj h1 h2=>oM⟩
   case round =>
    obtain⟨k,E,F,rfl,r,hj⟩:=hrel;by_cases hk:k<6
    ·obtain⟨y,f⟩:=vh E hk;have D:(k:Int)<m8.size:=oM;by_cases hl:fC k=bt s 0
     ·have B:(((m8[k]'y).toNat:Int)==bt s 0)=true:=by rw[beq_iff_eq,f];exact hl
      have Hl:=dH hl;clear hl f;go_wp2_with fail
      go_quiet ((go_at_call 165;exact lT (Y4 _)))
      (go_wp2_with fail);go_ret;exact⟨yA (by rw[H.out,KP oM oM Hl.out]),dI r _⟩
     ·have B:(((m8[k]'y).toNat:Int)==bt s 0)=false:=by rw[beq_eq_false_iff_ne,f];exact hl
      have Hl:=dH hl;clear hl f;go_wp2_with fail
      go_quiet ((go_at_call 165;exact lT (Y4 _)))
      (go_wp2_with fail);go_roundw
      case rel =>
       refine⟨k+1,oM,oM,by go_num,dI r _,λj h1 h2=>?_⟩;by_cases e:j=k
       ·subst e;exact Hl.out
       ·exact hj.out j h1 oM
      case measure=>exact sZ
    ·(go_wp2_with fail);go_ret;exact⟨yA (by rw[H.out,QU (λj h1 h2=>hj.out j h1 oM)]),r⟩
theorem rkind_any(s:ByteArray)(w:World)(hs:s.size<=9223372036854775807) :
  Calls prog 107 #[.string s] w λe w'=>e=.returned (.int .i64 (yH s))/\Below w.heap.size w w':=by
 by_cases h:2<=s.size/\s.size<=12
 ·by_cases h2:bt s (s.size-1)=45
  ·exact rkind_last s w h.1 h.2 h2
  ·exact rkind_long s w h.1 h.2 h2
 ·exact qs s w hs h




def rowB(x:xC):List UInt8:=x.tag.l++(beL 1 x.val.size++x.val.data.toList)
def ZX(L:List xC):List UInt8:=beL 4 L.length++L.flatMap rowB
def putB(L G:List xC):List UInt8:=ZX L++ZX G
theorem rowB_len(x:xC):(rowB x).length=33+x.val.size:=by
 have e:x.val.data.toList.length=x.val.size:=Array.length_toList;simp[rowB,xA,x.tag.h];omega
section
open Go.RowKit Go.Sort Go.Shelf
theorem vids(wS:World)(g:Nat)(t:ByteArray)(b:Nat)(L:List zB)(sv:Value)(h:yU wS g t b L sv)(hr:Ris yE L)(hn:L.length<=1000000) :
  Calls prog 50 #[.pointer (some ⟨g,0,none⟩)] wS λe w'=>∃A cap,e=.returned (.slice A L.length cap)/\Own w' wS.heap.size 31 32 A L.length cap (L.map idC)/\Below wS.heap.size wS w':=by
 have a7:=h.ids.lt;have hc:=h.cell1;obtain⟨w0,f,hR,U,a5⟩:=yM.range (P:=prog) (kv:=idV) (ok:=vN) h.ids underlying66;go_enter func50,ntmps50
 (go_wp2_with fail);refine(v7 wS g b hc).mono ?_;rintro e w1 ⟨rfl,rfl⟩;(go_wp2_with fail);clear f hc h;go_loopw [3] (λout wr=>∃S A cap,out=.slice A S.length cap/\v6 wr b wS.heap.size idV vN L S/\Own wr w0.heap.size 31 32 A S.length cap (S.map idC)/\Below wS.heap.size wS wr/\w0.heap.size<=wr.heap.size) (λ_ wr=>wr.rangeLeft b wS.heap.size)
 case atStart=>exact⟨[],none,0,rfl,hR,Own.nil _ _ _ _,U,lR⟩
 case round =>
  obtain⟨S,A,cap,rfl,hR,d,hb,a4⟩:=hrel;rcases hR.next (P:=prog) 0 with⟨hall,I,f⟩ | ⟨x,w1,hxL,hxS,f,hR1,hk1,hs1,hl1,hen⟩
  focus
   have hp:S.Perm L:=(perm_ext_iff_of_nodup I (hr.nodup vQ)).2 hall;have V:=hp.length_eq;have a2:=dH hall;have a3:=dH V;clear hall V;have m:=aV wr A S.length cap S L d.slr hp hr (by rw[a3.out];omega) (λe=>(d.cap_le.2 e).2);(go_wp2_with fail);refine m.mono ?_;rintro e w2 ⟨A2,N,rfl,j,J⟩;clear m f;(go_wp2_with fail);go_ret;exact⟨A2,N,rfl,j.mono (oH hb.size),hb.trans (J.mono hb.size)⟩
  have a8:S.length+1<=1000000:=by
   obtain⟨M,Z,hZ,X,_,a0,I⟩:=hR1;have h1:=hZ.length;have h2:(Z.map (·.1)).length=(S ++ [x]).length:=by rw[a0]
   have h3:(M.map (·.1)).length<=L.length:=gH I (λy hy=>(X y).1 hy);simp at h2 h3;omega
  have s:Own w1 w0.heap.size 31 32 A S.length cap (S.map idC):=d.kept hk1 (λy hy=>oS ((d.at_base hy).1));have Y:Below wS.heap.size wS w1:=hb.trans (hk1.below (B:=wS.heap.size) oM sI);have E:Below w1.heap.size w1 ((w1.alloc (.cells (idC x) 31)).alloc (.cells (idC x) 31)):=(bA).alloc sI _;have j:=s.below E;have r:zA ((w1.alloc (.cells (idC x) 31)).alloc (.cells (idC x) 31)) (w1.heap.size+1) 0 32=some (idC x):=by simp[go_sem]
  change (Instr.next _ _ _).run prog wr=.ok (.tuple #[.bool true,.agg (idC x),.bool true]) w1 at f;change (Instr.entry _).run prog w1=.ok (.tuple #[.agg (idC x),.bool true]) w1 at hen;have G:=dH hs1;clear hs1;go_wp2_with (at_builtin;refine xN yP rfl j rfl r (yN _) oM oM (by simp;have:=G.out;omega) ?_;intro A' cap' w2 D F O)
  have T:b∉blk A:=λhx=>(oH ((d.at_base hx).1));have R:wS.heap.size∉blk A:=λhx=>(oH ((d.at_base hx).1));have k:=hR1.kept (z9.of_below E) sI sI;have a1:=k.kept F T R;have a6:w2.rangeLeft b wS.heap.size=w1.rangeLeft b wS.heap.size :=
   (qD F T R k.lt.2 k.lt.1).trans (qD (z9.of_below E) sI sI hR1.lt.2 hR1.lt.1)
  have H:w0.heap.size<=w2.heap.size:=by
   have e1:=E.size;have e2:=F.size;have e3:=G.out;omega
  have J:Below wS.heap.size wS w2:=Y.trans ((E.mono (oH G.out)).trans (F.below (B:=wS.heap.size) (by simp;have:=G.out;omega) λy hy=>oH ((d.at_base hy).1)));clear f hen;(go_wp2_with fail);go_roundw
  case rel=>exact⟨S ++ [x],A',cap',sI,a1,by simpa using D,J,H⟩
  case measure=>omega
end
def VSt.big:VSt->Nat
 | .t _=>0
 | .b L G=>L.length+G.length
 | .l L=>L.length
 | .m X O=>X.length+O.length
 | .s N G=>N.length+G.length
def VSt.ris:VSt->Prop
 | .s _ G=>Ris yE G
 | _=>True





def valC(k n:Int)(A:Option Addr)(m c:Nat):Array Value:=zJ ⟨k,n,.slice A m c⟩
theorem rsame26(w:World)(k n k' n':Int)(A B:Option Addr)(m m' c c':Nat)(X Y:List jI)(hx:fV w A m X)(hy:fV w B m' Y)(hm:m<=1000000)(r:m'<=1000000) :
  Calls prog 14 #[.agg (valC k n A m c),.agg (valC k' n' B m' c')] w λe w'=>e=.returned (.bool (decide (k=k'/\n=n'/\X=Y)))/\Below w.heap.size w w':=by
 have hB:Below w.heap.size w ((w.alloc (.cells (valC k n A m c) 42)).alloc (.cells (valC k' n' B m' c') 42)):=(bA).alloc sI _;have f:=SlR.below hx hB;have d:=SlR.below hy hB;have cp:=rpairs _ A B m m' c c' X Y f d hm r;unfold valC at hB cp |-;have hd:decide (k=k'/\n=n'/\X=Y)=((k==k')&&(n==n')&&decide (X=Y)):=by
  rw[Bool.eq_iff_iff];simp[and_assoc]
 obtain⟨b,hb⟩:=eX (decide (X=Y))
 rw[hb]at cp hd;have Hd:=dH hd;clear hd f d hb hx hy;obtain⟨b1,h1⟩:=eX (k==k')
 obtain⟨b2,h2⟩:=eX (n==n')
 have j:Hid (decide (k=k'/\n=n'/\X=Y)=(b1&&b2&&b)):=by show _=_;rw[Hd.out,h1,h2]
 clear Hd;cases b1 <;> cases b2
 all_goals
  go_enter func14,ntmps14
  go_wp2_with fail
  first
  | (go_ret;exact⟨yB (by rw[j.out];rfl),hB⟩)
  | (refine cp.mono ?_;rintro e w1 ⟨rfl,g⟩
     have s:=yK hB g;clear cp g hB;(go_wp2_with fail);go_ret;exact⟨yB (by rw[j.out];rfl),s⟩)
 @[go_sem] theorem buildValV_kn(k n:Int)(w:World):(bdS 42 #[(0,.int .i64 k),(1,.int .i64 n)]).run prog w=.ok (.agg (zJ ⟨k,n,.slice none 0 0⟩)) w:=kR
@[go_sem] theorem buildValV_kl(k:Int)(A:Option Addr)(n c:Nat)(w:World):(bdS 42 #[(0,.int .i64 k),(2,.slice A n c)]).run prog w=.ok (.agg (zJ ⟨k,0,.slice A n c⟩)) w:=kR
theorem aA(k n:Nat):beL (k+1) n=beL k (n / 256) ++ [UInt8.ofNat n]:=by
 induction k generalizing n with
 | zero=>simp[beL]
 | succ k ih =>
  have h1:=ih n;show UInt8.ofNat (n / 256 ^ (k+1)) :: beL (k+1) n=(UInt8.ofNat (n / 256 / 256 ^ k) :: beL k (n / 256)) ++ [UInt8.ofNat n];rw[h1,Nat.pow_succ,Nat.mul_comm,<-Nat.div_div_eq_div_mul];rfl
theorem mk1(w:World):(Instr.makeSlice 128 (.int .i64 1) (.int .i64 1)).run prog w=.ok (.slice (some ⟨w.heap.size,0,none⟩) 1 1) (w.alloc (.cells #[.int .u8 0] 5)):=kR
theorem mk4(w:World):(Instr.makeSlice 128 (.int .i64 4) (.int .i64 4)).run prog w=.ok (.slice (some ⟨w.heap.size,0,none⟩) 4 4) (w.alloc (.cells #[.int .u8 0,.int .u8 0,.int .u8 0,.int .u8 0] 5)):=kR
theorem mY(w:World)(bs:List UInt8)(n:Nat)(hn:n=bs.length)(cs:Array Value)(hc:cs=(bs.map yI).toArray) :
  (convert 128 9 (.slice (some ⟨w.heap.size,0,none⟩) n n)).run prog (w.alloc (.cells cs 5))=.ok (.string ⟨bs.toArray⟩) (w.alloc (.cells cs 5)):=by
 subst hn;subst hc;exact run_convert_bytes_back (P:=prog) _ 128 9 5 ⟨w.heap.size,0,none⟩ bs.length bs underlying128 underlying5 underlying9 (λj hj=>by simp[go_sem,yI,hj])
theorem u8n(n:Nat):((n:Int) % 256)=((UInt8.ofNat n).toNat:Int):=sI
theorem rnum1(n:Nat)(w:World)(h:n<256) :
  Calls prog 55 #[.int .i64 n,.int .i64 1] w λe w'=>e=.returned (.tuple #[.string ⟨(beL 1 n).toArray⟩,.int .i64 0])/\Below w.heap.size w w':=by
 have k:decide ((n:Int)<0)=false:=sI;have j:decide (256<=(n:Int))=false:=sO;have f:=mY w (beL 1 n) 1 rfl #[.int .u8 ((n:Int) % 256)] (by rw[u8n];simp[beL,yI]);obtain⟨bs,d⟩:=eX (beL 1 n)
 rw[d]at f |-;clear d;have g:=mk1;go_enter func55,ntmps55
 (go_wp2_with fail);refine wp_loop_rounds 1 ?_;rw[rounds_succ];(go_wp2_with fail);refine wp_loop_rounds 2 ?_;rw[rounds_succ];(go_wp2_with fail);rw[rounds_succ];(go_wp2_with fail);go_ret2;exact⟨rfl,bA⟩
theorem rnum4(n:Nat)(w:World)(h:n<4294967296) :
  Calls prog 55 #[.int .i64 n,.int .i64 4] w λe w'=>e=.returned (.tuple #[.string ⟨(beL 4 n).toArray⟩,.int .i64 0])/\Below w.heap.size w w':=by
 have k:decide ((n:Int)<0)=false:=sI;have j:decide (4294967296<=(n:Int))=false:=sO;have f:=mY w (beL 4 n) 4 rfl #[.int .u8 ((n:Int) / 256 / 256 / 256 % 256),.int .u8 ((n:Int) / 256 / 256 % 256),.int .u8 ((n:Int) / 256 % 256),.int .u8 ((n:Int) % 256)] (by
  have e1:(n:Int) / 256=((n / 256:Nat):Int):=sI;have e2:((n / 256:Nat):Int) / 256=((n / 256 / 256:Nat):Int):=sI;have e3:((n / 256 / 256:Nat):Int) / 256=((n / 256 / 256 / 256:Nat):Int):=sI;rw[e1,e2,e3,u8n,u8n,u8n,u8n,aA,aA,aA];simp[beL,yI])
 obtain⟨bs,d⟩:=eX (beL 4 n)
 rw[d]at f |-;clear d;have g:=mk4;go_enter func55,ntmps55
 (go_wp2_with fail);refine wp_loop_rounds 4 ?_;rw[rounds_succ];(go_wp2_with fail);rw[rounds_succ];(go_wp2_with fail);rw[rounds_succ];(go_wp2_with fail);rw[rounds_succ];(go_wp2_with fail);refine wp_loop_rounds 5 ?_;rw[rounds_succ];(go_wp2_with fail);rw[rounds_succ];(go_wp2_with fail);rw[rounds_succ];(go_wp2_with fail);rw[rounds_succ];(go_wp2_with fail);rw[rounds_succ];(go_wp2_with fail);go_ret2;exact⟨rfl,bA⟩
theorem rnumP(n M:Nat)(w:World)(hM:M=1\/M=4)(h:n<256 ^ M) :
  Calls prog 55 #[.int .i64 n,.int .i64 M] w λe w'=>∃s:ByteArray,e=.returned (.tuple #[.string s,.int .i64 0])/\s.size=M/\s.data.toList=beL M n/\Below w.heap.size w w':=by
 have c:Calls prog 55 #[.int .i64 n,.int .i64 M] w λe w'=>e=.returned (.tuple #[.string ⟨(beL M n).toArray⟩,.int .i64 0])/\Below w.heap.size w w':=by
  rcases hM with rfl | rfl
  ·exact rnum1 n w h
  ·exact rnum4 n w h
 exact c.mono λ_ _ ⟨he,hb⟩=>⟨_,he,(by show(beL M n).toArray.size=M;simp[xA]),sI,hb⟩

theorem bs1_u8(w:World)(c:Int):(Instr.buildSlice 128 1 #[(0,.int .u8 c)]).run prog w=.ok (.slice (some ⟨w.heap.size,0,none⟩) 1 1) (w.alloc (.cells #[.int .u8 c] 5)):=by
 have h0:(bsS 128 1 #[(0,.agg #[.int .u8 c])]).run prog w=_:=fK qX oM w #[.int .u8 c] sI;exact h0










section
def Small(w:World)(x:Nat):Prop:=∀o k cs,32<=k->zA w x o k=some cs->False
theorem qg{x:Nat}{t:TypeId}{f:Nat×Nat}(h:w.heap[x]?=some (.cells cs t f))(hs:cs.size<32):Small w x:=λo k c hk hr=>by
 unfold zA at hr;rw[h]at hr;dsimp only at hr;rw[if_neg oM]at hr;cases hr
theorem SlR.kept_small{w':World}{n k:Nat}{S:List Nat}(h:SlR w A n k R)(hk:32<=k)(hw:z9 S w w')(hs:∀x∈S,Small w x):SlR w' A n k R:=by
 refine⟨h.1,λh0=>?_⟩;obtain⟨q,o,e,hc⟩:=h.2 h0;refine⟨q,o,e,λi hi=>?_⟩;have d:=zE (hc i hi);rw[hw.row d (λhm=>hs q hm _ _ _ hk (hc i hi)) _ _];exact hc i hi
section
variable {w w':World} {M S:List Nat}
theorem xF.kept_small{g bn bb bg:Nat}{N:List zW}{G:List zB}(h:xF w M g bn bb bg N G)(k:z9 S w w')(hS:∀x∈S,Small w x)(hg:g∉S)(h1:bn∉S)(h2:bb∉S)(h3:bg∉S):xF w' M g bn bb bg N G:=by
 obtain⟨es,r,hn⟩:=h.nodes;obtain⟨BM,m,d,hb,f,j⟩:=h.behind;refine⟨(k.block g h.ltg hg).trans h.blk,⟨es,r,hn.kept k h1⟩,⟨BM,m,d,hb.kept k h2,λp hp=>?_,j⟩,h.gone.kept k h3,h.inM,h.ne,h.one,h.ok⟩;obtain⟨s1,s2⟩:=f p hp;exact⟨⟨s1.rd.kept_small oM k hS,s1.le,s1.nil,s1.plain⟩,λx hx=>⟨(s2 x hx).1,Nat.lt_of_lt_of_le (s2 x hx).2 k.size⟩⟩
theorem kQ.kept_small{O:List Nat}{v:Value}{s:VSt}(h:kQ w O M v s)(k:z9 S w w')(hS:∀x∈S,Small w x)(hO:∀x∈O,x∉S):kQ w' O M v s:=by
 cases s with
 | t n=>obtain⟨g,e,h1,rfl⟩:=h;exact⟨g,e,h1.kept k (hO g sI),rfl⟩
 | b L G=>obtain⟨g,bl,bg,e,h1,rfl⟩:=h;exact⟨g,bl,bg,e,h1.kept k (hO g sI) (hO bl sI) (hO bg sI),rfl⟩
 | l L=>obtain⟨g,b,e,h1,rfl⟩:=h;exact⟨g,b,e,h1.kept k (hO g sI) (hO b sI),rfl⟩
 | m X Ov=>obtain⟨g,bl,bo,e,h1,rfl⟩:=h;exact⟨g,bl,bo,e,h1.kept k (hO g sI) (hO bl sI) (hO bo sI),rfl⟩
 | s N G=>obtain⟨g,bn,bb,bg,e,h1,rfl⟩:=h;exact⟨g,bn,bb,bg,e,h1.kept_small k hS (hO g sI) (hO bn sI) (hO bb sI) (hO bg sI),rfl⟩
end
theorem pairs_lenQ{O M:List Nat}{v:Value}(s:VSt)(hs:kQ w O M v s):s.pairs.length<=s.len:=by
 cases s with
 | t n=>exact lR
 | b L G=>show((nL L).map pairV).length<=L.length;rw[length_map];exact KN L
 | l L=>show(L.map zu).length<=L.length;rw[length_map];exact lR
 | m X O=>exact listM_len X
 | s N G =>
  obtain⟨g,bn,bb,bg,rfl,h1,rfl⟩:=hs;exact listS_len (N:=N) (G:=G) ⟨h1.one,λa ha=>(iD (h1.ok a ha)).1⟩
end
structure pZ where
 id:zB
 node:fI
def yG(x:pZ):Array Value:=idC x.id++zP x.node
@[simp] theorem tM(x:pZ):(yG x).size=66:=by simp[yG]
@[go_sem] theorem rA(x:pZ):(yG x).extract 0 32=idC x.id:=by
 have h:yG x=((#[]:Array Value))++idC x.id++(zP x.node):=by first | (simp[yG,Array.append_assoc];done) | (apply Array.ext';simp[yG];done)
 rw[h];exact bC _ _ _ _ _ sI sI
@[go_sem] theorem QH(x:pZ):(yG x).extract 32 66=zP x.node:=by
 have h:yG x=(idC x.id)++zP x.node++((#[]:Array Value)):=by first | (simp[yG,Array.append_assoc];done) | (apply Array.ext';simp[yG];done)
 rw[h];exact bC _ _ _ _ _ sI sI
@[go_sem] theorem nNodeC_all(x:pZ):(yG x).extract 0 66=yG x:=by have:=Array.extract_size (xs:=yG x);rwa [tM]at this
theorem QG(x:pZ):∀u∈(yG x).toList,u.oneCell'=true:=by
 intro u hu;simp only[yG,Array.toList_append,mem_append]at hu;rcases hu with hu | hu
 ·exact yN _ u hu
 ·exact XP _ u hu
def sV:pZ:=⟨id0,qW⟩
theorem NNode_ext{x y:pZ}(h:x.id=y.id/\x.node=y.node):x=y:=by cases x;cases y;simp_all
instance:DecidableEq pZ:=λx y=>if h:x.id=y.id/\x.node=y.node then isTrue (NNode_ext h)else isFalse (λe=>h (by subst e;simp))
theorem KT:(prog.info? 287).map (·.size)=some 66:=kR
@[go_sem ↓] theorem JT(w:World):(zeroValue 287).run prog w=.ok (.agg (yG sV)) w:=by
 have h:(prog.info? 287).bind (·.zero)=some (.agg (yG sV)):=kR;cases hi:prog.info? 287 with
 | none=>rw[hi]at h;cases h
 | some i =>
  rw[hi]at h;have hz:i.zero=some (.agg (yG sV)):=h;simp[zeroValue,typeInfo,hi,hz]
@[go_sem ↓] theorem loadNNode_rw(a:Addr):loadVar 287 a=ldS 287 a:=rfl
@[go_sem ↓] theorem storeNNode_rw(a:Addr)(v:Value):storeVar 287 a v=stS 287 a v:=rfl
@[go_sem] theorem loadNNode_run(w:World)(g o:Nat):(ldS 287 ⟨g,o,none⟩).run prog w=match zA w g o 66 with | some cs=>.ok (.agg cs) w | none=>(loadVar 287 ⟨g,o,none⟩).run prog w :=
 jK underlying287 rfl KT w g o
@[go_sem] theorem storeNNode_run(w:World)(g:Nat)(hg:g=w.heap.size)(z:Array Value)(hz:z.size=66)(x:pZ)(e:TypeId):(stS 287 ⟨g,0,none⟩ (.agg (yG x))).run prog (w.alloc (.cells z e))=.ok () (w.alloc (.cells (yG x) e)) :=
 hg ▸ xZ KT w z (yG x) hz (tM x) (QG x)
theorem ko:prog.underlying 287=some (.struct (prog.fieldsOf 287)):=kR
theorem jf(w:World):((prog.fieldsOf 287).mapM fun (f:Field)=>do pure (f.offset,<-sizeOf f.type)).run prog w=.ok #[(0,32),(32,34)] w:=kR
@[go_sem ↓] theorem buildNNode_rw(parts:Array (Nat×Value)):Instr.build 287 parts=bdS 287 parts:=rfl
@[go_sem] theorem buildNNode_0(a0:zB)(w:World):(bdS 287 #[(0,.agg (idC a0))]).run prog w=.ok (.agg (yG ⟨a0,qW⟩)) w:=by
 refine qL w ko _ (JT w) _ (jf w) [(0,.agg (idC a0))] _ ?_;rw[show yG sV=(#[]:Array Value)++idC id0++(zP qW)from by first | (simp[yG,sV,Array.append_assoc];done) | (apply Array.ext';simp[yG,sV])];rw[yT (off:=0) (size:=32) rfl sI sI (by simp[Value.cells])];first | (simp[Instr.fill,yG,Array.append_assoc,Value.cells];done) | (simp only[Instr.fill,yG];congr 1;apply Array.ext';simp[Value.cells];done) | (simp only[Instr.fill,yG];congr 1;done) | (simp only[Instr.fill,yG];done)
abbrev nnC(n:zW):Array Value:=yG ⟨n.id,xH n⟩
theorem nnC_one(n:zW):∀u∈(nnC n).toList,u.oneCell'=true:=QG _
theorem einfoNN:yR prog 283 287 66 88 :=
 .of (z:=.agg (yG sV)) underlying283 kR kR kR (tM _) oM
@[go_sem ↓] theorem bsNN_rw(n:Nat)(parts:Array (Nat×Value)):Instr.buildSlice 283 n parts=bsS 283 n parts:=rfl
@[go_sem] theorem bsNN_run(w:World)(x:pZ):(bsS 283 1 #[(0,.agg (yG x))]).run prog w=.ok (.slice (some ⟨w.heap.size,0,none⟩) 1 1) (w.alloc (.cells (yG x) 287)) :=
 fK einfoNN oM w (yG x) (tM x)
def nP:RowP zW :=
 ⟨λl e=>⟨xV (yY 32 l e),((xB 4 (zN 32 l e) (zO 32 l e):Nat):Int),xV (yY 32 (zN 4 (zN 32 l e) (zO 32 l e)) (zO 4 (zN 32 l e) (zO 32 l e))),txV (zN 32 (zN 4 (zN 32 l e) (zO 32 l e)) (zO 4 (zN 32 l e) (zO 32 l e))) (zO 32 (zN 4 (zN 32 l e) (zO 32 l e)) (zO 4 (zN 32 l e) (zO 32 l e)))⟩,
  λl e=>txL (zN 32 (zN 4 (zN 32 l e) (zO 32 l e)) (zO 4 (zN 32 l e) (zO 32 l e))) (zO 32 (zN 4 (zN 32 l e) (zO 32 l e)) (zO 4 (zN 32 l e) (zO 32 l e))),
  λl e=>txE (zN 32 (zN 4 (zN 32 l e) (zO 32 l e)) (zO 4 (zN 32 l e) (zO 32 l e))) (zO 32 (zN 4 (zN 32 l e) (zO 32 l e)) (zO 4 (zN 32 l e) (zO 32 l e))),s4,
  λx=>0<=x.h/\x.h<4294967296/\x.val.size<=255⟩
theorem nP_eq{l:List UInt8}{e:Int}{l1 l2 l3:List UInt8}{e1 e2 e3:Int}(h1:zN 32 l e=l1)(k1:zO 32 l e=e1)(h2:zN 4 l1 e1=l2)(k2:zO 4 l1 e1=e2)(h3:zN 32 l2 e2=l3)(k3:zO 32 l2 e2=e3) :
  nP.one l e=⟨xV (yY 32 l e),((xB 4 l1 e1:Nat):Int),xV (yY 32 l2 e2),txV l3 e3⟩/\nP.oL l e=txL l3 e3/\nP.oE l e=txE l3 e3:=by
 subst h1;subst k1;subst h2;subst k2;subst h3;subst k3;exact⟨rfl,rfl,rfl⟩
theorem nLaw:pY nP where
 split l e h:=by
  obtain⟨h1,h2⟩:=lJ (show txE _ _=0 from h);obtain⟨h3,h4⟩:=iN h1;obtain⟨h5,h6⟩:=wJ h3;obtain⟨h7,h8⟩:=iN h5;refine⟨h7,?_⟩;obtain⟨a1,a2,a3⟩:=nP_eq (l:=l) (e:=e) rfl rfl rfl rfl rfl rfl;rw[a1,a2];show s4 _++_=l;unfold s4;simp only[append_assoc,Int.toNat_natCast];rw[h2,h4,h6,h8]
 back x t hx:=by
  obtain⟨d,h,r,v⟩:=x;obtain⟨g,f,hv⟩:=hx;simp only at g f hv;obtain⟨m,rfl⟩:∃m:Nat,h=m:=⟨h.toNat,oM⟩
  have e0:nP.put ⟨d,m,r,v⟩++t=d.l++(beL 4 m++(r.l++(beL 1 v.size++(v.data.toList++t)))):=by show s4 _++t=_;simp[s4]
  rw[e0];obtain⟨a1,a2,a3⟩:=iP (d:=d) (beL 4 m++(r.l++(beL 1 v.size++(v.data.toList++t))));obtain⟨b1,b2,b3⟩:=mQ (M:=4) (n:=m) oM (r.l++(beL 1 v.size++(v.data.toList++t)));obtain⟨c1,c2,c3⟩:=iP (d:=r) (beL 1 v.size++(v.data.toList++t));obtain⟨d1,d2,d3⟩:=BV (s:=v) oM t;obtain⟨f1,f2,f3⟩:=nP_eq a2 a3 b2 b3 c2 c3;rw[f1,f2,f3,a1,b1,c1,d1,d2,d3];exact⟨rfl,rfl,rfl⟩
 some_ x:=by show 1<=(s4 x).length;rw[KH];omega
def yQ(l:List UInt8):nD zW:=j5 nP l 0
def xE(l:List UInt8):nD zB:=j5 idP (yQ l).l (yQ l).e
def FitsN(R:List zW):Prop:=∀x∈R,0<=x.h/\x.h<4294967296/\x.val.size<=255
theorem fitsN_step{R:List zW}(h:FitsN R)(l:List UInt8)(e:Int):FitsN (R ++ [nP.one l e]):=λx hx=>by
 rcases mem_append.1 hx with h' | h'
 ·exact h x h'
 ·simp only[mem_singleton]at h';subst h';have:=xP 4 (zN 32 l e) (zO 32 l e);obtain⟨a1,_,_⟩:=nP_eq (l:=l) (e:=e) rfl rfl rfl rfl rfl rfl;rw[a1];exact⟨by simp only;omega,by simp only;omega,wP _ _⟩
theorem sq_id(w:World)(g:Nat)(l:List UInt8)(e:Int)(h:q9 w g l e) :
  Calls prog 256 #[.pointer (some ⟨g,0,none⟩)] w λen w'=>en=.returned (.agg (idC (xV (yY 32 l e))))/\lD w g (zN 32 l e) (zO 32 l e) w':=by
 have s:Below w.heap.size w ((w.alloc (.cells (idC id0) 31)).alloc (.cells (idC id0) 31)):=(bA).alloc sI _;have F:((w.alloc (.cells (idC id0) 31)).alloc (.cells (idC id0) 31)).heap[w.heap.size]?=some (.cells (idC id0) 31 (0,0)):=by
  rw[Below.heap_alloc _ _ _ sI];exact heap_alloc_new w _
 have r:((w.alloc (.cells (idC id0) 31)).alloc (.cells (idC id0) 31)).heap[w.heap.size+1]?=some (.cells (idC id0) 31 (0,0)):=by
  have:=heap_alloc_new (w.alloc (.cells (idC id0) 31)) (.cells (idC id0) 31);simpa using this
 have Y:=h.lt;have t:=h.below s;have k:((w.alloc (.cells (idC id0) 31)).alloc (.cells (idC id0) 31)).heap.size=w.heap.size+2:=sI;have G:=dH k;clear k h;go_enter func256,ntmps256
 go_upto_region 2 with fail
 obtain⟨ga,O⟩:=eX w.heap.size
 have a1:=dH O;obtain⟨W,hW⟩:=eR ((w.alloc (.cells (idC id0) 31)).alloc (.cells (idC id0) 31))
 rw[<-hW]at s F r t G |-;rw[O]at F r Y |-;clear hW;have E:ga+1<W.heap.size:=(aG r).1;have c1:=wT W.drew g l e (t.kept (z9.drew W) sI);refine kX [g,ga+1] W ?_;intro X hS;refine lQ ?_;intro K hK;refine c1.mono ?_;rintro en w1 ⟨rfl,L,D⟩;replace hS:=yC hS D sI;have m:w1.heap[ga+1]?=_:=(D.block (ga+1) (by show _<W.drew.heap.size;exact E) sO).trans r;refine⟨_,rfl,hS,hK _ _ ?_⟩;clear hK K c1;obtain⟨w2,m2,Z,f,B⟩:=pQ (yY 32 l e) (mK _ _) 3 32 m;refine lH ?_;intro K hK;refine zI (yC hS B sI) (λR=>?_);refine hK _ _ ?_;clear hK K;refine zD ?_;intro hS;have y:z9 [g,ga+1] W w2:=R;have J:=L.kept B sO;have j:=(y.block ga oM sO).trans F;clear Z hS R X D B L t m;obtain⟨d,hd⟩:=eX (xV (yY 32 l e))
 rw[hd]at f;have Hd:=dH hd;clear hd;have V:zA w2 (ga+1) 0 32=some (idC d):=by unfold zA;rw[f];simp[go_sem]
 have T:=y9 (P:=prog) xU w2 ga (idC id0) (idC d) _ j sI sI (yN _);have A:z9 [ga] w2 (w2.setRow ga (idC d)):=⟨rfl,rfl,rfl,by simp[setRow],λx _ hx=>setRow_other w2 ga x _ (by simpa using hx)⟩
 have H:=dH (setRow_heap w2 ga _ (idC d) _ _ j);have I:=J.kept A sO;have N:z9 [g,ga,ga+1] w (w2.setRow ga (idC d)):=z9.trans (z9.trans ((z9.of_below s).mono (S':=[g,ga,ga+1]) sI) (y.mono (S':=[g,ga,ga+1]) sI) iL) (A.mono (S':=[g,ga,ga+1]) sI) iL;have M:z9 [g] w (w2.setRow ga (idC d)):=N.narrow (λx hx=>by have:=a1.out;simp at hx |-;omega);have U:=dH I;have a0:=dH M;clear I J N M A j f s y;(go_wp2_with fail);exact bodyPost_ret (results_cell_row results256 _ _ ga 31 (idC d) (0,0) _ rfl H.out underlying31 rfl (by rw[xQ];exact xU)) rfl ⟨by rw[Hd.out],U.out,a0.out⟩
@[go_sem] theorem nnode_g32(d:zB)(h:Int)(r:zB)(v:ByteArray):(yG ⟨d,⟨h,r,v⟩⟩)[32]?=some (.int .i64 h):=by
 have e:yG ⟨d,⟨h,r,v⟩⟩=idC d ++ #[Value.int .i64 h]++(idC r ++ #[Value.string v]):=by simp[yG,zP]
 rw[e];exact xM _ _ _ _ sI
@[go_sem] theorem aO(d:zB)(h:Int)(r:zB)(v:ByteArray):(yG ⟨d,⟨h,r,v⟩⟩)[65]?=some (.string v):=by
 have e:yG ⟨d,⟨h,r,v⟩⟩=(idC d ++ #[Value.int .i64 h]++idC r) ++ #[Value.string v]:=by simp[yG,zP]
 rw[e];have hs:(idC d ++ #[Value.int .i64 h]++idC r).size=65:=sI;rw[Array.getElem?_append,if_neg oM,hs];rfl
theorem ju(d:zB)(h h':Int)(r:zB)(v:ByteArray):(yG ⟨d,⟨h,r,v⟩⟩).setIfInBounds 32 (.int .i64 h')=yG ⟨d,⟨h',r,v⟩⟩:=by
 apply Array.ext';simp[yG,zP]
theorem js(d:zB)(h:Int)(r:zB)(v v':ByteArray):(yG ⟨d,⟨h,r,v⟩⟩).setIfInBounds 65 (.string v')=yG ⟨d,⟨h,r,v'⟩⟩:=by
 apply Array.ext';simp[yG,zP]
theorem jt(d:zB)(h:Int)(r r':zB)(v:ByteArray):((yG ⟨d,⟨h,r,v⟩⟩).toList.take (33+0)++(idC r').toList++(yG ⟨d,⟨h,r,v⟩⟩).toList.drop (33+0+(idC r').toList.length)).toArray=yG ⟨d,⟨h,r',v⟩⟩:=by
 apply Array.ext';have h1:(idC r').toList.length=32:=sI;have h2:(idC r).toList.length=32:=sI;have h3:(idC d).toList.length=32:=sI;rw[h1];have e:∀x,(yG ⟨d,⟨h,x,v⟩⟩).toList=(idC d).toList++([.int .i64 h]++((idC x).toList ++ [.string v])):=λx=>(by simp[yG,zP]);rw[e,e];simp[take_append,drop_append,h2,h3];rw[take_of_length_le oM,drop_eq_nil_of_le oM]
 simp
theorem store_refN{g:Nat}{d r:zB}{h:Int}{v:ByteArray}(r':zB)(hg:w.heap[g]?=some (.cells (yG ⟨d,⟨h,r,v⟩⟩) 287 (0,0))) :
  (stS 31 ⟨g,33,none⟩ (.agg (idC r'))).run prog w=.ok () (w.setRow g (yG ⟨d,⟨h,r',v⟩⟩)):=by
 have f:=run_storeCells_at prog g 33 287 (idC r').toList 0 (yG ⟨d,⟨h,r,v⟩⟩) w hg sI (yN r');rw[jt]at f;unfold stS storeVar;have hi:=xU;cases hinfo:prog.info? 31 with
 | none=>rw[hinfo]at hi;cases hi
 | some i =>
  rw[hinfo]at hi;have hk:i.size=32:=by simpa using hi
  simp[Value.cells,sizeOf,typeInfo,hinfo,hk];simpa using f
theorem sqread(w:World)(g:Nat)(l:List UInt8)(g5:q9 w g l 0) :
  Calls prog 191 #[.pointer (some ⟨g,0,none⟩)] w λe w'=>∃A cap B cap',e=.returned (.tuple #[.slice A (yQ l).rows.length cap,.slice B (xE l).rows.length cap'])/\Own w' w.heap.size 287 66 A (yQ l).rows.length cap ((yQ l).rows.map nnC)/\Own w' w.heap.size 31 32 B (xE l).rows.length cap' ((xE l).rows.map idC)/\q9 w' g (xE l).l (xE l).e/\z9 [g] w w'/\FitsN (yQ l).rows:=by
 have c0:=kM _ _ l 0 g5;have hN:=xP 4 l 0;obtain⟨N,i3⟩:=eX (xB 4 l 0)
 have j2:Hid (yQ l=qJ nP N ⟨[],zN 4 l 0,zO 4 l 0⟩):=by show _=_;rw[<-i3];rfl
 rw[i3]at c0 hN;clear i3;have m6:=g5.lt;go_enter func191,ntmps191
 (go_wp2_with fail);refine c0.mono ?_;rintro e w1 ⟨rfl,j3,h7⟩;have l9:=dH h7;have l3:=h7.size;clear c0 g5 h7;(go_wp2_with fail);go_loopw [2,5,6] (λout i _ wr=>∃(k:Nat) (R:List zW) (l1:List UInt8) (e1:Int) (A1:Option Addr) (c8:Nat),k<=N/\i=.int .i64 k/\out=.slice A1 R.length c8/\R.length=k/\Own wr w1.heap.size 287 66 A1 R.length c8 (R.map nnC)/\q9 wr g l1 e1/\Hid (qJ nP N ⟨[],zN 4 l 0,zO 4 l 0⟩=qJ nP (N-k) ⟨R,l1,e1⟩)/\Hid (FitsN R)/\z9 [g] w1 wr) (λ_ i _ _=>N-(intOf i).toNat)
 case atStart=>exact⟨0,[],_,_,none,0,zL,rfl,rfl,rfl,Own.nil _ _ _ _,j3,(show _=_ from rfl),(show FitsN [] by intro x hx;cases hx),z9.refl _ _⟩
 case round =>
  clear j3;obtain⟨k,R,l1,e1,A1,c8,m4,rfl,rfl,j6,L,hr,e8,f1,hk⟩:=hrel;have m0:=dH j6;have m8:R.length<=N:=oM;clear j6;have j1:=hk.size;by_cases hgo:k<N/\e1=0
  ·obtain⟨l5,rfl⟩:=hgo;have E:=e8.out;rw[(oM:N-k=(N-(k+1))+1),vA _ _ rfl]at E;have b1:=dH E;have e0:=fitsN_step f1.out l1 0;have i7:=dH e0;clear e8 E f1 e0;have m5:=hr.lt;have l6:g∉blk A1:=λhx=>(oH ((L.at_base hx).1));(go_wp2_with fail);refine(xI _ g l1 0 hr).mono ?_;rintro e w5 ⟨rfl,rfl⟩;(go_wp2_with fail);refine(sq_id _ g l1 0 hr).mono ?_;rintro e w6 ⟨rfl,b5,b3⟩;obtain⟨d,hd⟩:=eX (xV (yY 32 l1 0))
   obtain⟨m1,h1⟩:=eX (zN 32 l1 0)
   obtain⟨x1,f8⟩:=eX (zO 32 l1 0)
   have e5:q9 w6 g m1 x1:=by rw[<-h1,<-f8];exact b5
   have c5:z9 [g] wr w6:=b3;rw[hd];have Hd:=dH hd;have k8:=dH h1;have k1:=dH f8;have h8:=heap_alloc_new w6 (.cells (yG ⟨d,qW⟩) 287);have i5:=e5.kept (z9.alloc w6 (.cells (yG ⟨d,qW⟩) 287)) sI;have h5:z9 [g] wr (w6.alloc (.cells (yG ⟨d,qW⟩) 287)):=z9.trans c5 (z9.alloc w6 _) sI;have l0:=c5.size;have h9:=b5.lt;clear hd b5 e5 c5 b3 hr h1 f8;go_upto_region 6 with fail
   obtain⟨g8,j4⟩:=eX w6.heap.size
   obtain⟨W,hW⟩:=eX (w6.alloc (.cells (yG ⟨d,qW⟩) 287))
   rw[hW]at h8 i5 h5;rw[hW];rw[j4]at h8 l0 h9 |-;have c2:g8∉[g]:=sO;have g7:g∉[g8]:=sO;clear hW j4;(go_wp2_with fail);refine(kM _ g m1 x1 i5).mono ?_;rintro e w2 ⟨rfl,M,d0⟩;obtain⟨nv,g6⟩:=eX (xB 4 m1 x1)
   obtain⟨m2,h0⟩:=eX (zN 4 m1 x1)
   obtain⟨x2,f7⟩:=eX (zO 4 m1 x1)
   have d8:q9 w2 g m2 x2:=by rw[<-h0,<-f7];exact M
   have k5:=dH g6;have k7:=dH h0;have k0:=dH f7;rw[g6];have f3:=(d0.block g8 (aG h8).1 c2).trans h8;have x0:w2.cell? ⟨g8,32,none⟩=some (.int .i64 0):=by rw[cell_of_row w2 g8 _ _ _ _ f3];exact nnode_g32 _ _ _ _
   have f0:w2.frozen? ⟨g8,32,none⟩=false:=by simp[frozen?,f3]
   have b4:=zF f3 32 (.int .i64 (nv:Int));have d1:(yG ⟨d,qW⟩).setIfInBounds 32 (.int .i64 (nv:Int))=yG ⟨d,⟨nv,id0,⟨#[]⟩⟩⟩:=ju _ _ _ _ _;rw[d1]at b4;have a4:=z9.setCell w2 ⟨g8,32,none⟩ (.int .i64 (nv:Int));have g4:=d8.kept a4 g7;have a0:z9 [g,g8] wr (w2.setCell ⟨g8,32,none⟩ (.int .i64 (nv:Int))):=z9.trans (z9.trans (h5.mono (S':=[g,g8]) sI) (d0.mono (S':=[g,g8]) sI) iL) (a4.mono (S':=[g,g8]) sI) iL;clear g6 h0 f7 M d8 d0 h8 i5 h5 f3 a4 d1;go_upto_region 7 with fail
   obtain⟨V,hV⟩:=eX (w2.setCell ⟨g8,32,none⟩ (.int .i64 (nv:Int)))
   rw[hV]at b4 g4 a0;rw[hV];clear hV f0 x0;(go_wp2_with fail);refine(sq_id _ g m2 x2 g4).mono ?_;rintro e w3 ⟨rfl,d7,c9⟩;obtain⟨rv,g2⟩:=eX (xV (yY 32 m2 x2))
   obtain⟨m3,g9⟩:=eX (zN 32 m2 x2)
   obtain⟨x3,f6⟩:=eX (zO 32 m2 x2)
   have d6:q9 w3 g m3 x3:=by rw[<-g9,<-f6];exact d7
   have k4:=dH g2;have k6:=dH g9;have j9:=dH f6;rw[g2];have b6:=(c9.block g8 (aG b4).1 c2).trans b4;have g0:=store_refN rv b6;have f2:=setRow_heap w3 g8 _ (yG ⟨d,⟨(nv:Int),rv,⟨#[]⟩⟩⟩) _ _ b6;have a4:z9 [g8] w3 (w3.setRow g8 (yG ⟨d,⟨(nv:Int),rv,⟨#[]⟩⟩⟩)):=⟨rfl,rfl,rfl,by simp[setRow],λx _ hx=>setRow_other w3 g8 x _ (by simpa using hx)⟩
   have g3:=d6.kept a4 g7;have c7:z9 [g,g8] wr (w3.setRow g8 (yG ⟨d,⟨(nv:Int),rv,⟨#[]⟩⟩⟩)):=z9.trans (z9.trans a0 (c9.mono (S':=[g,g8]) sI) iL) (a4.mono (S':=[g,g8]) sI) iL;clear g2 g9 f6 d7 d6 c9 b4 b6 g4 a0 a4;go_upto_region 8 with fail
   obtain⟨V2,hV⟩:=eX (w3.setRow g8 (yG ⟨d,⟨(nv:Int),rv,⟨#[]⟩⟩⟩))
   rw[hV]at f2 g3 c7;rw[hV];clear hV g0;have l4:=xP 1 (m3) (x3);(go_wp2_with fail);refine(fO _ g _ _ g3).mono ?_;rintro e w2 ⟨rfl,M,d0⟩;(go_wp2_with fail);refine(dO _ g _ _ _ M oM).mono ?_;rintro e w3 ⟨rfl,d7,c9⟩;have j7:q9 w3 g (txL (m3) (x3)) (txE (m3) (x3)):=d7;have c6:z9 [g] V2 w3:=z9.trans d0 c9 iL;have b4:=(c6.block g8 (aG f2).1 c2).trans f2;obtain⟨vv,h2⟩:=eX (mkB (yY (xB 1 (m3) (x3)) (zN 1 (m3) (x3)) (zO 1 (m3) (x3))))
   have k3:=dH (show txV (m3) (x3)=vv from h2);rw[h2];have x0:w3.cell? ⟨g8,65,none⟩=some (.string ⟨#[]⟩):=by rw[cell_of_row w3 g8 _ _ _ _ b4];first | exact aO _ _ _ _ | (simp[go_sem];done)
   have f0:w3.frozen? ⟨g8,65,none⟩=false:=by simp[frozen?,b4]
   have b6:=zF b4 65 (.string vv);rw[js]at b6;have a4:=z9.setCell w3 ⟨g8,65,none⟩ (.string vv);have i6:=j7.kept a4 g7;have a0:z9 [g,g8] V2 (w3.setCell ⟨g8,65,none⟩ (.string vv)):=z9.trans (c6.mono (S':=[g,g8]) sI) (a4.mono (S':=[g,g8]) sI) iL;clear M d7 d0 c9 h2 j7 l4 b4 a4 c6 g3 f2;go_upto_region 9 with fail
   obtain⟨Z,hZ⟩:=eX (w3.setCell ⟨g8,65,none⟩ (.string vv))
   rw[hZ]at b6 i6 a0;rw[hZ];have e9:z9 [g,g8] wr Z:=z9.trans c7 a0 iL;clear hZ x0 f0 a0 c7;have j8:∀x∈blk A1,x∉[g,g8]:=λx hx=>(oS (L.at_base hx));have b9:=L.kept e9 j8;have h6:z9 [g] wr Z:=e9.mono (by intro x hx;simp at hx;rcases hx with rfl | rfl <;> simp;omega);obtain⟨y1,y2,y3⟩:=nP_eq k8.out k1.out k7.out k0.out k6.out j9.out;have hx:nP.one l1 0=⟨d,(nv:Int),rv,vv⟩:=by rw[y1,Hd.out,k5.out,k4.out,k3.out]
   have b8:d5 nP ⟨R,l1,0⟩=⟨R ++ [⟨d,(nv:Int),rv,vv⟩],txL m3 x3,txE m3 x3⟩:=by unfold d5;simp only;rw[hx,y2,y3]
   rw[b8]at b1;rw[hx]at i7;obtain⟨xx,f5⟩:∃xx:zW,⟨d,(nv:Int),rv,vv⟩=xx:=⟨_,rfl⟩
   have j0:yG ⟨d,⟨(nv:Int),rv,vv⟩⟩=nnC xx:=by rw[<-f5];rfl
   rw[j0]at b6;rw[f5]at i7 b1;clear f5 j0 hx L j8 b8 Hd k3 y1 y2 y3 k5 k4 k8 k1 k7 k0 k6 j9;have d4:zA Z g8 0 66=some (nnC xx):=by unfold zA;rw[b6];simp[go_sem]
   have a8:Below Z.heap.size Z (Z.alloc (.cells (nnC xx) 287)):=bA;have f:=b9.below a8;have s:zA (Z.alloc (.cells (nnC xx) 287)) Z.heap.size 0 66=some (nnC xx):=by simp[go_sem]
   have d2:w1.heap.size<=Z.heap.size:=oH e9.size;clear b9 b6 e9;go_wp2_with (at_builtin;refine xN einfoNN rfl f rfl s (nnC_one _) oM oM sO ?_;intro e7 T b7 t F H)
   have a6:z9 (blk A1) Z b7:=z9.trans ((z9.of_below a8).mono (S':=blk A1) sI) F iL;have a9:=i6.kept a6 l6;have d9:z9 [g] w1 b7:=z9.trans (z9.trans hk h6 iL) a6 (λx hx=>.inr (oH ((f.at_base hx).1)));rw[(sI:R.map nnC ++ [nnC xx]=(R ++ [xx]).map nnC)]at t;have y:(R ++ [xx]).length=R.length+1:=sI;have j:=dH y;clear y a6 F H f s a8 d4 i6;(go_wp2_with fail);go_roundw
   case rel=>exact⟨k+1,R ++ [xx],_,_,e7,T,oM,by go_num,(by rw[j.out]),(by rw[j.out,m0.out]),(by rw[j.out];exact t),a9,b1,i7,d9⟩
   case measure=>exact sZ
  ·have e3:yQ l=⟨R,l1,e1⟩:=by
    rw[j2.out,e8.out];by_cases he:e1=0
    ·rw[(oM:N-k=0)];rfl
    ·exact v8 _ _ he
   have D:=dH e3;have j5:=f1.out;have f4:=dH j5;clear e3 e8 j2 f1 j5;have h4:z9 [g] w wr:=z9.trans l9.out hk iL;have k9:=dH h4;have d3:=h4.size;clear h4;obtain⟨wA,rfl⟩:∃wA,wA=wr:=⟨wr,rfl⟩
   by_cases l5:k<N
   ·have he:e1≠0:=oM;have m7:(e1==0)=false:=by simpa using he
    clear hgo;(go_wp2_with fail);refine(xI _ g l1 e1 hr).mono ?_;rintro e w5 ⟨rfl,rfl⟩;(go_wp2_with fail);refine(kM _ g l1 e1 hr).mono ?_;rintro e w9 ⟨rfl,c1,c4⟩;have i4:=xP 4 l1 e1;obtain⟨N2,a1⟩:=eX (xB 4 l1 e1)
    have a3:Hid (xE l=qJ idP N2 ⟨[],zN 4 l1 e1,zO 4 l1 e1⟩):=by show _=_;rw[<-a1];unfold xE;rw[D.out];rfl
    rw[a1]at i4 |-;have J:=L.kept c4 (λx hx=>oS ((L.at_base hx).1));have b2:=dH (z9.trans k9.out c4 iL);have g1:w.heap.size<=w9.heap.size:=b2.out.size;have b0:=dH (J.mono (B':=w.heap.size) oM);have i9:=dH (λx (hx:x∈blk A1)=>J.at_base hx);have l7:=c1.lt;clear a1 L J c4 hr hk j1 d3;(go_wp2_with fail);go_loopw [3,7] (λout i wq=>∃(k:Nat) (G:List zB) (l2:List UInt8) (e2:Int) (B1:Option Addr) (a2:Nat),k<=N2/\i=.int .i64 k/\out=.slice B1 G.length a2/\G.length=k/\Own wq w9.heap.size 31 32 B1 G.length a2 (G.map idC)/\q9 wq g l2 e2/\Hid (qJ idP N2 ⟨[],zN 4 l1 e1,zO 4 l1 e1⟩=qJ idP (N2-k) ⟨G,l2,e2⟩)/\z9 [g] w9 wq) (λ_ i _=>N2-(intOf i).toNat)
    case atStart=>exact⟨0,[],_,_,none,0,zL,rfl,rfl,rfl,Own.nil _ _ _ _,c1,(show _=_ from rfl),z9.refl _ _⟩
    case round =>
     clear c1;obtain⟨k2,G,l2,e2,B1,a2,h3,rfl,rfl,e4,m,M,E,a5⟩:=hrel;have i8:=dH e4;have l8:G.length<=N2:=oM;clear e4;have f9:=a5.size;by_cases a7:k2<N2/\e2=0
     ·obtain⟨c3,rfl⟩:=a7;have U:=E.out;rw[(oM:N2-k2=(N2-(k2+1))+1),vA _ _ rfl]at U;have b1:=dH U;clear U E;have i0:g∉blk B1:=λhx=>(oH ((m.at_base hx).1));(go_wp2_with fail);refine(xI _ g l2 0 M).mono ?_;rintro e w5 ⟨rfl,rfl⟩;(go_wp2_with fail);refine(sq_id _ g l2 0 M).mono ?_;rintro e w6 ⟨rfl,b5,b3⟩;have b8:d5 idP ⟨G,l2,0⟩=⟨G ++ [xV (yY 32 l2 0)],zN 32 l2 0,zO 32 l2 0⟩:=rfl;rw[b8]at b1;obtain⟨d,hd⟩:=eX (xV (yY 32 l2 0))
      rw[hd]at b1 |-;have I:=m.kept b3 (λx hx=>oS ((m.at_base hx).1));have a8:Below w6.heap.size w6 (w6.alloc (.cells (idC d) 31)):=bA;have f:=I.below a8;have s:zA (w6.alloc (.cells (idC d) 31)) w6.heap.size 0 32=some (idC d):=by simp[go_sem]
      have d2:w9.heap.size<=w6.heap.size:=oH b3.size;clear hd b8 m I M;go_wp2_with (at_builtin;refine xN yP rfl f rfl s (yN _) oM oM sO ?_;intro e7 T b7 t F H)
      have a6:z9 (blk B1) w6 b7:=z9.trans ((z9.of_below a8).mono (S':=blk B1) sI) F iL;have a9:=q9.kept b5 a6 i0;have d9:z9 [g] w9 b7:=z9.trans (z9.trans a5 b3 iL) a6 (λx hx=>.inr (oH ((f.at_base hx).1)));rw[(sI:G.map idC ++ [idC d]=(G ++ [d]).map idC)]at t;have y:(G ++ [d]).length=G.length+1:=sI;have j:=dH y;clear y a6 F H f s a8 b5;(go_wp2_with fail);go_roundw
      case rel=>exact⟨k2+1,G ++ [d],_,_,e7,T,oM,by go_num,(by rw[j.out]),(by rw[j.out,i8.out]),(by rw[j.out];exact t),a9,b1,d9⟩
      case measure=>exact sZ
     ·have O:xE l=⟨G,l2,e2⟩:=by
       rw[a3.out,E.out];by_cases he:e2=0
       ·rw[(oM:N2-k2=0)];rfl
       ·exact v8 _ _ he
      have r:=dH O;clear O E a3;have e6:=dH (z9.trans b2.out a5 iL);have Y:=dH (b0.out.kept a5 (λx hx=>oS ((i9.out x hx).1)));have X:=dH (m.mono (B':=w.heap.size) g1);clear m a5;by_cases c3:k2<N2
      ·have i2:e2≠0:=oM;have i1:(e2==0)=false:=by simpa using i2
       clear a7;(go_wp2_with fail);refine(xI _ g l2 e2 M).mono ?_;rintro e w5 ⟨rfl,rfl⟩;(go_wp2_with fail);go_ret2;exact⟨_,_,_,_,(by rw[D.out,r.out];rfl),by rw[D.out];exact Y.out,by rw[r.out];exact X.out,by rw[r.out];exact M,e6.out,by rw[D.out];exact f4.out⟩
      ·(go_wp2_with fail);go_ret2;exact⟨_,_,_,_,(by rw[D.out,r.out];rfl),by rw[D.out];exact Y.out,by rw[r.out];exact X.out,by rw[r.out];exact M,e6.out,by rw[D.out];exact f4.out⟩
   ·(go_wp2_with fail);refine(kM _ g l1 e1 hr).mono ?_;rintro e w9 ⟨rfl,c1,c4⟩;have i4:=xP 4 l1 e1;obtain⟨N2,a1⟩:=eX (xB 4 l1 e1)
    have a3:Hid (xE l=qJ idP N2 ⟨[],zN 4 l1 e1,zO 4 l1 e1⟩):=by show _=_;rw[<-a1];unfold xE;rw[D.out];rfl
    rw[a1]at i4 |-;have J:=L.kept c4 (λx hx=>oS ((L.at_base hx).1));have b2:=dH (z9.trans k9.out c4 iL);have g1:w.heap.size<=w9.heap.size:=b2.out.size;have b0:=dH (J.mono (B':=w.heap.size) oM);have i9:=dH (λx (hx:x∈blk A1)=>J.at_base hx);have l7:=c1.lt;clear a1 L J c4 hr hk j1 d3;(go_wp2_with fail);go_loopw [3,7] (λout i wq=>∃(k:Nat) (G:List zB) (l2:List UInt8) (e2:Int) (B1:Option Addr) (a2:Nat),k<=N2/\i=.int .i64 k/\out=.slice B1 G.length a2/\G.length=k/\Own wq w9.heap.size 31 32 B1 G.length a2 (G.map idC)/\q9 wq g l2 e2/\Hid (qJ idP N2 ⟨[],zN 4 l1 e1,zO 4 l1 e1⟩=qJ idP (N2-k) ⟨G,l2,e2⟩)/\z9 [g] w9 wq) (λ_ i _=>N2-(intOf i).toNat)
    case atStart=>exact⟨0,[],_,_,none,0,zL,rfl,rfl,rfl,Own.nil _ _ _ _,c1,(show _=_ from rfl),z9.refl _ _⟩
    case round =>
     clear c1;obtain⟨k2,G,l2,e2,B1,a2,h3,rfl,rfl,e4,m,M,E,a5⟩:=hrel;have i8:=dH e4;have l8:G.length<=N2:=oM;clear e4;have f9:=a5.size;by_cases a7:k2<N2/\e2=0
     ·obtain⟨c3,rfl⟩:=a7;have U:=E.out;rw[(oM:N2-k2=(N2-(k2+1))+1),vA _ _ rfl]at U;have b1:=dH U;clear U E;have i0:g∉blk B1:=λhx=>(oH ((m.at_base hx).1));(go_wp2_with fail);refine(xI _ g l2 0 M).mono ?_;rintro e w5 ⟨rfl,rfl⟩;(go_wp2_with fail);refine(sq_id _ g l2 0 M).mono ?_;rintro e w6 ⟨rfl,b5,b3⟩;have b8:d5 idP ⟨G,l2,0⟩=⟨G ++ [xV (yY 32 l2 0)],zN 32 l2 0,zO 32 l2 0⟩:=rfl;rw[b8]at b1;obtain⟨d,hd⟩:=eX (xV (yY 32 l2 0))
      rw[hd]at b1 |-;have I:=m.kept b3 (λx hx=>oS ((m.at_base hx).1));have a8:Below w6.heap.size w6 (w6.alloc (.cells (idC d) 31)):=bA;have f:=I.below a8;have s:zA (w6.alloc (.cells (idC d) 31)) w6.heap.size 0 32=some (idC d):=by simp[go_sem]
      have d2:w9.heap.size<=w6.heap.size:=oH b3.size;clear hd b8 m I M;go_wp2_with (at_builtin;refine xN yP rfl f rfl s (yN _) oM oM sO ?_;intro e7 T b7 t F H)
      have a6:z9 (blk B1) w6 b7:=z9.trans ((z9.of_below a8).mono (S':=blk B1) sI) F iL;have a9:=q9.kept b5 a6 i0;have d9:z9 [g] w9 b7:=z9.trans (z9.trans a5 b3 iL) a6 (λx hx=>.inr (oH ((f.at_base hx).1)));rw[(sI:G.map idC ++ [idC d]=(G ++ [d]).map idC)]at t;have y:(G ++ [d]).length=G.length+1:=sI;have j:=dH y;clear y a6 F H f s a8 b5;(go_wp2_with fail);go_roundw
      case rel=>exact⟨k2+1,G ++ [d],_,_,e7,T,oM,by go_num,(by rw[j.out]),(by rw[j.out,i8.out]),(by rw[j.out];exact t),a9,b1,d9⟩
      case measure=>exact sZ
     ·have O:xE l=⟨G,l2,e2⟩:=by
       rw[a3.out,E.out];by_cases he:e2=0
       ·rw[(oM:N2-k2=0)];rfl
       ·exact v8 _ _ he
      have r:=dH O;clear O E a3;have e6:=dH (z9.trans b2.out a5 iL);have Y:=dH (b0.out.kept a5 (λx hx=>oS ((i9.out x hx).1)));have X:=dH (m.mono (B':=w.heap.size) g1);clear m a5;by_cases c3:k2<N2
      ·have i2:e2≠0:=oM;have i1:(e2==0)=false:=by simpa using i2
       clear a7;(go_wp2_with fail);refine(xI _ g l2 e2 M).mono ?_;rintro e w5 ⟨rfl,rfl⟩;(go_wp2_with fail);go_ret2;exact⟨_,_,_,_,(by rw[D.out,r.out];rfl),by rw[D.out];exact Y.out,by rw[r.out];exact X.out,by rw[r.out];exact M,e6.out,by rw[D.out];exact f4.out⟩
      ·(go_wp2_with fail);go_ret2;exact⟨_,_,_,_,(by rw[D.out,r.out];rfl),by rw[D.out];exact Y.out,by rw[r.out];exact X.out,by rw[r.out];exact M,e6.out,by rw[D.out];exact f4.out⟩
def mP:RowP qO :=
 ⟨λl e=>⟨xV (yY 32 l e),txV (zN 32 l e) (zO 32 l e),txV (txL (zN 32 l e) (zO 32 l e)) (txE (zN 32 l e) (zO 32 l e))⟩,
  λl e=>txL (txL (zN 32 l e) (zO 32 l e)) (txE (zN 32 l e) (zO 32 l e)),
  λl e=>txE (txL (zN 32 l e) (zO 32 l e)) (txE (zN 32 l e) (zO 32 l e)),vY,λx=>x.key.size<=255/\x.val.size<=255⟩
theorem mLaw:pY mP where
 split l e h:=by
  obtain⟨h1,h2⟩:=lJ (show txE (txL (zN 32 l e) (zO 32 l e)) (txE (zN 32 l e) (zO 32 l e))=0 from h);obtain⟨h3,h4⟩:=lJ h1;obtain⟨h5,h6⟩:=iN h3;refine⟨h5,?_⟩;show vY _++_=l;unfold vY;simp only[append_assoc];show(xV (yY 32 l e)).l++(beL 1 (txV (zN 32 l e) (zO 32 l e)).size++((txV (zN 32 l e) (zO 32 l e)).data.toList++(beL 1 (txV (txL (zN 32 l e) (zO 32 l e)) (txE (zN 32 l e) (zO 32 l e))).size++((txV (txL (zN 32 l e) (zO 32 l e)) (txE (zN 32 l e) (zO 32 l e))).data.toList++txL (txL (zN 32 l e) (zO 32 l e)) (txE (zN 32 l e) (zO 32 l e))))))=l;rw[h2,h4,h6]
 back x t hx:=by
  obtain⟨d,k,v⟩:=x;obtain⟨hk,hv⟩:=hx;have e0:vY ⟨d,k,v⟩++t=d.l++(beL 1 k.size++(k.data.toList++(beL 1 v.size++(v.data.toList++t)))):=by simp[vY]
  show(⟨xV (yY 32 (vY ⟨d,k,v⟩++t) 0),txV (zN 32 (vY ⟨d,k,v⟩++t) 0) (zO 32 (vY ⟨d,k,v⟩++t) 0),txV (txL (zN 32 (vY ⟨d,k,v⟩++t) 0) (zO 32 (vY ⟨d,k,v⟩++t) 0)) (txE (zN 32 (vY ⟨d,k,v⟩++t) 0) (zO 32 (vY ⟨d,k,v⟩++t) 0))⟩:qO)=_/\txL (txL (zN 32 (vY ⟨d,k,v⟩++t) 0) (zO 32 (vY ⟨d,k,v⟩++t) 0)) (txE (zN 32 (vY ⟨d,k,v⟩++t) 0) (zO 32 (vY ⟨d,k,v⟩++t) 0))=_/\txE (txL (zN 32 (vY ⟨d,k,v⟩++t) 0) (zO 32 (vY ⟨d,k,v⟩++t) 0)) (txE (zN 32 (vY ⟨d,k,v⟩++t) 0) (zO 32 (vY ⟨d,k,v⟩++t) 0))=0;rw[e0];obtain⟨a1,a2,a3⟩:=iP (d:=d) (beL 1 k.size++(k.data.toList++(beL 1 v.size++(v.data.toList++t))));obtain⟨b1,b2,b3⟩:=BV (s:=k) (by simp at hk;omega) (beL 1 v.size++(v.data.toList++t));obtain⟨c1,c2,c3⟩:=BV (s:=v) (by simp at hv;omega) t;rw[a1,a2,a3,b1,b2,b3,c1,c2,c3];exact⟨rfl,rfl,rfl⟩
 some_ x:=by show 1<=(vY x).length;rw[VW];omega
def xW(l:List UInt8):nD qO:=j5 mP l 0
def qE(l:List UInt8):nD zB:=j5 idP (xW l).l (xW l).e
def FitsM(R:List qO):Prop:=∀x∈R,x.key.size<=255/\x.val.size<=255
theorem fitsM_step{R:List qO}(h:FitsM R)(l:List UInt8)(e:Int):FitsM (R ++ [mP.one l e]):=λx hx=>by
 rcases mem_append.1 hx with h' | h'
 ·exact h x h'
 ·simp at h';subst h';exact⟨wP _ _,wP _ _⟩
theorem ml_id(w:World)(g:Nat)(l:List UInt8)(e:Int)(h:q9 w g l e) :
  Calls prog 255 #[.pointer (some ⟨g,0,none⟩)] w λen w'=>en=.returned (.agg (idC (xV (yY 32 l e))))/\lD w g (zN 32 l e) (zO 32 l e) w':=by
 have s:Below w.heap.size w ((w.alloc (.cells (idC id0) 31)).alloc (.cells (idC id0) 31)):=(bA).alloc sI _;have F:((w.alloc (.cells (idC id0) 31)).alloc (.cells (idC id0) 31)).heap[w.heap.size]?=some (.cells (idC id0) 31 (0,0)):=by
  rw[Below.heap_alloc _ _ _ sI];exact heap_alloc_new w _
 have r:((w.alloc (.cells (idC id0) 31)).alloc (.cells (idC id0) 31)).heap[w.heap.size+1]?=some (.cells (idC id0) 31 (0,0)):=by
  have:=heap_alloc_new (w.alloc (.cells (idC id0) 31)) (.cells (idC id0) 31);simpa using this
 have Y:=h.lt;have t:=h.below s;have k:((w.alloc (.cells (idC id0) 31)).alloc (.cells (idC id0) 31)).heap.size=w.heap.size+2:=sI;have G:=dH k;clear k h;go_enter func255,ntmps255
 go_upto_region 2 with fail
 obtain⟨ga,O⟩:=eX w.heap.size
 have a1:=dH O;obtain⟨W,hW⟩:=eR ((w.alloc (.cells (idC id0) 31)).alloc (.cells (idC id0) 31))
 rw[<-hW]at s F r t G |-;rw[O]at F r Y |-;clear hW;have E:ga+1<W.heap.size:=(aG r).1;have c1:=wT W.drew g l e (t.kept (z9.drew W) sI);refine kX [g,ga+1] W ?_;intro X hS;refine lQ ?_;intro K hK;refine c1.mono ?_;rintro en w1 ⟨rfl,L,D⟩;replace hS:=yC hS D sI;have m:w1.heap[ga+1]?=_:=(D.block (ga+1) (by show _<W.drew.heap.size;exact E) sO).trans r;refine⟨_,rfl,hS,hK _ _ ?_⟩;clear hK K c1;obtain⟨w2,m2,Z,f,B⟩:=pQ (yY 32 l e) (mK _ _) 3 32 m;refine lH ?_;intro K hK;refine zI (yC hS B sI) (λR=>?_);refine hK _ _ ?_;clear hK K;refine zD ?_;intro hS;have y:z9 [g,ga+1] W w2:=R;have J:=L.kept B sO;have j:=(y.block ga oM sO).trans F;clear Z hS R X D B L t m;obtain⟨d,hd⟩:=eX (xV (yY 32 l e))
 rw[hd]at f;have Hd:=dH hd;clear hd;have V:zA w2 (ga+1) 0 32=some (idC d):=by unfold zA;rw[f];simp[go_sem]
 have T:=y9 (P:=prog) xU w2 ga (idC id0) (idC d) _ j sI sI (yN _);have A:z9 [ga] w2 (w2.setRow ga (idC d)):=⟨rfl,rfl,rfl,by simp[setRow],λx _ hx=>setRow_other w2 ga x _ (by simpa using hx)⟩
 have H:=dH (setRow_heap w2 ga _ (idC d) _ _ j);have I:=J.kept A sO;have N:z9 [g,ga,ga+1] w (w2.setRow ga (idC d)):=z9.trans (z9.trans ((z9.of_below s).mono (S':=[g,ga,ga+1]) sI) (y.mono (S':=[g,ga,ga+1]) sI) iL) (A.mono (S':=[g,ga,ga+1]) sI) iL;have M:z9 [g] w (w2.setRow ga (idC d)):=N.narrow (λx hx=>by have:=a1.out;simp at hx |-;omega);have U:=dH I;have a0:=dH M;clear I J N M A j f s y;(go_wp2_with fail);exact bodyPost_ret (results_cell_row results255 _ _ ga 31 (idC d) (0,0) _ rfl H.out underlying31 rfl (by rw[xQ];exact xU)) rfl ⟨by rw[Hd.out],U.out,a0.out⟩
theorem vd(d:zB)(k k' v:ByteArray):(zV ⟨d,k,v⟩).setIfInBounds 32 (.string k')=zV ⟨d,k',v⟩:=by
 apply Array.ext';simp[zV]
theorem vc(d:zB)(k v v':ByteArray):(zV ⟨d,k,v⟩).setIfInBounds 33 (.string v')=zV ⟨d,k,v'⟩:=by
 apply Array.ext';simp[zV]
theorem mlread(w:World)(g:Nat)(l:List UInt8)(f2:q9 w g l 0) :
  Calls prog 189 #[.pointer (some ⟨g,0,none⟩)] w λe w'=>∃A cap B cap',e=.returned (.tuple #[.slice A (xW l).rows.length cap,.slice B (qE l).rows.length cap'])/\Own w' w.heap.size 230 34 A (xW l).rows.length cap ((xW l).rows.map zV)/\Own w' w.heap.size 31 32 B (qE l).rows.length cap' ((qE l).rows.map idC)/\q9 w' g (qE l).l (qE l).e/\z9 [g] w w'/\FitsM (xW l).rows:=by
 have c0:=kM _ _ l 0 f2;have hN:=xP 4 l 0;obtain⟨N,g2⟩:=eX (xB 4 l 0)
 have h2:Hid (xW l=qJ mP N ⟨[],zN 4 l 0,zO 4 l 0⟩):=by show _=_;rw[<-g2];rfl
 rw[g2]at c0 hN;clear g2;have j5:=f2.lt;go_enter func189,ntmps189
 (go_wp2_with fail);refine c0.mono ?_;rintro e w1 ⟨rfl,h3,f8⟩;have j1:=dH f8;have i6:=f8.size;clear c0 f2 f8;(go_wp2_with fail);go_loopw [2,5,6] (λout i _ wr=>∃(k:Nat) (R:List qO) (l1:List UInt8) (e1:Int) (A1:Option Addr) (c7:Nat),k<=N/\i=.int .i64 k/\out=.slice A1 R.length c7/\R.length=k/\Own wr w1.heap.size 230 34 A1 R.length c7 (R.map zV)/\q9 wr g l1 e1/\Hid (qJ mP N ⟨[],zN 4 l 0,zO 4 l 0⟩=qJ mP (N-k) ⟨R,l1,e1⟩)/\Hid (FitsM R)/\z9 [g] w1 wr) (λ_ i _ _=>N-(intOf i).toNat)
 case atStart=>exact⟨0,[],_,_,none,0,zL,rfl,rfl,rfl,Own.nil _ _ _ _,h3,(show _=_ from rfl),(show FitsM [] by intro x hx;cases hx),z9.refl _ _⟩
 case round =>
  clear h3;obtain⟨k,R,l1,e1,A1,c7,j3,rfl,rfl,h9,L,hr,e5,e7,hk⟩:=hrel;have j2:=dH h9;have j7:R.length<=N:=oM;clear h9;have h1:=hk.size;by_cases hgo:k<N/\e1=0
  ·obtain⟨i7,rfl⟩:=hgo;have E:=e5.out;rw[(oM:N-k=(N-(k+1))+1),vA _ _ rfl]at E;have b2:=dH E;have d7:=fitsM_step e7.out l1 0;have g6:=dH d7;clear e5 E e7 d7;have j4:=hr.lt;have i8:g∉blk A1:=λhx=>(oH ((L.at_base hx).1));(go_wp2_with fail);refine(xI _ g l1 0 hr).mono ?_;rintro e w5 ⟨rfl,rfl⟩;(go_wp2_with fail);refine(ml_id _ g l1 0 hr).mono ?_;rintro e w6 ⟨rfl,b9,a6⟩;obtain⟨d,hd⟩:=eX (xV (yY 32 l1 0))
   rw[hd];have Hd:=dH hd;have h8:=heap_alloc_new w6 (.cells (zV ⟨d,⟨#[]⟩,⟨#[]⟩⟩) 230);have g4:=q9.kept b9 (z9.alloc w6 (.cells (zV ⟨d,⟨#[]⟩,⟨#[]⟩⟩) 230)) sI;have f6:z9 [g] wr (w6.alloc (.cells (zV ⟨d,⟨#[]⟩,⟨#[]⟩⟩) 230)):=z9.trans a6 (z9.alloc w6 _) sI;have i5:=a6.size;clear hd b9 a6 hr;go_upto_region 6 with fail
   obtain⟨g8,h6⟩:=eX w6.heap.size
   obtain⟨W,hW⟩:=eX (w6.alloc (.cells (zV ⟨d,⟨#[]⟩,⟨#[]⟩⟩) 230))
   rw[hW]at h8 g4 f6;rw[hW];rw[h6]at h8 i5 |-;have d2:g8∉[g]:=sO;have h4:g∉[g8]:=sO;clear hW h6;have f3:=xP 1 (zN 32 l1 0) (zO 32 l1 0);(go_wp2_with fail);refine(fO _ g _ _ g4).mono ?_;rintro e w2 ⟨rfl,M,d6⟩;(go_wp2_with fail);refine(dO _ g _ _ _ M oM).mono ?_;rintro e w3 ⟨rfl,d1,d4⟩;have e0:q9 w3 g (txL (zN 32 l1 0) (zO 32 l1 0)) (txE (zN 32 l1 0) (zO 32 l1 0)):=d1;have a0:z9 [g] W w3:=z9.trans d6 d4 iL;have b5:=(a0.block g8 (aG h8).1 d2).trans h8;obtain⟨kv,c3⟩:=eX (mkB (yY (xB 1 (zN 32 l1 0) (zO 32 l1 0)) (zN 1 (zN 32 l1 0) (zO 32 l1 0)) (zO 1 (zN 32 l1 0) (zO 32 l1 0))))
   have i3:=dH (show txV (zN 32 l1 0) (zO 32 l1 0)=kv from c3);rw[c3];have x0:w3.cell? ⟨g8,32,none⟩=some (.string ⟨#[]⟩):=by rw[cell_of_row w3 g8 _ _ _ _ b5];first | exact aO _ _ _ _ | (simp[go_sem];done)
   have f0:w3.frozen? ⟨g8,32,none⟩=false:=by simp[frozen?,b5]
   have b4:=zF b5 32 (.string kv);rw[vd]at b4;have c4:=z9.setCell w3 ⟨g8,32,none⟩ (.string kv);have c6:=e0.kept c4 h4;have a1:z9 [g,g8] W (w3.setCell ⟨g8,32,none⟩ (.string kv)):=z9.trans (a0.mono (S':=[g,g8]) sI) (c4.mono (S':=[g,g8]) sI) iL;clear M d1 d6 d4 c3 e0 f3 b5 c4 a0 g4 h8;go_upto_region 7 with fail
   obtain⟨V,hV⟩:=eX (w3.setCell ⟨g8,32,none⟩ (.string kv))
   rw[hV]at b4 c6 a1;rw[hV];have h5:z9 [g,g8] wr V:=z9.trans (f6.mono (S':=[g,g8]) sI) a1 iL;have i0:=c6;have g5:=b4;clear hV x0 f0 b4 c6 a1 f6;have f3:=xP 1 (txL (zN 32 l1 0) (zO 32 l1 0)) (txE (zN 32 l1 0) (zO 32 l1 0));(go_wp2_with fail);refine(fO _ g _ _ i0).mono ?_;rintro e w2 ⟨rfl,M,d6⟩;(go_wp2_with fail);refine(dO _ g _ _ _ M oM).mono ?_;rintro e w3 ⟨rfl,d1,d4⟩;have e0:q9 w3 g (txL (txL (zN 32 l1 0) (zO 32 l1 0)) (txE (zN 32 l1 0) (zO 32 l1 0))) (txE (txL (zN 32 l1 0) (zO 32 l1 0)) (txE (zN 32 l1 0) (zO 32 l1 0))):=d1;have a0:z9 [g] V w3:=z9.trans d6 d4 iL;have b5:=(a0.block g8 (aG g5).1 d2).trans g5;obtain⟨vv,c3⟩:=eX (mkB (yY (xB 1 (txL (zN 32 l1 0) (zO 32 l1 0)) (txE (zN 32 l1 0) (zO 32 l1 0))) (zN 1 (txL (zN 32 l1 0) (zO 32 l1 0)) (txE (zN 32 l1 0) (zO 32 l1 0))) (zO 1 (txL (zN 32 l1 0) (zO 32 l1 0)) (txE (zN 32 l1 0) (zO 32 l1 0)))))
   have i2:=dH (show txV (txL (zN 32 l1 0) (zO 32 l1 0)) (txE (zN 32 l1 0) (zO 32 l1 0))=vv from c3);rw[c3];have x0:w3.cell? ⟨g8,33,none⟩=some (.string ⟨#[]⟩):=by rw[cell_of_row w3 g8 _ _ _ _ b5];first | exact aO _ _ _ _ | (simp[go_sem];done)
   have f0:w3.frozen? ⟨g8,33,none⟩=false:=by simp[frozen?,b5]
   have b4:=zF b5 33 (.string vv);rw[vc]at b4;have c4:=z9.setCell w3 ⟨g8,33,none⟩ (.string vv);have c6:=e0.kept c4 h4;have a1:z9 [g,g8] V (w3.setCell ⟨g8,33,none⟩ (.string vv)):=z9.trans (a0.mono (S':=[g,g8]) sI) (c4.mono (S':=[g,g8]) sI) iL;clear M d1 d6 d4 c3 e0 f3 b5 c4 a0 i0 g5;go_upto_region 8 with fail
   obtain⟨Z,hZ⟩:=eX (w3.setCell ⟨g8,33,none⟩ (.string vv))
   rw[hZ]at b4 c6 a1;rw[hZ];have e6:z9 [g,g8] wr Z:=z9.trans h5 a1 iL;clear hZ x0 f0 a1 h5;have i1:∀x∈blk A1,x∉[g,g8]:=λx hx=>(oS (L.at_base hx));have b8:=L.kept e6 i1;have f7:z9 [g] wr Z:=e6.mono (by intro x hx;simp at hx;rcases hx with rfl | rfl <;> simp;omega);have hx:mP.one l1 0=⟨d,kv,vv⟩:=by
    show(⟨xV (yY 32 l1 0),txV (zN 32 l1 0) (zO 32 l1 0),txV (txL (zN 32 l1 0) (zO 32 l1 0)) (txE (zN 32 l1 0) (zO 32 l1 0))⟩:qO)=_;rw[Hd.out,i3.out,i2.out]
   have b7:d5 mP ⟨R,l1,0⟩=⟨R ++ [⟨d,kv,vv⟩],txL (txL (zN 32 l1 0) (zO 32 l1 0)) (txE (zN 32 l1 0) (zO 32 l1 0)),txE (txL (zN 32 l1 0) (zO 32 l1 0)) (txE (zN 32 l1 0) (zO 32 l1 0))⟩:=by unfold d5;rw[hx];rfl
   rw[b7]at b2;rw[hx]at g6;obtain⟨xx,h0⟩:∃xx:qO,⟨d,kv,vv⟩=xx:=⟨_,rfl⟩
   rw[h0]at b4 g6 b2;clear h0 hx L i1 b7 Hd i3 i2;have d0:zA Z g8 0 34=some (zV xx):=by unfold zA;rw[b4];simp[go_sem]
   have a9:Below Z.heap.size Z (Z.alloc (.cells (zV xx) 230)):=bA;have f:=b8.below a9;have s:zA (Z.alloc (.cells (zV xx) 230)) Z.heap.size 0 34=some (zV xx):=by simp[go_sem]
   have c8:w1.heap.size<=Z.heap.size:=oH e6.size;clear b8 b4 e6;go_wp2_with (at_builtin;refine xN rC rfl f rfl s (m6 _) oM oM sO ?_;intro e4 T b6 t F H)
   have a7:z9 (blk A1) Z b6:=z9.trans ((z9.of_below a9).mono (S':=blk A1) sI) F iL;have b0:=c6.kept a7 i8;have d3:z9 [g] w1 b6:=z9.trans (z9.trans hk f7 iL) a7 (λx hx=>.inr (oH ((f.at_base hx).1)));rw[(sI:R.map zV ++ [zV xx]=(R ++ [xx]).map zV)]at t;have y:(R ++ [xx]).length=R.length+1:=sI;have j:=dH y;clear y a7 F H f s a9 d0 c6;(go_wp2_with fail);go_roundw
   case rel=>exact⟨k+1,R ++ [xx],_,_,e4,T,oM,by go_num,(by rw[j.out]),(by rw[j.out,j2.out]),(by rw[j.out];exact t),b0,b2,g6,d3⟩
   case measure=>exact sZ
  ·have d8:xW l=⟨R,l1,e1⟩:=by
    rw[h2.out,e5.out];by_cases he:e1=0
    ·rw[(oM:N-k=0)];rfl
    ·exact v8 _ _ he
   have D:=dH d8;have h7:=e7.out;have e8:=dH h7;clear d8 e5 h2 e7 h7;have f5:z9 [g] w wr:=z9.trans j1.out hk iL;have i4:=dH f5;have c9:=f5.size;clear f5;obtain⟨wA,rfl⟩:∃wA,wA=wr:=⟨wr,rfl⟩
   by_cases i7:k<N
   ·have he:e1≠0:=oM;have j6:(e1==0)=false:=by simpa using he
    clear hgo;(go_wp2_with fail);refine(xI _ g l1 e1 hr).mono ?_;rintro e w5 ⟨rfl,rfl⟩;(go_wp2_with fail);refine(kM _ g l1 e1 hr).mono ?_;rintro e w9 ⟨rfl,c1,c5⟩;have g3:=xP 4 l1 e1;obtain⟨N2,a2⟩:=eX (xB 4 l1 e1)
    have a4:Hid (qE l=qJ idP N2 ⟨[],zN 4 l1 e1,zO 4 l1 e1⟩):=by show _=_;rw[<-a2];unfold qE;rw[D.out];rfl
    rw[a2]at g3 |-;have J:=L.kept c5 (λx hx=>oS ((L.at_base hx).1));have b3:=dH (z9.trans i4.out c5 iL);have f1:w.heap.size<=w9.heap.size:=b3.out.size;have b1:=dH (J.mono (B':=w.heap.size) oM);have g9:=dH (λx (hx:x∈blk A1)=>J.at_base hx);have i9:=c1.lt;clear a2 L J c5 hr hk h1 c9;(go_wp2_with fail);go_loopw [3,7] (λout i wq=>∃(k:Nat) (G:List zB) (l2:List UInt8) (e2:Int) (B1:Option Addr) (a3:Nat),k<=N2/\i=.int .i64 k/\out=.slice B1 G.length a3/\G.length=k/\Own wq w9.heap.size 31 32 B1 G.length a3 (G.map idC)/\q9 wq g l2 e2/\Hid (qJ idP N2 ⟨[],zN 4 l1 e1,zO 4 l1 e1⟩=qJ idP (N2-k) ⟨G,l2,e2⟩)/\z9 [g] w9 wq) (λ_ i _=>N2-(intOf i).toNat)
    case atStart=>exact⟨0,[],_,_,none,0,zL,rfl,rfl,rfl,Own.nil _ _ _ _,c1,(show _=_ from rfl),z9.refl _ _⟩
    case round =>
     clear c1;obtain⟨k2,G,l2,e2,B1,a3,f4,rfl,rfl,d9,m,M,E,a5⟩:=hrel;have g7:=dH d9;have j0:G.length<=N2:=oM;clear d9;have e9:=a5.size;by_cases a8:k2<N2/\e2=0
     ·obtain⟨c2,rfl⟩:=a8;have U:=E.out;rw[(oM:N2-k2=(N2-(k2+1))+1),vA _ _ rfl]at U;have b2:=dH U;clear U E;have f9:g∉blk B1:=λhx=>(oH ((m.at_base hx).1));(go_wp2_with fail);refine(xI _ g l2 0 M).mono ?_;rintro e w5 ⟨rfl,rfl⟩;(go_wp2_with fail);refine(ml_id _ g l2 0 M).mono ?_;rintro e w6 ⟨rfl,b9,a6⟩;have b7:d5 idP ⟨G,l2,0⟩=⟨G ++ [xV (yY 32 l2 0)],zN 32 l2 0,zO 32 l2 0⟩:=rfl;rw[b7]at b2;obtain⟨d,hd⟩:=eX (xV (yY 32 l2 0))
      rw[hd]at b2 |-;have I:=m.kept a6 (λx hx=>oS ((m.at_base hx).1));have a9:Below w6.heap.size w6 (w6.alloc (.cells (idC d) 31)):=bA;have f:=I.below a9;have s:zA (w6.alloc (.cells (idC d) 31)) w6.heap.size 0 32=some (idC d):=by simp[go_sem]
      have c8:w9.heap.size<=w6.heap.size:=oH a6.size;clear hd b7 m I M;go_wp2_with (at_builtin;refine xN yP rfl f rfl s (yN _) oM oM sO ?_;intro e4 T b6 t F H)
      have a7:z9 (blk B1) w6 b6:=z9.trans ((z9.of_below a9).mono (S':=blk B1) sI) F iL;have b0:=q9.kept b9 a7 f9;have d3:z9 [g] w9 b6:=z9.trans (z9.trans a5 a6 iL) a7 (λx hx=>.inr (oH ((f.at_base hx).1)));rw[(sI:G.map idC ++ [idC d]=(G ++ [d]).map idC)]at t;have y:(G ++ [d]).length=G.length+1:=sI;have j:=dH y;clear y a7 F H f s a9 b9;(go_wp2_with fail);go_roundw
      case rel=>exact⟨k2+1,G ++ [d],_,_,e4,T,oM,by go_num,(by rw[j.out]),(by rw[j.out,g7.out]),(by rw[j.out];exact t),b0,b2,d3⟩
      case measure=>exact sZ
     ·have O:qE l=⟨G,l2,e2⟩:=by
       rw[a4.out,E.out];by_cases he:e2=0
       ·rw[(oM:N2-k2=0)];rfl
       ·exact v8 _ _ he
      have r:=dH O;clear O E a4;have e3:=dH (z9.trans b3.out a5 iL);have Y:=dH (b1.out.kept a5 (λx hx=>oS ((g9.out x hx).1)));have X:=dH (m.mono (B':=w.heap.size) f1);clear m a5;by_cases c2:k2<N2
      ·have g1:e2≠0:=oM;have g0:(e2==0)=false:=by simpa using g1
       clear a8;(go_wp2_with fail);refine(xI _ g l2 e2 M).mono ?_;rintro e w5 ⟨rfl,rfl⟩;(go_wp2_with fail);go_ret2;exact⟨_,_,_,_,(by rw[D.out,r.out];rfl),by rw[D.out];exact Y.out,by rw[r.out];exact X.out,by rw[r.out];exact M,e3.out,by rw[D.out];exact e8.out⟩
      ·(go_wp2_with fail);go_ret2;exact⟨_,_,_,_,(by rw[D.out,r.out];rfl),by rw[D.out];exact Y.out,by rw[r.out];exact X.out,by rw[r.out];exact M,e3.out,by rw[D.out];exact e8.out⟩
   ·(go_wp2_with fail);refine(kM _ g l1 e1 hr).mono ?_;rintro e w9 ⟨rfl,c1,c5⟩;have g3:=xP 4 l1 e1;obtain⟨N2,a2⟩:=eX (xB 4 l1 e1)
    have a4:Hid (qE l=qJ idP N2 ⟨[],zN 4 l1 e1,zO 4 l1 e1⟩):=by show _=_;rw[<-a2];unfold qE;rw[D.out];rfl
    rw[a2]at g3 |-;have J:=L.kept c5 (λx hx=>oS ((L.at_base hx).1));have b3:=dH (z9.trans i4.out c5 iL);have f1:w.heap.size<=w9.heap.size:=b3.out.size;have b1:=dH (J.mono (B':=w.heap.size) oM);have g9:=dH (λx (hx:x∈blk A1)=>J.at_base hx);have i9:=c1.lt;clear a2 L J c5 hr hk h1 c9;(go_wp2_with fail);go_loopw [3,7] (λout i wq=>∃(k:Nat) (G:List zB) (l2:List UInt8) (e2:Int) (B1:Option Addr) (a3:Nat),k<=N2/\i=.int .i64 k/\out=.slice B1 G.length a3/\G.length=k/\Own wq w9.heap.size 31 32 B1 G.length a3 (G.map idC)/\q9 wq g l2 e2/\Hid (qJ idP N2 ⟨[],zN 4 l1 e1,zO 4 l1 e1⟩=qJ idP (N2-k) ⟨G,l2,e2⟩)/\z9 [g] w9 wq) (λ_ i _=>N2-(intOf i).toNat)
    case atStart=>exact⟨0,[],_,_,none,0,zL,rfl,rfl,rfl,Own.nil _ _ _ _,c1,(show _=_ from rfl),z9.refl _ _⟩
    case round =>
     clear c1;obtain⟨k2,G,l2,e2,B1,a3,f4,rfl,rfl,d9,m,M,E,a5⟩:=hrel;have g7:=dH d9;have j0:G.length<=N2:=oM;clear d9;have e9:=a5.size;by_cases a8:k2<N2/\e2=0
     ·obtain⟨c2,rfl⟩:=a8;have U:=E.out;rw[(oM:N2-k2=(N2-(k2+1))+1),vA _ _ rfl]at U;have b2:=dH U;clear U E;have f9:g∉blk B1:=λhx=>(oH ((m.at_base hx).1));(go_wp2_with fail);refine(xI _ g l2 0 M).mono ?_;rintro e w5 ⟨rfl,rfl⟩;(go_wp2_with fail);refine(ml_id _ g l2 0 M).mono ?_;rintro e w6 ⟨rfl,b9,a6⟩;have b7:d5 idP ⟨G,l2,0⟩=⟨G ++ [xV (yY 32 l2 0)],zN 32 l2 0,zO 32 l2 0⟩:=rfl;rw[b7]at b2;obtain⟨d,hd⟩:=eX (xV (yY 32 l2 0))
      rw[hd]at b2 |-;have I:=m.kept a6 (λx hx=>oS ((m.at_base hx).1));have a9:Below w6.heap.size w6 (w6.alloc (.cells (idC d) 31)):=bA;have f:=I.below a9;have s:zA (w6.alloc (.cells (idC d) 31)) w6.heap.size 0 32=some (idC d):=by simp[go_sem]
      have c8:w9.heap.size<=w6.heap.size:=oH a6.size;clear hd b7 m I M;go_wp2_with (at_builtin;refine xN yP rfl f rfl s (yN _) oM oM sO ?_;intro e4 T b6 t F H)
      have a7:z9 (blk B1) w6 b6:=z9.trans ((z9.of_below a9).mono (S':=blk B1) sI) F iL;have b0:=q9.kept b9 a7 f9;have d3:z9 [g] w9 b6:=z9.trans (z9.trans a5 a6 iL) a7 (λx hx=>.inr (oH ((f.at_base hx).1)));rw[(sI:G.map idC ++ [idC d]=(G ++ [d]).map idC)]at t;have y:(G ++ [d]).length=G.length+1:=sI;have j:=dH y;clear y a7 F H f s a9 b9;(go_wp2_with fail);go_roundw
      case rel=>exact⟨k2+1,G ++ [d],_,_,e4,T,oM,by go_num,(by rw[j.out]),(by rw[j.out,g7.out]),(by rw[j.out];exact t),b0,b2,d3⟩
      case measure=>exact sZ
     ·have O:qE l=⟨G,l2,e2⟩:=by
       rw[a4.out,E.out];by_cases he:e2=0
       ·rw[(oM:N2-k2=0)];rfl
       ·exact v8 _ _ he
      have r:=dH O;clear O E a4;have e3:=dH (z9.trans b3.out a5 iL);have Y:=dH (b1.out.kept a5 (λx hx=>oS ((g9.out x hx).1)));have X:=dH (m.mono (B':=w.heap.size) f1);clear m a5;by_cases c2:k2<N2
      ·have g1:e2≠0:=oM;have g0:(e2==0)=false:=by simpa using g1
       clear a8;(go_wp2_with fail);refine(xI _ g l2 e2 M).mono ?_;rintro e w5 ⟨rfl,rfl⟩;(go_wp2_with fail);go_ret2;exact⟨_,_,_,_,(by rw[D.out,r.out];rfl),by rw[D.out];exact Y.out,by rw[r.out];exact X.out,by rw[r.out];exact M,e3.out,by rw[D.out];exact e8.out⟩
      ·(go_wp2_with fail);go_ret2;exact⟨_,_,_,_,(by rw[D.out,r.out];rfl),by rw[D.out];exact Y.out,by rw[r.out];exact X.out,by rw[r.out];exact M,e3.out,by rw[D.out];exact e8.out⟩
theorem qt{c:α->α->Int}(T:qN c){L:List α}{x:α}:Ris c (L ++ [x])↔Ris c L/\∀y∈L,c y x<0:=by
 unfold Ris;rw[pairwise_append];constructor
 ·rintro⟨h1,_,h3⟩;exact⟨h1,λy hy=>h3 y hy x sI⟩
 ·rintro⟨h1,h2⟩;exact⟨h1,pairwise_singleton _ _,λy hy z hz=>by rw[mem_singleton]at hz;rw[hz];exact h2 y hy⟩
theorem ris_next{c:α->α->Int}(T:qN c)(R:List α)(k:Nat)(hk:k+1<R.length):Ris c (R.take (k+2))↔Ris c (R.take (k+1))/\c (R[k]'oM) (R[k+1]'hk)<0:=by
 have e1:R.take (k+2)=R.take (k+1) ++ [R[k+1]'hk]:=by rw[take_add_one,getElem?_eq_getElem hk];rfl
 have e2:R.take (k+1)=R.take k ++ [R[k]'oM]:=by rw[take_add_one,getElem?_eq_getElem oM];rfl
 rw[e1,qt T];constructor
 ·rintro⟨h1,h2⟩;exact⟨h1,h2 _ (by rw[e2];exact mem_append_right _ (mem_singleton.2 rfl))⟩
 ·rintro⟨h1,h2⟩;refine⟨h1,λy hy=>?_⟩;rw[e2]at hy h1;rcases mem_append.1 hy with hy | hy
  ·exact T.trans _ _ _ ((qt T).1 h1 |>.2 y hy) h2
  ·rw[mem_singleton]at hy;rw[hy];exact h2
theorem ris_one{c:α->α->Int}(R:List α)(hk:0<R.length):Ris c (R.take 1):=by
 have e1:R.take 1 = [R[0]'hk]:=by
  cases R with
  | nil=>simp at hk
  | cons a R=>rfl
 rw[e1];exact pairwise_singleton _ _
def JQ(R:List qO):Prop:=∃x∈R,¬fE x
def GoodM(l:List UInt8):Prop:=jL (qE l).l (qE l).e=0/\kI (qE l).rows=true/\Ris jZ (xW l).rows/\∀x∈(xW l).rows,x.id∉(qE l).rows
def BQ(l:List UInt8)(e:Int):Prop :=
 ((qE l).e≠0/\e=(qE l).e)\/((qE l).e=0/\JQ (xW l).rows/\e=3)\/((qE l).e=0/\¬JQ (xW l).rows/\((GoodM l/\e=0)\/(¬GoodM l/\e=4)))
theorem mload(w:World)(s:ByteArray)(hs:s.size<=1000000) :
  Calls prog 135 #[.string s] w λe w'=>∃P E,e=.returned (.tuple #[.pointer P,.int .i64 E])/\BQ s.data.toList E/\(E=0->∃g bl bo,P=some ⟨g,0,none⟩/\xS w' g bl bo (xW s.data.toList).rows (qE s.data.toList).rows/\w.heap.size<=g/\w.heap.size<=bl/\w.heap.size<=bo)/\(E≠0->P=none)/\Below w.heap.size w w':=by
 obtain⟨l,hl⟩:=eX s.data.toList
 have p8:l.length<=1000000:=by rw[<-hl];exact hs
 have c0:=dZ s w oM;rw[hl]at c0 |-;clear hl;go_enter func135,ntmps135
 (go_wp2_with fail);refine c0.mono ?_;rintro e w1 ⟨rfl,d1,f8⟩;obtain⟨gr,i0⟩:=eX w.heap.size
 have I:=dH i0;rw[i0]at d1 f8 |-;clear i0 c0;(go_wp2_with fail);refine(mlread w1 gr l d1).mono ?_;rintro e w2 ⟨A,cap,B,b6,rfl,hA,hB,b8,g9,f7⟩;have j1:Below gr w w2:=f8.trans (g9.below (oH d1.lt) sI);have q0:=d1.lt;have n9:=f8.size;have o2:=K5 (p:=mP) l 0;have o1:=K5 (p:=idP) (xW l).l (xW l).e;obtain⟨R,hR⟩:=eX ((xW l).rows)
 obtain⟨G,hG⟩:=eX ((qE l).rows)
 obtain⟨l2,c2⟩:=eX ((qE l).l)
 obtain⟨e2,d9⟩:=eX ((qE l).e)
 have e5:e2=0->R.length<=1000000/\G.length<=1000000:=λh0=>by
  obtain⟨h4,_⟩:=vR nM (show(j5 idP (xW l).l (xW l).e).e=0 from d9.trans h0);have h5:=jV nM (show(j5 idP (xW l).l (xW l).e).e=0 from d9.trans h0);have h6:=jV mLaw (show(j5 mP l 0).e=0 from h4);have h7:(qE l).rows.length+(qE l).l.length<=(xW l).l.length:=h5;have h8:(xW l).rows.length+(xW l).l.length<=l.length:=h6;rw[hR]at h8;rw[hG]at h7;omega
 have l9:∀E,BQ l E↔(e2≠0/\E=e2)\/(e2=0/\JQ R/\E=3)\/(e2=0/\¬JQ R/\(((jL l2 e2=0/\kI G=true/\Ris jZ R/\∀x∈R,x.id∉G)/\E=0)\/(¬(jL l2 e2=0/\kI G=true/\Ris jZ R/\∀x∈R,x.id∉G)/\E=4))):=λE=>by
  unfold BQ GoodM;rw[hR,hG,c2,d9]
 have g2:=dH l9;have k5:=dH e5;have HR:=dH hR;have HG:=dH hG;rw[hR]at hA f7;rw[hG]at hB;rw[c2,d9]at b8;have l8:(Value.tuple #[.slice A (xW l).rows.length cap,.slice B (qE l).rows.length b6])=.tuple #[.slice A R.length cap,.slice B G.length b6]:=by rw[hR,hG]
 rw[l8];clear hR hG c2 d9 l9 e5 l8 o2 o1 d1 f8 g9;(go_wp2_with fail);refine(xI _ gr l2 e2 b8).mono ?_;rintro e w3 ⟨rfl,rfl⟩;by_cases h0:e2=0
 ·subst h0;obtain⟨p6,p7⟩:=k5.out rfl;have q6:=dH f7;clear f7;(go_wp2_with fail);refine(mnew w2).mono ?_;rintro e w4 ⟨g,bl,bo,rfl,hM,hg,q3,q2,e6⟩;have m7:=hA.below e6;have m3:=hB.below e6;have g1:∀x∈blk A,x<w2.heap.size:=λx hx=>(hA.at_base hx).2;have m4:∀x∈blk B,x<w2.heap.size:=λx hx=>(hB.at_base hx).2;have k8:=b8.below e6;have q1:=b8.lt;have b5:Below gr w w4:=j1.trans (e6.mono oM);have d2:=hM.nel;have a6:=hM.neo;have g7:=hM.ne;have d6:=hM.lt.1;clear hA hB b8 j1 e6;(go_wp2_with fail);go_loopw [28] (λi wr=>∃k:Nat,k<=G.length/\i=.int .i64 k/\jS wr bo (G.take k)/\z9 [bo] w4 wr) (λi _=>G.length-(intOf i).toNat)
  case atStart=>exact⟨0,zL,rfl,hM.over,z9.refl _ _⟩
  case round =>
   obtain⟨k,hk,rfl,ho,f⟩:=hrel;have O:wr.cell? ⟨g,1,none⟩=some (.map (some bo)):=(f.cell (p:=⟨g,1,none⟩) d6 (by simpa using a6)).trans hM.cell1;have g0:=m3.kept f (λx hx=>oS (m4 x hx));by_cases d3:k<G.length
   ·obtain⟨q,o,rfl,H⟩:=zX.get g0.slr d3 d3;have b7:G.take (k+1)=G.take k ++ [G[k]'d3]:=by rw[take_add_one,getElem?_eq_getElem d3];rfl
    obtain⟨x,hx⟩:=eX (G[k]'d3)
    rw[hx]at H b7;have f0:=dH b7;have J:Below wr.heap.size wr (wr.alloc (.cells (idC x) 31)):=bA;have X:=yM.below ho J;have i6:=(J.cell (p:=⟨g,1,none⟩) (block_lt_of_cell? wr _ O)).trans O;have t:zA (wr.alloc (.cells (idC x) 31)) wr.heap.size 0 32=some (idC x):=by simp[go_sem]
    have c4:z9 [bo] w4 (wr.alloc (.cells (idC x) 31)):=z9.trans f (z9.of_below J) sI;have i8:bo<wr.heap.size:=ho.lt;clear hx b7;go_upto_region 9 with fail
    obtain⟨gb,d7⟩:=eX wr.heap.size
    obtain⟨W1,e8⟩:=eR (wr.alloc (.cells (idC x) 31))
    rw[<-e8]at X i6 t c4 |-;rw[d7]at t i8 |-;clear e8 d7 H g0 O J ho;obtain⟨w5,a4,l0,d4⟩:=vl (x:=x) (X.kept (z9.drew W1) sI);have i2:g∉[bo]:=by simpa using a6
    refine kX [bo] W1 ?_;intro c1 hS;have b1:=zG i6 i2;have b2:=zY t (S:=[bo]) sO;refine lQ ?_;intro K hK;refine zI (yC hS d4 sI) (λhS=>?_);refine hK _ _ ?_;clear hK K;refine zD ?_;intro hS;have e9:z9 [bo] W1 w5:=hS;have g8:z9 [bo] w4 w5:=z9.trans c4 e9 iL;have f5:jS w5 bo (G.take (k+1)):=yM.congr l0 (λy=>by rw[f0.out,mem_append,mem_singleton,mem_cons];exact Or.comm);clear b1 b2 c1 hS d4 a4 i6 t l0 e9 X;(go_wp2_with fail);go_roundw
    case rel=>exact⟨k+1,oM,by go_num,f5,g8⟩
    case measure=>exact sZ
   ·have e2:G.take k=G:=take_of_length_le oM;rw[e2]at ho;have c7:=m7.kept f (λx hx=>oS (g1 x hx));have c3:=hM.live.kept f (by simpa using g7);have a8:=(f.block g d6 (by simpa using a6)).trans hM.blk;have k7:=k8.kept f sO;have N:Below gr w wr:=b5.trans (f.below (B:=gr) (by have:=b5.size;have:=I.out;omega) sO);clear e2 O m7 hM k8 b5;(go_wp2_with fail);refine(dP _ gr l2 0 k7).mono ?_;rintro e w6 ⟨rfl,a9⟩;have m2:=g0.below a9;have m6:=c7.below a9;have f5:=yM.below ho a9;have f6:=yM.below c3 a9;have M:=(a9.block g (aG a8).1).trans a8;have b0:Below gr w w6:=N.trans (a9.mono (by have:=N.size;have:=I.out;omega));clear g0 c7 ho c3 a8 k7 N a9;(go_wp2_with fail);refine(aS _ B _ b6 G m2.slr oM).mono ?_;rintro e w7 ⟨rfl,c6⟩;have m5:=m6.below c6;have k9:=yM.below f5 c6;have l4:=yM.below f6 c6;have Z:=(c6.block g (aG M).1).trans M;have e7:Below gr w w7:=b0.trans (c6.mono (by have:=b0.size;have:=I.out;omega));clear m2 m6 f5 f6 M b0 c6 m3;obtain⟨rb,g6⟩:=eX (kI G)
    obtain⟨E0,f9⟩:=eX (jL l2 0)
    rw[g6,f9];have j7:=dH g6;have n5:=dH f9;have m1:E0=0\/E0=4:=by rw[<-f9];unfold jL;rw[if_pos rfl];split <;> simp
    have n4:=dH m1;clear g6 f9 m1
    go_upto_if 42 with(fail)
    go_cut [10] (λv wx=>wx=w7/\∃e0:Int,v=.int .i64 e0/\Hid (e0=0\/e0=4)/\Hid (e0=0↔(jL l2 0=0/\kI G=true)))
    case first =>
     cases rb with
     | true =>
      go_wp2_with fail
      go_meet
      exact⟨rfl,E0,rfl,n4,(show _↔_ by rw[n5.out,j7.out];simp)⟩
     | false =>
      go_wp2_with fail
      go_meet
      exact⟨rfl,4,rfl,(show _\/_ from .inr rfl),(show _↔_ by rw[j7.out];simp)⟩
    case rest =>
    obtain⟨n8,e0,rfl,p1,f2⟩:=hcut;have g4:=n8.symm;subst g4;have i1:=(aG Z).1;have j2:∀x∈blk A,x<w2.heap.size:=g1;have p2:=dH m5;have o9:=dH k9;have p3:=dH g1;clear m4 g1 j2 n4 j7 n5 m5 k9 f;(go_wp2_with fail);go_loopw [10,11,12,45] (λev _ _ iv wr=>∃(k:Nat) (e1:Int),k<=R.length/\iv=.int .i64 k/\ev=.int .i64 e1/\YU wr bl (R.take k)/\Hid (e1=0\/e1=4)/\Hid (e1=0↔((jL l2 0=0/\kI G=true)/\Ris jZ (R.take k)/\∀x∈R.take k,x.id∉G))/\Hid (∀x∈R.take k,fE x)/\z9 [bl] w7 wr) (λ_ _ _ iv _=>R.length-(intOf iv).toNat)
    case atStart=>exact⟨0,e0,zL,rfl,rfl,by simpa using l4,p1,(show _↔_ by rw[f2.out];simp[Ris]),(sI:∀x∈R.take 0,_),z9.refl _ _⟩
    case round =>
     clear l4;obtain⟨k2,e1,g9,rfl,rfl,hl,k3,j9,j6,f⟩:=hrel;have N:Below gr w wr:=e7.trans (f.below (B:=gr) (by have:=e7.size;have:=I.out;omega) sO);have d:=(f.block g i1 (by simpa using d2)).trans Z;have b9:=o9.out.kept f (by simpa using λe=>g7 e.symm);by_cases L:k2<R.length
     ·have c7:=(p2.out.kept f (λx hx=>oS (p3.out x hx))).slr;obtain⟨q,o,rfl,H⟩:=SlR.at_ c7 L;rw[getElem_map]at H;have b7:R.take (k2+1)=R.take k2 ++ [R[k2]'L]:=by rw[take_add_one,getElem?_eq_getElem L];rfl
      have f0:=dH b7;have F:Hid (∀(h1:0<k2),zA wr q (o+(k2-1)*34) 34=some (zV (R[k2-1]'oM))):=by
       intro h1;obtain⟨q',o',e',d0⟩:=SlR.at_ c7 (oM:k2-1<R.length);injection e' with e';injection e' with o8 o7
       subst o8;subst o7
       rwa [getElem_map]at d0
      obtain⟨x,hx⟩:=eX (R[k2]'L)
      rw[hx]at H;have Hx:=dH hx;have J:Below wr.heap.size wr (wr.alloc (.cells (zV x) 230)):=bA;have t:zA (wr.alloc (.cells (zV x) 230)) wr.heap.size 0 34=some (zV x):=by simp[go_sem]
      clear hx b7 c7;by_cases T:fE x
      ·obtain⟨c8,p5⟩:=id T;have j3:=dH T;clear T;go_upto_region 17 with fail
       obtain⟨gb,d7⟩:=eX wr.heap.size
       obtain⟨W1,e8⟩:=eR (wr.alloc (.cells (zV x) 230))
       have c3:=yM.below hl J;have X:=yM.below b9 J;have r:=(J.block g (aG d).1).trans d;have c4:z9 [bl] w7 (wr.alloc (.cells (zV x) 230)):=z9.trans f (z9.of_below J) sI;have i9:bl<wr.heap.size:=hl.lt;have D:Hid (∀(h1:0<k2),zA (wr.alloc (.cells (zV x) 230)) q (o+(k2-1)*34) 34=some (zV (R[k2-1]'oM))):=λh1=>(zH (J.block q (zE (F.out h1))) _ _).trans (F.out h1);rw[<-e8]at c3 X r c4 t D |-;rw[d7]at t i9 |-;clear e8 d7 J hl b9 d f F H N;have x1:=zC t (j:=32) oM;have x2:=zC t (j:=33) oM;rw[aR,Nat.zero_add]at x1;rw[aQ,Nat.zero_add]at x2;go_upto_region 19 with fail
       go_cut [80] (λv wx=>∃bb:Bool,v=.bool bb/\Hid (bb=true↔((∃h1:0<k2,0<=jZ (R[k2-1]'oM) x)\/x.id∈G))/\Below W1.heap.size W1 wx)
       case first =>
        have i7:W1.cell? ⟨g,1,none⟩=some (.map (some bo)):=by rw[cell_of_row W1 g 1 _ _ _ r];rfl
        have l3:∀z:Subtype (Bel W1),(Instr.lookup 66 (.map (some bo)) (.agg (idC x.id)) false).run prog z.1=.ok (.bool (decide (x.id∈G))) z.1:=λz=>vq (yM.below X z.2);have a5:zA W1 gb 0 32=some (idC x.id):=by have:=yF t (j:=0) (m:=32) oM;rwa [QL]at this
        obtain⟨hb,h9⟩:=eX (decide (x.id∈G))
        rw[h9]at l3;have m9:=dH h9;clear h9;by_cases d5:0<k2
        ·have o3:k2-1<R.length:=oM;obtain⟨y,hy⟩:=eX (R[k2-1]'o3)
         have Hy:=dH hy;have f4:=D.out d5;rw[hy]at f4;obtain⟨k1,l7⟩:=eX (k2-1)
         have p9:((k2:Int)-1)=(k1:Int):=oM;have p4:IntKind.i64.wrap (k1:Int)=(k1:Int):=IntWalk.i64_in _ oM;have o5:decide (0<k2)=true:=sO;rw[l7]at f4;have o4:k1<R.length:=oM;have co:=(morder y x W1.drew).mono (R':=λe w'=>e=.returned (.int .i64 (jZ y x))/\Below W1.drew.heap.size W1.drew w') (λe w' h=>⟨h.1,h.2.below⟩);obtain⟨c,hc⟩:=eX (jZ y x)
         rw[hc]at co;have Hc:=dH hc;have j8:=dH d5;clear hy hc d5 l7;by_cases a7:c<0
         ·have o6:decide (0<=c)=false:=sO;have k4:=dH a7;clear a7;refine lX W1 ?_;intro c1 hS;have b1:=zS f4;have b2:=zS t;have b3:=zK i7;have b4:=zS a5;refine lZ ?_;refine lC (co) ?_;clear hS;intro w' hS;refine lZ ?_;refine zD ?_;intro hS;go_wp2_with fail
          go_meet
          exact⟨hb,rfl,(show _↔_ by rw[<-m9.out,decide_eq_true_iff];exact⟨.inr,λh=>h.elim (fun ⟨_,h2⟩=>by have h3:=k4.out;rw[<-Hc.out,<-Hy.out]at h3;omega) id⟩),hS⟩
         ·have o6:decide (0<=c)=true:=sO;have k4:=dH a7;have p0:=dH j8.out;clear a7 l3;refine lX W1 ?_;intro c1 hS;have b1:=zS f4;have b2:=zS t;have b3:=zK i7;have b4:=zS a5;refine lZ ?_;refine lC (co) ?_;clear hS;intro w' hS;refine lZ ?_;refine zD ?_;intro hS;go_wp2_with fail
          go_meet
          exact⟨true,rfl,(show _↔_ from⟨λ_=>.inl ⟨p0.out,by rw[Hy.out,Hc.out];have:=k4.out;omega⟩,λ_=>rfl⟩),hS⟩
        ·have o5:decide (0<k2)=false:=sO;have j8:=dH d5;clear d5;refine lX W1 ?_;intro c1 hS;have b2:=zS t;have b3:=zK i7;have b4:=zS a5;refine lQ ?_;intro K hK;refine hK _ _ ?_;clear hK K;refine lZ ?_;refine zD ?_;intro hS;go_wp2_with fail
         go_meet
         exact⟨hb,rfl,(show _↔_ by rw[<-m9.out,decide_eq_true_iff];exact⟨.inr,λh=>h.elim (fun ⟨h1,_⟩=>absurd h1 j8.out) id⟩),hS⟩
       case rest =>
       obtain⟨bb,rfl,k6,c5⟩:=hcut;obtain⟨wz,rfl⟩:∃wz,wz=wc:=⟨wc,rfl⟩
       have c2:=yM.below c3 c5;have o0:=yM.below X c5;have U:=(c5.block g (aG r).1).trans r;have c9:zA wz gb 0 34=some (zV x):=(zH (c5.block gb (zE t)) _ _).trans t;have l6:z9 [bl] w7 wz:=z9.trans c4 (z9.of_below c5) sI;have f1:Hid ((if bb=true then(4:Int)else e1)=0↔((jL l2 0=0/\kI G=true)/\Ris jZ (R.take (k2+1))/\∀y∈R.take (k2+1),y.id∉G)):=by
        show _↔_;have g5:Ris jZ (R.take (k2+1))↔Ris jZ (R.take k2)/\∀h1:0<k2,jZ (R[k2-1]'oM) x<0:=by
         rcases Nat.eq_zero_or_pos k2 with h1 | h1
         ·subst h1;exact⟨λ_=>⟨by simp[Ris],λh=>absurd h oM⟩,λ_=>ris_one R oM⟩
         ·obtain⟨j,rfl⟩:∃j,k2=j+1:=⟨k2-1,oM⟩
          have h2:=ris_next XJ R j L;rw[Hx.out]at h2;exact h2.trans ⟨λh=>⟨h.1,λ_=>h.2⟩,λh=>⟨h.1,h.2 h1⟩⟩
        rw[g5,f0.out,Hx.out];cases bb with
        | true =>
         have j0:=k6.out.1 rfl;simp only[if_true];refine⟨λh=>oM,λh=>?_⟩;rcases j0 with⟨h1,h2⟩ | h1
         ·have:=h.2.1.2 h1;omega
         ·exact absurd h1 (h.2.2 x sI)
        | false =>
         have Y:¬((∃h1:0<k2,0<=jZ (R[k2-1]'oM) x)\/x.id∈G):=λh=>(by have:=k6.out.2 h;cases this);rw[if_neg sI,j9.out];constructor
         ·rintro⟨a1,a2,a3⟩;refine⟨a1,⟨a2,λh1=>Classical.byContradiction λhn=>Y (.inl ⟨h1,oM⟩)⟩,λy hy=>?_⟩;rcases mem_append.1 hy with hy | hy
          ·exact a3 y hy
          ·rw[mem_singleton]at hy;rw[hy];exact λh=>Y (.inr h)
         ·rintro⟨a1,a2,a3⟩;exact⟨a1,a2.1,λy hy=>a3 y (mem_append_left _ hy)⟩
       have a0:Hid ((if bb=true then(4:Int)else e1)=0\/(if bb=true then(4:Int)else e1)=4):=by
        show _\/_;cases bb with
        | true=>exact .inr rfl
        | false=>exact k3.out
       have j4:Hid (∀y∈R.take (k2+1),fE y):=by
        show ∀y∈R.take (k2+1),fE y;intro y hy;rw[f0.out]at hy;rcases mem_append.1 hy with hy | hy
        ·exact j6.out y hy
        ·rw[mem_singleton]at hy;rw[hy,Hx.out];exact j3.out
       obtain⟨e3,i5⟩:∃e3,(if bb=true then(4:Int)else e1)=e3:=⟨_,rfl⟩
       rw[i5]at f1 a0;have n1:=dH i5;clear i5 k6 c5 c3 X r c4 t D k3 j9 j6 x1 x2 o0
       go_upto_if 80 with(fail)
       go_cut [10] (λv wy=>wy=wz/\v=.int .i64 e3)
       case first =>
        cases bb with
        | true =>
         go_wp2_with fail
         go_meet
         exact⟨rfl,by rw[<-n1.out];rfl⟩
        | false =>
         go_wp2_with fail
         go_meet
         exact⟨rfl,by rw[<-n1.out];rfl⟩
       case rest =>
       obtain⟨n7,rfl⟩:=hcut;have g3:=n7.symm;subst g3;have a7:wz.cell? ⟨g,0,none⟩=some (.map (some bl)):=by rw[cell_of_row wz g 0 _ _ _ U];rfl
       obtain⟨w5,a4,l5,d4⟩:=mput (x:=x) (c2.kept (z9.drew wz) sI) j3.out;go_upto_region 21 with fail
       have i3:g∉[bl]:=by simpa using d2
       refine kX [bl] wz ?_;intro c1 hS;have b1:=zG a7 i3;have b2:=zY c9 (S:=[bl]) sO;refine lQ ?_;intro K hK;refine zI (yC hS d4 sI) (λhS=>?_);refine hK _ _ ?_;clear hK K;refine zD ?_;intro hS;have e9:z9 [bl] wz w5:=hS;have f6:YU w5 bl (R.take (k2+1)):=yM.congr l5 (λy=>by rw[f0.out,Hx.out,mem_append,mem_singleton,mem_cons];exact Or.comm);have g8:z9 [bl] w7 w5:=z9.trans l6 e9 iL;clear b1 b2 c1 hS d4 a4 a7 l5 e9 c2 U c9 l6;(go_wp2_with fail);go_roundw
       case rel=>exact⟨k2+1,e3,oM,by go_num,rfl,f6,a0,f1,j4,g8⟩
       case measure=>exact sZ
      ·have j3:=dH T;have f3:Hid (JQ R):=(show ∃x∈R,¬fE x from⟨x,by rw[<-Hx.out];exact getElem_mem _,T⟩)
       have m0:=(g2.out 3).2 (.inr (.inl ⟨sI,f3.out,rfl⟩));have n3:=dH m0;have e4:Below gr w (wr.alloc (.cells (zV x) 230)):=N.trans (J.mono (by have:=N.size;have:=I.out;omega));have n2:=dH e4;clear m0 e4 hl b9 d f N F;by_cases q5:16<x.key.size
       ·clear T;(go_wp2_with fail);go_ret2;exact⟨none,3,rfl,n3.out,λh=>oM,λ_=>rfl,by rw[I.out];exact n2.out⟩
       ·have q4:16<x.val.size:=by unfold fE at T;omega
        clear T;(go_wp2_with fail);go_ret2;exact⟨none,3,rfl,n3.out,λh=>oM,λ_=>rfl,by rw[I.out];exact n2.out⟩
     ·have e2:R.take k2=R:=take_of_length_le oM;rw[e2]at hl;have i4:=j9.out;have c8:=j6.out;rw[e2]at i4 c8;have l1:¬JQ R:=fun ⟨x,hx,hn⟩=>hn (c8 x hx);have m8:=dH l1;have n0:=dH i4;have j4:=dH c8;have n6:=dH N;clear i4 c8 l1 e2 N;rcases k3.out with h4 | h4
      ·subst h4;have V:=n0.out.1 rfl;have hL:=(g2.out 0).2 (.inr (.inr ⟨sI,m8.out,.inl ⟨⟨V.1.1,V.1.2,V.2.1,V.2.2⟩,rfl⟩⟩));have d8:xS wr g bl bo R G:=⟨d,hl,b9,g7,V.2.1,(X3 G).1 V.1.2,j4.out,V.2.2⟩
       have HL:=dH hL;have k0:=dH d8;clear hL d8 V hl b9 d f;(go_wp2_with fail);go_ret2;exact⟨_,0,rfl,HL.out,λ_=>⟨g,rfl,bl,bo,by rw[HR.out,HG.out];exact k0.out,oH I.out,oH I.out,oH I.out⟩,λh=>absurd rfl h,by rw[I.out];exact n6.out⟩
      ·subst h4;have hL:=(g2.out 4).2 (.inr (.inr ⟨sI,m8.out,.inr ⟨λh=>oH (n0.out.2 ⟨⟨h.1,h.2.1⟩,h.2.2.1,h.2.2.2⟩),rfl⟩⟩));have HL:=dH hL;clear hL hl b9 d f;(go_wp2_with fail);go_ret2;exact⟨none,4,rfl,HL.out,λh=>oM,λ_=>rfl,by rw[I.out];exact n6.out⟩
 ·have hb:(e2 != 0)=true:=by simpa using h0
  have hL:=(g2.out e2).2 (.inl ⟨h0,rfl⟩);have HL:=dH hL;have H0:=dH h0;clear hA hB f7 hL h0;(go_wp2_with fail);refine(xI _ gr l2 e2 b8).mono ?_;rintro e w4 ⟨rfl,rfl⟩;(go_wp2_with fail);go_ret2;exact⟨none,e2,rfl,HL.out,λh=>absurd h H0.out,λ_=>rfl,by rw[I.out];exact j1⟩
end Go.Proofs.YtdjiaickicgdlaaGreatDoor
